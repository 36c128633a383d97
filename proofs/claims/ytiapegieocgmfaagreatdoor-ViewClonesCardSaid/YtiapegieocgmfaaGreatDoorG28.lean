/- Words by the program's own rules: as the document's. No condition. -/
import Derived.Test.YtiapegieocgmfaaGreatDoorG27
set_option linter.unusedSimpArgs false
set_option linter.unusedVariables false
set_option maxRecDepth 100000
set_option maxHeartbeats 0
noncomputable section
namespace Go.Am
variable {s:au}
theorem bd.ext {g:Nat} {h h':Heap} (s:bd g h) (x:Ext h h'):bd g h':=Holds.ext s x
theorem bd.lay {g:Nat} {h:Heap} (s:bd g h) (bs:List ba) (w:Nat):bd g (h.lay bs w):=Holds.on s bs w
theorem bd.over {g:Nat} {h1 h2:Heap} {bs:List ba} {w:Nat} (s:bd g h1) (x:Ext (h1.lay bs w) h2):bd g h2:=Holds.over s x
def eN:List au:=[⟨#[115,97,121,115]⟩,⟨#[105,102]⟩,⟨#[99,97,110,115,97,121]⟩,⟨#[112,114,105,110,99,105,112,97,108]⟩,⟨#[112,114,101,100]⟩,⟨#[99,108,101,97,114]⟩,⟨#[113,117,111,116,97]⟩,⟨#[98,117,100,103,101,116]⟩]
theorem zzf:tk s↔s∈eN:=by
 unfold tk eN
 simp only [dh,tL,or_false,eq_comm (a:=s)]
def nO:au:=⟨#[115,97,121,115,32,105,102,32,99,97,110,115,97,121,32,112,114,105,110,99,105,112,97,108,32,112,114,101,100,32,99,108,101,97,114,32,113,117,111,116,97,32,98,117,100,103,101,116]⟩
theorem zia:uC nO.data.toList=eN.map Value.string:=by kernel_rfl
theorem zv5 {g st:Nat} {h:Heap} (hs:bd g h):HD g st [.string nO] h=some (.slice (some ⟨h.size,0,none⟩) 8 8,h.push (.row (eN.map Value.string) st false)):=by
 unfold HD
 simp only
 rw [hs.get]
 simp only
 have e1:(uC nO.data.toList).length=8:=by rw [zia];rfl
 rw [aE (by
  rw [e1]
  have h1:nO.data.toList.all (λb=>Nat.blt b.toNat 128)=true:=by kernel_rfl
  have h2:Nat.blt nO.size 4294967281=true:=by kernel_rfl
  have h3:Nat.beq wV wV=true:=Nat.beq_refl _
  rw [h1,h2,h3]
  rfl),e1,zia]
theorem zzp {h:Heap} {st:TypeId} {w:Nat}:Sl aM.str (h.push (.row (eN.map Value.string) st false)) (.slice (some ⟨h.size,0,none⟩) 8 8) eN:=by
 refine .inr ⟨h.size,0,8,eN.map Value.string,st,false,rfl,(by show 8<=maxLen;decide),.inl ⟨by decide,bj _⟩,by rw [Heap.size_push];omega,by rw [Heap.bg,aE rfl],λi x hx=>?_⟩
 refine ⟨[.string x],?_,rfl⟩
 have hi:i < 8:=(dP.1 hx).1
 have:i=0\/i=1\/i=2\/i=3\/i=4\/i=5\/i=6\/i=7:=by omega
 rcases this with rfl|rfl|rfl|rfl|rfl|rfl|rfl|rfl <;> (cases hx;rfl)
structure jq (first more:Int->Prop) (s:au):Prop where
 pos:1<=s.size
 len:s.size<=255
 first:first (mf s 0)
 more:∀ i,1<=i->i < s.size->more (mf s i)
def zE (c:Int):Prop:=97<=c/\c<=122
def HX (c:Int):Prop:=65<=c/\c<=90
def El (c:Int):Prop:=48<=c/\c<=57
theorem zxk:qK s↔jq zE rR s/\¬ tk s:=by
 constructor
 .rintro ⟨⟨h,hr⟩,hs⟩
  exact ⟨⟨h.pos,h.len,hs,λi _ hi=>h.all i hi⟩,hr⟩
 .rintro ⟨h,hr⟩
  have hf:=h.first
  unfold zE at hf
  refine ⟨⟨⟨h.pos,h.len,by omega,λi hi=>?_⟩,hr⟩,hf⟩
  by_cases sY:i=0
  .subst sY
   exact .inl hf
  .exact h.more i (by omega) hi
theorem ztE:js s↔jq (λc=>zE c\/El c) rR s/\¬ tk s:=by
 constructor
 .rintro ⟨h,hr⟩
  refine ⟨⟨h.pos,h.len,?_,λi _ hi=>h.all i hi⟩,hr⟩
  have h0:=h.all 0 h.pos
  have h1:=h.first
  unfold rR at h0
  rcases h0 with h0|h0|h0
  .exact .inl h0
  .exact .inr h0
  .exact absurd h0 h1
 .rintro ⟨h,hr⟩
  have hf:=h.first
  unfold zE El at hf
  refine ⟨⟨h.pos,h.len,by omega,λi hi=>?_⟩,hr⟩
  by_cases sY:i=0
  .subst sY
   rcases hf with hf|hf
   .exact .inl hf
   .exact .inr (.inl hf)
  .exact h.more i (by omega) hi
theorem zzN:Ci s↔jq HX mc s:=by
 constructor
 .intro h
  exact ⟨h.pos,h.len,h.first,λi _ hi=>h.all i hi⟩
 .intro h
  refine ⟨h.pos,h.len,h.first,λi hi=>?_⟩
  by_cases sY:i=0
  .subst sY
   exact .inr (.inl h.first)
  .exact h.more i (by omega) hi
end Go.Am
namespace Go.Proofs.YtiapegieocgmfaaGreatDoor
open Go.Am Tryz
theorem zjw (c:Int) (h:Heap) (K:aF) (h1:zE c->K (.bool true) h) (h2:¬ zE c->K (.bool false) h):Ok prog aD ov 154 [.int .u8 c] h K:=by
 unfold zE at h1 h2
 refine Ok.aw 8 (bq KE) ?_
 simp only [aa,seval,Lx]
 repeat' (refine bn (λc=>?_) (λc=>?_) <;> simp only [aa,seval,Lx])
 all_goals first|exact h1 (by omega)|exact h2 (by omega)
theorem zo6 (c:Int) (h:Heap) (K:aF) (h1:HX c->K (.bool true) h) (h2:¬ HX c->K (.bool false) h):Ok prog aD ov 196 [.int .u8 c] h K:=by
 unfold HX at h1 h2
 refine Ok.aw 8 (bq K6) ?_
 simp only [aa,seval,LH]
 repeat' (refine bn (λc=>?_) (λc=>?_) <;> simp only [aa,seval,LH])
 all_goals first|exact h1 (by omega)|exact h2 (by omega)
theorem zo5 (c:Int) (h:Heap) (K:aF) (h1:El c->K (.bool true) h) (h2:¬ El c->K (.bool false) h):Ok prog aD ov 176 [.int .u8 c] h K:=by
 unfold El at h1 h2
 refine Ok.aw 8 (bq KS) ?_
 simp only [aa,seval,LC]
 repeat' (refine bn (λc=>?_) (λc=>?_) <;> simp only [aa,seval,LC])
 all_goals first|exact h1 (by omega)|exact h2 (by omega)
theorem zq7 (c:Int) (h:Heap) (K:aF) (h1:rR c->K (.bool true) h) (h2:¬ rR c->K (.bool false) h):Ok prog aD ov 155 [.int .u8 c] h K:=by
 unfold rR at h1 h2
 refine Ok.aw 12 (bq KF) ?_
 simp only [aa,seval,sN]
 refine zjw c _ _ (λg1=>?_) (λg1=>?_)
 .simp only [aa,seval,sN]
  exact h1 (.inl g1)
 simp only [aa,seval,sN]
 refine zo5 c _ _ (λg2=>?_) (λg2=>?_)
 .simp only [aa,seval,sN]
  exact h1 (.inr (.inl g2))
 simp only [aa,seval,sN]
 refine lK (λg3=>?_) (λg3=>?_)
 .simp only [aa,seval,sN]
  exact h1 (.inr (.inr g3))
 .simp only [aa,seval,sN]
  exact h2 (λg=>g.elim g1 (λg=>g.elim g2 g3))
theorem zuc (c:Int) (h:Heap) (K:aF) (h1:(zE c\/El c)->K (.bool true) h) (h2:¬ (zE c\/El c)->K (.bool false) h):Ok prog aD ov 198 [.int .u8 c] h K:=by
 refine Ok.aw 8 (bq K8) ?_
 simp only [aa,seval,xM]
 refine zjw c _ _ (λg1=>?_) (λg1=>?_)
 .simp only [aa,seval,xM]
  exact h1 (.inl g1)
 simp only [aa,seval,xM]
 refine zo5 c _ _ (λg2=>?_) (λg2=>?_)
 .simp only [aa,seval,xM]
  exact h1 (.inr g2)
 .simp only [aa,seval,xM]
  exact h2 (λg=>g.elim g1 g2)
theorem zy5 (c:Int) (h:Heap) (K:aF) (h1:mc c->K (.bool true) h) (h2:¬ mc c->K (.bool false) h):Ok prog aD ov 197 [.int .u8 c] h K:=by
 refine Ok.aw 8 (bq K7) ?_
 simp only [aa,seval,xL]
 refine zq7 c _ _ (λg1=>?_) (λg1=>?_)
 .simp only [aa,seval,xL]
  exact h1 (by unfold rR at g1;unfold mc;omega)
 simp only [aa,seval,xL]
 refine zo6 c _ _ (λg2=>?_) (λg2=>?_)
 .simp only [aa,seval,xL]
  exact h1 (by unfold HX at g2;unfold mc;omega)
 .simp only [aa,seval,xL]
  exact h2 (by unfold rR at g1;unfold HX at g2;unfold mc;omega)
theorem zgj (s:au) (f1 f2:ab) (p1 p2:Int->Prop) (h:Heap) (MO:∀ (c:Int) (hc:Heap) (K:aF),(p1 c->K (.bool true) hc)->(¬ p1 c->K (.bool false) hc)->oU prog aD ov [.int .u8 c] hc K f1) (hf2:∀ (c:Int) (hc:Heap) (K:aF),(p2 c->K (.bool true) hc)->(¬ p2 c->K (.bool false) hc)->oU prog aD ov [.int .u8 c] hc K f2)
 (K:aF) (o9:jq p1 p2 s->∀ h',Ext h h'->K (.bool true) h') (iV:¬ jq p1 p2 s->∀ h',Ext h h'->K (.bool false) h'):Ok prog aD ov 153 [.string s,f1,f2] h K:=by
 rw [ao h]
 have z:=Ext.refl h
 refine Ok.aw 31 (bq KD) ?_
 simp only [aa,seval,k5]
 refine bn (λhe=>?_) (λhe=>?_)
 .simp only [aa,seval,k5]
  exact iV (λx=>by have:=x.pos;rw [he] at this;exact absurd this (by decide)) _ z.aA
 have lj:1<=s.size:=by
  apply Nat.lt_of_not_le
  intro hh
  apply he
  apply CE
  have h0:s.size=0:=by omega
  have:s.data.toList.length=0:=by rw [qM];exact h0
  rw [xu.1 this]
 simp only [aa,seval,k5]
 refine bn (λhl=>?_) (λhl=>?_)
 .simp only [aa,seval,k5]
  exact iV (λx=>by have:=x.len;omega) _ z.aA
 simp only [aa,seval,k5]
 refine Hs underlying9 rfl rfl (by omega) (by omega) ?_
 simp only [aa,seval,k5]
 refine MO _ _ _ (λg1=>?_) (λg1=>?_)
 rotate_left
 .repeat' (first|simp only [aa,seval,k5]|((with_reducible apply bX);(· rfl)))
  exact iV (λx=>g1 (by simpa using x.first)) _ z.aA
 repeat' (first|simp only [aa,seval,k5]|((with_reducible apply bX);(· rfl)))
 obtain ⟨I1,aU⟩:∃ I:Nat->Env->Heap->Prop,I=(λn e h'=>∃ (i:Nat) (h1:Heap),h'=h1.lay [] h1.low/\Ext h h1/\(n=s.size - i/\1<=i/\i<=s.size/\∀ j,1<=j->j < i->p2 (mf s j))/\∃ J:Nat->ab,e=(.string s::J 1::f2::jr J 3 4 (.int .i64 i::jr J 8 26 ([])))):=⟨_,rfl⟩
 refine dA I1 _ (by rw [aU];exact ⟨1,_,rfl,z,⟨rfl,by omega,by omega,λj hj XW=>by omega⟩,bl⟩) ?_
 intro n e h' aO
 rw [aU] at aO
 obtain ⟨i,bC,rfl,z,hinv,J,rfl⟩:=aO
 obtain ⟨rfl,ij,hi,aH⟩:=hinv
 have hw:=ei i (by omega)
 simp only [aa,seval,k5]
 refine bn (λaT=>?_) (λaT=>?_)
 rotate_left
 .simp only [aa,seval,k5]
  exact o9 ⟨lj,by omega,by simpa using g1,λj hj XW=>aH j hj (by omega)⟩ _ z.aA
 simp only [aa,seval,k5]
 refine Hs underlying9 rfl rfl (by omega) (by omega) ?_
 simp only [aa,seval,k5]
 refine hf2 _ _ _ (λg2=>?_) (λg2=>?_)
 .repeat' (first|simp only [aa,seval,k5]|((with_reducible apply bX);(· rfl)))
  rw [hw]
  have yJ:∀ j,1<=j->j < i+1->p2 (mf s j):=by
   intro j r5 hj
   by_cases kQ:j < i
   .exact aH j r5 kQ
   .have:j=i:=by omega
    subst this
    simpa using g2
  (rw [aU];with_reducible refine cy (m:=_) ?_ ⟨i+1,_,rfl,z,⟨rfl,by omega,by omega,yJ⟩,bl⟩;omega)
 .repeat' (first|simp only [aa,seval,k5]|((with_reducible apply bX);(· rfl)))
  exact iV (λx=>g2 (by simpa using x.more i ij (by omega))) _ z.aA
theorem zxa (h:Heap) (cG:bd 1 h) (K:aF) (hk:∀ h' w,Ext h h'->Sl aM.str h' w eN->K w h'):Ok prog aD ov 177 [] h K:=by
 rw [ao h]
 have z:=Ext.refl h
 refine Ok.aw 2 (bq KT) ?_
 simp only [aa,seval,LD]
 refine Ok.over (g:=HD 1 9) rfl (zv5 (cG.lay _ _)) ?_
 have hx:Ext (h.lay [] h.low) ((h.lay [] h.low).push (.row (eN.map Value.string) 9 false)):=Ext.push _ _
 have yV:Sl aM.str ((h.lay [] h.low).push (.row (eN.map Value.string) 9 false)) (.slice (some ⟨(h.lay [] h.low).size,0,none⟩) 8 8) eN:=zzp (w:=0)
 generalize (h.lay [] h.low).push (.row (eN.map Value.string) 9 false)=h2 at hx yV ⊢
 replace z:=z.an hx
 rw [ao h2]
 simp only [aa,seval,LD]
 exact hk _ _ z.aA (yV.lay _ _)
theorem zuh (l:List au) (v:ab) (s:au) (h:Heap) (hl:Sl aM.str h v l) (hs:l.length<=1000) (K:aF)
 (hk:∀ h',Ext h h'->K (.int .i64 (kE (λx=>decide (s=x)) l)) h'):Ok prog aD ov 105 [v,.string s] h K:=by
 rw [ao h]
 have z:=Ext.refl h
 have df:=λ(hh:Heap)=>hl.bo dr hh
 refine Ok.aw 17 (bq EK) ?_
 simp only [aa,seval,pJ,df]
 obtain ⟨I1,aU⟩:∃ I:Nat->Env->Heap->Prop,I=(λn e h'=>∃ (i:Nat) (h1:Heap),h'=h1.lay [] h1.low/\Ext h h1/\(n=l.length - i/\i<=l.length/\∀ x∈l.take i,decide (s=x)=false)/\∃ J:Nat->ab,e=(v::.string s::jr J 2 5 (.int .i64 l.length::.int .i64 i::jr J 9 10 ([])))):=⟨_,rfl⟩
 refine dA I1 _ (by rw [aU];exact ⟨0,_,rfl,z,⟨rfl,by omega,by simp⟩,bl⟩) ?_
 intro n e h' aO
 rw [aU] at aO
 obtain ⟨i,bC,rfl,z,hinv,J,rfl⟩:=aO
 obtain ⟨rfl,hi,aH⟩:=hinv
 have hw:=ei i (by omega)
 simp only [aa,seval,pJ]
 refine bn (λaT=>?_) (λaT=>?_)
 rotate_left
 .rw [gE (by omega)] at aH
  rw [Jp aH] at hk
  repeat' (simp only [aa,seval,pJ])
  exact hk _ z.aA
 obtain ⟨r,hr,cw⟩:=eW (l:=l) (i:=i) (by omega)
 repeat' (first|simp only [aa,seval,pJ]|((with_reducible apply bn) <;> intro _)|with_reducible refine rK (hl.mono z.inc) dr px (by omega) hr (λp hp=>?_)|with_reducible refine gj hp j9 ?_)
 .rw [Jj cw aH (by simpa using (by assumption))] at hk
  exact hk _ z.aA
 .rw [hw]
  (rw [aU];with_reducible refine cy (m:=_) ?_ ⟨i+1,_,rfl,z,⟨rfl,by omega,qH (i:=i) (P:=λx:au=>decide (s=x)=false) cw aH (by simpa using (by assumption))⟩,bl⟩;omega)
theorem I9 (l:List au) (v:ab) (s:au) (h:Heap) (hl:Sl aM.str h v l) (hs:l.length<=1000) (K:aF)
 (hk:∀ h',Ext h h'->K (.bool (l.any λx=>decide (s=x))) h'):Ok prog aD ov 65 [v,.string s] h K:=by
 refine Ok.aw 7 (bq Uw) ?_
 simp only [aa,seval,Ip]
 refine zuh l v s h hl hs _ (λh' x=>?_)
 simp only [aa,seval,Ip,TR]
 refine Ru (λhh=>?_) (λhh=>?_)
 all_goals
  simp only [aa,seval,Ip]
  rw [hh] at hk
  exact hk _ x
theorem zh0 (s:au) (h:Heap) (cG:bd 1 h) (K:aF) (h1:tk s->∀ h',Ext h h'->K (.bool true) h') (h2:¬ tk s->∀ h',Ext h h'->K (.bool false) h'):Ok prog aD ov 156 [.string s] h K:=by
 rw [ao h]
 have z:=Ext.refl h
 refine Ok.aw 5 (bq KG) ?_
 simp only [aa,seval,Bc]
 refine zxa _ (cG.lay _ _) _ (λh' w x sw=>?_)
 (replace z:=z.an x;rw [ao h'])
 simp only [aa,seval,Bc]
 refine I9 eN w s _ (sw.lay _ _) (by decide) _ (λh' x=>?_)
 (replace z:=z.an x;rw [ao h'])
 rw [zzf] at h1 h2
 cases hd:eN.any λx=>decide (s=x)
 .simp only [aa,seval,Bc]
  exact h2 (λhm=>by rw [H2] at hd;exact hd s hm (by simp)) _ z.aA
 .simp only [aa,seval,Bc]
  exact h1 (by obtain ⟨x,hx,e⟩:=xy.1 hd;rw [of_decide_eq_true e];exact hx) _ z.aA
theorem zm2 (s:au) (h:Heap) (cG:bd 1 h) (K:aF) (h1:qK s->∀ h',Ext h h'->K (.bool true) h') (h2:¬ qK s->∀ h',Ext h h'->K (.bool false) h'):Ok prog aD ov 117 [.string s] h K:=by
 rw [ao h]
 have z:=Ext.refl h
 rw [zxk] at h1 h2
 refine Ok.aw 9 (bq Kb) ?_
 simp only [aa,seval,xI]
 refine zgj s _ _ zE rR _ (λc hc K' a b=>by rw [r9];exact zjw c hc K' a b) (λc hc K' a b=>by rw [r9];exact zq7 c hc K' a b) _ (λg h' x=>?_) (λg h' x=>?_)
 ·(replace z:=z.an x;rw [ao h'])
  repeat' (simp only [aa,seval,xI])
  refine zh0 s _ ((cG.ext z).lay _ _) _ (λr h' x=>?_) (λr h' x=>?_)
  ·(replace z:=z.an x;rw [ao h'])
   repeat' (first|simp only [aa,seval,xI]|((with_reducible apply bX);(· rfl)))
   exact h2 (λq=>q.2 r) _ z.aA
  ·(replace z:=z.an x;rw [ao h'])
   repeat' (first|simp only [aa,seval,xI]|((with_reducible apply bX);(· rfl)))
   exact h1 ⟨g,r⟩ _ z.aA
 ·(replace z:=z.an x;rw [ao h'])
  repeat' (simp only [aa,seval,xI])
  exact h2 (λq=>g q.1) _ z.aA
theorem zsB (s:au) (h:Heap) (cG:bd 1 h) (K:aF) (h1:qK s->∀ h',Ext h h'->K (.bool true) h') (h2:¬ qK s->∀ h',Ext h h'->K (.bool false) h'):Ok prog aD ov 118 [.string s] h K:=by
 rw [ao h]
 have z:=Ext.refl h
 refine Ok.aw 4 (bq Kc) ?_
 simp only [aa,seval,E6]
 refine zm2 s _ (cG.lay _ _) _ (λg h' x=>?_) (λg h' x=>?_)
 ·(replace z:=z.an x;rw [ao h'])
  simp only [aa,seval,E6]
  exact h1 g _ z.aA
 ·(replace z:=z.an x;rw [ao h'])
  simp only [aa,seval,E6]
  exact h2 g _ z.aA
theorem zwH (s:au) (h:Heap) (cG:bd 1 h) (K:aF) (h1:js s->∀ h',Ext h h'->K (.bool true) h') (h2:¬ js s->∀ h',Ext h h'->K (.bool false) h'):Ok prog aD ov 188 [.string s] h K:=by
 rw [ao h]
 have z:=Ext.refl h
 rw [ztE] at h1 h2
 refine Ok.aw 9 (bq K0) ?_
 simp only [aa,seval,xK]
 refine zgj s _ _ (λc=>zE c\/El c) rR _ (λc hc K' a b=>by rw [r9];exact zuc c hc K' a b) (λc hc K' a b=>by rw [r9];exact zq7 c hc K' a b) _ (λg h' x=>?_) (λg h' x=>?_)
 ·(replace z:=z.an x;rw [ao h'])
  repeat' (simp only [aa,seval,xK])
  refine zh0 s _ ((cG.ext z).lay _ _) _ (λr h' x=>?_) (λr h' x=>?_)
  ·(replace z:=z.an x;rw [ao h'])
   repeat' (first|simp only [aa,seval,xK]|((with_reducible apply bX);(· rfl)))
   exact h2 (λq=>q.2 r) _ z.aA
  ·(replace z:=z.an x;rw [ao h'])
   repeat' (first|simp only [aa,seval,xK]|((with_reducible apply bX);(· rfl)))
   exact h1 ⟨g,r⟩ _ z.aA
 ·(replace z:=z.an x;rw [ao h'])
  repeat' (simp only [aa,seval,xK])
  exact h2 (λq=>g q.1) _ z.aA
theorem zBt (s:au) (h:Heap) (K:aF) (h1:Ci s->∀ h',Ext h h'->K (.bool true) h') (h2:¬ Ci s->∀ h',Ext h h'->K (.bool false) h'):Ok prog aD ov 187 [.string s] h K:=by
 rw [ao h]
 have z:=Ext.refl h
 rw [zzN] at h1 h2
 refine Ok.aw 4 (bq KZ) ?_
 simp only [aa,seval,Fc]
 refine zgj s _ _ HX mc _ (λc hc K' a b=>by rw [r9];exact zo6 c hc K' a b) (λc hc K' a b=>by rw [r9];exact zy5 c hc K' a b) _ (λg h' x=>?_) (λg h' x=>?_)
 ·(replace z:=z.an x;rw [ao h'])
  simp only [aa,seval,Fc]
  exact h1 g _ z.aA
 ·(replace z:=z.an x;rw [ao h'])
  simp only [aa,seval,Fc]
  exact h2 g _ z.aA
theorem zy4 (t:aZ) (h:Heap) (cG:bd 1 h) (K:aF) (h1:fx t->∀ h',Ext h h'->K (.bool true) h') (h2:¬ fx t->∀ h',Ext h h'->K (.bool false) h'):Ok prog aD ov 172 [t.val] h K:=by
 rw [ao h]
 have z:=Ext.refl h
 rcases t with ⟨tv,ts⟩
 unfold fx at h1 h2
 cases tv
 .refine Ok.aw 10 (bq EO) ?_
  repeat' (simp only [aa,seval,Bf,aZ.val,aZ.cells])
  refine zwH _ _ (cG.lay _ _) _ (λhs h' x=>?_) (λhs h' x=>?_)
  all_goals
   (replace z:=z.an x;rw [ao h'])
   simp only [aa,seval,Bf]
   first
    |exact h1 hs _ z.aA
    |exact h2 hs _ z.aA
 .refine Ok.aw 10 (bq EO) ?_
  repeat' (simp only [aa,seval,Bf,aZ.val,aZ.cells])
  refine zBt _ _ _ (λhs h' x=>?_) (λhs h' x=>?_)
  all_goals
   (replace z:=z.an x;rw [ao h'])
   simp only [aa,seval,Bf]
   first
    |exact h1 hs _ z.aA
    |exact h2 hs _ z.aA
open Classical in
def sK (t:aZ):Bool := !decide (fx t)
theorem zt2 (t:aZ) (h:Heap) (cG:bd 1 h) (K:aF) (hk:∀ h',Ext h h'->K (.bool (sK t)) h'):Ok prog aD ov 171 [t.val] h K:=by
 rw [ao h]
 have z:=Ext.refl h
 refine Ok.aw 5 (bq KQ) ?_
 repeat' (simp only [aa,seval,Fa,zty,↓zyi,zx8,Qe])
 refine zy4 t _ (cG.lay _ _) _ (λhs h' x=>?_) (λhs h' x=>?_)
 .have e:sK t=false:=by unfold sK;simp [hs]
  rw [e] at hk
  (replace z:=z.an x;rw [ao h'])
  repeat' (first|simp only [aa,seval,Fa]|((with_reducible apply bX);(· rfl)))
  exact hk _ z.aA
 .have e:sK t=true:=by unfold sK;simp [hs]
  rw [e] at hk
  (replace z:=z.an x;rw [ao h'])
  repeat' (first|simp only [aa,seval,Fa]|((with_reducible apply bX);(· rfl)))
  exact hk _ z.aA
end Go.Proofs.YtiapegieocgmfaaGreatDoor
namespace Go.Proofs.YtiapegieocgmfaaGreatDoor
open Go.Am
theorem Tf {I:Nat->Env->Heap->Prop} {m:Nat} {Q:Ex->Env->Heap->Prop} {x:Ex} {e:Env} {h0 h1:Heap} {bs:List ba} {w:Nat} (z:Ext h0 (h1.lay bs w)) (hk:∀ H,Ext h0 H->(∀ A b,Holds h1 A b->Holds H A b)->bL h1 H->J0 I m Q x e (H.lay [] H.low)):J0 I m Q x e (h1.lay bs w):=by
 have:=hk _ z (λA b q=>q.on bs w) (bL.lay _ _ _)
 rwa [<- ao] at this
theorem zAO (a:ak) (k:Nat) (hk:k < 4):cut a.cells (3+k*2) 2=some (a.arg k).cells:=by
 have:k=0\/k=1\/k=2\/k=3:=by omega
 rcases this with rfl|rfl|rfl|rfl <;> rfl
end Go.Proofs.YtiapegieocgmfaaGreatDoor
namespace Go.Proofs.YtiapegieocgmfaaGreatDoor
open Go.Am Tryz
def Kv:=bA f138
def OV:=PLift.up (by have c:=bB Kv f138;simp only [aN,f138,seval] at c;exact nd c <| nd @EW <| nd @sL <| nd @HK <| nd @zB <| nd @HL <| nd @Um <| nd @rp <| nd @cq <| nd @gA <| nd @Ug <| @zDP)
theorem kZ:type_of% OV.down:=OV.down
def N91:=bA f91
def x91:=PLift.up (by have c:=bB N91 f91;simp only [aN,f91,seval] at c;exact nd c <| nd @cq <| @Ww)
theorem Ir:type_of% x91.down:=x91.down
def EN:=bA f167
def Pk:=PLift.up (by have c:=bB EN f167;simp only [aN,f167,seval] at c;exact nd c <| nd @j4 <| nd @cq <| nd @zEb <| @zED)
theorem fK:type_of% Pk.down:=Pk.down
def K5:=bA f193
def PD:=PLift.up (by have c:=bB K5 f193;simp only [aN,f193,seval] at c;exact nd c <| nd @j4 <| nd @cq <| nd @zEs <| @zEG)
theorem qT:type_of% PD.down:=PD.down
def KY:=bA f182
def Pw:=PLift.up (by have c:=bB KY f182;simp only [aN,f182,seval] at c;exact nd c <| nd @zEm <| @zEF)
theorem pL:type_of% Pw.down:=Pw.down
def jQ:=bA f168
def Pl:=PLift.up (by have c:=bB jQ f168;simp only [aN,f168,seval] at c;exact nd c <| nd @j4 <| nd @cq <| nd @zEc <| @zEE)
theorem bS:type_of% Pl.down:=Pl.down
def EL:=bA f136
def OU:=PLift.up (by have c:=bB EL f136;simp only [aN,f136,seval] at c;exact nd c <| nd @zDO <| @zEB)
theorem gq:type_of% OU.down:=OU.down
def Uy:=bA f90
def x90:=PLift.up (by have c:=bB Uy f90;simp only [aN,f90,seval] at c;exact nd c <| nd @je <| nd @Wv <| @WK)
theorem Bn:type_of% x90.down:=x90.down
def Ut:=bA f27
def x27:=PLift.up (by have c:=bB Ut f27;simp only [aN,f27,seval] at c;exact nd c <| nd @sM <| @VA)
theorem CZ:type_of% x27.down:=x27.down
def Uz:=bA f92
def x92:=PLift.up (by have c:=bB Uz f92;simp only [aN,f92,seval] at c;exact nd c <| nd @j4 <| nd @cq <| nd @je <| @Wx)
theorem lG:type_of% x92.down:=x92.down
def N93:=bA f93
def x93:=PLift.up (by have c:=bB N93 f93;simp only [aN,f93,seval] at c;exact nd c <| nd @cq <| @Wy)
theorem RL:type_of% x93.down:=x93.down
def N56:=bA f56
def x56:=PLift.up (by have c:=bB N56 f56;simp only [aN,f56,seval] at c;exact nd c <| @V1)
theorem Fj:type_of% x56.down:=x56.down
def N99:=bA f99
def x99:=PLift.up (by have c:=bB N99 f99;simp only [aN,f99,seval] at c;exact nd c <| nd @j4 <| nd @cq <| nd @je <| @WE)
theorem wB:type_of% x99.down:=x99.down
def N59:=bA f59
def x59:=PLift.up (by have c:=bB N59 f59;simp only [aN,f59,seval] at c;exact nd c <| @V4)
theorem LL:type_of% x59.down:=x59.down
def J8:=bA f100
def Oo:=PLift.up (by have c:=bB J8 f100;simp only [aN,f100,seval] at c;exact nd c <| nd @j4 <| nd @cq <| nd @je <| @zDr)
theorem gQ:type_of% Oo.down:=Oo.down
def N60:=bA f60
def x60:=PLift.up (by have c:=bB N60 f60;simp only [aN,f60,seval] at c;exact nd c <| nd @cq <| @V5)
theorem c60:type_of% x60.down:=x60.down
theorem Up:su aD 22 22=true:=by kernel_rfl
theorem zqv (a:ak):a.cells[0]? = some (.string a.says):=rfl
theorem zvI (a:ak):a.cells[1]? = some (.string a.pred):=rfl
theorem zw8 (a:ak) (ha:a.aW=true) (h:Heap) (K:aF)
 (hk:∀ h',Ext h h'->K (.string ⟨(cL a).toArray⟩) h'):Ok prog aD ov 138 [a.val] h K:=by
 rw [ao h]
 have z:=Ext.refl h
 obtain ⟨mE,gV⟩:=zhv ha
 refine Ok.aw 37 (bq Kv) ?_
 simp only [aa,seval,kZ,eE,zqv]
 refine wY ?_ (λS1 zY r8=>?_)
 .show a.says.size+6<=_
  omega
 simp only [aa,seval,kZ,zvI]
 refine wY ?_ (λS hS mG=>?_)
 .rw [r8]
  show a.says.size+6+_<=_
  omega
 have Xb:S.data.toList=a.says.data.toList++J4++a.pred.data.toList:=by rw [hS,zY,xj,xj];rfl
 have hSz:S.size<=700:=by
  rw [mG,r8]
  show a.says.size+6+_<=_
  omega
 clear hS zY r8 mG
 simp only [aa,seval,kZ,↓eY,eJ,dX]
 refine QN a _ _ (λv H0 x hv=>?_)
 (replace z:=z.an x;rw [ao H0])
 have rn:=z.size
 simp only [aa,seval,kZ]
 repeat' ((first|((with_reducible apply lK) <;> intro _)|with_reducible refine HE hv zF ?_) <;> simp only [aa,seval,kZ])
 .have zZ:S=⟨(cL a).toArray⟩:=Z3 (by rw [Xb,zxK (by omega)])
  rw [zZ]
  exact hk _ z.aA
 obtain ⟨I1,aU⟩:∃ I:Nat->Env->Heap->Prop,I=(λn e h'=>∃ (i:Nat) (w:ab) (A:Nat) (h1:Heap),h'=h1.lay [] h1.low/\Ext h h1/\(n=a.args.length - i/\i<=a.args.length/\Ow aM.str H0 h1 9 A w ((a.args.take i).map (·.s))/\bL H0 h1)/\∃ J:Nat->ab,e=(jr J 0 3 (.string S::J 4::w::jr J 6 14 (v::.int .i64 a.args.length::.int .i64 i::jr J 23 15 ([]))))):=⟨_,rfl⟩
 refine dA I1 _ (by rw [aU];exact ⟨0,.slice none 0 0,H0.size,_,rfl,z,⟨rfl,by omega,Ow.nil (bj _),bL.refl _⟩,bl⟩) ?_
 intro n e h' aO
 rw [aU] at aO
 obtain ⟨i,w,A,bC,rfl,z,hinv,J,rfl⟩:=aO
 obtain ⟨rfl,hi,ho,i1⟩:=hinv
 have Xg:a.args.length<=4:=by rw [w9];unfold ak.cO;omega
 have hw:=ei i (by omega)
 have hz:=z.size
 simp only [aa,seval,kZ]
 refine bn (λaT=>?_) (λaT=>?_)
 rotate_left
 .simp only [aa,seval,kZ]
  rw [gE (by omega)] at ho
  have hJ:=ztL ha
  have yI:(a.args.map (·.s)).map (·.data.toList)=jO a:=by rw [CR];rfl
  have GH:∀ (h:Heap) (K:aF),aC (some w) h K=K w h:=λ_ _=>rfl
  refine wY ?_ (λS3 FN Al=>?_)
  .show S.size+1<=_
   omega
  have anG:S3.size<=701:=by
   rw [Al]
   show S.size+1<=_
   omega
  have W9:S3.data.toList=S.data.toList++[40]:=by rw [FN,xj]
  simp only [aa,seval,kZ]
  refine Ok.over (g:=H5) rfl (zBa ((ho.sl (by decide)).lay _ _) (λe=>by have:=congrArg List.length e;rw [gi,dN] at this;omega) (by rw [gi];omega) (by rw [yI];exact gn hJ (by decide))) ?_
  rw [yI]
  obtain ⟨J2,hJ2⟩:∃ J2:au,J2=⟨(Lib.join (jO a) (ByteArray.mk #[44,32]).data.toList).toArray⟩:=⟨_,rfl⟩
  rw [<- hJ2]
  have hJl:J2.data.toList=Lib.join (jO a) dC:=by rw [hJ2];rfl
  have hJz:J2.size<=1300:=by rw [<- E1,hJl];exact hJ
  simp only [aa,seval,kZ]
  refine wY ?_ (λS4 hS4 hz4=>?_)
  .omega
  simp only [aa,seval,kZ]
  refine wY ?_ (λS5 hS5 hz5=>?_)
  .rw [hz4]
   show S3.size+J2.size+1<=_
   omega
  repeat' (simp only [aa,seval,kZ])
  have hS6:S5=⟨(cL a).toArray⟩:=Z3 (by rw [hS5,xj,hS4,xj,W9,Xb,hJl,zxM (by omega)])
  rw [hS6]
  exact hk _ z.aA
 obtain ⟨r,hr,cw⟩:=eW (l:=a.args) (i:=i) aT
 simp only [aa,seval,kZ]
 repeat' ((first|with_reducible refine Q6 (hv.mono i1) zF kL (by omega) hr (λp hp=>?_)|with_reducible refine IV hp sJ kL ?_) <;> simp only [aa,seval,kZ,sg,nU,oX,Am.one,sC,oV,vO,aZ.val,aZ.cells])
 simp only [lx,seval,mr,Up]
 obtain ⟨Yq,kC⟩:=Jw (A:=A) (B:=bC.size+1) (r:=aM.str) (c:=1) (y:=r.s) (by decide) (show (bC.lay [ba.row [Value.bool r.v,Value.string r.s] 44 false,ba.row [Value.string r.s] 9 false] (min bC.low (bC.size+0))).get (bC.size+1)=some (.row [Value.string r.s] 9 false) by rw [iB];rfl) rfl
 have cW:=ho.fresh
 have iF:((a.args.take i).map (·.s)).length<=4:=by rw [gi,gh];omega
 refine Ea (r:=aM.str) dr D9 rfl (by decide) i1.size ho Yq kC (by omega) (by omega) (λw' h2 A' o2 c2 Ix=>?_)
 replace z:=z.aA.step c2 (by omega)
 have i2:=zA5 (i1.trans (bL.lay _ _ _)) c2 cW
 have mX:(a.args.take (i+1)).map (·.s)=(a.args.take i).map (·.s)++[r.s]:=by rw [oW,cw,zL];rfl
 rw [<- mX] at o2
 rw [ao h2]
 have GH:∀ (h:Heap) (K:aF),aC (some w') h K=K w' h:=λ_ _=>rfl
 repeat' (simp only [aa,seval,kZ])
 rw [hw]
 (rw [aU];with_reducible refine cy (m:=_) ?_ ⟨i+1,w',A',_,rfl,z,⟨rfl,by omega,o2,i2⟩,bl⟩;omega)
 trace_state
theorem Er (a b:ak) (ha:a.aW=true) (hb:b.aW=true) (h:Heap) (K:aF)
 (hk:∀ h',Ext h h'->K (.int .i64 (aX a b)) h'):Ok prog aD ov 91 [a.val,b.val] h K:=by
 rw [ao h]
 have z:=Ext.refl h
 refine Ok.aw 8 (bq N91) ?_
 repeat' (simp only [aa,seval,Ir,eE])
 refine (dL (by simp only [Ir])) z.aA ?_
 simp only [aa,seval,Ir,↓eY,eJ,dX]
 refine zw8 a ha _ _ (λh' x=>?_)
 have q1:=Holds.top (i:=1) x rfl
 (((with_reducible refine cU ?_ ?_ ?_);(· exact (by (simp only [ck]);have:=z.size;omega));(· exact x));replace z:=z.an x;rw [ao h'])
 repeat' (simp only [aa,seval,Ir,q1.lay,↓eY,eJ,dX])
 refine zw8 b hb _ _ (λh' x=>?_)
 (((with_reducible refine cU ?_ ?_ ?_);(· exact (by (simp only [ck]);have:=z.size;omega));(· exact x));replace z:=z.an x;rw [ao h'])
 repeat' (simp only [aa,seval,Ir])
 refine Ok.over (g:=Qn) rfl rfl ?_
 refine cU (by have:=z.size;rw [bc];omega) (by simpa only [bM,bc,bu,dN,iU] using Ext.refl (h'.lay [] h'.size)) ?_
 repeat' (first|simp only [aa,seval,Ir]|((with_reducible refine ⟨z.cn.lay _ _,?_⟩);(intro _ h' zz x _);(simp only [bM,bu] at x);(replace z:=zz);(clear zz);rw [ao h']))
 exact hk _ z.aA
end Go.Proofs.YtiapegieocgmfaaGreatDoor

/- Words by the program's own rules: as the document's. No condition. -/
import Derived.Test.YtnkmeidmdaidhaaGreatDoorG23
set_option linter.unusedSimpArgs false
set_option linter.unusedVariables false
namespace Go.Am
variable {s:aU}
theorem bl.ext {g:Nat} {h h':Heap} (s:bl g h) (x:Ext h h'):bl g h':=Holds.ext s x
theorem bl.lay {g:Nat} {h:Heap} (s:bl g h) (bs:List aZ) (w:Nat):bl g (h.lay bs w):=Holds.on s bs w
theorem bl.over {g:Nat} {h1 h2:Heap} {bs:List aZ} {w:Nat} (s:bl g h1) (x:Ext (h1.lay bs w) h2):bl g h2:=Holds.over s x
def eD:List aU:=[⟨#[115,97,121,115]⟩,⟨#[105,102]⟩,⟨#[99,97,110,115,97,121]⟩,⟨#[112,114,105,110,99,105,112,97,108]⟩,⟨#[112,114,101,100]⟩,⟨#[99,108,101,97,114]⟩,⟨#[113,117,111,116,97]⟩,⟨#[98,117,100,103,101,116]⟩]
theorem zzy:kX s↔s∈eD:=by
 unfold kX eD
 simp only [df,il,or_false,eq_comm (a:=s)]
def mO:aU:=⟨#[115,97,121,115,32,105,102,32,99,97,110,115,97,121,32,112,114,105,110,99,105,112,97,108,32,112,114,101,100,32,99,108,101,97,114,32,113,117,111,116,97,32,98,117,100,103,101,116]⟩
theorem ziw:sW mO.data.toList=eD.map Value.string:=by kernel_rfl
theorem zwy {g st:Nat} {h:Heap} (hs:bl g h):F3 g st [.string mO] h=some (.slice (some ⟨h.size,0,none⟩) 8 8,h.push (.row (eD.map Value.string) st false)):=by
 unfold F3
 simp only
 rw [hs.get]
 simp only
 have e1:(sW mO.data.toList).length=8:=by rw [ziw];rfl
 rw [aD (by
  rw [e1]
  have h1:mO.data.toList.all (λb=>Nat.blt b.toNat 128)=true:=by kernel_rfl
  have h2:Nat.blt mO.size 4294967281=true:=by kernel_rfl
  have h3:Nat.beq uY uY=true:=Nat.beq_refl _
  rw [h1,h2,h3]
  rfl),e1,ziw]
theorem zzH {h:Heap} {st:TypeId} {w:Nat}:Sl aC.str (h.push (.row (eD.map Value.string) st false)) (.slice (some ⟨h.size,0,none⟩) 8 8) eD:=by
 refine .inr ⟨h.size,0,8,eD.map Value.string,st,false,rfl,(by show 8<=maxLen;decide),.inl ⟨by decide,aR _⟩,by rw [Heap.size_push];omega,by rw [Heap.bA,aD rfl],λi x hx=>?_⟩
 refine ⟨[.string x],?_,rfl⟩
 have hi:i < 8:=(fG.1 hx).1
 have:i=0\/i=1\/i=2\/i=3\/i=4\/i=5\/i=6\/i=7:=by omega
 rcases this with rfl|rfl|rfl|rfl|rfl|rfl|rfl|rfl <;> (cases hx;rfl)
structure iP (first more:Int->Prop) (s:aU):Prop where
 pos:1<=s.size
 len:s.size<=255
 first:first (j5 s 0)
 more:∀ i,1<=i->i < s.size->more (j5 s i)
def xQ (c:Int):Prop:=97<=c/\c<=122
def Gc (c:Int):Prop:=65<=c/\c<=90
def Da (c:Int):Prop:=48<=c/\c<=57
theorem zxD:qK s↔iP xQ pQ s/\¬ kX s:=by
 constructor
 .rintro ⟨⟨h,hr⟩,hs⟩
  exact ⟨⟨h.pos,h.len,hs,λi _ hi=>h.all i hi⟩,hr⟩
 .rintro ⟨h,hr⟩
  have hf:=h.first
  unfold xQ at hf
  refine ⟨⟨⟨h.pos,h.len,by omega,λi hi=>?_⟩,hr⟩,hf⟩
  by_cases wE:i=0
  .subst wE
   exact .inl hf
  .exact h.more i (by omega) hi
theorem zt4:cJ s↔iP (λc=>xQ c\/Da c) pQ s/\¬ kX s:=by
 constructor
 .rintro ⟨h,hr⟩
  refine ⟨⟨h.pos,h.len,?_,λi _ hi=>h.all i hi⟩,hr⟩
  have h0:=h.all 0 h.pos
  have h1:=h.first
  unfold pQ at h0
  rcases h0 with h0|h0|h0
  .exact .inl h0
  .exact .inr h0
  .exact absurd h0 h1
 .rintro ⟨h,hr⟩
  have hf:=h.first
  unfold xQ Da at hf
  refine ⟨⟨h.pos,h.len,by omega,λi hi=>?_⟩,hr⟩
  by_cases wE:i=0
  .subst wE
   rcases hf with hf|hf
   .exact .inl hf
   .exact .inr (.inl hf)
  .exact h.more i (by omega) hi
theorem zz2:qH s↔iP Gc jx s:=by
 constructor
 .intro h
  exact ⟨h.pos,h.len,h.first,λi _ hi=>h.all i hi⟩
 .intro h
  refine ⟨h.pos,h.len,h.first,λi hi=>?_⟩
  by_cases wE:i=0
  .subst wE
   exact .inr (.inl h.first)
  .exact h.more i (by omega) hi
end Go.Am
namespace Go.Proofs.YtnkmeidmdaidhaaGreatDoor
open Go.Am Tryz
set_option maxRecDepth 100000
set_option maxHeartbeats 0
theorem X8 (c:Int) (h:Heap) (K:aJ) (h1:xQ c->K (.bool true) h) (h2:¬ xQ c->K (.bool false) h):Ok prog aH ov 80 [.int .u8 c] h K:=by
 unfold xQ at h1 h2
 refine Ok.aA 8 (bH N80) ?_
 simp only [aa,seval,c80]
 repeat' (refine bS (λc=>?_) (λc=>?_) <;> simp only [aa,seval,c80])
 all_goals first|exact h1 (by omega)|exact h2 (by omega)
theorem zo8 (c:Int) (h:Heap) (K:aJ) (h1:Gc c->K (.bool true) h) (h2:¬ Gc c->K (.bool false) h):Ok prog aH ov 114 [.int .u8 c] h K:=by
 unfold Gc at h1 h2
 refine Ok.aA 8 (bH IE) ?_
 simp only [aa,seval,Jn]
 repeat' (refine bS (λc=>?_) (λc=>?_) <;> simp only [aa,seval,Jn])
 all_goals first|exact h1 (by omega)|exact h2 (by omega)
theorem zo7 (c:Int) (h:Heap) (K:aJ) (h1:Da c->K (.bool true) h) (h2:¬ Da c->K (.bool false) h):Ok prog aH ov 111 [.int .u8 c] h K:=by
 unfold Da at h1 h2
 refine Ok.aA 8 (bH IB) ?_
 simp only [aa,seval,Jl]
 repeat' (refine bS (λc=>?_) (λc=>?_) <;> simp only [aa,seval,Jl])
 all_goals first|exact h1 (by omega)|exact h2 (by omega)
theorem Y8 (c:Int) (h:Heap) (K:aJ) (h1:pQ c->K (.bool true) h) (h2:¬ pQ c->K (.bool false) h):Ok prog aH ov 81 [.int .u8 c] h K:=by
 unfold pQ at h1 h2
 refine Ok.aA 12 (bH N81) ?_
 simp only [aa,seval,DJ]
 refine X8 c _ _ (λg1=>?_) (λg1=>?_)
 .simp only [aa,seval,DJ]
  exact h1 (.inl g1)
 simp only [aa,seval,DJ]
 refine zo7 c _ _ (λg2=>?_) (λg2=>?_)
 .simp only [aa,seval,DJ]
  exact h1 (.inr (.inl g2))
 simp only [aa,seval,DJ]
 refine qL (λg3=>?_) (λg3=>?_)
 .simp only [aa,seval,DJ]
  exact h1 (.inr (.inr g3))
 .simp only [aa,seval,DJ]
  exact h2 (λg=>g.elim g1 (λg=>g.elim g2 g3))
theorem zuD (c:Int) (h:Heap) (K:aJ) (h1:(xQ c\/Da c)->K (.bool true) h) (h2:¬ (xQ c\/Da c)->K (.bool false) h):Ok prog aH ov 116 [.int .u8 c] h K:=by
 refine Ok.aA 8 (bH IG) ?_
 simp only [aa,seval,vM]
 refine X8 c _ _ (λg1=>?_) (λg1=>?_)
 .simp only [aa,seval,vM]
  exact h1 (.inl g1)
 simp only [aa,seval,vM]
 refine zo7 c _ _ (λg2=>?_) (λg2=>?_)
 .simp only [aa,seval,vM]
  exact h1 (.inr g2)
 .simp only [aa,seval,vM]
  exact h2 (λg=>g.elim g1 g2)
theorem zzp (c:Int) (h:Heap) (K:aJ) (h1:jx c->K (.bool true) h) (h2:¬ jx c->K (.bool false) h):Ok prog aH ov 115 [.int .u8 c] h K:=by
 refine Ok.aA 8 (bH IF) ?_
 simp only [aa,seval,vL]
 refine Y8 c _ _ (λg1=>?_) (λg1=>?_)
 .simp only [aa,seval,vL]
  exact h1 (by unfold pQ at g1;unfold jx;omega)
 simp only [aa,seval,vL]
 refine zo8 c _ _ (λg2=>?_) (λg2=>?_)
 .simp only [aa,seval,vL]
  exact h1 (by unfold Gc at g2;unfold jx;omega)
 .simp only [aa,seval,vL]
  exact h2 (by unfold pQ at g1;unfold Gc at g2;unfold jx;omega)
theorem XH (s:aU) (f1 f2:ai) (p1 p2:Int->Prop) (h:Heap) (UA:∀ (c:Int) (hc:Heap) (K:aJ),(p1 c->K (.bool true) hc)->(¬ p1 c->K (.bool false) hc)->xW prog aH ov [.int .u8 c] hc K f1) (hf2:∀ (c:Int) (hc:Heap) (K:aJ),(p2 c->K (.bool true) hc)->(¬ p2 c->K (.bool false) hc)->xW prog aH ov [.int .u8 c] hc K f2)
 (K:aJ) (jL:iP p1 p2 s->∀ h',Ext h h'->K (.bool true) h') (iJ:¬ iP p1 p2 s->∀ h',Ext h h'->K (.bool false) h'):Ok prog aH ov 79 [.string s,f1,f2] h K:=by
 rw [aw h]
 have z:=Ext.refl h
 refine Ok.aA 31 (bH N79) ?_
 simp only [aa,seval,sF]
 refine bS (λhe=>?_) (λhe=>?_)
 .simp only [aa,seval,sF]
  exact iJ (λx=>by have:=x.pos;rw [he] at this;exact absurd this (by decide)) _ z.av
 have tX:1<=s.size:=by
  apply Nat.lt_of_not_le
  intro hh
  apply he
  apply F5
  have h0:s.size=0:=by omega
  have:s.data.toList.length=0:=by rw [vu];exact h0
  rw [C8.1 this]
 simp only [aa,seval,sF]
 refine bS (λhl=>?_) (λhl=>?_)
 .simp only [aa,seval,sF]
  exact iJ (λx=>by have:=x.len;omega) _ z.av
 simp only [aa,seval,sF]
 refine FJ underlying9 rfl rfl (by omega) (by omega) ?_
 simp only [aa,seval,sF]
 refine UA _ _ _ (λg1=>?_) (λg1=>?_)
 rotate_left
 .repeat' (first|simp only [aa,seval,sF]|((with_reducible apply cf);(· rfl)))
  exact iJ (λx=>g1 (by simpa using x.first)) _ z.av
 repeat' (first|simp only [aa,seval,sF]|((with_reducible apply cf);(· rfl)))
 obtain ⟨I1,aX⟩:∃ I:Nat->Env->Heap->Prop,I=(λn e h'=>∃ (i:Nat) (h1:Heap),h'=h1.lay [] h1.low/\Ext h h1/\(n=s.size - i/\1<=i/\i<=s.size/\∀ j,1<=j->j < i->p2 (j5 s j))/\∃ J:Nat->ai,e=(.string s::J 1::f2::jr J 3 4 (.int .i64 i::jr J 8 26 ([])))):=⟨_,rfl⟩
 refine dN I1 _ (by rw [aX];exact ⟨1,_,rfl,z,⟨rfl,by omega,by omega,λj hj Ek=>by omega⟩,bo⟩) ?_
 intro n e h' aP
 rw [aX] at aP
 obtain ⟨i,bU,rfl,z,hinv,J,rfl⟩:=aP
 obtain ⟨rfl,hi1,hi,aB⟩:=hinv
 have hw:=eE i (by omega)
 simp only [aa,seval,sF]
 refine bS (λaT=>?_) (λaT=>?_)
 rotate_left
 .simp only [aa,seval,sF]
  exact jL ⟨tX,by omega,by simpa using g1,λj hj Ek=>aB j hj (by omega)⟩ _ z.av
 simp only [aa,seval,sF]
 refine FJ underlying9 rfl rfl (by omega) (by omega) ?_
 simp only [aa,seval,sF]
 refine hf2 _ _ _ (λg2=>?_) (λg2=>?_)
 .repeat' (first|simp only [aa,seval,sF]|((with_reducible apply cf);(· rfl)))
  rw [hw]
  have qp:∀ j,1<=j->j < i+1->p2 (j5 s j):=by
   intro j zZ hj
   by_cases na:j < i
   .exact aB j zZ na
   .have:j=i:=by omega
    subst this
    simpa using g2
  (rw [aX];with_reducible refine cF (m:=_) ?_ ⟨i+1,_,rfl,z,⟨rfl,by omega,by omega,qp⟩,bo⟩;omega)
 .repeat' (first|simp only [aa,seval,sF]|((with_reducible apply cf);(· rfl)))
  exact iJ (λx=>g2 (by simpa using x.more i hi1 (by omega))) _ z.av
theorem zxt (h:Heap) (dD:bl 1 h) (K:aJ) (hk:∀ h' w,Ext h h'->Sl aC.str h' w eD->K w h'):Ok prog aH ov 113 [] h K:=by
 rw [aw h]
 have z:=Ext.refl h
 refine Ok.aA 2 (bH ID) ?_
 simp only [aa,seval,Jm]
 refine Ok.over (g:=F3 1 9) rfl (zwy (dD.lay _ _)) ?_
 have hx:Ext (h.lay [] h.low) ((h.lay [] h.low).push (.row (eD.map Value.string) 9 false)):=Ext.push _ _
 have K1:Sl aC.str ((h.lay [] h.low).push (.row (eD.map Value.string) 9 false)) (.slice (some ⟨(h.lay [] h.low).size,0,none⟩) 8 8) eD:=zzH (w:=0)
 generalize (h.lay [] h.low).push (.row (eD.map Value.string) 9 false)=h2 at hx K1 ⊢
 replace z:=z.ao hx
 rw [aw h2]
 simp only [aa,seval,Jm]
 exact hk _ _ z.av (K1.lay _ _)
theorem zuH (l:List aU) (v:ai) (s:aU) (h:Heap) (hl:Sl aC.str h v l) (hs:l.length<=1000) (K:aJ)
 (hk:∀ h',Ext h h'->K (.int .i64 (nA (λx=>decide (s=x)) l)) h'):Ok prog aH ov 136 [v,.string s] h K:=by
 rw [aw h]
 have z:=Ext.refl h
 have dQ:=λ(hh:Heap)=>hl.bQ hY hh
 refine Ok.aA 17 (bH I6) ?_
 simp only [aa,seval,zA,dQ]
 obtain ⟨I1,aX⟩:∃ I:Nat->Env->Heap->Prop,I=(λn e h'=>∃ (i:Nat) (h1:Heap),h'=h1.lay [] h1.low/\Ext h h1/\(n=l.length - i/\i<=l.length/\∀ x∈l.take i,decide (s=x)=false)/\∃ J:Nat->ai,e=(v::.string s::jr J 2 5 (.int .i64 l.length::.int .i64 i::jr J 9 10 ([])))):=⟨_,rfl⟩
 refine dN I1 _ (by rw [aX];exact ⟨0,_,rfl,z,⟨rfl,by omega,by simp⟩,bo⟩) ?_
 intro n e h' aP
 rw [aX] at aP
 obtain ⟨i,bU,rfl,z,hinv,J,rfl⟩:=aP
 obtain ⟨rfl,hi,aB⟩:=hinv
 have hw:=eE i (by omega)
 simp only [aa,seval,zA]
 refine bS (λaT=>?_) (λaT=>?_)
 rotate_left
 .rw [gb (by omega)] at aB
  rw [Yp aB] at hk
  repeat' (simp only [aa,seval,zA])
  exact hk _ z.av
 obtain ⟨r,hr,cw⟩:=gC (l:=l) (i:=i) (by omega)
 repeat' (first|simp only [aa,seval,zA]|((with_reducible apply bS) <;> intro _)|with_reducible refine F7 (hl.mono z.inc) hY xD (by omega) hr (λp hp=>?_)|with_reducible refine qJ hp uO ?_)
 .rw [Ye cw aB (by simpa using (by assumption))] at hk
  exact hk _ z.av
 .rw [hw]
  (rw [aX];with_reducible refine cF (m:=_) ?_ ⟨i+1,_,rfl,z,⟨rfl,by omega,rY (i:=i) (P:=λx:aU=>decide (s=x)=false) cw aB (by simpa using (by assumption))⟩,bo⟩;omega)
theorem zg7 (l:List aU) (v:ai) (s:aU) (h:Heap) (hl:Sl aC.str h v l) (hs:l.length<=1000) (K:aJ)
 (hk:∀ h',Ext h h'->K (.bool (l.any λx=>decide (s=x))) h'):Ok prog aH ov 112 [v,.string s] h K:=by
 refine Ok.aA 7 (bH IC) ?_
 simp only [aa,seval,DA]
 refine zuH l v s h hl hs _ (λh' x=>?_)
 simp only [aa,seval,DA,YX]
 refine tj (λhh=>?_) (λhh=>?_)
 all_goals
  simp only [aa,seval,DA]
  rw [hh] at hk
  exact hk _ x
theorem zij (s:aU) (h:Heap) (dD:bl 1 h) (K:aJ) (h1:kX s->∀ h',Ext h h'->K (.bool true) h') (h2:¬ kX s->∀ h',Ext h h'->K (.bool false) h'):Ok prog aH ov 82 [.string s] h K:=by
 rw [aw h]
 have z:=Ext.refl h
 refine Ok.aA 5 (bH N82) ?_
 simp only [aa,seval,Oz]
 refine zxt _ (dD.lay _ _) _ (λh' w x sw=>?_)
 (replace z:=z.ao x;rw [aw h'])
 simp only [aa,seval,Oz]
 refine zg7 eD w s _ (sw.lay _ _) (by decide) _ (λh' x=>?_)
 (replace z:=z.ao x;rw [aw h'])
 rw [zzy] at h1 h2
 cases hd:eD.any λx=>decide (s=x)
 .simp only [aa,seval,Oz]
  exact h2 (λhm=>by rw [NN] at hd;exact hd s hm (by simp)) _ z.av
 .simp only [aa,seval,Oz]
  exact h1 (by obtain ⟨x,hx,e⟩:=Gi.1 hd;rw [of_decide_eq_true e];exact hx) _ z.av
theorem zsJ (s:aU) (h:Heap) (dD:bl 1 h) (K:aJ) (h1:qK s->∀ h',Ext h h'->K (.bool true) h') (h2:¬ qK s->∀ h',Ext h h'->K (.bool false) h'):Ok prog aH ov 44 [.string s] h K:=by
 rw [aw h]
 have z:=Ext.refl h
 rw [zxD] at h1 h2
 refine Ok.aA 9 (bH ZU) ?_
 simp only [aa,seval,Jv]
 refine XH s _ _ xQ pQ _ (λc hc K' a b=>by rw [yJ];exact X8 c hc K' a b) (λc hc K' a b=>by rw [yJ];exact Y8 c hc K' a b) _ (λg h' x=>?_) (λg h' x=>?_)
 ·(replace z:=z.ao x;rw [aw h'])
  repeat' (simp only [aa,seval,Jv])
  refine zij s _ ((dD.ext z).lay _ _) _ (λr h' x=>?_) (λr h' x=>?_)
  ·(replace z:=z.ao x;rw [aw h'])
   repeat' (first|simp only [aa,seval,Jv]|((with_reducible apply cf);(· rfl)))
   exact h2 (λq=>q.2 r) _ z.av
  ·(replace z:=z.ao x;rw [aw h'])
   repeat' (first|simp only [aa,seval,Jv]|((with_reducible apply cf);(· rfl)))
   exact h1 ⟨g,r⟩ _ z.av
 ·(replace z:=z.ao x;rw [aw h'])
  repeat' (simp only [aa,seval,Jv])
  exact h2 (λq=>g q.1) _ z.av
theorem zzk (s:aU) (h:Heap) (dD:bl 1 h) (K:aJ) (h1:qK s->∀ h',Ext h h'->K (.bool true) h') (h2:¬ qK s->∀ h',Ext h h'->K (.bool false) h'):Ok prog aH ov 45 [.string s] h K:=by
 rw [aw h]
 have z:=Ext.refl h
 refine Ok.aA 4 (bH ZV) ?_
 simp only [aa,seval,RI]
 refine zsJ s _ (dD.lay _ _) _ (λg h' x=>?_) (λg h' x=>?_)
 ·(replace z:=z.ao x;rw [aw h'])
  simp only [aa,seval,RI]
  exact h1 g _ z.av
 ·(replace z:=z.ao x;rw [aw h'])
  simp only [aa,seval,RI]
  exact h2 g _ z.av
theorem zxg (s:aU) (h:Heap) (dD:bl 1 h) (K:aJ) (h1:cJ s->∀ h',Ext h h'->K (.bool true) h') (h2:¬ cJ s->∀ h',Ext h h'->K (.bool false) h'):Ok prog aH ov 85 [.string s] h K:=by
 rw [aw h]
 have z:=Ext.refl h
 rw [zt4] at h1 h2
 refine Ok.aA 9 (bH N85) ?_
 simp only [aa,seval,Jw]
 refine XH s _ _ (λc=>xQ c\/Da c) pQ _ (λc hc K' a b=>by rw [yJ];exact zuD c hc K' a b) (λc hc K' a b=>by rw [yJ];exact Y8 c hc K' a b) _ (λg h' x=>?_) (λg h' x=>?_)
 ·(replace z:=z.ao x;rw [aw h'])
  repeat' (simp only [aa,seval,Jw])
  refine zij s _ ((dD.ext z).lay _ _) _ (λr h' x=>?_) (λr h' x=>?_)
  ·(replace z:=z.ao x;rw [aw h'])
   repeat' (first|simp only [aa,seval,Jw]|((with_reducible apply cf);(· rfl)))
   exact h2 (λq=>q.2 r) _ z.av
  ·(replace z:=z.ao x;rw [aw h'])
   repeat' (first|simp only [aa,seval,Jw]|((with_reducible apply cf);(· rfl)))
   exact h1 ⟨g,r⟩ _ z.av
 ·(replace z:=z.ao x;rw [aw h'])
  repeat' (simp only [aa,seval,Jw])
  exact h2 (λq=>g q.1) _ z.av
theorem zBQ (s:aU) (h:Heap) (K:aJ) (h1:qH s->∀ h',Ext h h'->K (.bool true) h') (h2:¬ qH s->∀ h',Ext h h'->K (.bool false) h'):Ok prog aH ov 84 [.string s] h K:=by
 rw [aw h]
 have z:=Ext.refl h
 rw [zz2] at h1 h2
 refine Ok.aA 4 (bH N84) ?_
 simp only [aa,seval,RQ]
 refine XH s _ _ Gc jx _ (λc hc K' a b=>by rw [yJ];exact zo8 c hc K' a b) (λc hc K' a b=>by rw [yJ];exact zzp c hc K' a b) _ (λg h' x=>?_) (λg h' x=>?_)
 ·(replace z:=z.ao x;rw [aw h'])
  simp only [aa,seval,RQ]
  exact h1 g _ z.av
 ·(replace z:=z.ao x;rw [aw h'])
  simp only [aa,seval,RQ]
  exact h2 g _ z.av
theorem zzm (t:ay) (h:Heap) (dD:bl 1 h) (K:aJ) (h1:dh t->∀ h',Ext h h'->K (.bool true) h') (h2:¬ dh t->∀ h',Ext h h'->K (.bool false) h'):Ok prog aH ov 49 [t.val] h K:=by
 rw [aw h]
 have z:=Ext.refl h
 rcases t with ⟨tv,ts⟩
 unfold dh at h1 h2
 cases tv
 .refine Ok.aA 10 (bH Q8) ?_
  repeat' (simp only [aa,seval,Oo,ay.val,ay.cells])
  refine zxg _ _ (dD.lay _ _) _ (λhs h' x=>?_) (λhs h' x=>?_)
  all_goals
   (replace z:=z.ao x;rw [aw h'])
   simp only [aa,seval,Oo]
   first
    |exact h1 hs _ z.av
    |exact h2 hs _ z.av
 .refine Ok.aA 10 (bH Q8) ?_
  repeat' (simp only [aa,seval,Oo,ay.val,ay.cells])
  refine zBQ _ _ _ (λhs h' x=>?_) (λhs h' x=>?_)
  all_goals
   (replace z:=z.ao x;rw [aw h'])
   simp only [aa,seval,Oo]
   first
    |exact h1 hs _ z.av
    |exact h2 hs _ z.av
open Classical in
noncomputable def oM (t:ay):Bool := !decide (dh t)
theorem zuA (t:ay) (h:Heap) (dD:bl 1 h) (K:aJ) (hk:∀ h',Ext h h'->K (.bool (oM t)) h'):Ok prog aH ov 48 [t.val] h K:=by
 rw [aw h]
 have z:=Ext.refl h
 refine Ok.aA 5 (bH ZY) ?_
 repeat' (simp only [aa,seval,RM,MT,↓YH,FT,xO])
 refine zzm t _ (dD.lay _ _) _ (λhs h' x=>?_) (λhs h' x=>?_)
 .have e:oM t=false:=by unfold oM;simp [hs]
  rw [e] at hk
  (replace z:=z.ao x;rw [aw h'])
  repeat' (first|simp only [aa,seval,RM]|((with_reducible apply cf);(· rfl)))
  exact hk _ z.av
 .have e:oM t=true:=by unfold oM;simp [hs]
  rw [e] at hk
  (replace z:=z.ao x;rw [aw h'])
  repeat' (first|simp only [aa,seval,RM]|((with_reducible apply cf);(· rfl)))
  exact hk _ z.av
end Go.Proofs.YtnkmeidmdaidhaaGreatDoor

/- Words by the program's own rules: as the document's. No condition. -/
import Derived.Test.YtjildadoepadeaaGreatDoorG29
set_option linter.unusedSimpArgs false
set_option linter.unusedVariables false
namespace Go.Am
variable {s:aA}
theorem aI.ext {g:Nat} {h h':Heap} (s:aI g h) (x:Ext h h'):aI g h':=Holds.ext s x
theorem aI.lay {g:Nat} {h:Heap} (s:aI g h) (bs:List bd) (w:Nat):aI g (h.lay bs w):=Holds.on s bs w
theorem aI.over {g:Nat} {h1 h2:Heap} {bs:List bd} {w:Nat} (s:aI g h1) (x:Ext (h1.lay bs w) h2):aI g h2:=Holds.over s x
def dj:List aA:=[⟨#[115,97,121,115]⟩,⟨#[105,102]⟩,⟨#[99,97,110,115,97,121]⟩,⟨#[112,114,105,110,99,105,112,97,108]⟩,⟨#[112,114,101,100]⟩,⟨#[99,108,101,97,114]⟩,⟨#[113,117,111,116,97]⟩,⟨#[98,117,100,103,101,116]⟩]
theorem zus:kl s↔s∈dj:=by
 unfold kl dj
 simp only [i0,List.not_mem_nil,or_false,eq_comm (a:=s)]
def jD:aA:=⟨#[115,97,121,115,32,105,102,32,99,97,110,115,97,121,32,112,114,105,110,99,105,112,97,108,32,112,114,101,100,32,99,108,101,97,114,32,113,117,111,116,97,32,98,117,100,103,101,116]⟩
theorem Se:oC jD.data.toList=dj.map Value.string:=by kernel_rfl
theorem zr2 {g st:Nat} {h:Heap} (hs:aI g h):y7 g st [.string jD] h=some (.slice (some ⟨h.size,0,none⟩) 8 8,h.push (.row (dj.map Value.string) st false)):=by
 unfold y7
 simp only
 rw [hs.get]
 simp only
 have e1:(oC jD.data.toList).length=8:=by rw [Se];rfl
 rw [aC (by
  rw [e1]
  have h1:jD.data.toList.all (λb=>Nat.blt b.toNat 128)=true:=by kernel_rfl
  have h2:Nat.blt jD.size 4294967281=true:=by kernel_rfl
  have h3:Nat.beq qd qd=true:=Nat.beq_refl _
  rw [h1,h2,h3]
  rfl),e1,Se]
theorem zuz {h:Heap} {st:TypeId} {w:Nat}:Sl aQ.str (h.push (.row (dj.map Value.string) st false)) (.slice (some ⟨h.size,0,none⟩) 8 8) dj:=by
 refine .inr ⟨h.size,0,8,dj.map Value.string,st,false,rfl,(by show 8<=maxLen;decide),.inl ⟨by decide,bg _⟩,by rw [Heap.size_push];omega,by rw [Heap.bX,aC rfl],λi x hx=>?_⟩
 refine ⟨[.string x],?_,rfl⟩
 have hi:i < 8:=(fB.1 hx).1
 have:i=0\/i=1\/i=2\/i=3\/i=4\/i=5\/i=6\/i=7:=by omega
 rcases this with rfl|rfl|rfl|rfl|rfl|rfl|rfl|rfl <;> (cases hx;rfl)
structure fF (first more:Int->Prop) (s:aA):Prop where
 pos:1<=s.size
 len:s.size<=255
 first:first (gG s 0)
 more:∀ i,1<=i->i < s.size->more (gG s i)
def sg (c:Int):Prop:=97<=c/\c<=122
def zh (c:Int):Prop:=65<=c/\c<=90
def wk (c:Int):Prop:=48<=c/\c<=57
theorem zsP:gh s↔fF sg mV s/\¬ kl s:=by
 constructor
 .rintro ⟨⟨h,hr⟩,hs⟩
  exact ⟨⟨h.pos,h.len,hs,λi _ hi=>h.all i hi⟩,hr⟩
 .rintro ⟨h,hr⟩
  have hf:=h.first
  unfold sg at hf
  refine ⟨⟨⟨h.pos,h.len,by omega,λi hi=>?_⟩,hr⟩,hf⟩
  by_cases pS:i=0
  .subst pS
   exact .inl hf
  .exact h.more i (by omega) hi
theorem zpX:eU s↔fF (λc=>sg c\/wk c) mV s/\¬ kl s:=by
 constructor
 .rintro ⟨h,hr⟩
  refine ⟨⟨h.pos,h.len,?_,λi _ hi=>h.all i hi⟩,hr⟩
  have h0:=h.all 0 h.pos
  have h1:=h.first
  unfold mV at h0
  rcases h0 with h0|h0|h0
  .exact .inl h0
  .exact .inr h0
  .exact absurd h0 h1
 .rintro ⟨h,hr⟩
  have hf:=h.first
  unfold sg wk at hf
  refine ⟨⟨h.pos,h.len,by omega,λi hi=>?_⟩,hr⟩
  by_cases pS:i=0
  .subst pS
   rcases hf with hf|hf
   .exact .inl hf
   .exact .inr (.inl hf)
  .exact h.more i (by omega) hi
theorem zuO:pq s↔fF zh iB s:=by
 constructor
 .intro h
  exact ⟨h.pos,h.len,h.first,λi _ hi=>h.all i hi⟩
 .intro h
  refine ⟨h.pos,h.len,h.first,λi hi=>?_⟩
  by_cases pS:i=0
  .subst pS
   exact .inr (.inl h.first)
  .exact h.more i (by omega) hi
end Go.Am
namespace Go.Proofs.YtjildadoepadeaaGreatDoor
open Go.Am Tryz
set_option maxRecDepth 100000
set_option maxHeartbeats 0
theorem Nk (c:Int) (h:Heap) (K:aF) (h1:sg c->K (.bool true) h) (h2:¬ sg c->K (.bool false) h):Ok prog az ov 170 [.int .u8 c] h K:=by
 unfold sg at h1 h2
 refine Ok.au 8 (br BV) ?_
 simp only [aa,seval,CG]
 repeat' (refine bp (λc=>?_) (λc=>?_) <;> simp only [aa,seval,CG])
 all_goals first|exact h1 (by omega)|exact h2 (by omega)
theorem Ta (c:Int) (h:Heap) (K:aF) (h1:zh c->K (.bool true) h) (h2:¬ zh c->K (.bool false) h):Ok prog az ov 254 [.int .u8 c] h K:=by
 unfold zh at h1 h2
 refine Ok.au 8 (br Cl) ?_
 simp only [aa,seval,CN]
 repeat' (refine bp (λc=>?_) (λc=>?_) <;> simp only [aa,seval,CN])
 all_goals first|exact h1 (by omega)|exact h2 (by omega)
theorem S9 (c:Int) (h:Heap) (K:aF) (h1:wk c->K (.bool true) h) (h2:¬ wk c->K (.bool false) h):Ok prog az ov 215 [.int .u8 c] h K:=by
 unfold wk at h1 h2
 refine Ok.au 8 (br Ca) ?_
 simp only [aa,seval,CJ]
 repeat' (refine bp (λc=>?_) (λc=>?_) <;> simp only [aa,seval,CJ])
 all_goals first|exact h1 (by omega)|exact h2 (by omega)
theorem N6 (c:Int) (h:Heap) (K:aF) (h1:mV c->K (.bool true) h) (h2:¬ mV c->K (.bool false) h):Ok prog az ov 171 [.int .u8 c] h K:=by
 unfold mV at h1 h2
 refine Ok.au 12 (br BW) ?_
 simp only [aa,seval,m9]
 refine Nk c _ _ (λg1=>?_) (λg1=>?_)
 .simp only [aa,seval,m9]
  exact h1 (.inl g1)
 simp only [aa,seval,m9]
 refine S9 c _ _ (λg2=>?_) (λg2=>?_)
 .simp only [aa,seval,m9]
  exact h1 (.inr (.inl g2))
 simp only [aa,seval,m9]
 refine sj (λg3=>?_) (λg3=>?_)
 .simp only [aa,seval,m9]
  exact h1 (.inr (.inr g3))
 .simp only [aa,seval,m9]
  exact h2 (λg=>g.elim g1 (λg=>g.elim g2 g3))
theorem zqq (c:Int) (h:Heap) (K:aF) (h1:(sg c\/wk c)->K (.bool true) h) (h2:¬ (sg c\/wk c)->K (.bool false) h):Ok prog az ov 256 [.int .u8 c] h K:=by
 refine Ok.au 8 (br Cn) ?_
 simp only [aa,seval,qx]
 refine Nk c _ _ (λg1=>?_) (λg1=>?_)
 .simp only [aa,seval,qx]
  exact h1 (.inl g1)
 simp only [aa,seval,qx]
 refine S9 c _ _ (λg2=>?_) (λg2=>?_)
 .simp only [aa,seval,qx]
  exact h1 (.inr g2)
 .simp only [aa,seval,qx]
  exact h2 (λg=>g.elim g1 g2)
theorem zuk (c:Int) (h:Heap) (K:aF) (h1:iB c->K (.bool true) h) (h2:¬ iB c->K (.bool false) h):Ok prog az ov 255 [.int .u8 c] h K:=by
 refine Ok.au 8 (br Cm) ?_
 simp only [aa,seval,qw]
 refine N6 c _ _ (λg1=>?_) (λg1=>?_)
 .simp only [aa,seval,qw]
  exact h1 (by unfold mV at g1;unfold iB;omega)
 simp only [aa,seval,qw]
 refine Ta c _ _ (λg2=>?_) (λg2=>?_)
 .simp only [aa,seval,qw]
  exact h1 (by unfold zh at g2;unfold iB;omega)
 .simp only [aa,seval,qw]
  exact h2 (by unfold mV at g1;unfold zh at g2;unfold iB;omega)
theorem MW (s:aA) (f1 f2:ai) (p1 p2:Int->Prop) (h:Heap) (VM:∀ (c:Int) (hc:Heap) (K:aF),(p1 c->K (.bool true) hc)->(¬ p1 c->K (.bool false) hc)->qh prog az ov [.int .u8 c] hc K f1) (VN:∀ (c:Int) (hc:Heap) (K:aF),(p2 c->K (.bool true) hc)->(¬ p2 c->K (.bool false) hc)->qh prog az ov [.int .u8 c] hc K f2)
 (K:aF) (ea:fF p1 p2 s->∀ h',Ext h h'->K (.bool true) h') (gR:¬ fF p1 p2 s->∀ h',Ext h h'->K (.bool false) h'):Ok prog az ov 169 [.string s,f1,f2] h K:=by
 rw [ak h]
 have z:=Ext.refl h
 refine Ok.au 31 (br BU) ?_
 simp only [aa,seval,gO]
 refine bp (λhe=>?_) (λhe=>?_)
 .simp only [aa,seval,gO]
  exact gR (λx=>by have:=x.pos;rw [he] at this;exact absurd this (by decide)) _ z.ao
 have ye:1<=s.size:=by
  apply Nat.lt_of_not_le
  intro hh
  apply he
  apply Gz
  have h0:s.size=0:=by omega
  have:s.data.toList.length=0:=by rw [nT];exact h0
  rw [H7.1 this]
 simp only [aa,seval,gO]
 refine bp (λhl=>?_) (λhl=>?_)
 .simp only [aa,seval,gO]
  exact gR (λx=>by have:=x.len;omega) _ z.ao
 simp only [aa,seval,gO]
 refine pE underlying9 rfl rfl (by omega) (by omega) ?_
 simp only [aa,seval,gO]
 refine VM _ _ _ (λg1=>?_) (λg1=>?_)
 rotate_left
 .repeat' (first|simp only [aa,seval,gO]|((with_reducible apply bK);(· rfl)))
  exact gR (λx=>g1 (by simpa using x.first)) _ z.ao
 repeat' (first|simp only [aa,seval,gO]|((with_reducible apply bK);(· rfl)))
 obtain ⟨I1,aU⟩:∃ I:Nat->Env->Heap->Prop,I=(λn e h'=>∃ (i:Nat) (h1:Heap),h'=h1.lay [] h1.low/\Ext h h1/\(n=s.size - i/\1<=i/\i<=s.size/\∀ j,1<=j->j < i->p2 (gG s j))/\∃ J:Nat->ai,e=(.string s::J 1::f2::jr J 3 4 (.int .i64 i::jr J 8 26 ([])))):=⟨_,rfl⟩
 refine dK I1 _ (by rw [aU];exact ⟨1,_,rfl,z,⟨rfl,by omega,by omega,λj hj xU=>by omega⟩,bx⟩) ?_
 intro n e h' aR
 rw [aU] at aR
 obtain ⟨i,b8,rfl,z,hinv,J,rfl⟩:=aR
 obtain ⟨rfl,VW,hi,aq⟩:=hinv
 have hw:=ec i (by omega)
 simp only [aa,seval,gO]
 refine bp (λaS=>?_) (λaS=>?_)
 rotate_left
 .simp only [aa,seval,gO]
  exact ea ⟨ye,by omega,by simpa using g1,λj hj xU=>aq j hj (by omega)⟩ _ z.ao
 simp only [aa,seval,gO]
 refine pE underlying9 rfl rfl (by omega) (by omega) ?_
 simp only [aa,seval,gO]
 refine VN _ _ _ (λg2=>?_) (λg2=>?_)
 .repeat' (first|simp only [aa,seval,gO]|((with_reducible apply bK);(· rfl)))
  rw [hw]
  have nB:∀ j,1<=j->j < i+1->p2 (gG s j):=by
   intro j re hj
   by_cases lh:j < i
   .exact aq j re lh
   .have:j=i:=by omega
    subst this
    simpa using g2
  (rw [aU];with_reducible refine db (m:=_) ?_ ⟨i+1,_,rfl,z,⟨rfl,by omega,by omega,nB⟩,bx⟩;omega)
 .repeat' (first|simp only [aa,seval,gO]|((with_reducible apply bK);(· rfl)))
  exact gR (λx=>g2 (by simpa using x.more i VW (by omega))) _ z.ao
theorem zsK (h:Heap) (bJ:aI 1 h) (K:aF) (hk:∀ h' w,Ext h h'->Sl aQ.str h' w dj->K w h'):Ok prog az ov 216 [] h K:=by
 rw [ak h]
 have z:=Ext.refl h
 refine Ok.au 2 (br Cb) ?_
 simp only [aa,seval,CK]
 refine Ok.over (g:=y7 1 9) rfl (zr2 (bJ.lay _ _)) ?_
 have hx:Ext (h.lay [] h.low) ((h.lay [] h.low).push (.row (dj.map Value.string) 9 false)):=Ext.push _ _
 have Qp:Sl aQ.str ((h.lay [] h.low).push (.row (dj.map Value.string) 9 false)) (.slice (some ⟨(h.lay [] h.low).size,0,none⟩) 8 8) dj:=zuz (w:=0)
 generalize (h.lay [] h.low).push (.row (dj.map Value.string) 9 false)=h2 at hx Qp ⊢
 replace z:=z.aj hx
 rw [ak h2]
 simp only [aa,seval,CK]
 exact hk _ _ z.ao (Qp.lay _ _)
theorem zqt (l:List aA) (v:ai) (s:aA) (h:Heap) (hl:Sl aQ.str h v l) (hs:l.length<=1000) (K:aF)
 (hk:∀ h',Ext h h'->K (.int .i64 (ka (λx=>decide (s=x)) l)) h'):Ok prog az ov 157 [v,.string s] h K:=by
 rw [ak h]
 have z:=Ext.refl h
 have cO:=λ(hh:Heap)=>hl.bE dp hh
 refine Ok.au 17 (br BJ) ?_
 simp only [aa,seval,tp,cO]
 obtain ⟨I1,aU⟩:∃ I:Nat->Env->Heap->Prop,I=(λn e h'=>∃ (i:Nat) (h1:Heap),h'=h1.lay [] h1.low/\Ext h h1/\(n=l.length - i/\i<=l.length/\∀ x∈l.take i,decide (s=x)=false)/\∃ J:Nat->ai,e=(v::.string s::jr J 2 5 (.int .i64 l.length::.int .i64 i::jr J 9 10 ([])))):=⟨_,rfl⟩
 refine dK I1 _ (by rw [aU];exact ⟨0,_,rfl,z,⟨rfl,by omega,by simp⟩,bx⟩) ?_
 intro n e h' aR
 rw [aU] at aR
 obtain ⟨i,b8,rfl,z,hinv,J,rfl⟩:=aR
 obtain ⟨rfl,hi,aq⟩:=hinv
 have hw:=ec i (by omega)
 simp only [aa,seval,tp]
 refine bp (λaS=>?_) (λaS=>?_)
 rotate_left
 .rw [i9 (by omega)] at aq
  rw [Ns aq] at hk
  repeat' (simp only [aa,seval,tp])
  exact hk _ z.ao
 obtain ⟨r,hr,bz⟩:=fx (l:=l) (i:=i) (by omega)
 repeat' (first|simp only [aa,seval,tp]|((with_reducible apply bp) <;> intro _)|with_reducible refine sd (hl.mono z.inc) dp mD (by omega) hr (λp hp=>?_)|with_reducible refine iF hp lG ?_)
 .rw [Ni bz aq (by simpa using (by assumption))] at hk
  exact hk _ z.ao
 .rw [hw]
  (rw [aU];with_reducible refine db (m:=_) ?_ ⟨i+1,_,rfl,z,⟨rfl,by omega,mS (i:=i) (P:=λx:aA=>decide (s=x)=false) bz aq (by simpa using (by assumption))⟩,bx⟩;omega)
theorem FT (l:List aA) (v:ai) (s:aA) (h:Heap) (hl:Sl aQ.str h v l) (hs:l.length<=1000) (K:aF)
 (hk:∀ h',Ext h h'->K (.bool (l.any λx=>decide (s=x))) h'):Ok prog az ov 91 [v,.string s] h K:=by
 refine Ok.au 7 (br Pu) ?_
 simp only [aa,seval,JB]
 refine zqt l v s h hl hs _ (λh' x=>?_)
 simp only [aa,seval,JB,Og]
 refine I6 (λhh=>?_) (λhh=>?_)
 all_goals
  simp only [aa,seval,JB]
  rw [hh] at hk
  exact hk _ x
theorem R8 (s:aA) (h:Heap) (bJ:aI 1 h) (K:aF) (h1:kl s->∀ h',Ext h h'->K (.bool true) h') (h2:¬ kl s->∀ h',Ext h h'->K (.bool false) h'):Ok prog az ov 172 [.string s] h K:=by
 rw [ak h]
 have z:=Ext.refl h
 refine Ok.au 5 (br BX) ?_
 simp only [aa,seval,tt]
 refine zsK _ (bJ.lay _ _) _ (λh' w x sw=>?_)
 (replace z:=z.aj x;rw [ak h'])
 simp only [aa,seval,tt]
 refine FT dj w s _ (sw.lay _ _) (by decide) _ (λh' x=>?_)
 (replace z:=z.aj x;rw [ak h'])
 rw [zus] at h1 h2
 cases hd:dj.any λx=>decide (s=x)
 .simp only [aa,seval,tt]
  exact h2 (λhm=>by rw [uN] at hd;exact hd s hm (by simp)) _ z.ao
 .simp only [aa,seval,tt]
  exact h1 (by obtain ⟨x,hx,e⟩:=oI.1 hd;rw [of_decide_eq_true e];exact hx) _ z.ao
theorem Ii (s:aA) (h:Heap) (bJ:aI 1 h) (K:aF) (h1:gh s->∀ h',Ext h h'->K (.bool true) h') (h2:¬ gh s->∀ h',Ext h h'->K (.bool false) h'):Ok prog az ov 107 [.string s] h K:=by
 rw [ak h]
 have z:=Ext.refl h
 rw [zsP] at h1 h2
 refine Ok.au 9 (br Bw) ?_
 simp only [aa,seval,qs]
 refine MW s _ _ sg mV _ (λc hc K' a b=>by rw [nK];exact Nk c hc K' a b) (λc hc K' a b=>by rw [nK];exact N6 c hc K' a b) _ (λg h' x=>?_) (λg h' x=>?_)
 ·(replace z:=z.aj x;rw [ak h'])
  repeat' (simp only [aa,seval,qs])
  refine R8 s _ ((bJ.ext z).lay _ _) _ (λr h' x=>?_) (λr h' x=>?_)
  ·(replace z:=z.aj x;rw [ak h'])
   repeat' (first|simp only [aa,seval,qs]|((with_reducible apply bK);(· rfl)))
   exact h2 (λq=>q.2 r) _ z.ao
  ·(replace z:=z.aj x;rw [ak h'])
   repeat' (first|simp only [aa,seval,qs]|((with_reducible apply bK);(· rfl)))
   exact h1 ⟨g,r⟩ _ z.ao
 ·(replace z:=z.aj x;rw [ak h'])
  repeat' (simp only [aa,seval,qs])
  exact h2 (λq=>g q.1) _ z.ao
theorem NM (s:aA) (h:Heap) (bJ:aI 1 h) (K:aF) (h1:gh s->∀ h',Ext h h'->K (.bool true) h') (h2:¬ gh s->∀ h',Ext h h'->K (.bool false) h'):Ok prog az ov 108 [.string s] h K:=by
 rw [ak h]
 have z:=Ext.refl h
 refine Ok.au 4 (br Bx) ?_
 simp only [aa,seval,wW]
 refine Ii s _ (bJ.lay _ _) _ (λg h' x=>?_) (λg h' x=>?_)
 ·(replace z:=z.aj x;rw [ak h'])
  simp only [aa,seval,wW]
  exact h1 g _ z.ao
 ·(replace z:=z.aj x;rw [ak h'])
  simp only [aa,seval,wW]
  exact h2 g _ z.ao
theorem zsx (s:aA) (h:Heap) (bJ:aI 1 h) (K:aF) (h1:eU s->∀ h',Ext h h'->K (.bool true) h') (h2:¬ eU s->∀ h',Ext h h'->K (.bool false) h'):Ok prog az ov 223 [.string s] h K:=by
 rw [ak h]
 have z:=Ext.refl h
 rw [zpX] at h1 h2
 refine Ok.au 9 (br Ce) ?_
 simp only [aa,seval,qv]
 refine MW s _ _ (λc=>sg c\/wk c) mV _ (λc hc K' a b=>by rw [nK];exact zqq c hc K' a b) (λc hc K' a b=>by rw [nK];exact N6 c hc K' a b) _ (λg h' x=>?_) (λg h' x=>?_)
 ·(replace z:=z.aj x;rw [ak h'])
  repeat' (simp only [aa,seval,qv])
  refine R8 s _ ((bJ.ext z).lay _ _) _ (λr h' x=>?_) (λr h' x=>?_)
  ·(replace z:=z.aj x;rw [ak h'])
   repeat' (first|simp only [aa,seval,qv]|((with_reducible apply bK);(· rfl)))
   exact h2 (λq=>q.2 r) _ z.ao
  ·(replace z:=z.aj x;rw [ak h'])
   repeat' (first|simp only [aa,seval,qv]|((with_reducible apply bK);(· rfl)))
   exact h1 ⟨g,r⟩ _ z.ao
 ·(replace z:=z.aj x;rw [ak h'])
  repeat' (simp only [aa,seval,qv])
  exact h2 (λq=>g q.1) _ z.ao
theorem zwr (s:aA) (h:Heap) (K:aF) (h1:pq s->∀ h',Ext h h'->K (.bool true) h') (h2:¬ pq s->∀ h',Ext h h'->K (.bool false) h'):Ok prog az ov 222 [.string s] h K:=by
 rw [ak h]
 have z:=Ext.refl h
 rw [zuO] at h1 h2
 refine Ok.au 4 (br Cd) ?_
 simp only [aa,seval,w8]
 refine MW s _ _ zh iB _ (λc hc K' a b=>by rw [nK];exact Ta c hc K' a b) (λc hc K' a b=>by rw [nK];exact zuk c hc K' a b) _ (λg h' x=>?_) (λg h' x=>?_)
 ·(replace z:=z.aj x;rw [ak h'])
  simp only [aa,seval,w8]
  exact h1 g _ z.ao
 ·(replace z:=z.aj x;rw [ak h'])
  simp only [aa,seval,w8]
  exact h2 g _ z.ao
theorem zui (t:aH) (h:Heap) (bJ:aI 1 h) (K:aF) (h1:cC t->∀ h',Ext h h'->K (.bool true) h') (h2:¬ cC t->∀ h',Ext h h'->K (.bool false) h'):Ok prog az ov 187 [t.val] h K:=by
 rw [ak h]
 have z:=Ext.refl h
 rcases t with ⟨tv,ts⟩
 unfold cC at h1 h2
 cases tv
 .refine Ok.au 10 (br wJ) ?_
  repeat' (simp only [aa,seval,tu,aH.val,aH.cells])
  refine zsx _ _ (bJ.lay _ _) _ (λhs h' x=>?_) (λhs h' x=>?_)
  all_goals
   (replace z:=z.aj x;rw [ak h'])
   simp only [aa,seval,tu]
   first
    |exact h1 hs _ z.ao
    |exact h2 hs _ z.ao
 .refine Ok.au 10 (br wJ) ?_
  repeat' (simp only [aa,seval,tu,aH.val,aH.cells])
  refine zwr _ _ _ (λhs h' x=>?_) (λhs h' x=>?_)
  all_goals
   (replace z:=z.aj x;rw [ak h'])
   simp only [aa,seval,tu]
   first
    |exact h1 hs _ z.ao
    |exact h2 hs _ z.ao
open Classical in
noncomputable def jf (t:aH):Bool := !decide (cC t)
theorem SQ (t:aH) (h:Heap) (bJ:aI 1 h) (K:aF) (hk:∀ h',Ext h h'->K (.bool (jf t)) h'):Ok prog az ov 186 [t.val] h K:=by
 rw [ak h]
 have z:=Ext.refl h
 refine Ok.au 5 (br B4) ?_
 repeat' (simp only [aa,seval,w6,zpS,↓ztB,ztn,Az])
 refine zui t _ (bJ.lay _ _) _ (λhs h' x=>?_) (λhs h' x=>?_)
 .have e:jf t=false:=by unfold jf;simp [hs]
  rw [e] at hk
  (replace z:=z.aj x;rw [ak h'])
  repeat' (first|simp only [aa,seval,w6]|((with_reducible apply bK);(· rfl)))
  exact hk _ z.ao
 .have e:jf t=true:=by unfold jf;simp [hs]
  rw [e] at hk
  (replace z:=z.aj x;rw [ak h'])
  repeat' (first|simp only [aa,seval,w6]|((with_reducible apply bK);(· rfl)))
  exact hk _ z.ao
end Go.Proofs.YtjildadoepadeaaGreatDoor

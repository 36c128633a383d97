/- Words by the program's own rules: as the document's. No condition. -/
import Derived.Test.YtmamldleclamjaaGreatDoorG22
set_option linter.unusedSimpArgs false
set_option linter.unusedVariables false
namespace Go.Am
variable {s:au}
theorem bc.ext {g:Nat} {h h':Heap} (s:bc g h) (x:Ext h h'):bc g h':=Holds.ext s x
theorem bc.lay {g:Nat} {h:Heap} (s:bc g h) (bs:List ba) (w:Nat):bc g (h.lay bs w):=Holds.on s bs w
theorem bc.over {g:Nat} {h1 h2:Heap} {bs:List ba} {w:Nat} (s:bc g h1) (x:Ext (h1.lay bs w) h2):bc g h2:=Holds.over s x
def eO:List au:=[⟨#[115,97,121,115]⟩,⟨#[105,102]⟩,⟨#[99,97,110,115,97,121]⟩,⟨#[112,114,105,110,99,105,112,97,108]⟩,⟨#[112,114,101,100]⟩,⟨#[99,108,101,97,114]⟩,⟨#[113,117,111,116,97]⟩,⟨#[98,117,100,103,101,116]⟩]
theorem zzF:oA s↔s∈eO:=by
 unfold oA eO
 simp only [cJ,we,or_false,eq_comm (a:=s)]
def np:au:=⟨#[115,97,121,115,32,105,102,32,99,97,110,115,97,121,32,112,114,105,110,99,105,112,97,108,32,112,114,101,100,32,99,108,101,97,114,32,113,117,111,116,97,32,98,117,100,103,101,116]⟩
theorem zig:uq np.data.toList=eO.map Value.string:=by kernel_rfl
theorem zwp {g st:Nat} {h:Heap} (hs:bc g h):He g st [.string np] h=some (.slice (some ⟨h.size,0,none⟩) 8 8,h.push (.row (eO.map Value.string) st false)):=by
 unfold He
 simp only
 rw [hs.get]
 simp only
 have e1:(uq np.data.toList).length=8:=by rw [zig];rfl
 rw [aB (by
  rw [e1]
  have h1:np.data.toList.all (λb=>Nat.blt b.toNat 128)=true:=by kernel_rfl
  have h2:Nat.blt np.size 4294967281=true:=by kernel_rfl
  have h3:Nat.beq wL wL=true:=Nat.beq_refl _
  rw [h1,h2,h3]
  rfl),e1,zig]
theorem zzP {h:Heap} {st:TypeId} {w:Nat}:Sl aK.str (h.push (.row (eO.map Value.string) st false)) (.slice (some ⟨h.size,0,none⟩) 8 8) eO:=by
 refine .inr ⟨h.size,0,8,eO.map Value.string,st,false,rfl,(by show 8<=maxLen;decide),.inl ⟨by decide,bo _⟩,by rw [Heap.size_push];omega,by rw [Heap.bC,aB rfl],λi x hx=>?_⟩
 refine ⟨[.string x],?_,rfl⟩
 have hi:i < 8:=(dH.1 hx).1
 have:i=0\/i=1\/i=2\/i=3\/i=4\/i=5\/i=6\/i=7:=by omega
 rcases this with rfl|rfl|rfl|rfl|rfl|rfl|rfl|rfl <;> (cases hx;rfl)
structure jm (first more:Int->Prop) (s:au):Prop where
 pos:1<=s.size
 len:s.size<=255
 first:first (lQ s 0)
 more:∀ i,1<=i->i < s.size->more (lQ s i)
def zc (c:Int):Prop:=97<=c/\c<=122
def Hl (c:Int):Prop:=65<=c/\c<=90
def DI (c:Int):Prop:=48<=c/\c<=57
theorem zxC:jZ s↔jm zc qB s/\¬ oA s:=by
 constructor
 .rintro ⟨⟨h,hr⟩,hs⟩
  exact ⟨⟨h.pos,h.len,hs,λi _ hi=>h.all i hi⟩,hr⟩
 .rintro ⟨h,hr⟩
  have hf:=h.first
  unfold zc at hf
  refine ⟨⟨⟨h.pos,h.len,by omega,λi hi=>?_⟩,hr⟩,hf⟩
  by_cases sU:i=0
  .subst sU
   exact .inl hf
  .exact h.more i (by omega) hi
theorem ztK:gd s↔jm (λc=>zc c\/DI c) qB s/\¬ oA s:=by
 constructor
 .rintro ⟨h,hr⟩
  refine ⟨⟨h.pos,h.len,?_,λi _ hi=>h.all i hi⟩,hr⟩
  have h0:=h.all 0 h.pos
  have h1:=h.first
  unfold qB at h0
  rcases h0 with h0|h0|h0
  .exact .inl h0
  .exact .inr h0
  .exact absurd h0 h1
 .rintro ⟨h,hr⟩
  have hf:=h.first
  unfold zc DI at hf
  refine ⟨⟨h.pos,h.len,by omega,λi hi=>?_⟩,hr⟩
  by_cases sU:i=0
  .subst sU
   rcases hf with hf|hf
   .exact .inl hf
   .exact .inr (.inl hf)
  .exact h.more i (by omega) hi
theorem zAa:vF s↔jm Hl k9 s:=by
 constructor
 .intro h
  exact ⟨h.pos,h.len,h.first,λi _ hi=>h.all i hi⟩
 .intro h
  refine ⟨h.pos,h.len,h.first,λi hi=>?_⟩
  by_cases sU:i=0
  .subst sU
   exact .inr (.inl h.first)
  .exact h.more i (by omega) hi
end Go.Am
namespace Go.Proofs.YtmamldleclamjaaGreatDoor
open Go.Am Tryz
set_option maxRecDepth 100000
set_option maxHeartbeats 0
theorem zj3 (c:Int) (h:Heap) (K:aI) (h1:zc c->K (.bool true) h) (h2:¬ zc c->K (.bool false) h):Ok prog aG ov 117 [.int .u8 c] h K:=by
 unfold zc at h1 h2
 refine Ok.aw 8 (bu J8) ?_
 simp only [aa,seval,Lb]
 repeat' (refine bq (λc=>?_) (λc=>?_) <;> simp only [aa,seval,Lb])
 all_goals first|exact h1 (by omega)|exact h2 (by omega)
theorem zpg (c:Int) (h:Heap) (K:aI) (h1:Hl c->K (.bool true) h) (h2:¬ Hl c->K (.bool false) h):Ok prog aG ov 174 [.int .u8 c] h K:=by
 unfold Hl at h1 h2
 refine Ok.aw 8 (bu KL) ?_
 simp only [aa,seval,Lm]
 repeat' (refine bq (λc=>?_) (λc=>?_) <;> simp only [aa,seval,Lm])
 all_goals first|exact h1 (by omega)|exact h2 (by omega)
theorem zpe (c:Int) (h:Heap) (K:aI) (h1:DI c->K (.bool true) h) (h2:¬ DI c->K (.bool false) h):Ok prog aG ov 144 [.int .u8 c] h K:=by
 unfold DI at h1 h2
 refine Ok.aw 8 (bu Kw) ?_
 simp only [aa,seval,Li]
 repeat' (refine bq (λc=>?_) (λc=>?_) <;> simp only [aa,seval,Li])
 all_goals first|exact h1 (by omega)|exact h2 (by omega)
theorem zrb (c:Int) (h:Heap) (K:aI) (h1:qB c->K (.bool true) h) (h2:¬ qB c->K (.bool false) h):Ok prog aG ov 118 [.int .u8 c] h K:=by
 unfold qB at h1 h2
 refine Ok.aw 12 (bu J9) ?_
 simp only [aa,seval,sF]
 refine zj3 c _ _ (λg1=>?_) (λg1=>?_)
 .simp only [aa,seval,sF]
  exact h1 (.inl g1)
 simp only [aa,seval,sF]
 refine zpe c _ _ (λg2=>?_) (λg2=>?_)
 .simp only [aa,seval,sF]
  exact h1 (.inr (.inl g2))
 simp only [aa,seval,sF]
 refine qh (λg3=>?_) (λg3=>?_)
 .simp only [aa,seval,sF]
  exact h1 (.inr (.inr g3))
 .simp only [aa,seval,sF]
  exact h2 (λg=>g.elim g1 (λg=>g.elim g2 g3))
theorem zul (c:Int) (h:Heap) (K:aI) (h1:(zc c\/DI c)->K (.bool true) h) (h2:¬ (zc c\/DI c)->K (.bool false) h):Ok prog aG ov 176 [.int .u8 c] h K:=by
 refine Ok.aw 8 (bu KN) ?_
 simp only [aa,seval,xo]
 refine zj3 c _ _ (λg1=>?_) (λg1=>?_)
 .simp only [aa,seval,xo]
  exact h1 (.inl g1)
 simp only [aa,seval,xo]
 refine zpe c _ _ (λg2=>?_) (λg2=>?_)
 .simp only [aa,seval,xo]
  exact h1 (.inr g2)
 .simp only [aa,seval,xo]
  exact h2 (λg=>g.elim g1 g2)
theorem zzv (c:Int) (h:Heap) (K:aI) (h1:k9 c->K (.bool true) h) (h2:¬ k9 c->K (.bool false) h):Ok prog aG ov 175 [.int .u8 c] h K:=by
 refine Ok.aw 8 (bu KM) ?_
 simp only [aa,seval,xm]
 refine zrb c _ _ (λg1=>?_) (λg1=>?_)
 .simp only [aa,seval,xm]
  exact h1 (by unfold qB at g1;unfold k9;omega)
 simp only [aa,seval,xm]
 refine zpg c _ _ (λg2=>?_) (λg2=>?_)
 .simp only [aa,seval,xm]
  exact h1 (by unfold Hl at g2;unfold k9;omega)
 .simp only [aa,seval,xm]
  exact h2 (by unfold qB at g1;unfold Hl at g2;unfold k9;omega)
theorem zgi (s:au) (f1 f2:ah) (p1 p2:Int->Prop) (h:Heap) (Mr:∀ (c:Int) (hc:Heap) (K:aI),(p1 c->K (.bool true) hc)->(¬ p1 c->K (.bool false) hc)->vY prog aG ov [.int .u8 c] hc K f1) (hf2:∀ (c:Int) (hc:Heap) (K:aI),(p2 c->K (.bool true) hc)->(¬ p2 c->K (.bool false) hc)->vY prog aG ov [.int .u8 c] hc K f2)
 (K:aI) (sL:jm p1 p2 s->∀ h',Ext h h'->K (.bool true) h') (kS:¬ jm p1 p2 s->∀ h',Ext h h'->K (.bool false) h'):Ok prog aG ov 116 [.string s,f1,f2] h K:=by
 rw [ao h]
 have z:=Ext.refl h
 refine Ok.aw 31 (bu J7) ?_
 simp only [aa,seval,kO]
 refine bq (λhe=>?_) (λhe=>?_)
 .simp only [aa,seval,kO]
  exact kS (λx=>by have:=x.pos;rw [he] at this;exact absurd this (by decide)) _ z.aC
 have k6:1<=s.size:=by
  apply Nat.lt_of_not_le
  intro hh
  apply he
  apply Hn
  have h0:s.size=0:=by omega
  have:s.data.toList.length=0:=by rw [rD];exact h0
  rw [Ai.1 this]
 simp only [aa,seval,kO]
 refine bq (λhl=>?_) (λhl=>?_)
 .simp only [aa,seval,kO]
  exact kS (λx=>by have:=x.len;omega) _ z.aC
 simp only [aa,seval,kO]
 refine GZ underlying9 rfl rfl (by omega) (by omega) ?_
 simp only [aa,seval,kO]
 refine Mr _ _ _ (λg1=>?_) (λg1=>?_)
 rotate_left
 .repeat' (first|simp only [aa,seval,kO]|((with_reducible apply ct);(· rfl)))
  exact kS (λx=>g1 (by simpa using x.first)) _ z.aC
 repeat' (first|simp only [aa,seval,kO]|((with_reducible apply ct);(· rfl)))
 obtain ⟨I1,aX⟩:∃ I:Nat->Env->Heap->Prop,I=(λn e h'=>∃ (i:Nat) (h1:Heap),h'=h1.lay [] h1.low/\Ext h h1/\(n=s.size - i/\1<=i/\i<=s.size/\∀ j,1<=j->j < i->p2 (lQ s j))/\∃ J:Nat->ah,e=(.string s::J 1::f2::jr J 3 4 (.int .i64 i::jr J 8 26 ([])))):=⟨_,rfl⟩
 refine du I1 _ (by rw [aX];exact ⟨1,_,rfl,z,⟨rfl,by omega,by omega,λj hj XJ=>by omega⟩,bm⟩) ?_
 intro n e h' aP
 rw [aX] at aP
 obtain ⟨i,bx,rfl,z,hinv,J,rfl⟩:=aP
 obtain ⟨rfl,gr,hi,aE⟩:=hinv
 have hw:=ei i (by omega)
 simp only [aa,seval,kO]
 refine bq (λaW=>?_) (λaW=>?_)
 rotate_left
 .simp only [aa,seval,kO]
  exact sL ⟨k6,by omega,by simpa using g1,λj hj XJ=>aE j hj (by omega)⟩ _ z.aC
 simp only [aa,seval,kO]
 refine GZ underlying9 rfl rfl (by omega) (by omega) ?_
 simp only [aa,seval,kO]
 refine hf2 _ _ _ (λg2=>?_) (λg2=>?_)
 .repeat' (first|simp only [aa,seval,kO]|((with_reducible apply ct);(· rfl)))
  rw [hw]
  have yi:∀ j,1<=j->j < i+1->p2 (lQ s j):=by
   intro j rR hj
   by_cases lx:j < i
   .exact aE j rR lx
   .have:j=i:=by omega
    subst this
    simpa using g2
  (rw [aX];with_reducible refine cy (m:=_) ?_ ⟨i+1,_,rfl,z,⟨rfl,by omega,by omega,yi⟩,bm⟩;omega)
 .repeat' (first|simp only [aa,seval,kO]|((with_reducible apply ct);(· rfl)))
  exact kS (λx=>g2 (by simpa using x.more i gr (by omega))) _ z.aC
theorem zxs (h:Heap) (cR:bc 1 h) (K:aI) (hk:∀ h' w,Ext h h'->Sl aK.str h' w eO->K w h'):Ok prog aG ov 145 [] h K:=by
 rw [ao h]
 have z:=Ext.refl h
 refine Ok.aw 2 (bu Kx) ?_
 simp only [aa,seval,Lj]
 refine Ok.over (g:=He 1 9) rfl (zwp (cR.lay _ _)) ?_
 have hx:Ext (h.lay [] h.low) ((h.lay [] h.low).push (.row (eO.map Value.string) 9 false)):=Ext.push _ _
 have yv:Sl aK.str ((h.lay [] h.low).push (.row (eO.map Value.string) 9 false)) (.slice (some ⟨(h.lay [] h.low).size,0,none⟩) 8 8) eO:=zzP (w:=0)
 generalize (h.lay [] h.low).push (.row (eO.map Value.string) 9 false)=h2 at hx yv ⊢
 replace z:=z.an hx
 rw [ao h2]
 simp only [aa,seval,Lj]
 exact hk _ _ z.aC (yv.lay _ _)
theorem zur (l:List au) (v:ah) (s:au) (h:Heap) (hl:Sl aK.str h v l) (hs:l.length<=1000) (K:aI)
 (hk:∀ h',Ext h h'->K (.int .i64 (mr (λx=>decide (s=x)) l)) h'):Ok prog aG ov 146 [v,.string s] h K:=by
 rw [ao h]
 have z:=Ext.refl h
 have cU:=λ(hh:Heap)=>hl.bn cG hh
 refine Ok.aw 17 (bu Ky) ?_
 simp only [aa,seval,AK,cU]
 obtain ⟨I1,aX⟩:∃ I:Nat->Env->Heap->Prop,I=(λn e h'=>∃ (i:Nat) (h1:Heap),h'=h1.lay [] h1.low/\Ext h h1/\(n=l.length - i/\i<=l.length/\∀ x∈l.take i,decide (s=x)=false)/\∃ J:Nat->ah,e=(v::.string s::jr J 2 5 (.int .i64 l.length::.int .i64 i::jr J 9 10 ([])))):=⟨_,rfl⟩
 refine du I1 _ (by rw [aX];exact ⟨0,_,rfl,z,⟨rfl,by omega,by simp⟩,bm⟩) ?_
 intro n e h' aP
 rw [aX] at aP
 obtain ⟨i,bx,rfl,z,hinv,J,rfl⟩:=aP
 obtain ⟨rfl,hi,aE⟩:=hinv
 have hw:=ei i (by omega)
 simp only [aa,seval,AK]
 refine bq (λaW=>?_) (λaW=>?_)
 rotate_left
 .rw [gA (by omega)] at aE
  rw [Tt aE] at hk
  repeat' (simp only [aa,seval,AK])
  exact hk _ z.aC
 obtain ⟨r,hr,bT⟩:=fo (l:=l) (i:=i) (by omega)
 repeat' (first|simp only [aa,seval,AK]|((with_reducible apply bq) <;> intro _)|with_reducible refine qz (hl.mono z.inc) cG nK (by omega) hr (λp hp=>?_)|with_reducible refine iY hp kJ ?_)
 .rw [SY bT aE (by simpa using (by assumption))] at hk
  exact hk _ z.aC
 .rw [hw]
  (rw [aX];with_reducible refine cy (m:=_) ?_ ⟨i+1,_,rfl,z,⟨rfl,by omega,oE (i:=i) (P:=λx:au=>decide (s=x)=false) bT aE (by simpa using (by assumption))⟩,bm⟩;omega)
theorem IG (l:List au) (v:ah) (s:au) (h:Heap) (hl:Sl aK.str h v l) (hs:l.length<=1000) (K:aI)
 (hk:∀ h',Ext h h'->K (.bool (l.any λx=>decide (s=x))) h'):Ok prog aG ov 120 [v,.string s] h K:=by
 refine Ok.aw 7 (bu Kb) ?_
 simp only [aa,seval,Ep]
 refine zur l v s h hl hs _ (λh' x=>?_)
 simp only [aa,seval,Ep,TB]
 refine T5 (λhh=>?_) (λhh=>?_)
 all_goals
  simp only [aa,seval,Ep]
  rw [hh] at hk
  exact hk _ x
theorem zh4 (s:au) (h:Heap) (cR:bc 1 h) (K:aI) (h1:oA s->∀ h',Ext h h'->K (.bool true) h') (h2:¬ oA s->∀ h',Ext h h'->K (.bool false) h'):Ok prog aG ov 119 [.string s] h K:=by
 rw [ao h]
 have z:=Ext.refl h
 refine Ok.aw 5 (bu Ka) ?_
 simp only [aa,seval,AF]
 refine zxs _ (cR.lay _ _) _ (λh' w x sw=>?_)
 (replace z:=z.an x;rw [ao h'])
 simp only [aa,seval,AF]
 refine IG eO w s _ (sw.lay _ _) (by decide) _ (λh' x=>?_)
 (replace z:=z.an x;rw [ao h'])
 rw [zzF] at h1 h2
 cases hd:eO.any λx=>decide (s=x)
 .simp only [aa,seval,AF]
  exact h2 (λhm=>by rw [Aq] at hd;exact hd s hm (by simp)) _ z.aC
 .simp only [aa,seval,AF]
  exact h1 (by obtain ⟨x,hx,e⟩:=tF.1 hd;rw [of_decide_eq_true e];exact hx) _ z.aC
theorem zm9 (s:au) (h:Heap) (cR:bc 1 h) (K:aI) (h1:jZ s->∀ h',Ext h h'->K (.bool true) h') (h2:¬ jZ s->∀ h',Ext h h'->K (.bool false) h'):Ok prog aG ov 80 [.string s] h K:=by
 rw [ao h]
 have z:=Ext.refl h
 rw [zxC] at h1 h2
 refine Ok.aw 9 (bu N80) ?_
 simp only [aa,seval,Lq]
 refine zgi s _ _ zc qB _ (λc hc K' a b=>by rw [rV];exact zj3 c hc K' a b) (λc hc K' a b=>by rw [rV];exact zrb c hc K' a b) _ (λg h' x=>?_) (λg h' x=>?_)
 ·(replace z:=z.an x;rw [ao h'])
  repeat' (simp only [aa,seval,Lq])
  refine zh4 s _ ((cR.ext z).lay _ _) _ (λr h' x=>?_) (λr h' x=>?_)
  ·(replace z:=z.an x;rw [ao h'])
   repeat' (first|simp only [aa,seval,Lq]|((with_reducible apply ct);(· rfl)))
   exact h2 (λq=>q.2 r) _ z.aC
  ·(replace z:=z.an x;rw [ao h'])
   repeat' (first|simp only [aa,seval,Lq]|((with_reducible apply ct);(· rfl)))
   exact h1 ⟨g,r⟩ _ z.aC
 ·(replace z:=z.an x;rw [ao h'])
  repeat' (simp only [aa,seval,Lq])
  exact h2 (λq=>g q.1) _ z.aC
theorem zsF (s:au) (h:Heap) (cR:bc 1 h) (K:aI) (h1:jZ s->∀ h',Ext h h'->K (.bool true) h') (h2:¬ jZ s->∀ h',Ext h h'->K (.bool false) h'):Ok prog aG ov 81 [.string s] h K:=by
 rw [ao h]
 have z:=Ext.refl h
 refine Ok.aw 4 (bu N81) ?_
 simp only [aa,seval,UK]
 refine zm9 s _ (cR.lay _ _) _ (λg h' x=>?_) (λg h' x=>?_)
 ·(replace z:=z.an x;rw [ao h'])
  simp only [aa,seval,UK]
  exact h1 g _ z.aC
 ·(replace z:=z.an x;rw [ao h'])
  simp only [aa,seval,UK]
  exact h2 g _ z.aC
theorem zw3 (s:au) (h:Heap) (cR:bc 1 h) (K:aI) (h1:gd s->∀ h',Ext h h'->K (.bool true) h') (h2:¬ gd s->∀ h',Ext h h'->K (.bool false) h'):Ok prog aG ov 164 [.string s] h K:=by
 rw [ao h]
 have z:=Ext.refl h
 rw [ztK] at h1 h2
 refine Ok.aw 9 (bu KJ) ?_
 simp only [aa,seval,xl]
 refine zgi s _ _ (λc=>zc c\/DI c) qB _ (λc hc K' a b=>by rw [rV];exact zul c hc K' a b) (λc hc K' a b=>by rw [rV];exact zrb c hc K' a b) _ (λg h' x=>?_) (λg h' x=>?_)
 ·(replace z:=z.an x;rw [ao h'])
  repeat' (simp only [aa,seval,xl])
  refine zh4 s _ ((cR.ext z).lay _ _) _ (λr h' x=>?_) (λr h' x=>?_)
  ·(replace z:=z.an x;rw [ao h'])
   repeat' (first|simp only [aa,seval,xl]|((with_reducible apply ct);(· rfl)))
   exact h2 (λq=>q.2 r) _ z.aC
  ·(replace z:=z.an x;rw [ao h'])
   repeat' (first|simp only [aa,seval,xl]|((with_reducible apply ct);(· rfl)))
   exact h1 ⟨g,r⟩ _ z.aC
 ·(replace z:=z.an x;rw [ao h'])
  repeat' (simp only [aa,seval,xl])
  exact h2 (λq=>g q.1) _ z.aC
theorem zB7 (s:au) (h:Heap) (K:aI) (h1:vF s->∀ h',Ext h h'->K (.bool true) h') (h2:¬ vF s->∀ h',Ext h h'->K (.bool false) h'):Ok prog aG ov 163 [.string s] h K:=by
 rw [ao h]
 have z:=Ext.refl h
 rw [zAa] at h1 h2
 refine Ok.aw 4 (bu KI) ?_
 simp only [aa,seval,Ew]
 refine zgi s _ _ Hl k9 _ (λc hc K' a b=>by rw [rV];exact zpg c hc K' a b) (λc hc K' a b=>by rw [rV];exact zzv c hc K' a b) _ (λg h' x=>?_) (λg h' x=>?_)
 ·(replace z:=z.an x;rw [ao h'])
  simp only [aa,seval,Ew]
  exact h1 g _ z.aC
 ·(replace z:=z.an x;rw [ao h'])
  simp only [aa,seval,Ew]
  exact h2 g _ z.aC
theorem zzt (t:aZ) (h:Heap) (cR:bc 1 h) (K:aI) (h1:dt t->∀ h',Ext h h'->K (.bool true) h') (h2:¬ dt t->∀ h',Ext h h'->K (.bool false) h'):Ok prog aG ov 153 [t.val] h K:=by
 rw [ao h]
 have z:=Ext.refl h
 rcases t with ⟨tv,ts⟩
 unfold dt at h1 h2
 cases tv
 .refine Ok.aw 10 (bu Ea) ?_
  repeat' (simp only [aa,seval,AM,aZ.val,aZ.cells])
  refine zw3 _ _ (cR.lay _ _) _ (λhs h' x=>?_) (λhs h' x=>?_)
  all_goals
   (replace z:=z.an x;rw [ao h'])
   simp only [aa,seval,AM]
   first
    |exact h1 hs _ z.aC
    |exact h2 hs _ z.aC
 .refine Ok.aw 10 (bu Ea) ?_
  repeat' (simp only [aa,seval,AM,aZ.val,aZ.cells])
  refine zB7 _ _ _ (λhs h' x=>?_) (λhs h' x=>?_)
  all_goals
   (replace z:=z.an x;rw [ao h'])
   simp only [aa,seval,AM]
   first
    |exact h1 hs _ z.aC
    |exact h2 hs _ z.aC
open Classical in
noncomputable def sD (t:aZ):Bool := !decide (dt t)
theorem zuc (t:aZ) (h:Heap) (cR:bc 1 h) (K:aI) (hk:∀ h',Ext h h'->K (.bool (sD t)) h'):Ok prog aG ov 152 [t.val] h K:=by
 rw [ao h]
 have z:=Ext.refl h
 refine Ok.aw 5 (bu KD) ?_
 repeat' (simp only [aa,seval,Ev,ztF,↓zyH,zyx,Tc])
 refine zzt t _ (cR.lay _ _) _ (λhs h' x=>?_) (λhs h' x=>?_)
 .have e:sD t=false:=by unfold sD;simp [hs]
  rw [e] at hk
  (replace z:=z.an x;rw [ao h'])
  repeat' (first|simp only [aa,seval,Ev]|((with_reducible apply ct);(· rfl)))
  exact hk _ z.aC
 .have e:sD t=true:=by unfold sD;simp [hs]
  rw [e] at hk
  (replace z:=z.an x;rw [ao h'])
  repeat' (first|simp only [aa,seval,Ev]|((with_reducible apply ct);(· rfl)))
  exact hk _ z.aC
end Go.Proofs.YtmamldleclamjaaGreatDoor

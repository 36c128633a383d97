/- Words by the program's own rules: as the document's. No condition. -/
import Derived.Test.YtnkmeidmdaidhaaGreatDoorG25
set_option linter.unusedSimpArgs false
set_option linter.unusedVariables false
namespace Go.Am
variable {s:bf}
theorem bj.ext {g:Nat} {h h':Heap} (s:bj g h) (x:Ext h h'):bj g h':=ak.ext s x
theorem bj.lay {g:Nat} {h:Heap} (s:bj g h) (bs:List bc) (w:Nat):bj g (h.lay bs w):=ak.on s bs w
theorem bj.over {g:Nat} {h1 h2:Heap} {bs:List bc} {w:Nat} (s:bj g h1) (x:Ext (h1.lay bs w) h2):bj g h2:=ak.over s x
def dI:List bf:=[⟨#[115,97,121,115]⟩,⟨#[105,102]⟩,⟨#[99,97,110,115,97,121]⟩,⟨#[112,114,105,110,99,105,112,97,108]⟩,⟨#[112,114,101,100]⟩,⟨#[99,108,101,97,114]⟩,⟨#[113,117,111,116,97]⟩,⟨#[98,117,100,103,101,116]⟩]
theorem zxh:pA s↔s∈dI:=by
 unfold pA dI
 simp only [dg,gS,or_false,eq_comm (a:=s)]
def kJ:bf:=⟨#[115,97,121,115,32,105,102,32,99,97,110,115,97,121,32,112,114,105,110,99,105,112,97,108,32,112,114,101,100,32,99,108,101,97,114,32,113,117,111,116,97,32,98,117,100,103,101,116]⟩
theorem ZP:qu kJ.data.toList=dI.map Value.string:=by kernel_rfl
theorem zuL {g st:Nat} {h:Heap} (hs:bj g h):CY g st [.string kJ] h=some (.slice (some ⟨h.size,0,none⟩) 8 8,h.push (.row (dI.map Value.string) st false)):=by
 unfold CY
 simp only
 rw [hs.get]
 simp only
 have e1:(qu kJ.data.toList).length=8:=by rw [ZP];rfl
 rw [aG (by
  rw [e1]
  have h1:kJ.data.toList.all (λb=>Nat.blt b.toNat 128)=true:=by kernel_rfl
  have h2:Nat.blt kJ.size 4294967281=true:=by kernel_rfl
  have h3:Nat.beq rV rV=true:=Nat.beq_refl _
  rw [h1,h2,h3]
  rfl),e1,ZP]
theorem zxo {h:Heap} {st:TypeId} {w:Nat}:Sl aF.str (h.push (.row (dI.map Value.string) st false)) (.slice (some ⟨h.size,0,none⟩) 8 8) dI:=by
 refine .inr ⟨h.size,0,8,dI.map Value.string,st,false,rfl,(by show 8<=maxLen;decide),.inl ⟨by decide,aS _⟩,by rw [Heap.size_push];omega,by rw [Heap.bS,aG rfl],λi x hx=>?_⟩
 refine ⟨[.string x],?_,rfl⟩
 have hi:i < 8:=(fD.1 hx).1
 have:i=0\/i=1\/i=2\/i=3\/i=4\/i=5\/i=6\/i=7:=by omega
 rcases this with rfl|rfl|rfl|rfl|rfl|rfl|rfl|rfl <;> (cases hx;rfl)
structure gB (first more:Int->Prop) (s:bf):Prop where
 pos:1<=s.size
 len:s.size<=255
 first:first (j5 s 0)
 more:∀ i,1<=i->i < s.size->more (j5 s i)
def uM (c:Int):Prop:=97<=c/\c<=122
def De (c:Int):Prop:=65<=c/\c<=90
def zU (c:Int):Prop:=48<=c/\c<=57
theorem zvC:Dv s↔gB uM sg s/\¬ pA s:=by
 constructor
 .rintro ⟨⟨h,hr⟩,hs⟩
  exact ⟨⟨h.pos,h.len,hs,λi _ hi=>h.all i hi⟩,hr⟩
 .rintro ⟨h,hr⟩
  have hf:=h.first
  unfold uM at hf
  refine ⟨⟨⟨h.pos,h.len,by omega,λi hi=>?_⟩,hr⟩,hf⟩
  by_cases w9:i=0
  .subst w9
   exact .inl hf
  .exact h.more i (by omega) hi
theorem zsm:aab s↔gB (λc=>uM c\/zU c) sg s/\¬ pA s:=by
 constructor
 .rintro ⟨h,hr⟩
  refine ⟨⟨h.pos,h.len,?_,λi _ hi=>h.all i hi⟩,hr⟩
  have h0:=h.all 0 h.pos
  have h1:=h.first
  unfold sg at h0
  rcases h0 with h0|h0|h0
  .exact .inl h0
  .exact .inr h0
  .exact absurd h0 h1
 .rintro ⟨h,hr⟩
  have hf:=h.first
  unfold uM zU at hf
  refine ⟨⟨h.pos,h.len,by omega,λi hi=>?_⟩,hr⟩
  by_cases w9:i=0
  .subst w9
   rcases hf with hf|hf
   .exact .inl hf
   .exact .inr (.inl hf)
  .exact h.more i (by omega) hi
theorem zxL:uC s↔gB De kE s:=by
 constructor
 .intro h
  exact ⟨h.pos,h.len,h.first,λi _ hi=>h.all i hi⟩
 .intro h
  refine ⟨h.pos,h.len,h.first,λi hi=>?_⟩
  by_cases w9:i=0
  .subst w9
   exact .inr (.inl h.first)
  .exact h.more i (by omega) hi
end Go.Am
namespace Go.Proofs.YtnkmeidmdaidhaaGreatDoor
open Go.Am Tryz
set_option maxRecDepth 100000
set_option maxHeartbeats 0
theorem T4 (c:Int) (h:Heap) (K:aL) (h1:uM c->K (.bool true) h) (h2:¬ uM c->K (.bool false) h):Ok prog aH ov 80 [.int .u8 c] h K:=by
 unfold uM at h1 h2
 refine Ok.aC 8 (bH V4) ?_
 simp only [aa,seval,Wq]
 repeat' (refine b9 (λc=>?_) (λc=>?_) <;> simp only [aa,seval,Wq])
 all_goals first|exact h1 (by omega)|exact h2 (by omega)
theorem znT (c:Int) (h:Heap) (K:aL) (h1:De c->K (.bool true) h) (h2:¬ De c->K (.bool false) h):Ok prog aH ov 114 [.int .u8 c] h K:=by
 unfold De at h1 h2
 refine Ok.aC 8 (bH Fv) ?_
 simp only [aa,seval,F4]
 repeat' (refine b9 (λc=>?_) (λc=>?_) <;> simp only [aa,seval,F4])
 all_goals first|exact h1 (by omega)|exact h2 (by omega)
theorem znS (c:Int) (h:Heap) (K:aL) (h1:zU c->K (.bool true) h) (h2:¬ zU c->K (.bool false) h):Ok prog aH ov 111 [.int .u8 c] h K:=by
 unfold zU at h1 h2
 refine Ok.aC 8 (bH Fs) ?_
 simp only [aa,seval,F2]
 repeat' (refine b9 (λc=>?_) (λc=>?_) <;> simp only [aa,seval,F2])
 all_goals first|exact h1 (by omega)|exact h2 (by omega)
theorem UC (c:Int) (h:Heap) (K:aL) (h1:sg c->K (.bool true) h) (h2:¬ sg c->K (.bool false) h):Ok prog aH ov 81 [.int .u8 c] h K:=by
 unfold sg at h1 h2
 refine Ok.aC 12 (bH V5) ?_
 simp only [aa,seval,AG]
 refine T4 c _ _ (λg1=>?_) (λg1=>?_)
 .simp only [aa,seval,AG]
  exact h1 (.inl g1)
 simp only [aa,seval,AG]
 refine znS c _ _ (λg2=>?_) (λg2=>?_)
 .simp only [aa,seval,AG]
  exact h1 (.inr (.inl g2))
 simp only [aa,seval,AG]
 refine pK (λg3=>?_) (λg3=>?_)
 .simp only [aa,seval,AG]
  exact h1 (.inr (.inr g3))
 .simp only [aa,seval,AG]
  exact h2 (λg=>g.elim g1 (λg=>g.elim g2 g3))
theorem zsU (c:Int) (h:Heap) (K:aL) (h1:(uM c\/zU c)->K (.bool true) h) (h2:¬ (uM c\/zU c)->K (.bool false) h):Ok prog aH ov 116 [.int .u8 c] h K:=by
 refine Ok.aC 8 (bH Fx) ?_
 simp only [aa,seval,sL]
 refine T4 c _ _ (λg1=>?_) (λg1=>?_)
 .simp only [aa,seval,sL]
  exact h1 (.inl g1)
 simp only [aa,seval,sL]
 refine znS c _ _ (λg2=>?_) (λg2=>?_)
 .simp only [aa,seval,sL]
  exact h1 (.inr g2)
 .simp only [aa,seval,sL]
  exact h2 (λg=>g.elim g1 g2)
theorem zxa (c:Int) (h:Heap) (K:aL) (h1:kE c->K (.bool true) h) (h2:¬ kE c->K (.bool false) h):Ok prog aH ov 115 [.int .u8 c] h K:=by
 refine Ok.aC 8 (bH Fw) ?_
 simp only [aa,seval,sK]
 refine UC c _ _ (λg1=>?_) (λg1=>?_)
 .simp only [aa,seval,sK]
  exact h1 (by unfold sg at g1;unfold kE;omega)
 simp only [aa,seval,sK]
 refine znT c _ _ (λg2=>?_) (λg2=>?_)
 .simp only [aa,seval,sK]
  exact h1 (by unfold De at g2;unfold kE;omega)
 .simp only [aa,seval,sK]
  exact h2 (by unfold sg at g1;unfold De at g2;unfold kE;omega)
theorem Tl (s:bf) (f1 f2:ai) (p1 p2:Int->Prop) (h:Heap) (hf1:∀ (c:Int) (hc:Heap) (K:aL),(p1 c->K (.bool true) hc)->(¬ p1 c->K (.bool false) hc)->uU prog aH ov [.int .u8 c] hc K f1) (hf2:∀ (c:Int) (hc:Heap) (K:aL),(p2 c->K (.bool true) hc)->(¬ p2 c->K (.bool false) hc)->uU prog aH ov [.int .u8 c] hc K f2)
 (K:aL) (kh:gB p1 p2 s->∀ h',Ext h h'->K (.bool true) h') (jX:¬ gB p1 p2 s->∀ h',Ext h h'->K (.bool false) h'):Ok prog aH ov 79 [.string s,f1,f2] h K:=by
 rw [aq h]
 have z:=Ext.refl h
 refine Ok.aC 31 (bH V3) ?_
 simp only [aa,seval,qb]
 refine b9 (λhe=>?_) (λhe=>?_)
 .simp only [aa,seval,qb]
  exact jX (λx=>by have:=x.pos;rw [he] at this;exact absurd this (by decide)) _ z.aw
 have aae:1<=s.size:=by
  apply Nat.lt_of_not_le
  intro hh
  apply he
  apply C9
  have h0:s.size=0:=by omega
  have:s.data.toList.length=0:=by rw [ss];exact h0
  rw [EP.1 this]
 simp only [aa,seval,qb]
 refine b9 (λhl=>?_) (λhl=>?_)
 .simp only [aa,seval,qb]
  exact jX (λx=>by have:=x.len;omega) _ z.aw
 simp only [aa,seval,qb]
 refine znC underlying9 rfl rfl (by omega) (by omega) ?_
 simp only [aa,seval,qb]
 refine hf1 _ _ _ (λg1=>?_) (λg1=>?_)
 rotate_left
 .repeat' (first|simp only [aa,seval,qb]|((with_reducible apply cn);(· rfl)))
  exact jX (λx=>g1 (by simpa using x.first)) _ z.aw
 repeat' (first|simp only [aa,seval,qb]|((with_reducible apply cn);(· rfl)))
 obtain ⟨I1,aY⟩:∃ I:Nat->Env->Heap->Prop,I=(λn e h'=>∃ (i:Nat) (h1:Heap),h'=h1.lay [] h1.low/\Ext h h1/\(n=s.size - i/\1<=i/\i<=s.size/\∀ j,1<=j->j < i->p2 (j5 s j))/\∃ J:Nat->ai,e=(.string s::J 1::f2::jr J 3 4 (.int .i64 i::jr J 8 26 ([])))):=⟨_,rfl⟩
 refine dV I1 _ (by rw [aY];exact ⟨1,_,rfl,z,⟨rfl,by omega,by omega,λj hj QH=>by omega⟩,bw⟩) ?_
 intro n e h' aT
 rw [aY] at aT
 obtain ⟨i,bW,rfl,z,hinv,J,rfl⟩:=aT
 obtain ⟨rfl,hi1,hi,aD⟩:=hinv
 have hw:=fe i (by omega)
 simp only [aa,seval,qb]
 refine b9 (λaW=>?_) (λaW=>?_)
 rotate_left
 .simp only [aa,seval,qb]
  exact kh ⟨aae,by omega,by simpa using g1,λj hj QH=>aD j hj (by omega)⟩ _ z.aw
 simp only [aa,seval,qb]
 refine znC underlying9 rfl rfl (by omega) (by omega) ?_
 simp only [aa,seval,qb]
 refine hf2 _ _ _ (λg2=>?_) (λg2=>?_)
 .repeat' (first|simp only [aa,seval,qb]|((with_reducible apply cn);(· rfl)))
  rw [hw]
  have BK:∀ j,1<=j->j < i+1->p2 (j5 s j):=by
   intro j xa hj
   by_cases rR:j < i
   .exact aD j xa rR
   .have:j=i:=by omega
    subst this
    simpa using g2
  (rw [aY];with_reducible refine cR (m:=_) ?_ ⟨i+1,_,rfl,z,⟨rfl,by omega,by omega,BK⟩,bw⟩;omega)
 .repeat' (first|simp only [aa,seval,qb]|((with_reducible apply cn);(· rfl)))
  exact jX (λx=>g2 (by simpa using x.more i hi1 (by omega))) _ z.aw
theorem zvt (h:Heap) (cY:bj 1 h) (K:aL) (hk:∀ h' w,Ext h h'->Sl aF.str h' w dI->K w h'):Ok prog aH ov 113 [] h K:=by
 rw [aq h]
 have z:=Ext.refl h
 refine Ok.aC 2 (bH Fu) ?_
 simp only [aa,seval,F3]
 refine Ok.over (g:=CY 1 9) rfl (zuL (cY.lay _ _)) ?_
 have hx:Ext (h.lay [] h.low) ((h.lay [] h.low).push (.row (dI.map Value.string) 9 false)):=Ext.push _ _
 have HC:Sl aF.str ((h.lay [] h.low).push (.row (dI.map Value.string) 9 false)) (.slice (some ⟨(h.lay [] h.low).size,0,none⟩) 8 8) dI:=zxo (w:=0)
 generalize (h.lay [] h.low).push (.row (dI.map Value.string) 9 false)=h2 at hx HC ⊢
 replace z:=z.ao hx
 rw [aq h2]
 simp only [aa,seval,F3]
 exact hk _ _ z.aw (HC.lay _ _)
theorem zsY (l:List bf) (v:ai) (s:bf) (h:Heap) (hl:Sl aF.str h v l) (hs:l.length<=1000) (K:aL)
 (hk:∀ h',Ext h h'->K (.int .i64 (lB (λx=>decide (s=x)) l)) h'):Ok prog aH ov 136 [v,.string s] h K:=by
 rw [aq h]
 have z:=Ext.refl h
 have dG:=λ(hh:Heap)=>hl.bP kg hh
 refine Ok.aC 17 (bH FL) ?_
 simp only [aa,seval,wA,dG]
 obtain ⟨I1,aY⟩:∃ I:Nat->Env->Heap->Prop,I=(λn e h'=>∃ (i:Nat) (h1:Heap),h'=h1.lay [] h1.low/\Ext h h1/\(n=l.length - i/\i<=l.length/\∀ x∈l.take i,decide (s=x)=false)/\∃ J:Nat->ai,e=(v::.string s::jr J 2 5 (.int .i64 l.length::.int .i64 i::jr J 9 10 ([])))):=⟨_,rfl⟩
 refine dV I1 _ (by rw [aY];exact ⟨0,_,rfl,z,⟨rfl,by omega,by simp⟩,bw⟩) ?_
 intro n e h' aT
 rw [aY] at aT
 obtain ⟨i,bW,rfl,z,hinv,J,rfl⟩:=aT
 obtain ⟨rfl,hi,aD⟩:=hinv
 have hw:=fe i (by omega)
 simp only [aa,seval,wA]
 refine b9 (λaW=>?_) (λaW=>?_)
 rotate_left
 .rw [iK (by omega)] at aD
  rw [Ud aD] at hk
  repeat' (simp only [aa,seval,wA])
  exact hk _ z.aw
 obtain ⟨r,hr,cv⟩:=ig (l:=l) (i:=i) (by omega)
 repeat' (first|simp only [aa,seval,wA]|((with_reducible apply b9) <;> intro _)|with_reducible refine U2 (hl.mono z.inc) kg Cu (by omega) hr (λp hp=>?_)|with_reducible refine sc hp yE ?_)
 .rw [TX cv aD (by simpa using (by assumption))] at hk
  exact hk _ z.aw
 .rw [hw]
  (rw [aY];with_reducible refine cR (m:=_) ?_ ⟨i+1,_,rfl,z,⟨rfl,by omega,uI (i:=i) (P:=λx:bf=>decide (s=x)=false) cv aD (by simpa using (by assumption))⟩,bw⟩;omega)
theorem ZC (l:List bf) (v:ai) (s:bf) (h:Heap) (hl:Sl aF.str h v l) (hs:l.length<=1000) (K:aL)
 (hk:∀ h',Ext h h'->K (.bool (l.any λx=>decide (s=x))) h'):Ok prog aH ov 112 [v,.string s] h K:=by
 refine Ok.aC 7 (bH Ft) ?_
 simp only [aa,seval,Av]
 refine zsY l v s h hl hs _ (λh' x=>?_)
 simp only [aa,seval,Av,UN]
 refine qC (λhh=>?_) (λhh=>?_)
 all_goals
  simp only [aa,seval,Av]
  rw [hh] at hk
  exact hk _ x
theorem ZY (s:bf) (h:Heap) (cY:bj 1 h) (K:aL) (h1:pA s->∀ h',Ext h h'->K (.bool true) h') (h2:¬ pA s->∀ h',Ext h h'->K (.bool false) h'):Ok prog aH ov 82 [.string s] h K:=by
 rw [aq h]
 have z:=Ext.refl h
 refine Ok.aC 5 (bH V6) ?_
 simp only [aa,seval,KO]
 refine zvt _ (cY.lay _ _) _ (λh' w x sw=>?_)
 (replace z:=z.ao x;rw [aq h'])
 simp only [aa,seval,KO]
 refine ZC dI w s _ (sw.lay _ _) (by decide) _ (λh' x=>?_)
 (replace z:=z.ao x;rw [aq h'])
 rw [zxh] at h1 h2
 cases hd:dI.any λx=>decide (s=x)
 .simp only [aa,seval,KO]
  exact h2 (λhm=>by rw [Kc] at hd;exact hd s hm (by simp)) _ z.aw
 .simp only [aa,seval,KO]
  exact h1 (by obtain ⟨x,hx,e⟩:=Dl.1 hd;rw [of_decide_eq_true e];exact hx) _ z.aw
theorem zre (s:bf) (h:Heap) (cY:bj 1 h) (K:aL) (h1:Dv s->∀ h',Ext h h'->K (.bool true) h') (h2:¬ Dv s->∀ h',Ext h h'->K (.bool false) h'):Ok prog aH ov 44 [.string s] h K:=by
 rw [aq h]
 have z:=Ext.refl h
 rw [zvC] at h1 h2
 refine Ok.aC 9 (bH VC) ?_
 simp only [aa,seval,F8]
 refine Tl s _ _ uM sg _ (λc hc K' a b=>by rw [vL];exact T4 c hc K' a b) (λc hc K' a b=>by rw [vL];exact UC c hc K' a b) _ (λg h' x=>?_) (λg h' x=>?_)
 ·(replace z:=z.ao x;rw [aq h'])
  repeat' (simp only [aa,seval,F8])
  refine ZY s _ ((cY.ext z).lay _ _) _ (λr h' x=>?_) (λr h' x=>?_)
  ·(replace z:=z.ao x;rw [aq h'])
   repeat' (first|simp only [aa,seval,F8]|((with_reducible apply cn);(· rfl)))
   exact h2 (λq=>q.2 r) _ z.aw
  ·(replace z:=z.ao x;rw [aq h'])
   repeat' (first|simp only [aa,seval,F8]|((with_reducible apply cn);(· rfl)))
   exact h1 ⟨g,r⟩ _ z.aw
 ·(replace z:=z.ao x;rw [aq h'])
  repeat' (simp only [aa,seval,F8])
  exact h2 (λq=>g q.1) _ z.aw
theorem zw7 (s:bf) (h:Heap) (cY:bj 1 h) (K:aL) (h1:Dv s->∀ h',Ext h h'->K (.bool true) h') (h2:¬ Dv s->∀ h',Ext h h'->K (.bool false) h'):Ok prog aH ov 45 [.string s] h K:=by
 rw [aq h]
 have z:=Ext.refl h
 refine Ok.aC 4 (bH VD) ?_
 simp only [aa,seval,NP]
 refine zre s _ (cY.lay _ _) _ (λg h' x=>?_) (λg h' x=>?_)
 ·(replace z:=z.ao x;rw [aq h'])
  simp only [aa,seval,NP]
  exact h1 g _ z.aw
 ·(replace z:=z.ao x;rw [aq h'])
  simp only [aa,seval,NP]
  exact h2 g _ z.aw
theorem zvj (s:bf) (h:Heap) (cY:bj 1 h) (K:aL) (h1:aab s->∀ h',Ext h h'->K (.bool true) h') (h2:¬ aab s->∀ h',Ext h h'->K (.bool false) h'):Ok prog aH ov 85 [.string s] h K:=by
 rw [aq h]
 have z:=Ext.refl h
 rw [zsm] at h1 h2
 refine Ok.aC 9 (bH V9) ?_
 simp only [aa,seval,F9]
 refine Tl s _ _ (λc=>uM c\/zU c) sg _ (λc hc K' a b=>by rw [vL];exact zsU c hc K' a b) (λc hc K' a b=>by rw [vL];exact UC c hc K' a b) _ (λg h' x=>?_) (λg h' x=>?_)
 ·(replace z:=z.ao x;rw [aq h'])
  repeat' (simp only [aa,seval,F9])
  refine ZY s _ ((cY.ext z).lay _ _) _ (λr h' x=>?_) (λr h' x=>?_)
  ·(replace z:=z.ao x;rw [aq h'])
   repeat' (first|simp only [aa,seval,F9]|((with_reducible apply cn);(· rfl)))
   exact h2 (λq=>q.2 r) _ z.aw
  ·(replace z:=z.ao x;rw [aq h'])
   repeat' (first|simp only [aa,seval,F9]|((with_reducible apply cn);(· rfl)))
   exact h1 ⟨g,r⟩ _ z.aw
 ·(replace z:=z.ao x;rw [aq h'])
  repeat' (simp only [aa,seval,F9])
  exact h2 (λq=>g q.1) _ z.aw
theorem zzv (s:bf) (h:Heap) (K:aL) (h1:uC s->∀ h',Ext h h'->K (.bool true) h') (h2:¬ uC s->∀ h',Ext h h'->K (.bool false) h'):Ok prog aH ov 84 [.string s] h K:=by
 rw [aq h]
 have z:=Ext.refl h
 rw [zxL] at h1 h2
 refine Ok.aC 4 (bH V8) ?_
 simp only [aa,seval,NU]
 refine Tl s _ _ De kE _ (λc hc K' a b=>by rw [vL];exact znT c hc K' a b) (λc hc K' a b=>by rw [vL];exact zxa c hc K' a b) _ (λg h' x=>?_) (λg h' x=>?_)
 ·(replace z:=z.ao x;rw [aq h'])
  simp only [aa,seval,NU]
  exact h1 g _ z.aw
 ·(replace z:=z.ao x;rw [aq h'])
  simp only [aa,seval,NU]
  exact h2 g _ z.aw
theorem zw8 (t:az) (h:Heap) (cY:bj 1 h) (K:aL) (h1:eR t->∀ h',Ext h h'->K (.bool true) h') (h2:¬ eR t->∀ h',Ext h h'->K (.bool false) h'):Ok prog aH ov 49 [t.val] h K:=by
 rw [aq h]
 have z:=Ext.refl h
 rcases t with ⟨tv,ts⟩
 unfold eR at h1 h2
 cases tv
 .refine Ok.aC 10 (bH Nj) ?_
  repeat' (simp only [aa,seval,KI,az.val,az.cells])
  refine zvj _ _ (cY.lay _ _) _ (λhs h' x=>?_) (λhs h' x=>?_)
  all_goals
   (replace z:=z.ao x;rw [aq h'])
   simp only [aa,seval,KI]
   first
    |exact h1 hs _ z.aw
    |exact h2 hs _ z.aw
 .refine Ok.aC 10 (bH Nj) ?_
  repeat' (simp only [aa,seval,KI,az.val,az.cells])
  refine zzv _ _ _ (λhs h' x=>?_) (λhs h' x=>?_)
  all_goals
   (replace z:=z.ao x;rw [aq h'])
   simp only [aa,seval,KI]
   first
    |exact h1 hs _ z.aw
    |exact h2 hs _ z.aw
open Classical in
noncomputable def mC (t:az):Bool := !decide (eR t)
theorem zsR (t:az) (h:Heap) (cY:bj 1 h) (K:aL) (hk:∀ h',Ext h h'->K (.bool (mC t)) h'):Ok prog aH ov 48 [t.val] h K:=by
 rw [aq h]
 have z:=Ext.refl h
 refine Ok.aC 5 (bH VG) ?_
 repeat' (simp only [aa,seval,NR,Jn,↓T9,CM,zF])
 refine zw8 t _ (cY.lay _ _) _ (λhs h' x=>?_) (λhs h' x=>?_)
 .have e:mC t=false:=by unfold mC;simp [hs]
  rw [e] at hk
  (replace z:=z.ao x;rw [aq h'])
  repeat' (first|simp only [aa,seval,NR]|((with_reducible apply cn);(· rfl)))
  exact hk _ z.aw
 .have e:mC t=true:=by unfold mC;simp [hs]
  rw [e] at hk
  (replace z:=z.ao x;rw [aq h'])
  repeat' (first|simp only [aa,seval,NR]|((with_reducible apply cn);(· rfl)))
  exact hk _ z.aw
end Go.Proofs.YtnkmeidmdaidhaaGreatDoor

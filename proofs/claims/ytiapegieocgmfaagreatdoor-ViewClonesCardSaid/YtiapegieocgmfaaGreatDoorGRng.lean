/- A function that ranges over a map of many entries, in whatever order they come: told over every world. No condition. -/
import Derived.Test.YtiapegieocgmfaaGreatDoorG2
import Derived.Laws.IdiomRangeMap
set_option linter.unusedSimpArgs false
namespace Go.Am
open Go.RowKit
variable {h:Heap} {e:Env} {ops:Array Oper}
section
variable {P:Program} {T:bI} {ov:Ov}

def jI (ρ:cm) (h:Heap):Prop:=∀ A,h.size<=A->ρ A=none
theorem jI.step {ρ ρ':cm} {h':Heap} {w w':World} (hf:jI ρ h) (f:Fr ρ ρ' h h' w w'):jI ρ' h':=by
 intro A hA
 cases hρ:ρ' A with
 |none=>rfl
 |some L =>
  have:=(f.fresh A L hρ (hf A (gn f.gJ hA))).2.1
  omega
structure It where
 b:Nat
 A:Nat
 clock:Nat
 seen:List Nat
def AR (w0:World) (ρ:cm) (w:World) (g:It):Prop :=
 w0.heap.size<=g.b/\g.b < w.heap.size/\(∀ A L,ρ A=some L->L.b≠g.b)/\∃ L,ρ g.A=some L/\w.heap[g.b]? = some (.mapIter (some L.b) g.clock g.seen.toArray g.clock)
structure RS (ρ0:cm) (h0:Heap) (w0:World) (ρ:cm) (w:World) (a:Act) (e:Env) (h:Heap) (G:Option It):Prop where
 fr:Fr ρ0 ρ h0 h w0 w
 qE:bP ρ h w
 env:ct ρ e a.tmps
 dd:a.defers=[]
 it:∀ g,G=some g->AR w0 ρ w g
structure RB (P:Program) (T:bI) (ov:Ov) (ρ0:cm) (h0:Heap):Prop where
 mix:P.follows .mixedOrders=true
 fits:T.Fits P
 Zm:CV P T.gs ov
 Fy:cX T.gs ρ0
 free:jI ρ0 h0
def SD (P:Program) (ρ0:cm) (h0:Heap) (w0:World) (c:Code) (e:Env) (h:Heap) (G:Option It) (Q:Ex->Env->Heap->Option It->Prop):Prop :=
 cI ρ0 c->∀ ρ w a,RS ρ0 h0 w0 ρ w a e h G->∀ Qm:Exit->Act->World->Prop,(∀ x ρ' w' a' e' h' G',RS ρ0 h0 w0 ρ' w' a' e' h' G'->Q x e' h' G'->Qm (Ex.to x) a' w')->c.wpIn (WR none) 0 P Qm a w
def SL (P:Program) (ρ0:cm) (h0:Heap) (w0:World) (ops:Array Oper) (l:List Oper) (e:Env) (h:Heap) (G:Option It) (Q:Env->Heap->Option It->Prop):Prop :=
 (∀ o∈l,jR ρ0 o)->∀ ρ w a,RS ρ0 h0 w0 ρ w a e h G->∀ Qm:Exit->Act->World->Prop,(∀ ρ' w' a' e' h' G',RS ρ0 h0 w0 ρ' w' a' e' h' G'->Q e' h' G'->Qm .normal a' w')->wpListIn (WR none) 0 P ops Qm l a w
def zP (P:Program) (gs:List Nat) (f:FuncId) (args:List ab) (h:Heap) (K:aF):Prop :=
 ∀ ρ w (aK:Array ab),cX gs ρ->bP ρ h w->jI ρ h->cu ρ args aK.toList->(callFunc f aK).run P w=.ok (.enter f aK) w/\Calls P f aK w λed w'=>∃ ρ' v u h',ed=.returned u/\Fr ρ ρ' h h' w w'/\bP ρ' h' w'/\VR ρ' v u/\K v h'

variable {ρ0:cm} {h0:Heap} {w0:World}

def Ry (P:Program) (ρ0:cm) (h0:Heap) (w0:World) (c2:Code) (Q:Ex->Env->Heap->Option It->Prop):Ex->Env->Heap->Option It->Prop
 | .normal,e',h',G'=>SD P ρ0 h0 w0 c2 e' h' G' Q
 |x,e',h',G'=>Q x e' h' G'
def TZ (id:Nat) (Q:Ex->Env->Heap->Option It->Prop):Ex->Env->Heap->Option It->Prop
 | .exit i,e',h',G'=>if i=id then Q .normal e' h' G' else Q (.exit i) e' h' G'
 |x,e',h',G'=>Q x e' h' G'
def Z9 (I:Nat->Env->Heap->Option It->Prop) (m:Nat) (Q:Ex->Env->Heap->Option It->Prop):Ex->Env->Heap->Option It->Prop
 | .normal,e',h',G'=>∃ m',m' < m/\I m' e' h' G'
 |x,e',h',G'=>Q x e' h' G'
def UU (G:Option It) (Q:Ex->Env->Heap->Option It->Prop):Ex->Env->Heap->Prop:=λx e' h'=>Q x e' h' G
def atL (G:Option It) (Q:Env->Heap->Option It->Prop):Env->Heap->Prop:=λe' h'=>Q e' h' G
theorem qn (G:Option It) (Q:Ex->Env->Heap->Option It->Prop) (x:Ex) (e:Env) (h:Heap):UU G Q x e h=Q x e h G:=rfl
theorem zAu (G:Option It) (Q:Env->Heap->Option It->Prop) (e:Env) (h:Heap):atL G Q e h=Q e h G:=rfl
theorem rE (c2:Code) (Q:Ex->Env->Heap->Option It->Prop) (e:Env) (h:Heap) (G:Option It):Ry P ρ0 h0 w0 c2 Q .normal e h G=SD P ρ0 h0 w0 c2 e h G Q:=rfl
theorem Qk (c2:Code) (Q:Ex->Env->Heap->Option It->Prop) (e:Env) (h:Heap) (G:Option It):Ry P ρ0 h0 w0 c2 Q .ret e h G=Q .ret e h G:=rfl
theorem zuY (c2:Code) (Q:Ex->Env->Heap->Option It->Prop) (i:Nat) (e:Env) (h:Heap) (G:Option It):Ry P ρ0 h0 w0 c2 Q (.exit i) e h G=Q (.exit i) e h G:=rfl
theorem zms (id:Nat) (Q:Ex->Env->Heap->Option It->Prop) (e:Env) (h:Heap) (G:Option It):TZ id Q .normal e h G=Q .normal e h G:=rfl
theorem zqr (id:Nat) (Q:Ex->Env->Heap->Option It->Prop) (e:Env) (h:Heap) (G:Option It):TZ id Q (.exit id) e h G=Q .normal e h G:=aE rfl
theorem zoV {I:Nat->Env->Heap->Option It->Prop} {m m':Nat} {Q:Ex->Env->Heap->Option It->Prop} {G:Option It} (hm:m' < m) (hi:I m' e h G):Z9 I m Q .normal e h G:=⟨m',hm,hi⟩
theorem ztT (I:Nat->Env->Heap->Option It->Prop) (m:Nat) (Q:Ex->Env->Heap->Option It->Prop) (i:Nat) (e:Env) (h:Heap) (G:Option It):Z9 I m Q (.exit i) e h G=Q (.exit i) e h G:=rfl

theorem AR.step {ρ ρ':cm} {h':Heap} {w w':World} {g:It} (i:AR w0 ρ w g) (f:Fr ρ ρ' h h' w w'):AR w0 ρ' w' g:=by
 obtain ⟨h1,h2,h3,L,h4,h5⟩:=i
 refine ⟨h1,dB h2 f.size,λA L' hA hb=>?_,L,f.grow _ _ h4,?_⟩
 .cases hρ:ρ A with
  |some L1 =>
   have:=f.grow A L1 hρ
   rw [hA] at this
   exact h3 A L1 hρ (by rw [<- Option.some.inj this];exact hb)
  |none =>
   rcases (f.fresh A L' hA hρ).2.2 with h6|⟨A0,L0,h6,h7,_⟩
   .omega
   .exact h3 A0 L0 h6 (h7.trans hb)
 .rw [f.keep g.b h2 (λA L hA hb=>absurd hb (h3 A L hA))]
  exact h5
theorem RS.step {ρ ρ':cm} {w w':World} {a a':Act} {e e':Env} {h h':Heap} {G:Option It} (r:RS ρ0 h0 w0 ρ w a e h G) (f:Fr ρ ρ' h h' w w') (s:bP ρ' h' w') (he:ct ρ' e' a'.tmps) (hd:a'.defers=[]):RS ρ0 h0 w0 ρ' w' a' e' h' G :=
 ⟨r.fr.trans f,s,he,hd,λg hg=>(r.it g hg).step f⟩

section
variable (B:RB P T ov ρ0 h0)
include B
theorem SD.IY {c:Code} {G:Option It} {Q:Ex->Env->Heap->Option It->Prop} (lX:mP c=true) (hw:W P T ov none c e h (UU G Q)):SD P ρ0 h0 w0 c e h G Q:=by
 intro cE ρ w a r Qm hQ
 obtain ⟨n,x,e',h',aj,hq⟩:=W.sound c e h _ hw
 have An:=Ta B.mix B.fits B.Zm n
 have mq:=zhi (T:=T) B.Zm n
 refine zd6 B.fits An mq (zd7 B.mix B.fits An mq) (DY mq) none none w.heap.size a.defers true n c e h x e' h' ρ a w Qm aj (cE.mono r.fr.grow) (λ_=>lX) (B.Fy.mono r.fr.grow) r.qE (λA hA _=>(B.free.step r.fr) A hA) r.env Marks.nil trivial (bj _) λρ' a' w' f1 s1 r1 d1=>?_
 obtain ⟨rs,m1,_,m2,_⟩:=d1
 rw [m2 rfl] at m1
 exact hQ x ρ' w' a' e' h' G (r.step f1 s1 r1 (by simpa [r.dd] using m1)) hq
omit B in
theorem SD.seq {c c1 c2:Code} (hc:c=.seq c1 c2) {e:Env} {h:Heap} {G:Option It} {Q:Ex->Env->Heap->Option It->Prop} (h1:SD P ρ0 h0 w0 c1 e h G (Ry P ρ0 h0 w0 c2 Q)):SD P ρ0 h0 w0 c e h G Q:=by
 subst hc
 intro cE ρ w a r Qm hQ
 refine wpIn_seq (h1 cE.1 ρ w a r _ λx ρ' w' a' e' h' G' r' q'=>?_)
 cases x with
 |normal=>exact q' cE.2 ρ' w' a' r' Qm hQ
 |exit i=>exact hQ _ ρ' w' a' e' h' G' r' q'
 |ret=>exact hQ _ ρ' w' a' e' h' G' r' q'
omit B in
theorem SD.cond {k:Code} {c:Operand} {c1 c2:Code} (hk:k=.cond c c1 c2) {e:Env} {h:Heap} {G:Option It} {Q:Ex->Env->Heap->Option It->Prop} (hc:zJ (bt e c) (SD P ρ0 h0 w0 c1 e h G Q) (SD P ρ0 h0 w0 c2 e h G Q)):SD P ρ0 h0 w0 k e h G Q:=by
 subst hk
 intro cE ρ w a r Qm hQ
 have hv:=r.env.operand (cE.1.mono r.fr.grow)
 unfold zJ at hc
 split at hc
 .rename_i t hb
  rw [hb] at hv
  cases t with
  |true=>exact wpIn_cond_true (hv.bD rfl) (hc.1 rfl cE.2.1 ρ w a r Qm hQ)
  |false=>exact wpIn_cond_false (hv.bD rfl) (hc.2 rfl cE.2.2 ρ w a r Qm hQ)
 .exact hc.elim
omit B in
theorem SD.block {id:Nat} {k c:Code} (hk:k=.block id c) {e:Env} {h:Heap} {G:Option It} {Q:Ex->Env->Heap->Option It->Prop} (h1:SD P ρ0 h0 w0 c e h G (TZ id Q)):SD P ρ0 h0 w0 k e h G Q:=by
 subst hk
 intro cE ρ w a r Qm hQ
 refine wpIn_block (h1 cE ρ w a r _ λx ρ' w' a' e' h' G' r' q'=>?_)
 cases x with
 |normal=>exact hQ _ ρ' w' a' e' h' G' r' q'
 |ret=>exact hQ _ ρ' w' a' e' h' G' r' q'
 |exit i =>
  simp only [TZ] at q'
  split at q'
  .rename_i hi
   simp only [Ex.to,Exit.inBlock,aE hi]
   exact hQ .normal ρ' w' a' e' h' G' r' q'
  .rename_i hi
   simp only [Ex.to,Exit.inBlock,az hi]
   exact hQ (.exit i) ρ' w' a' e' h' G' r' q'
omit B in
theorem SD.loop {k c:Code} (hk:k=.loop c) {Q:Ex->Env->Heap->Option It->Prop} (I:Nat->Env->Heap->Option It->Prop) {n:Nat} {e:Env} {h:Heap} {G:Option It} (hi:I n e h G) (round:∀ m e h G,I m e h G->SD P ρ0 h0 w0 c e h G (Z9 I m Q)):SD P ρ0 h0 w0 k e h G Q:=by
 subst hk
 intro cE ρ w a r Qm hQ
 have key:∀ (k m:Nat) (e:Env) (h:Heap) (G:Option It) (ρ:cm) (w:World) (a:Act),m < k->I m e h G->RS ρ0 h0 w0 ρ w a e h G->Code.roundsIn (WR none) 0 P c Qm k a w:=by
  intro k
  induction k with
  |zero=>intro m e h G ρ w a hm;omega
  |succ k ih =>
   intro m e h G ρ w a hm hi r
   rw [roundsIn_succ]
   refine round m e h G hi cE ρ w a r _ λx ρ' w' a' e' h' G' r' q'=>?_
   cases x with
   |normal =>
    obtain ⟨m',wO,mV⟩:=q'
    exact ih m' e' h' G' ρ' w' a' (by omega) mV r'
   |exit i=>exact hQ _ ρ' w' a' e' h' G' r' q'
   |ret=>exact hQ _ ρ' w' a' e' h' G' r' q'
 exact wpIn_loop_rounds (n+1) (key (n+1) n e h G ρ w a (wt _) hi r)
omit B in
theorem SD.region {id:Nat} {c:Code} {ops:Array Oper} (hc:c=.region id ops false) {e:Env} {h:Heap} {G:Option It} {Q:Ex->Env->Heap->Option It->Prop} (hl:SL P ρ0 h0 w0 ops (ops.toList.drop 0) e h G (Q .normal)):SD P ρ0 h0 w0 c e h G Q:=by
 subst hc
 intro cE ρ w a r Qm hQ
 exact wpIn_region_list (hl cE ρ w a r Qm λρ' w' a' e' h' G' r' q'=>hQ .normal ρ' w' a' e' h' G' r' q')
omit B in
theorem SL.nil {G:Option It} {Q:Env->Heap->Option It->Prop} (hq:Q e h G):SL P ρ0 h0 w0 ops [] e h G Q:=λ_ ρ w a r _ hQ=>hQ ρ w a e h G r hq
theorem SL.pre {ops:Array Oper} {l2:List Oper} {G:Option It} {Q:Env->Heap->Option It->Prop}:∀ (l1:List Oper) (e:Env) (h:Heap),de P T ov ops l1 e h (λe' h'=>SL P ρ0 h0 w0 ops l2 e' h' G Q)->SL P ρ0 h0 w0 ops (l1++l2) e h G Q
 | [],e,h,hw=>hw
 |o::l1,e,h,hw=>by
  intro cE ρ w a r Qm hQ
  have yK:∀ q∈l1++l2,jR ρ0 q:=λq hq=>cE q (fB _ hq)
  simp only [de,rQ] at hw
  show wpListIn (WR none) 0 P ops Qm (o::(l1++l2)) a w
  unfold wpListIn
  rw [zkt r.env]
  split at hw
  .rename_i gW
   rw [aE gW]
   obtain ⟨n,v,h',aj,hk⟩:=hw.sound
   have An:=Ta B.mix B.fits B.Zm n
   refine (DX B.fits An (B.Fy.mono r.fr.grow) r.qE r.env ((cE o jm).mono r.fr.grow) (λA hA _=>(B.free.step r.fr) A hA) aj).wp (DZ aj) λρ1 u w1 f1 s1 v1=>?_
   exact SL.pre l1 _ h' hk yK ρ1 w1 _ (r.step f1 s1 ((r.env.mono f1.grow).put v1 o.dst) (by cases o.dst <;> exact r.dd)) Qm hQ
  .rename_i gW
   rw [az gW]
   refine ⟨λ_ _=>trivial,?_⟩
   exact SL.pre l1 _ h hw yK ρ w _ (r.step (Fr.refl _ _ _) r.qE (r.env.put (.undef ρ) o.dst) (by cases o.dst <;> exact r.dd)) Qm hQ
end
theorem SL.op (B:RB P T ov ρ0 h0) {ops:Array Oper} {op:Op} {d:Option Tmp} {o:Oper} {l0 l:List Oper} {e:Env} {h h':Heap} {v:ab} {G:Option It} {Q:Env->Heap->Option It->Prop} (hl:l0=o::l) (pn:QK o=false) (aV:o.op=op) (hd:o.dst=d) (hg:o.guard=none) (aj:∀ ty pos af,gL P T TU e ⟨d,op,ty,pos,af,none⟩ h=some (v,h'))
 (hk:SL P ρ0 h0 w0 ops l (put e d v) h' G Q):SL P ρ0 h0 w0 ops l0 e h G Q:=by
 subst hl
 refine SL.pre B [o] e h ?_
 obtain ⟨d',op',ty,pos,af,g'⟩:=o
 change op'=_ at aV
 change d'=d at hd
 change g'=_ at hg
 subst d'
 subst aV hg
 have h1:=aj ty pos af
 have hw:nR ops ⟨d,op',ty,pos,af,none⟩ e=true:=rfl
 simp only [de,rQ,hw,if_true]
 rw [zr0 pn,h1]
 exact hk
theorem SL.rest (B:RB P T ov ρ0 h0) {l:List Oper} {G:Option It} {Q:Env->Heap->Option It->Prop} (hw:de P T ov ops l e h (atL G Q)):SL P ρ0 h0 w0 ops l e h G Q:=by
 have:=SL.pre B (w0:=w0) (l2:=[]) (G:=G) (Q:=Q) l e h (de.mono _ _ _ _ _ (λe' h' hq=>SL.nil hq) hw)
 simpa using this
theorem SL.one {o:Oper} {l0 l:List Oper} (hl:l0=o::l) {G:Option It} {Q:Env->Heap->Option It->Prop} (hg:o.guard=none)
 (hx:∀ ρ w a,jR ρ o->RS ρ0 h0 w0 ρ w a e h G->∀ Qm:Exit->Act->World->Prop,(∀ ρ' w' u e' h' G',RS ρ0 h0 w0 ρ' w' (a.put o.dst u) e' h' G'->SL P ρ0 h0 w0 ops l e' h' G' Q->wpListIn (WR none) 0 P ops Qm l (a.put o.dst u) w')->o.wpIn (WR none) 0 P a w (λa' w'=>wpListIn (WR none) 0 P ops Qm l a' w') Qm):SL P ρ0 h0 w0 ops l0 e h G Q:=by
 subst hl
 intro cE ρ w a r Qm hQ
 unfold wpListIn
 rw [aE (by simp [Region.wanted,hg])]
 exact hx ρ w a ((cE o jm).mono r.fr.grow) r Qm λρ' w' u e' h' G' r' q'=>q' (λq hq=>cE q (fB _ hq)) ρ' w' _ r' Qm hQ
theorem SL.range (hT:T.Fits P) {ops:Array Oper} {d:Option Tmp} {t k v:TypeId} {x:Operand} {o:Oper} {l0 l:List Oper} {e:Env} {h:Heap} {Q:Env->Heap->Option It->Prop} {A:Nat} {es:List MapEntry} {clock:Nat} (hl:l0=o::l) (aV:o.op=.range t x) (hd:o.dst=d) (hg:o.guard=none) (ht:T.desc t=some (.map k v)) (hx:bt e x=.map (some A)) (hA:h.get A=some (.map es clock))
 (hk:∀ b,SL P ρ0 h0 w0 ops l (put e d (.chan (some b))) h (some ⟨b,A,clock,[]⟩) Q):SL P ρ0 h0 w0 ops l0 e h none Q:=by
 obtain ⟨d',op,ty,pos,af,g'⟩:=o
 change op=_ at aV
 change d'=d at hd
 change g'=_ at hg
 subst d'
 subst aV hg
 refine SL.one hl rfl λρ w a cE r Qm hq=>?_
 have hv:=r.env.operand (cE x (by simp [Op.operands]))
 rw [hx] at hv
 generalize Mx:a.eval x=av at hv
 cases hv with
 |map hL =>
  rename_i L
  have hb:=r.qE.ff A L hL
  rw [hA] at hb
  obtain ⟨ces,yh,_⟩:=hb
  have ey:=run_range_map (P:=P) w t k v L.b ces clock (hT.desc _ _ ht) yh
  unfold Oper.wpIn
  refine ⟨λ_ _=>trivial,?_⟩
  rw [Oper.semAt_eq _ _ _ (by simp),show (execOp a.eval ⟨d,.range t x,ty,pos,af,none⟩).run P w=.ok (.value (.pointer (some ⟨w.heap.size,0,none⟩))) (w.alloc (.mapIter (some L.b) clock #[] clock)) by simp [execOp,Mx,ey]]
  have dx:w.heap.size<=(w.alloc (.mapIter (some L.b) clock #[] clock)).heap.size:=by rw [World.bF];simp
  have hold:∀ b,b < w.heap.size->(w.alloc (.mapIter (some L.b) clock #[] clock)).heap[b]? = w.heap[b]? := λb hb=>heap_alloc_old w _ hb
  have f1:Fr ρ ρ h h w (w.alloc (.mapIter (some L.b) clock #[] clock)):=⟨λ_ _ h=>h,λA L h1 h2=>(by rw [h1] at h2;cases h2),rfl,rfl,rfl,dx,bj _,bj _,λb hb _=>hold b hb,λ_ _ _=>rfl⟩
  have s1:bP ρ h (w.alloc (.mapIter (some L.b) clock #[] clock)):=⟨λA' L' dS=>(r.qE.ff A' L' dS).keep (λ_ _ h=>h) dx λ_=>hold _ (r.qE.lt dS),r.qE.inj⟩
  have r1:=r.step (a':=a.put d (.pointer (some ⟨w.heap.size,0,none⟩))) (e':=put e d (.chan (some w.heap.size))) f1 s1 (r.env.put (.oM _) d) (by cases d <;> exact r.dd)
  refine hq _ _ _ _ _ _ ⟨r1.fr,r1.qE,r1.env,r1.dd,λg hg=>?_⟩ (hk w.heap.size)
  cases hg
  exact ⟨r.fr.size,by rw [World.bF];simp,λA' L' dS=>Nat.ne_of_lt (r.qE.lt dS),L,hL,heap_alloc_new w _⟩
theorem SL.next {ops:Array Oper} {d:Option Tmp} {x:Operand} {o:Oper} {l0 l:List Oper} {e:Env} {h:Heap} {Q:Env->Heap->Option It->Prop} {g:It} {es:List MapEntry} (hl:l0=o::l) (aV:o.op=.next x false) (hd:o.dst=d) (hg:o.guard=none) (hx:bt e x=.chan (some g.b)) (hA:h.get g.A=some (.map es g.clock)) (hold:∀ y∈es,y.born < g.clock)
 (h1:∀ y∈es,y.born ∉ g.seen->SL P ρ0 h0 w0 ops l (put e d (.tuple #[.bool true,y.key,y.val])) h (some { g with seen:=g.seen++[y.born] }) Q)
 (h2:(∀ y∈es,y.born∈g.seen)->SL P ρ0 h0 w0 ops l (put e d (.tuple #[.bool false])) h (some g) Q):SL P ρ0 h0 w0 ops l0 e h (some g) Q:=by
 obtain ⟨d',op,ty,pos,af,g'⟩:=o
 change op=_ at aV
 change d'=d at hd
 change g'=_ at hg
 subst d'
 subst aV hg
 refine SL.one hl rfl λρ w a cE r Qm hq=>?_
 have hv:=r.env.operand (cE x (by simp [Op.operands]))
 rw [hx] at hv
 generalize Mx:a.eval x=av at hv
 cases hv
 obtain ⟨i1,i2,i3,L,i4,i5⟩:=r.it g rfl
 have hb:=r.qE.ff g.A L i4
 rw [hA] at hb
 obtain ⟨ces,yh,pW⟩:=hb
 have born:∀ (i:Nat) (y:MapEntry),ces[i]? = some y->∃ y',es[i]? = some y'/\VR ρ y'.key y.key/\VR ρ y'.val y.val/\y'.born=y.born:=λi y hy=>by
  have hi:i < es.length:=by rw [pW.1];simpa using (mQ.1 hy).1
  have:=pW.2 i _ y (gF hi) (by simpa using hy)
  exact ⟨_,gF hi,this.1,this.2.1,this.2.2.1⟩
 have tY:∀ y∈ces.toList,y.born < g.clock:=λy hy=>by
  obtain ⟨i,hi⟩:=uL hy
  obtain ⟨y',Ak,_,_,e3⟩:=born i y (by simpa using hi)
  rw [<- e3]
  exact hold y' (ic Ak)
 unfold Oper.wpIn
 refine ⟨λ_ _=>trivial,?_⟩
 rw [Oper.semAt_eq _ _ _ (by simp)]
 have hex:(execOp a.eval ⟨d,.next x false,ty,pos,af,none⟩).run P w=((Instr.next (.pointer (some ⟨g.b,0,none⟩)) false ty).run P w).andThen λv w=>.ok (.value v) w:=by simp [execOp,Mx]
 rw [hex]
 have b8:∀ y∈(leftOf ces g.seen.toArray).toList,y.born < g.clock:=λy hy=>tY y (mem_left hy).1
 have yB:∀ y,y∈(leftOf ces g.seen.toArray).toList->∃ i:Nat,ces[i]? = some y/\y.born ∉ g.seen:=λy hy=>by
  have h3:=mem_left hy
  obtain ⟨i,hi⟩:=uL h3.1
  exact ⟨i,by simpa using hi,by simpa using h3.2⟩
 simp only [Instr.next,getObj,Sem.run_bind,Sem.run,i5,yh,Result.andThen,next_test_false g.seen.toArray ces g.clock g.clock tY (bj _),gM,if_false]
 have aH:=all_seen ces g.seen.toArray
 unfold leftOf at b8 yB aH
 generalize Array.filter (λe => !g.seen.toArray.contains e.born) ces=L1 at b8 yB aH
 have e1:L1.filter (λx=>decide (x.born < g.clock))=L1:=Array.filter_eq_self.2 (λx hx=>by simpa using b8 x (by simpa using hx))
 have e2:L1.filter (λx=>decide (x.born >= g.clock))=#[]:=by
  rw [Array.filter_eq_empty_iff]
  intro x hx
  have:=b8 x (by simpa using hx)
  simp
  omega
 simp only [e1,e2,Array.append_empty]
 by_cases hz:L1.size=0
 .have Dp:L1=#[]:=Array.eq_empty_of_size_eq_zero hz
  subst Dp
  simp only [choose,Sem.run,Question.forced,Array.isEmpty_empty,if_true,Ey,dn,dN,Array.map_empty,Array.append_empty,jo,bj,decide_true]
  have r1:=r.step (a':=a.put d (.tuple #[.bool false])) (e':=put e d (.tuple #[.bool false])) (Fr.refl _ _ _) r.qE (r.env.put ((cu.cons (.bool false) (.nil ρ)).fO) d) (by cases d <;> exact r.dd)
  refine hq _ _ _ _ _ _ r1 (h2 λy hy=>?_)
  obtain ⟨i,hi⟩:=uL hy
  have mV:i < ces.size:=by
   have:=(dP.1 hi).1
   rw [pW.1] at this
   simpa using this
  obtain ⟨y',Ak,_,_,e3⟩:=born i _ (xl mV)
  rw [hi] at Ak
  cases Ak
  have:=aH rfl ces[i] (by simp)
  rw [e3]
  simpa using this
 .have aQ:L1.isEmpty=false:=by simp [Array.isEmpty,hz]
  simp only [aQ,gM,if_false,Array.empty_append,Array.size_map]
  have fin:∀ (j:Nat) (w1:World),j < L1.size->w1.heap=w.heap->w1.os=w.os->w1.tape=w.tape->w1.output=w.output->∀ y,L1[j]? = some y ->
   (Oper.uponIn (WR none) 0 P ⟨d,.next x false,ty,pos,af,none⟩ a (λa' w'=>wpListIn (WR none) 0 P ops Qm l a' w') Qm (.ok (.value (.tuple #[.bool true,y.key,y.val])) { w1 with heap:=w1.heap.setIfInBounds g.b (.mapIter (some L.b) g.clock (g.seen.toArray.push y.born) g.clock) })):=by
   intro j w1 hj hh ho ht hu y hy
   obtain ⟨i,hi,hns⟩:=yB y (by simpa using ic (l:=L1.toList) (i:=j) (by simpa using hy))
   obtain ⟨y',Ak,v1,v2,v3⟩:=born i y hi
   have dx:w.heap.size<=(w1.heap.setIfInBounds g.b (.mapIter (some L.b) g.clock (g.seen.toArray.push y.born) g.clock)).size:=by simp [hh]
   have iN:∀ b,b≠g.b->(w1.heap.setIfInBounds g.b (.mapIter (some L.b) g.clock (g.seen.toArray.push y.born) g.clock))[b]? = w.heap[b]? := λb hb=>by
    rw [HA (Ne.symm hb),hh]
   have cW:=r.fr
   refine hq ρ { w1 with heap:=w1.heap.setIfInBounds g.b (.mapIter (some L.b) g.clock (g.seen.toArray.push y.born) g.clock) } _ _ h _ ⟨⟨cW.grow,cW.fresh,ho.trans cW.os,ht.trans cW.tape,hu.trans cW.output,gn cW.size dx,cW.gJ,cW.low,λb hb hc=>(iN b (by omega)).trans (cW.keep b hb hc),cW.qS⟩,⟨λA' L' dS=>(r.qE.ff A' L' dS).keep (λ_ _ h=>h) dx λ_=>iN _ (i3 A' L' dS),r.qE.inj⟩,r.env.put ((cu.cons (.bool true) (cu.cons v1 (cu.cons v2 (.nil ρ)))).fO) d,by cases d <;> exact r.dd,λg' XI=>?_⟩ (h1 y' (ic Ak) (by rw [v3];exact hns))
   cases XI
   refine ⟨i1,dB i2 dx,i3,L,i4,?_⟩
   show (w1.heap.setIfInBounds g.b _)[g.b]? = _
   rw [Array.getElem?_setIfInBounds_self_of_lt (by rw [hh];exact i2)]
   simp [v3]
  have oG:∀ (w2:World) (o:Obj),w2.heap=w.heap->(setObj g.b o).run P w2=.ok () { w2 with heap:=w2.heap.setIfInBounds g.b o }:=λw2 o hh=>by simp only [setObj,Sem.run,hh,i5]
  by_cases hf:L1.size<=1
  .have h0:0 < L1.size:=by omega
   simp only [choose,Sem.run,Question.forced,hf,decide_true,if_true,Array.getElem?_map,xl h0,jn,Sem.run_bind,oG w _ rfl,Result.andThen]
   exact fin 0 w h0 rfl rfl rfl rfl _ (xl h0)
  .have hj:(w.tape w.drawn (Question.mapNext L1.size)) % L1.size < L1.size:=EH _ (by omega)
   simp only [choose,Sem.run,Question.forced,hf,decide_false,gM,if_false,Question.cut,Array.getElem?_map,xl hj,jn,Sem.run_bind,oG { w with drawn:=w.drawn+1 } _ rfl,Result.andThen]
   exact fin _ { w with drawn:=w.drawn+1 } hj rfl rfl rfl rfl _ (xl hj)
theorem SL.entry {ops:Array Oper} {d:Option Tmp} {x:Operand} {o:Oper} {l0 l:List Oper} {e:Env} {h:Heap} {Q:Env->Heap->Option It->Prop} {g:It} {es:List MapEntry} {s:List Nat} {y:MapEntry} (hl:l0=o::l) (aV:o.op=.entry x) (hd:o.dst=d) (hg:o.guard=none) (hx:bt e x=.chan (some g.b)) (hA:h.get g.A=some (.map es g.clock)) (hn:(es.map (·.born)).Nodup) (hy:y∈es) (hs:g.seen=s++[y.born])
 (h1:SL P ρ0 h0 w0 ops l (put e d (.tuple #[y.key,y.val])) h (some g) Q):SL P ρ0 h0 w0 ops l0 e h (some g) Q:=by
 obtain ⟨d',op,ty,pos,af,g'⟩:=o
 change op=_ at aV
 change d'=d at hd
 change g'=_ at hg
 subst d'
 subst aV hg
 refine SL.one hl rfl λρ w a cE r Qm hq=>?_
 have hv:=r.env.operand (cE x (by simp [Op.operands]))
 rw [hx] at hv
 generalize Mx:a.eval x=av at hv
 cases hv
 obtain ⟨i1,i2,i3,L,i4,i5⟩:=r.it g rfl
 have hb:=r.qE.ff g.A L i4
 rw [hA] at hb
 obtain ⟨ces,yh,pW⟩:=hb
 obtain ⟨i,hi⟩:=uL hy
 have mV:i < ces.size:=by
  have:=(dP.1 hi).1
  rw [pW.1] at this
  simpa using this
 obtain ⟨v1,v2,v3,_⟩:=pW.2 i y ces[i] hi (by simp [mV])
 have FU:ces.toList.map (·.born)=es.map (·.born):=by
  apply qN
  intro j
  rw [lC,lC]
  rcases lM j es.length with hj|hj
  .have Se:j < ces.toList.length:=by rw [<- pW.1];exact hj
   rw [gF hj,gF Se]
   exact congrArg some (pW.2 j _ _ (gF hj) (gF Se)).2.2.1.symm
  .rw [CH hj,CH (by rw [<- pW.1];exact hj)]
 have hf:ces.find? (·.born == y.born)=some ces[i]:=by
  rw [<- Array.find?_toList,v3]
  exact find_born ces[i] ces.toList (by rw [FU];exact hn) (by simp)
 have ey:(Instr.entry (.pointer (some ⟨g.b,0,none⟩))).run P w=.ok (.tuple #[ces[i].key,ces[i].val]) w:=by
  have yc:g.seen.toArray.back? = some y.born:=by rw [hs];simp
  simp only [Instr.entry,getObj,Sem.run_bind,Sem.run,i5,yh,Result.andThen,yc,bne_self_eq_false,gM,if_false,hf]
  rfl
 unfold Oper.wpIn
 refine ⟨λ_ _=>trivial,?_⟩
 rw [Oper.semAt_eq _ _ _ (by simp),show (execOp a.eval ⟨d,.entry x,ty,pos,af,none⟩).run P w=.ok (.value (.tuple #[ces[i].key,ces[i].val])) w by simp [execOp,Mx,ey]]
 have r1:=r.step (a':=a.put d (.tuple #[ces[i].key,ces[i].val])) (e':=put e d (.tuple #[y.key,y.val])) (Fr.refl _ _ _) r.qE (r.env.put ((cu.cons v1 (cu.cons v2 (.nil ρ))).fO) d) (by cases d <;> exact r.dd)
 exact hq _ _ _ _ _ _ r1 h1
theorem SL.call {ops:Array Oper} {d:Option Tmp} {f:Operand} {args:Array Operand} {ats:Array TypeId} {o:Oper} {l0 l:List Oper} {e:Env} {h:Heap} {G:Option It} {Q:Env->Heap->Option It->Prop} {gf:FuncId} (B:RB P T ov ρ0 h0) (hl:l0=o::l) (aV:o.op=.call ⟨.value f,args,ats⟩) (hd:o.dst=d) (hg:o.guard=none) (hf:bt e f=.func (.func gf) #[] #[])
 (hk:zP P T.gs gf (args.toList.map (bt e)) h λv h'=>SL P ρ0 h0 w0 ops l (put e d v) h' G Q):SL P ρ0 h0 w0 ops l0 e h G Q:=by
 obtain ⟨d',op,ty,pos,af,g'⟩:=o
 change op=_ at aV
 change d'=d at hd
 change g'=_ at hg
 subst d'
 subst aV hg
 refine SL.one hl rfl λρ w a cE r Qm hq=>?_
 have hv:=r.env.operand (cE f (by simp [Op.operands,Call.operands]))
 rw [hf] at hv
 have lg:=hv.bD rfl
 have dU:=r.env.operands args.toList (λx hx=>cE x (by simp [Op.operands,Call.operands];exact .inr (by simpa using hx)))
 obtain ⟨q1,q2⟩:=hk ρ w (args.map a.eval) (B.Fy.mono r.fr.grow) r.qE (B.free.step r.fr) (by simpa using dU)
 unfold Oper.wpIn
 refine ⟨λ_ _=>trivial,?_⟩
 rw [Oper.semAt_eq _ _ _ (by simp),show (execOp a.eval ⟨d,.call ⟨.value f,args,ats⟩,ty,pos,af,none⟩).run P w=.ok (.enter gf (args.map a.eval)) w by simp [execOp,resolve,lg,Deferred.ofValue,invoke,q1]]
 refine ⟨(λhh=>by cases hh),zhj (q2.mono ?_)⟩
 rintro ed w' ⟨ρ',v,u,h',rfl,f1,s1,v1,k1⟩
 exact hq ρ' w' u _ h' G (r.step f1 s1 ((r.env.mono f1.grow).put v1 d) (by cases d <;> exact r.dd)) k1
theorem zP.enter (nF:P.follows .mixedOrders=true) (hT:T.Fits P) (r6:CV P T.gs ov) {f:FuncId} {fn:Func} {c:Code} {args:List ab} {h:Heap} {K:aF} (vl:T.fn f=some fn) (hc:fn.body=some c)
 (hk:∀ ρ0 w0,RB P T ov ρ0 h->SD P ρ0 h w0 c (args++List.replicate (fn.ntmps - args.length) undef) h none λx e' h' _=>(x=.ret\/x=.normal)/\∃ v,pz T fn e' h'=some v/\K v h'):zP P T.gs f args h K:=by
 intro ρ w aK hG hs hf hv
 obtain ⟨hP,jy,Xp⟩:=hT.fn f fn vl
 have fV:¬ fn.name="runtime.NumGoroutine":=by simpa using jy
 have he:=ct.enter hv fn.ntmps
 refine ⟨by simp [callFunc,hP,fV,hc],(callsIn_wide (n:=0)).1 (callsIn_of_wp_defers (R:=_) hP hc trivial ?_)⟩
 refine hk ρ w ⟨nF,hT,r6,hG,hf⟩ (.of hG (Xp c hc)) ρ w _ ⟨Fr.refl _ _ _,hs,he,rfl,λ_ q=>by cases q⟩ _ λx ρ1 w1 a1 e1 h1 G1 r1 q1=>?_
 obtain ⟨hx,v,iq,hk⟩:=q1
 obtain ⟨u,hu,lZ⟩:=SH hT r1.qE r1.env iq
 have hl:LeavesIn Fence.wide 0 P fn a1.tmps (λed w'=>∃ ρ' v u h',ed=.returned u/\Fr ρ ρ' h h' w w'/\bP ρ' h' w'/\VR ρ' v u/\K v h') a1.defers .returning w1:=by
  rw [r1.dd]
  exact ⟨u,hu,ρ1,v,u,h1,rfl,r1.fr,r1.qE,lZ,hk⟩
 rcases hx with rfl|rfl
 .exact hl
 .exact hl
theorem SD.oP (B:RB P T ov ρ0 h0) {c c1 c2:Code} (hc:c=.seq c1 c2) (lX:mP c1=true) {G:Option It} {Q:Ex->Env->Heap->Option It->Prop} (hw:W P T ov none c1 e h (UU G (Ry P ρ0 h0 w0 c2 Q))):SD P ρ0 h0 w0 c e h G Q:=SD.seq hc (SD.IY B lX hw)
end
end Go.Am

/- A function that ranges over a map of many entries, in whatever order they come: told over every world. No condition. -/
import Derived.Test.YtmamldleclamjaaGreatDoorG2
import Derived.Laws.IdiomRangeMap
set_option linter.unusedSimpArgs false
namespace Go.Am
open Go.RowKit
variable {h:Heap} {e:Env} {ops:Array Oper}
section
variable {P:Program} {T:bO} {ov:Ov}

def jC (ρ:cn) (h:Heap):Prop:=∀ A,h.size<=A->ρ A=none
theorem jC.step {ρ ρ':cn} {h':Heap} {w w':World} (hf:jC ρ h) (f:Fr ρ ρ' h h' w w'):jC ρ' h':=by
 intro A hA
 cases hρ:ρ' A with
 |none=>rfl
 |some L =>
  have:=(f.fresh A L hρ (hf A (hY f.gM hA))).2.1
  omega
structure It where
 b:Nat
 A:Nat
 clock:Nat
 seen:List Nat
def Aw (w0:World) (ρ:cn) (w:World) (g:It):Prop :=
 w0.heap.size<=g.b/\g.b < w.heap.size/\(∀ A L,ρ A=some L->L.b≠g.b)/\∃ L,ρ g.A=some L/\w.heap[g.b]? = some (.mapIter (some L.b) g.clock g.seen.toArray g.clock)
structure RS (ρ0:cn) (h0:Heap) (w0:World) (ρ:cn) (w:World) (a:Act) (e:Env) (h:Heap) (G:Option It):Prop where
 fr:Fr ρ0 ρ h0 h w0 w
 qv:bR ρ h w
 env:cq ρ e a.tmps
 dd:a.defers=[]
 it:∀ g,G=some g->Aw w0 ρ w g
structure RB (P:Program) (T:bO) (ov:Ov) (ρ0:cn) (h0:Heap):Prop where
 mix:P.follows .mixedOrders=true
 fits:T.Fits P
 Ze:Cj P T.gs ov
 ER:cX T.gs ρ0
 free:jC ρ0 h0
def SD (P:Program) (ρ0:cn) (h0:Heap) (w0:World) (c:Code) (e:Env) (h:Heap) (G:Option It) (Q:Ex->Env->Heap->Option It->Prop):Prop :=
 cF ρ0 c->∀ ρ w a,RS ρ0 h0 w0 ρ w a e h G->∀ Qm:Exit->Act->World->Prop,(∀ x ρ' w' a' e' h' G',RS ρ0 h0 w0 ρ' w' a' e' h' G'->Q x e' h' G'->Qm (Ex.to x) a' w')->c.wpIn (WR none) 0 P Qm a w
def SL (P:Program) (ρ0:cn) (h0:Heap) (w0:World) (ops:Array Oper) (l:List Oper) (e:Env) (h:Heap) (G:Option It) (Q:Env->Heap->Option It->Prop):Prop :=
 (∀ o∈l,jQ ρ0 o)->∀ ρ w a,RS ρ0 h0 w0 ρ w a e h G->∀ Qm:Exit->Act->World->Prop,(∀ ρ' w' a' e' h' G',RS ρ0 h0 w0 ρ' w' a' e' h' G'->Q e' h' G'->Qm .normal a' w')->wpListIn (WR none) 0 P ops Qm l a w
def zn (P:Program) (gs:List Nat) (f:FuncId) (args:List ah) (h:Heap) (K:aI):Prop :=
 ∀ ρ w (aO:Array ah),cX gs ρ->bR ρ h w->jC ρ h->cx ρ args aO.toList->(callFunc f aO).run P w=.ok (.enter f aO) w/\Calls P f aO w λed w'=>∃ ρ' v u h',ed=.returned u/\Fr ρ ρ' h h' w w'/\bR ρ' h' w'/\VR ρ' v u/\K v h'

variable {ρ0:cn} {h0:Heap} {w0:World}

def Q1 (P:Program) (ρ0:cn) (h0:Heap) (w0:World) (c2:Code) (Q:Ex->Env->Heap->Option It->Prop):Ex->Env->Heap->Option It->Prop
 | .normal,e',h',G'=>SD P ρ0 h0 w0 c2 e' h' G' Q
 |x,e',h',G'=>Q x e' h' G'
def TJ (id:Nat) (Q:Ex->Env->Heap->Option It->Prop):Ex->Env->Heap->Option It->Prop
 | .exit i,e',h',G'=>if i=id then Q .normal e' h' G' else Q (.exit i) e' h' G'
 |x,e',h',G'=>Q x e' h' G'
def ZM (I:Nat->Env->Heap->Option It->Prop) (m:Nat) (Q:Ex->Env->Heap->Option It->Prop):Ex->Env->Heap->Option It->Prop
 | .normal,e',h',G'=>∃ m',m' < m/\I m' e' h' G'
 |x,e',h',G'=>Q x e' h' G'
def Ux (G:Option It) (Q:Ex->Env->Heap->Option It->Prop):Ex->Env->Heap->Prop:=λx e' h'=>Q x e' h' G
def atL (G:Option It) (Q:Env->Heap->Option It->Prop):Env->Heap->Prop:=λe' h'=>Q e' h' G
theorem mC (G:Option It) (Q:Ex->Env->Heap->Option It->Prop) (x:Ex) (e:Env) (h:Heap):Ux G Q x e h=Q x e h G:=rfl
theorem zAR (G:Option It) (Q:Env->Heap->Option It->Prop) (e:Env) (h:Heap):atL G Q e h=Q e h G:=rfl
theorem nt (c2:Code) (Q:Ex->Env->Heap->Option It->Prop) (e:Env) (h:Heap) (G:Option It):Q1 P ρ0 h0 w0 c2 Q .normal e h G=SD P ρ0 h0 w0 c2 e h G Q:=rfl
theorem SW (c2:Code) (Q:Ex->Env->Heap->Option It->Prop) (e:Env) (h:Heap) (G:Option It):Q1 P ρ0 h0 w0 c2 Q .ret e h G=Q .ret e h G:=rfl
theorem zma (c2:Code) (Q:Ex->Env->Heap->Option It->Prop) (i:Nat) (e:Env) (h:Heap) (G:Option It):Q1 P ρ0 h0 w0 c2 Q (.exit i) e h G=Q (.exit i) e h G:=rfl
theorem zgx (id:Nat) (Q:Ex->Env->Heap->Option It->Prop) (e:Env) (h:Heap) (G:Option It):TJ id Q .normal e h G=Q .normal e h G:=rfl
theorem zji (id:Nat) (Q:Ex->Env->Heap->Option It->Prop) (e:Env) (h:Heap) (G:Option It):TJ id Q (.exit id) e h G=Q .normal e h G:=aB rfl
theorem zh1 {I:Nat->Env->Heap->Option It->Prop} {m m':Nat} {Q:Ex->Env->Heap->Option It->Prop} {G:Option It} (hm:m' < m) (hi:I m' e h G):ZM I m Q .normal e h G:=⟨m',hm,hi⟩
theorem zlN (I:Nat->Env->Heap->Option It->Prop) (m:Nat) (Q:Ex->Env->Heap->Option It->Prop) (i:Nat) (e:Env) (h:Heap) (G:Option It):ZM I m Q (.exit i) e h G=Q (.exit i) e h G:=rfl

theorem Aw.step {ρ ρ':cn} {h':Heap} {w w':World} {g:It} (i:Aw w0 ρ w g) (f:Fr ρ ρ' h h' w w'):Aw w0 ρ' w' g:=by
 obtain ⟨h1,h2,h3,L,h4,h5⟩:=i
 refine ⟨h1,dJ h2 f.size,λA L' hA hb=>?_,L,f.grow _ _ h4,?_⟩
 .cases hρ:ρ A with
  |some L1 =>
   have:=f.grow A L1 hρ
   rw [hA] at this
   exact h3 A L1 hρ (by rw [<- Option.some.inj this];exact hb)
  |none =>
   rcases (f.fresh A L' hA hρ).2.2 with h6|⟨A0,L0,h6,h7,_⟩
   .omega
   .exact h3 A0 L0 h6 (h7.trans hb)
 .rw [f.keep g.b h2 (λA L hA hb=>absurd hb (h3 A L hA))]
  exact h5
theorem RS.step {ρ ρ':cn} {w w':World} {a a':Act} {e e':Env} {h h':Heap} {G:Option It} (r:RS ρ0 h0 w0 ρ w a e h G) (f:Fr ρ ρ' h h' w w') (s:bR ρ' h' w') (he:cq ρ' e' a'.tmps) (hd:a'.defers=[]):RS ρ0 h0 w0 ρ' w' a' e' h' G :=
 ⟨r.fr.trans f,s,he,hd,λg hg=>(r.it g hg).step f⟩

section
variable (B:RB P T ov ρ0 h0)
include B
theorem SD.Da {c:Code} {G:Option It} {Q:Ex->Env->Heap->Option It->Prop} (lK:mD c=true) (hw:W P T ov none c e h (Ux G Q)):SD P ρ0 h0 w0 c e h G Q:=by
 intro cE ρ w a r Qm hQ
 obtain ⟨n,x,e',h',ak,hq⟩:=W.sound c e h _ hw
 have zP:=SF B.mix B.fits B.Ze n
 have lX:=zhi (T:=T) B.Ze n
 refine Z5 B.fits zP lX (Z6 B.mix B.fits zP lX) (Dm lX) none none w.heap.size a.defers true n c e h x e' h' ρ a w Qm ak (cE.mono r.fr.grow) (λ_=>lK) (B.ER.mono r.fr.grow) r.qv (λA hA _=>(B.free.step r.fr) A hA) r.env Marks.nil trivial (bo _) λρ' a' w' f1 s1 r1 d1=>?_
 obtain ⟨rs,m1,_,m2,_⟩:=d1
 rw [m2 rfl] at m1
 exact hQ x ρ' w' a' e' h' G (r.step f1 s1 r1 (by simpa [r.dd] using m1)) hq
omit B in
theorem SD.seq {c c1 c2:Code} (hc:c=.seq c1 c2) {e:Env} {h:Heap} {G:Option It} {Q:Ex->Env->Heap->Option It->Prop} (h1:SD P ρ0 h0 w0 c1 e h G (Q1 P ρ0 h0 w0 c2 Q)):SD P ρ0 h0 w0 c e h G Q:=by
 subst hc
 intro cE ρ w a r Qm hQ
 refine wpIn_seq (h1 cE.1 ρ w a r _ λx ρ' w' a' e' h' G' r' q'=>?_)
 cases x with
 |normal=>exact q' cE.2 ρ' w' a' r' Qm hQ
 |exit i=>exact hQ _ ρ' w' a' e' h' G' r' q'
 |ret=>exact hQ _ ρ' w' a' e' h' G' r' q'
omit B in
theorem SD.cond {k:Code} {c:Operand} {c1 c2:Code} (hk:k=.cond c c1 c2) {e:Env} {h:Heap} {G:Option It} {Q:Ex->Env->Heap->Option It->Prop} (hc:ze (bz e c) (SD P ρ0 h0 w0 c1 e h G Q) (SD P ρ0 h0 w0 c2 e h G Q)):SD P ρ0 h0 w0 k e h G Q:=by
 subst hk
 intro cE ρ w a r Qm hQ
 have hv:=r.env.operand (cE.1.mono r.fr.grow)
 unfold ze at hc
 split at hc
 .rename_i t hb
  rw [hb] at hv
  cases t with
  |true=>exact wpIn_cond_true (hv.bI rfl) (hc.1 rfl cE.2.1 ρ w a r Qm hQ)
  |false=>exact wpIn_cond_false (hv.bI rfl) (hc.2 rfl cE.2.2 ρ w a r Qm hQ)
 .exact hc.elim
omit B in
theorem SD.block {id:Nat} {k c:Code} (hk:k=.block id c) {e:Env} {h:Heap} {G:Option It} {Q:Ex->Env->Heap->Option It->Prop} (h1:SD P ρ0 h0 w0 c e h G (TJ id Q)):SD P ρ0 h0 w0 k e h G Q:=by
 subst hk
 intro cE ρ w a r Qm hQ
 refine wpIn_block (h1 cE ρ w a r _ λx ρ' w' a' e' h' G' r' q'=>?_)
 cases x with
 |normal=>exact hQ _ ρ' w' a' e' h' G' r' q'
 |ret=>exact hQ _ ρ' w' a' e' h' G' r' q'
 |exit i =>
  simp only [TJ] at q'
  split at q'
  .rename_i hi
   simp only [Ex.to,Exit.inBlock,aB hi]
   exact hQ .normal ρ' w' a' e' h' G' r' q'
  .rename_i hi
   simp only [Ex.to,Exit.inBlock,aA hi]
   exact hQ (.exit i) ρ' w' a' e' h' G' r' q'
omit B in
theorem SD.loop {k c:Code} (hk:k=.loop c) {Q:Ex->Env->Heap->Option It->Prop} (I:Nat->Env->Heap->Option It->Prop) {n:Nat} {e:Env} {h:Heap} {G:Option It} (hi:I n e h G) (round:∀ m e h G,I m e h G->SD P ρ0 h0 w0 c e h G (ZM I m Q)):SD P ρ0 h0 w0 k e h G Q:=by
 subst hk
 intro cE ρ w a r Qm hQ
 have key:∀ (k m:Nat) (e:Env) (h:Heap) (G:Option It) (ρ:cn) (w:World) (a:Act),m < k->I m e h G->RS ρ0 h0 w0 ρ w a e h G->Code.roundsIn (WR none) 0 P c Qm k a w:=by
  intro k
  induction k with
  |zero=>intro m e h G ρ w a hm;omega
  |succ k ih =>
   intro m e h G ρ w a hm hi r
   rw [roundsIn_succ]
   refine round m e h G hi cE ρ w a r _ λx ρ' w' a' e' h' G' r' q'=>?_
   cases x with
   |normal =>
    obtain ⟨m',wz,m9⟩:=q'
    exact ih m' e' h' G' ρ' w' a' (by omega) m9 r'
   |exit i=>exact hQ _ ρ' w' a' e' h' G' r' q'
   |ret=>exact hQ _ ρ' w' a' e' h' G' r' q'
 exact wpIn_loop_rounds (n+1) (key (n+1) n e h G ρ w a (so _) hi r)
omit B in
theorem SD.region {id:Nat} {c:Code} {ops:Array Oper} (hc:c=.region id ops false) {e:Env} {h:Heap} {G:Option It} {Q:Ex->Env->Heap->Option It->Prop} (hl:SL P ρ0 h0 w0 ops (ops.toList.drop 0) e h G (Q .normal)):SD P ρ0 h0 w0 c e h G Q:=by
 subst hc
 intro cE ρ w a r Qm hQ
 exact wpIn_region_list (hl cE ρ w a r Qm λρ' w' a' e' h' G' r' q'=>hQ .normal ρ' w' a' e' h' G' r' q')
omit B in
theorem SL.nil {G:Option It} {Q:Env->Heap->Option It->Prop} (hq:Q e h G):SL P ρ0 h0 w0 ops [] e h G Q:=λ_ ρ w a r _ hQ=>hQ ρ w a e h G r hq
theorem SL.pre {ops:Array Oper} {l2:List Oper} {G:Option It} {Q:Env->Heap->Option It->Prop}:∀ (l1:List Oper) (e:Env) (h:Heap),dg P T ov ops l1 e h (λe' h'=>SL P ρ0 h0 w0 ops l2 e' h' G Q)->SL P ρ0 h0 w0 ops (l1++l2) e h G Q
 | [],e,h,hw=>hw
 |o::l1,e,h,hw=>by
  intro cE ρ w a r Qm hQ
  have yj:∀ q∈l1++l2,jQ ρ0 q:=λq hq=>cE q (eQ _ hq)
  simp only [dg,rC] at hw
  show wpListIn (WR none) 0 P ops Qm (o::(l1++l2)) a w
  unfold wpListIn
  rw [zkS r.env]
  split at hw
  .rename_i gW
   rw [aB gW]
   obtain ⟨n,v,h',ak,hk⟩:=hw.sound
   have zP:=SF B.mix B.fits B.Ze n
   refine (Dl B.fits zP (B.ER.mono r.fr.grow) r.qv r.env ((cE o fZ).mono r.fr.grow) (λA hA _=>(B.free.step r.fr) A hA) ak).wp (Dn ak) λρ1 u w1 f1 s1 v1=>?_
   exact SL.pre l1 _ h' hk yj ρ1 w1 _ (r.step f1 s1 ((r.env.mono f1.grow).put v1 o.dst) (by cases o.dst <;> exact r.dd)) Qm hQ
  .rename_i gW
   rw [aA gW]
   refine ⟨λ_ _=>trivial,?_⟩
   exact SL.pre l1 _ h hw yj ρ w _ (r.step (Fr.refl _ _ _) r.qv (r.env.put (.undef ρ) o.dst) (by cases o.dst <;> exact r.dd)) Qm hQ
end
theorem SL.op (B:RB P T ov ρ0 h0) {ops:Array Oper} {op:Op} {d:Option Tmp} {o:Oper} {l0 l:List Oper} {e:Env} {h h':Heap} {v:ah} {G:Option It} {Q:Env->Heap->Option It->Prop} (hl:l0=o::l) (ua:Qd o=false) (aT:o.op=op) (hd:o.dst=d) (hg:o.guard=none) (ak:∀ ty pos af,gP P T Tw e ⟨d,op,ty,pos,af,none⟩ h=some (v,h'))
 (hk:SL P ρ0 h0 w0 ops l (put e d v) h' G Q):SL P ρ0 h0 w0 ops l0 e h G Q:=by
 subst hl
 refine SL.pre B [o] e h ?_
 obtain ⟨d',op',ty,pos,af,g'⟩:=o
 change op'=_ at aT
 change d'=d at hd
 change g'=_ at hg
 subst d'
 subst aT hg
 have h1:=ak ty pos af
 have hw:nx ops ⟨d,op',ty,pos,af,none⟩ e=true:=rfl
 simp only [dg,rC,hw,if_true]
 rw [zr1 ua,h1]
 exact hk
theorem SL.rest (B:RB P T ov ρ0 h0) {l:List Oper} {G:Option It} {Q:Env->Heap->Option It->Prop} (hw:dg P T ov ops l e h (atL G Q)):SL P ρ0 h0 w0 ops l e h G Q:=by
 have:=SL.pre B (w0:=w0) (l2:=[]) (G:=G) (Q:=Q) l e h (dg.mono _ _ _ _ _ (λe' h' hq=>SL.nil hq) hw)
 simpa using this
theorem SL.one {o:Oper} {l0 l:List Oper} (hl:l0=o::l) {G:Option It} {Q:Env->Heap->Option It->Prop} (hg:o.guard=none)
 (hx:∀ ρ w a,jQ ρ o->RS ρ0 h0 w0 ρ w a e h G->∀ Qm:Exit->Act->World->Prop,(∀ ρ' w' u e' h' G',RS ρ0 h0 w0 ρ' w' (a.put o.dst u) e' h' G'->SL P ρ0 h0 w0 ops l e' h' G' Q->wpListIn (WR none) 0 P ops Qm l (a.put o.dst u) w')->o.wpIn (WR none) 0 P a w (λa' w'=>wpListIn (WR none) 0 P ops Qm l a' w') Qm):SL P ρ0 h0 w0 ops l0 e h G Q:=by
 subst hl
 intro cE ρ w a r Qm hQ
 unfold wpListIn
 rw [aB (by simp [Region.wanted,hg])]
 exact hx ρ w a ((cE o fZ).mono r.fr.grow) r Qm λρ' w' u e' h' G' r' q'=>q' (λq hq=>cE q (eQ _ hq)) ρ' w' _ r' Qm hQ
theorem SL.range (hT:T.Fits P) {ops:Array Oper} {d:Option Tmp} {t k v:TypeId} {x:Operand} {o:Oper} {l0 l:List Oper} {e:Env} {h:Heap} {Q:Env->Heap->Option It->Prop} {A:Nat} {es:List MapEntry} {clock:Nat} (hl:l0=o::l) (aT:o.op=.range t x) (hd:o.dst=d) (hg:o.guard=none) (ht:T.desc t=some (.map k v)) (hx:bz e x=.map (some A)) (hA:h.get A=some (.map es clock))
 (hk:∀ b,SL P ρ0 h0 w0 ops l (put e d (.chan (some b))) h (some ⟨b,A,clock,[]⟩) Q):SL P ρ0 h0 w0 ops l0 e h none Q:=by
 obtain ⟨d',op,ty,pos,af,g'⟩:=o
 change op=_ at aT
 change d'=d at hd
 change g'=_ at hg
 subst d'
 subst aT hg
 refine SL.one hl rfl λρ w a cE r Qm hq=>?_
 have hv:=r.env.operand (cE x (by simp [Op.operands]))
 rw [hx] at hv
 generalize Mg:a.eval x=av at hv
 cases hv with
 |map hL =>
  rename_i L
  have hb:=r.qv.j5 A L hL
  rw [hA] at hb
  obtain ⟨ces,xJ,_⟩:=hb
  have eC:=run_range_map (P:=P) w t k v L.b ces clock (hT.desc _ _ ht) xJ
  unfold Oper.wpIn
  refine ⟨λ_ _=>trivial,?_⟩
  rw [Oper.semAt_eq _ _ _ (by simp),show (execOp a.eval ⟨d,.range t x,ty,pos,af,none⟩).run P w=.ok (.value (.pointer (some ⟨w.heap.size,0,none⟩))) (w.alloc (.mapIter (some L.b) clock #[] clock)) by simp [execOp,Mg,eC]]
  have dF:w.heap.size<=(w.alloc (.mapIter (some L.b) clock #[] clock)).heap.size:=by rw [World.bM];simp
  have hold:∀ b,b < w.heap.size->(w.alloc (.mapIter (some L.b) clock #[] clock)).heap[b]? = w.heap[b]? := λb hb=>heap_alloc_old w _ hb
  have f1:Fr ρ ρ h h w (w.alloc (.mapIter (some L.b) clock #[] clock)):=⟨λ_ _ h=>h,λA L h1 h2=>(by rw [h1] at h2;cases h2),rfl,rfl,rfl,dF,bo _,bo _,λb hb _=>hold b hb,λ_ _ _=>rfl⟩
  have s1:bR ρ h (w.alloc (.mapIter (some L.b) clock #[] clock)):=⟨λA' L' dO=>(r.qv.j5 A' L' dO).keep (λ_ _ h=>h) dF λ_=>hold _ (r.qv.lt dO),r.qv.inj⟩
  have r1:=r.step (a':=a.put d (.pointer (some ⟨w.heap.size,0,none⟩))) (e':=put e d (.chan (some w.heap.size))) f1 s1 (r.env.put (.mv _) d) (by cases d <;> exact r.dd)
  refine hq _ _ _ _ _ _ ⟨r1.fr,r1.qv,r1.env,r1.dd,λg hg=>?_⟩ (hk w.heap.size)
  cases hg
  exact ⟨r.fr.size,by rw [World.bM];simp,λA' L' dO=>Nat.ne_of_lt (r.qv.lt dO),L,hL,heap_alloc_new w _⟩
theorem SL.next {ops:Array Oper} {d:Option Tmp} {x:Operand} {o:Oper} {l0 l:List Oper} {e:Env} {h:Heap} {Q:Env->Heap->Option It->Prop} {g:It} {es:List MapEntry} (hl:l0=o::l) (aT:o.op=.next x false) (hd:o.dst=d) (hg:o.guard=none) (hx:bz e x=.chan (some g.b)) (hA:h.get g.A=some (.map es g.clock)) (hold:∀ y∈es,y.born < g.clock)
 (h1:∀ y∈es,y.born ∉ g.seen->SL P ρ0 h0 w0 ops l (put e d (.tuple #[.bool true,y.key,y.val])) h (some { g with seen:=g.seen++[y.born] }) Q)
 (h2:(∀ y∈es,y.born∈g.seen)->SL P ρ0 h0 w0 ops l (put e d (.tuple #[.bool false])) h (some g) Q):SL P ρ0 h0 w0 ops l0 e h (some g) Q:=by
 obtain ⟨d',op,ty,pos,af,g'⟩:=o
 change op=_ at aT
 change d'=d at hd
 change g'=_ at hg
 subst d'
 subst aT hg
 refine SL.one hl rfl λρ w a cE r Qm hq=>?_
 have hv:=r.env.operand (cE x (by simp [Op.operands]))
 rw [hx] at hv
 generalize Mg:a.eval x=av at hv
 cases hv
 obtain ⟨i1,i2,i3,L,i4,i5⟩:=r.it g rfl
 have hb:=r.qv.j5 g.A L i4
 rw [hA] at hb
 obtain ⟨ces,xJ,pL⟩:=hb
 have born:∀ (i:Nat) (y:MapEntry),ces[i]? = some y->∃ y',es[i]? = some y'/\VR ρ y'.key y.key/\VR ρ y'.val y.val/\y'.born=y.born:=λi y hy=>by
  have hi:i < es.length:=by rw [pL.1];simpa using (mO.1 hy).1
  have:=pL.2 i _ y (ie hi) (by simpa using hy)
  exact ⟨_,ie hi,this.1,this.2.1,this.2.2.1⟩
 have tV:∀ y∈ces.toList,y.born < g.clock:=λy hy=>by
  obtain ⟨i,hi⟩:=sk hy
  obtain ⟨y',zN,_,_,e3⟩:=born i y (by simpa using hi)
  rw [<- e3]
  exact hold y' (fW zN)
 unfold Oper.wpIn
 refine ⟨λ_ _=>trivial,?_⟩
 rw [Oper.semAt_eq _ _ _ (by simp)]
 have hex:(execOp a.eval ⟨d,.next x false,ty,pos,af,none⟩).run P w=((Instr.next (.pointer (some ⟨g.b,0,none⟩)) false ty).run P w).andThen λv w=>.ok (.value v) w:=by simp [execOp,Mg]
 rw [hex]
 have bY:∀ y∈(leftOf ces g.seen.toArray).toList,y.born < g.clock:=λy hy=>tV y (mem_left hy).1
 have xZ:∀ y,y∈(leftOf ces g.seen.toArray).toList->∃ i:Nat,ces[i]? = some y/\y.born ∉ g.seen:=λy hy=>by
  have h3:=mem_left hy
  obtain ⟨i,hi⟩:=sk h3.1
  exact ⟨i,by simpa using hi,by simpa using h3.2⟩
 simp only [Instr.next,getObj,Sem.run_bind,Sem.run,i5,xJ,Result.andThen,next_test_false g.seen.toArray ces g.clock g.clock tV (bo _),gB,if_false]
 have aE:=all_seen ces g.seen.toArray
 unfold leftOf at bY xZ aE
 generalize Array.filter (λe => !g.seen.toArray.contains e.born) ces=L1 at bY xZ aE
 have e1:L1.filter (λx=>decide (x.born < g.clock))=L1:=Array.filter_eq_self.2 (λx hx=>by simpa using bY x (by simpa using hx))
 have e2:L1.filter (λx=>decide (x.born >= g.clock))=#[]:=by
  rw [Array.filter_eq_empty_iff]
  intro x hx
  have:=bY x (by simpa using hx)
  simp
  omega
 simp only [e1,e2,Array.append_empty]
 by_cases hz:L1.size=0
 .have CN:L1=#[]:=Array.eq_empty_of_size_eq_zero hz
  subst CN
  simp only [choose,Sem.run,Question.forced,Array.isEmpty_empty,if_true,JH,dY,dK,Array.map_empty,Array.append_empty,j3,bo,decide_true]
  have r1:=r.step (a':=a.put d (.tuple #[.bool false])) (e':=put e d (.tuple #[.bool false])) (Fr.refl _ _ _) r.qv (r.env.put ((cx.cons (.bool false) (.nil ρ)).fT) d) (by cases d <;> exact r.dd)
  refine hq _ _ _ _ _ _ r1 (h2 λy hy=>?_)
  obtain ⟨i,hi⟩:=sk hy
  have m9:i < ces.size:=by
   have:=(dH.1 hi).1
   rw [pL.1] at this
   simpa using this
  obtain ⟨y',zN,_,_,e3⟩:=born i _ (zd m9)
  rw [hi] at zN
  cases zN
  have:=aE rfl ces[i] (by simp)
  rw [e3]
  simpa using this
 .have aS:L1.isEmpty=false:=by simp [Array.isEmpty,hz]
  simp only [aS,gB,if_false,Array.empty_append,Array.size_map]
  have fin:∀ (j:Nat) (w1:World),j < L1.size->w1.heap=w.heap->w1.os=w.os->w1.tape=w.tape->w1.output=w.output->∀ y,L1[j]? = some y ->
   (Oper.uponIn (WR none) 0 P ⟨d,.next x false,ty,pos,af,none⟩ a (λa' w'=>wpListIn (WR none) 0 P ops Qm l a' w') Qm (.ok (.value (.tuple #[.bool true,y.key,y.val])) { w1 with heap:=w1.heap.setIfInBounds g.b (.mapIter (some L.b) g.clock (g.seen.toArray.push y.born) g.clock) })):=by
   intro j w1 hj hh ho ht hu y hy
   obtain ⟨i,hi,hns⟩:=xZ y (by simpa using fW (l:=L1.toList) (i:=j) (by simpa using hy))
   obtain ⟨y',zN,v1,v2,v3⟩:=born i y hi
   have dF:w.heap.size<=(w1.heap.setIfInBounds g.b (.mapIter (some L.b) g.clock (g.seen.toArray.push y.born) g.clock)).size:=by simp [hh]
   have iL:∀ b,b≠g.b->(w1.heap.setIfInBounds g.b (.mapIter (some L.b) g.clock (g.seen.toArray.push y.born) g.clock))[b]? = w.heap[b]? := λb hb=>by
    rw [G7 (Ne.symm hb),hh]
   have cQ:=r.fr
   refine hq ρ { w1 with heap:=w1.heap.setIfInBounds g.b (.mapIter (some L.b) g.clock (g.seen.toArray.push y.born) g.clock) } _ _ h _ ⟨⟨cQ.grow,cQ.fresh,ho.trans cQ.os,ht.trans cQ.tape,hu.trans cQ.output,hY cQ.size dF,cQ.gM,cQ.low,λb hb hc=>(iL b (by omega)).trans (cQ.keep b hb hc),cQ.qG⟩,⟨λA' L' dO=>(r.qv.j5 A' L' dO).keep (λ_ _ h=>h) dF λ_=>iL _ (i3 A' L' dO),r.qv.inj⟩,r.env.put ((cx.cons (.bool true) (cx.cons v1 (cx.cons v2 (.nil ρ)))).fT) d,by cases d <;> exact r.dd,λg' u6=>?_⟩ (h1 y' (fW zN) (by rw [v3];exact hns))
   cases u6
   refine ⟨i1,dJ i2 dF,i3,L,i4,?_⟩
   show (w1.heap.setIfInBounds g.b _)[g.b]? = _
   rw [Array.getElem?_setIfInBounds_self_of_lt (by rw [hh];exact i2)]
   simp [v3]
  have og:∀ (w2:World) (o:Obj),w2.heap=w.heap->(setObj g.b o).run P w2=.ok () { w2 with heap:=w2.heap.setIfInBounds g.b o }:=λw2 o hh=>by simp only [setObj,Sem.run,hh,i5]
  by_cases hf:L1.size<=1
  .have h0:0 < L1.size:=by omega
   simp only [choose,Sem.run,Question.forced,hf,decide_true,if_true,Array.getElem?_map,zd h0,j2,Sem.run_bind,og w _ rfl,Result.andThen]
   exact fin 0 w h0 rfl rfl rfl rfl _ (zd h0)
  .have hj:(w.tape w.drawn (Question.mapNext L1.size)) % L1.size < L1.size:=D4 _ (by omega)
   simp only [choose,Sem.run,Question.forced,hf,decide_false,gB,if_false,Question.cut,Array.getElem?_map,zd hj,j2,Sem.run_bind,og { w with drawn:=w.drawn+1 } _ rfl,Result.andThen]
   exact fin _ { w with drawn:=w.drawn+1 } hj rfl rfl rfl rfl _ (zd hj)
theorem SL.entry {ops:Array Oper} {d:Option Tmp} {x:Operand} {o:Oper} {l0 l:List Oper} {e:Env} {h:Heap} {Q:Env->Heap->Option It->Prop} {g:It} {es:List MapEntry} {s:List Nat} {y:MapEntry} (hl:l0=o::l) (aT:o.op=.entry x) (hd:o.dst=d) (hg:o.guard=none) (hx:bz e x=.chan (some g.b)) (hA:h.get g.A=some (.map es g.clock)) (hn:(es.map (·.born)).Nodup) (hy:y∈es) (hs:g.seen=s++[y.born])
 (h1:SL P ρ0 h0 w0 ops l (put e d (.tuple #[y.key,y.val])) h (some g) Q):SL P ρ0 h0 w0 ops l0 e h (some g) Q:=by
 obtain ⟨d',op,ty,pos,af,g'⟩:=o
 change op=_ at aT
 change d'=d at hd
 change g'=_ at hg
 subst d'
 subst aT hg
 refine SL.one hl rfl λρ w a cE r Qm hq=>?_
 have hv:=r.env.operand (cE x (by simp [Op.operands]))
 rw [hx] at hv
 generalize Mg:a.eval x=av at hv
 cases hv
 obtain ⟨i1,i2,i3,L,i4,i5⟩:=r.it g rfl
 have hb:=r.qv.j5 g.A L i4
 rw [hA] at hb
 obtain ⟨ces,xJ,pL⟩:=hb
 obtain ⟨i,hi⟩:=sk hy
 have m9:i < ces.size:=by
  have:=(dH.1 hi).1
  rw [pL.1] at this
  simpa using this
 obtain ⟨v1,v2,v3,_⟩:=pL.2 i y ces[i] hi (by simp [m9])
 have Ia:ces.toList.map (·.born)=es.map (·.born):=by
  apply sq
  intro j
  rw [lS,lS]
  rcases lB j es.length with hj|hj
  .have RI:j < ces.toList.length:=by rw [<- pL.1];exact hj
   rw [ie hj,ie RI]
   exact congrArg some (pL.2 j _ _ (ie hj) (ie RI)).2.2.1.symm
  .rw [Hu hj,Hu (by rw [<- pL.1];exact hj)]
 have hf:ces.find? (·.born == y.born)=some ces[i]:=by
  rw [<- Array.find?_toList,v3]
  exact find_born ces[i] ces.toList (by rw [Ia];exact hn) (by simp)
 have eC:(Instr.entry (.pointer (some ⟨g.b,0,none⟩))).run P w=.ok (.tuple #[ces[i].key,ces[i].val]) w:=by
  have Fe:g.seen.toArray.back? = some y.born:=by rw [hs];simp
  simp only [Instr.entry,getObj,Sem.run_bind,Sem.run,i5,xJ,Result.andThen,Fe,bne_self_eq_false,gB,if_false,hf]
  rfl
 unfold Oper.wpIn
 refine ⟨λ_ _=>trivial,?_⟩
 rw [Oper.semAt_eq _ _ _ (by simp),show (execOp a.eval ⟨d,.entry x,ty,pos,af,none⟩).run P w=.ok (.value (.tuple #[ces[i].key,ces[i].val])) w by simp [execOp,Mg,eC]]
 have r1:=r.step (a':=a.put d (.tuple #[ces[i].key,ces[i].val])) (e':=put e d (.tuple #[y.key,y.val])) (Fr.refl _ _ _) r.qv (r.env.put ((cx.cons v1 (cx.cons v2 (.nil ρ))).fT) d) (by cases d <;> exact r.dd)
 exact hq _ _ _ _ _ _ r1 h1
theorem SL.call {ops:Array Oper} {d:Option Tmp} {f:Operand} {args:Array Operand} {ats:Array TypeId} {o:Oper} {l0 l:List Oper} {e:Env} {h:Heap} {G:Option It} {Q:Env->Heap->Option It->Prop} {gf:FuncId} (B:RB P T ov ρ0 h0) (hl:l0=o::l) (aT:o.op=.call ⟨.value f,args,ats⟩) (hd:o.dst=d) (hg:o.guard=none) (hf:bz e f=.func (.func gf) #[] #[])
 (hk:zn P T.gs gf (args.toList.map (bz e)) h λv h'=>SL P ρ0 h0 w0 ops l (put e d v) h' G Q):SL P ρ0 h0 w0 ops l0 e h G Q:=by
 obtain ⟨d',op,ty,pos,af,g'⟩:=o
 change op=_ at aT
 change d'=d at hd
 change g'=_ at hg
 subst d'
 subst aT hg
 refine SL.one hl rfl λρ w a cE r Qm hq=>?_
 have hv:=r.env.operand (cE f (by simp [Op.operands,Call.operands]))
 rw [hf] at hv
 have lH:=hv.bI rfl
 have dP:=r.env.operands args.toList (λx hx=>cE x (by simp [Op.operands,Call.operands];exact .inr (by simpa using hx)))
 obtain ⟨q1,q2⟩:=hk ρ w (args.map a.eval) (B.ER.mono r.fr.grow) r.qv (B.free.step r.fr) (by simpa using dP)
 unfold Oper.wpIn
 refine ⟨λ_ _=>trivial,?_⟩
 rw [Oper.semAt_eq _ _ _ (by simp),show (execOp a.eval ⟨d,.call ⟨.value f,args,ats⟩,ty,pos,af,none⟩).run P w=.ok (.enter gf (args.map a.eval)) w by simp [execOp,resolve,lH,Deferred.ofValue,invoke,q1]]
 refine ⟨(λhh=>by cases hh),zhj (q2.mono ?_)⟩
 rintro ed w' ⟨ρ',v,u,h',rfl,f1,s1,v1,k1⟩
 exact hq ρ' w' u _ h' G (r.step f1 s1 ((r.env.mono f1.grow).put v1 d) (by cases d <;> exact r.dd)) k1
theorem zn.enter (na:P.follows .mixedOrders=true) (hT:T.Fits P) (rS:Cj P T.gs ov) {f:FuncId} {fn:Func} {c:Code} {args:List ah} {h:Heap} {K:aI} (u5:T.fn f=some fn) (hc:fn.body=some c)
 (hk:∀ ρ0 w0,RB P T ov ρ0 h->SD P ρ0 h w0 c (args++List.replicate (fn.ntmps - args.length) undef) h none λx e' h' _=>(x=.ret\/x=.normal)/\∃ v,qf T fn e' h'=some v/\K v h'):zn P T.gs f args h K:=by
 intro ρ w aO hG hs hf hv
 obtain ⟨hP,ju,Xc⟩:=hT.fn f fn u5
 have gh:¬ fn.name="runtime.NumGoroutine":=by simpa using ju
 have he:=cq.enter hv fn.ntmps
 refine ⟨by simp [callFunc,hP,gh,hc],(callsIn_wide (n:=0)).1 (callsIn_of_wp_defers (R:=_) hP hc trivial ?_)⟩
 refine hk ρ w ⟨na,hT,rS,hG,hf⟩ (.of hG (Xc c hc)) ρ w _ ⟨Fr.refl _ _ _,hs,he,rfl,λ_ q=>by cases q⟩ _ λx ρ1 w1 a1 e1 h1 G1 r1 q1=>?_
 obtain ⟨hx,v,jU,hk⟩:=q1
 obtain ⟨u,hu,mL⟩:=Sw hT r1.qv r1.env jU
 have hl:LeavesIn Fence.wide 0 P fn a1.tmps (λed w'=>∃ ρ' v u h',ed=.returned u/\Fr ρ ρ' h h' w w'/\bR ρ' h' w'/\VR ρ' v u/\K v h') a1.defers .returning w1:=by
  rw [r1.dd]
  exact ⟨u,hu,ρ1,v,u,h1,rfl,r1.fr,r1.qv,mL,hk⟩
 rcases hx with rfl|rfl
 .exact hl
 .exact hl
theorem SD.lg (B:RB P T ov ρ0 h0) {c c1 c2:Code} (hc:c=.seq c1 c2) (lK:mD c1=true) {G:Option It} {Q:Ex->Env->Heap->Option It->Prop} (hw:W P T ov none c1 e h (Ux G (Q1 P ρ0 h0 w0 c2 Q))):SD P ρ0 h0 w0 c e h G Q:=SD.seq hc (SD.Da B lK hw)
end
end Go.Am

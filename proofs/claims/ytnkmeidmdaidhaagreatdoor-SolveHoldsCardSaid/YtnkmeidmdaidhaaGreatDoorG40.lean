/- The solver: a state is taken on. No condition. -/
import Derived.Test.YtnkmeidmdaidhaaGreatDoorG38
set_option linter.unusedSimpArgs false
set_option linter.unusedVariables false
noncomputable section
namespace Go.Am
def dG (facts:aN) (cl:List aq) (d:aY) (k:Nat) (s:dv) (c:aq):aY :=
 if s.next.pred≠⟨#[]⟩ then d
 else
  let s1:dv:={ s with next:=cB s.l ((c.body[s.taken]?).getD ah) }
  let o:=aT facts cl { d with ab:=d.ab.set k s1 } s1.next
  iP { o.1 with ab:=o.1.ab.set k { s1 with src:=o.2 } } o.2 k
def fH (k:Nat):aN->aY->aY
 | [],d=>d
 |a::l,d =>
  if d.aD < (d.steps:Int) then d
  else match d.ab[k]? with
   |some s =>
    let d1:=match bz [] s.next a with
     |some m=>jB d ⟨s.call,s.clause,s.taken+1,jq s.l m,ah,0,0⟩
     |none=>d
    fH k l { d1 with ab:=d1.ab.set k { s with seen:=s.seen+1 } }
   |none=>d
def Mr (facts:aN) (cl:List aq) (d:aY) (a:ae):Prop :=
 (∀ i,qb (jM (cY d (bC a)).1 (cY d (bC a)).2.1 ((fB (bC (bC a)) facts).take i))) /\
 ∀ j,qb (gk (jM (cY d (bC a)).1 (cY d (bC a)).2.1 (fB (bC (bC a)) facts)) (cY d (bC a)).2.1 (bC (bC a)) 0 (cl.take j))
def gU (facts:aN) (cl:List aq) (d:aY) (k:Nat):aY :=
 match d.ab[k]? with
 |some s=>match cl[s.clause.toNat]? with
  |some c =>
   if s.taken=c.body.length then gj d s.call (qD c s)
   else
    let d4:=dG facts cl d k s c
    match d4.ab[k]? with
    |some s4=>fH k (((d4.calls[s4.src]?).map aX.answers).getD [] |>.drop s4.seen) d4
    |none=>d4
  |none=>d
 |none=>d
theorem zoZ (d:aY) (a:ae):(cY d a).1.ab=d.ab:=by
 unfold cY
 split
 .rfl
 .split <;> rfl
theorem VJ (i:Nat) (a:ae) (k:Nat):∀ (cl:List aq) (j:Nat) (d:aY),k < d.ab.length->(gk d i a j cl).ab[k]? = d.ab[k]?
 | [],j,d,h=>rfl
 |c::cl,j,d,h=>by
  rw [gk]
  cases j8 a c.head with
  |none=>exact VJ i a k cl (j+1) d h
  |some l =>
   have h2:k < (jB d ⟨i,(j:Int),0,l,ah,0,0⟩).ab.length:=by
    show k < (d.ab++[_]).length
    rw [cT]
    omega
   refine (VJ i a k cl (j+1) _ h2).trans ?_
   show (d.ab++[_])[k]? = _
   rw [jC h]
theorem Ot {facts:aN} {cl:List aq} {d:aY} {a:ae} {k:Nat} (h:k < d.ab.length):(aT facts cl d a).1.ab[k]? = d.ab[k]? := by
 have h2:=zoZ d (bC a)
 unfold aT
 split
 .refine (VJ _ _ k _ _ _ (by rw [KZ,h2];exact h)).trans ?_
  rw [KZ,h2]
 .show (cY d (bC a)).1.ab[k]? = _
  rw [h2]
end Go.Am
namespace Go.Am
variable {k:Nat} {a:ae} {l m:List av}
theorem wX {d:aY} (h:d.aD < (d.steps:Int)):∀ l,fH k l d=d
 | []=>rfl
 |a::l=>by rw [fH,aB h]
theorem xQ {d:aY} (h:d.ab[k]? = none):∀ l,fH k l d=d
 | []=>rfl
 |a::l=>by rw [fH,h];split <;> rfl
def bI (k:Nat) (s:dv) (a:ae) (d:aY):aY :=
 let d1:=match bz [] s.next a with
  |some m=>jB d ⟨s.call,s.clause,s.taken+1,jq s.l m,ah,0,0⟩
  |none=>d
 { d1 with ab:=d1.ab.set k { s with seen:=s.seen+1 } }
theorem tz {s:dv} {d:aY} (hb:¬ d.aD < (d.steps:Int)) (hs:d.ab[k]? = some s) (l:aN):fH k (a::l) d=fH k l (bI k s a d):=by
 rw [fH,aA hb,hs]
 rfl
theorem Vm (k:Nat):∀ (l m:aN) (d:aY),fH k (l++m) d=fH k m (fH k l d)
 | [],m,d=>rfl
 |a::l,m,d=>by
  by_cases hb:d.aD < (d.steps:Int)
  .rw [wX hb,wX hb,wX hb]
  .cases hs:d.ab[k]? with
   |none=>rw [xQ hs,xQ hs,xQ hs]
   |some s=>rw [rO,tz hb hs,tz hb hs,Vm k l m]
theorem Ox {s:dv} {d:aY} (hs:d.ab[k]? = some s):(bI k s a d).ab[k]? = some { s with seen:=s.seen+1 }:=by
 have hl:=ao hs
 unfold bI
 dsimp only
 refine mz ?_
 split
 .show k < (d.ab++[_]).length
  rw [cT]
  omega
 .exact hl
theorem Oh (k:Nat) (s:dv) (a:ae) (d:aY):(bI k s a d).calls=d.calls/\(bI k s a d).aD=d.aD/\(bI k s a d).count=d.count/\(bI k s a d).aC=d.aC/\(bI k s a d).known=d.known/\d.steps<=(bI k s a d).steps/\(bI k s a d).steps<=d.steps+1:=by
 unfold bI
 dsimp only
 split
 .exact ⟨rfl,rfl,rfl,rfl,rfl,mN _,aQ _⟩
 .exact ⟨rfl,rfl,rfl,rfl,rfl,aQ _,mN _⟩
theorem zpq (k:Nat) (s:dv) (a:ae) (d:aY):d.ab.length<=(bI k s a d).ab.length:=by
 unfold bI
 dsimp only
 rw [iS]
 split
 .show d.ab.length<=(d.ab++[_]).length
  rw [cT];omega
 .exact aQ _
theorem Oz (k:Nat):∀ (l:aN) (d:aY),d.ab.length<=(fH k l d).ab.length
 | [],d=>aQ _
 |a::l,d=>by
  by_cases hb:d.aD < (d.steps:Int)
  .rw [wX hb];exact aQ _
  .cases hs:d.ab[k]? with
   |none=>rw [xQ hs];exact aQ _
   |some s=>rw [tz hb hs];exact dZ (zpq k s a d) (Oz k l _)
theorem zxk (l:List av) (b:av):(j9 l b).length=l.length+1:=by
 unfold j9
 rw [cT,eB,<- oU,<- cT,Vp]
theorem Ge {v:aV} {t:ay} (h:iN l v t=some m):m.length=l.length+1:=by
 unfold iN at h
 split at h
 .cases h
 split at h
 .cases h
 split at h
 .cases h
 split at h
 .cases h
 cases h
 rw [zxk]
 unfold gm
 rw [gq]
theorem zwQ {x y:ay} (h:uD l x y=some m):m.length<=l.length+1:=by
 unfold uD at h
 split at h
 .cases h;omega
 split at h
 .exact uJ (Ge h)
 split at h
 .exact uJ (Ge h)
 .cases h
theorem zlH {a b:ae}:∀ {k:Nat} {l:List av},mK a b k=some l->l.length<=k
 |0,l,h=>by cases h;exact aQ _
 |k+1,l,h=>by
  cases ho:mK a b k with
  |none=>rw [F9 (mN k) ho] at h;cases h
  |some o =>
   rw [Ga ho] at h
   have:=zwQ h
   have:=zlH ho
   omega
theorem zuy {b:ae} (h:j8 a b=some l):l.length<=4:=by
 unfold j8 at h
 split at h
 .rename_i ha
  obtain ⟨_,_,_,e4,e5⟩:=bJ.1 ha
  have:=zlH h
  omega
 .cases h
theorem zt3 {x y:ay} (h:qB l x y=some m):m.length<=l.length+1:=by
 unfold qB at h
 split at h
 .split at h <;> cases h
  omega
 split at h
 .split at h <;> cases h
  omega
 .exact uJ (Ge h)
theorem zjO {p g:ae}:∀ {k:Nat} {l m:List av},pY p g k l=some m->m.length<=l.length+k
 |0,l,m,h=>by cases h;exact aQ _
 |k+1,l,m,h=>by
  unfold pY at h
  cases ho:pY p g k l with
  |none=>rw [ho] at h;cases h
  |some o =>
   rw [ho] at h
   have:=zt3 (show qB o (p.arg k) (g.arg k)=some m from h)
   have:=zjO ho
   omega
theorem zrK {p g:ae} (h:bz l p g=some m):m.length<=l.length+4:=by
 unfold bz at h
 split at h
 .cases h
 rename_i hc
 split at h
 .cases h
 have ha:kG p g=true:=by
  cases hq:kG p g
  .exact absurd (.inr (.inl hq)) hc
  .rfl
 obtain ⟨_,_,_,e4,e5⟩:=bJ.1 ha
 have:=zjO h
 omega
theorem zn7 (a b:List av):(jq a b).length<=a.length+b.length:=by
 unfold jq
 split
 .split
  .exact WL b.length
  .exact jl _
 .exact jl _
theorem V8:∀ (l:List Nat) (n:Nat),l.Nodup->(∀ k∈l,k < n)->l.length<=n
 | [],n,_,_=>jl _
 |x::l,0,_,h=>absurd (h x (by simp)) (uH _)
 |x::l,n+1,hn,h=>by
  obtain ⟨h1,h2⟩:=List.nodup_cons.1 hn
  have:=V8 (l.map λk=>if k=n then x else k) n (by
   rw [List.Nodup,List.pairwise_map]
   refine List.Pairwise.imp_of_mem (λ{a b} ha hb ve=>?_) h2
   have ZL:a≠x:=λe=>h1 (e ▸ ha)
   have Ud:b≠x:=λe=>h1 (e ▸ hb)
   by_cases e1:a=n <;> by_cases e2:b=n
   .omega
   .rw [aB e1,aA e2];exact λe=>Ud e.symm
   .rw [aA e1,aB e2];exact ZL
   .rw [aA e1,aA e2];exact ve) (λk hk=>by
   obtain ⟨a,ha,rfl⟩:=ph.1 hk
   have ZL:a≠x:=λe=>h1 (e ▸ ha)
   have h3:=h a (rN _ ha)
   have h4:=h x (by simp)
   split <;> omega)
  rw [gq] at this
  rw [eB]
  omega
structure dE (S W C:Nat) (d:aY):Prop where
 steps:d.steps<=S
 ab:d.ab.length<=d.steps
 aC:d.aC.length<=d.steps
 count:d.count<=d.steps
 lq:∀ c∈d.calls,c.answers.length<=d.steps
 pf:∀ c∈d.calls,c.waiters.length<=W
 queue:d.queue.length<=d.steps*(W+1)
 calls:d.calls.length<=C
theorem dE.HJ {S W C:Nat} {d:aY} (h:dE S W C d) (hS:S<=2000000) (hW:W<=2000000) (hC:C<=4000000):qb d:=by
 have h1:=h.steps
 have h2:d.steps*(W+1)<=2000000*2000001:=Nat.mul_le_mul (by omega) (by omega)
 have h3:=h.queue
 exact ⟨by omega,by omega,by have:=h.calls;omega,λc hc=>by have:=h.lq c hc;omega,λc hc=>by have:=h.pf c hc;omega,by have:=h.count;omega,by have:=h.aC;omega,by have:=h.ab;omega⟩
section
variable {S W C:Nat} {d:aY}
theorem dE.mono {S' C':Nat} (h:dE S W C d) (hS:S<=S') (hC:C<=C'):dE S' W C' d :=
 ⟨dZ h.steps hS,h.ab,h.aC,h.count,h.lq,h.pf,h.queue,dZ h.calls hC⟩
theorem dE.begin (h:dE S W C d) (s:dv):dE (S+1) W C (jB d s):=by
 have h1:=h.steps;have h2:=h.ab;have h3:=h.aC;have h4:=h.count;have h5:=h.queue
 refine ⟨?_,?_,?_,?_,λc hc=>?_,h.pf,?_,h.calls⟩
 .show d.steps+1<=_;omega
 .show (d.ab++[s]).length<=d.steps+1
  rw [cT,jk];omega
 .show d.aC.length<=d.steps+1;omega
 .show d.count<=d.steps+1;omega
 .show c.answers.length<=d.steps+1
  have:=h.lq c hc;omega
 .show (d.queue++[d.ab.length]).length<=(d.steps+1)*(W+1)
  rw [cT,jk,qH];omega
theorem dE.add (h:dE S W C d) (i:Nat) (a:ae):dE (S+1) W C { (bl d i a).1 with steps:=d.steps+1 }:=by
 obtain ⟨k1,k2,k3,k4,k5,k6,k7⟩:=Gj d i a
 have h1:=h.steps;have h2:=h.ab;have h3:=h.aC;have h4:=h.count;have h5:=h.queue
 have hc:(bl d i a).1.count<=d.count+1:=by
  unfold bl
  split
  .split
   .exact mN _
   .exact aQ _
  .exact mN _
 have hm:∀ c∈(bl d i a).1.calls,c.answers.length<=d.steps+1/\c.waiters.length<=W:=by
  intro c hc
  unfold bl at hc
  split at hc
  .rename_i c0 jn
   split at hc
   .exact ⟨Nat.le_succ_of_le (h.lq c hc),h.pf c hc⟩
   .rcases yd hc with hc|rfl
    .exact ⟨Nat.le_succ_of_le (h.lq c hc),h.pf c hc⟩
    .have y6:=ek jn
     refine ⟨?_,h.pf c0 y6⟩
     show (c0.answers++[a]).length<=_
     have:=h.lq c0 y6
     rw [cT,jk];omega
  .exact ⟨Nat.le_succ_of_le (h.lq c hc),h.pf c hc⟩
 refine ⟨?_,?_,?_,?_,λc hc=>(hm c hc).1,λc hc=>(hm c hc).2,?_,?_⟩
 .show d.steps+1<=_;omega
 .show (bl d i a).1.ab.length<=d.steps+1;rw [k3];omega
 .show (bl d i a).1.aC.length<=d.steps+1;rw [k4];omega
 .show (bl d i a).1.count<=d.steps+1;omega
 .show (bl d i a).1.queue.length<=(d.steps+1)*(W+1)
  rw [k2,qH];omega
 .show (bl d i a).1.calls.length<=C;rw [k7];exact h.calls
theorem dE.PG (h:dE S W C d) (i:Nat) (a:ae) (hn:(bl d i a).2=false):(bl d i a).1=d:=by
 unfold bl at hn ⊢
 split
 .rename_i c hc
  rw [hc] at hn
  dsimp only at hn
  split
  .rfl
  .rename_i h2
   rw [aA h2] at hn
   cases hn
 .rfl
theorem dE.answer (h:dE S W C d) (i:Nat) (r:ba):dE (S+1) W C (gj d i r):=by
 cases hn:(bl d i r.atom).2
 .have:gj d i r=d:=by
   unfold gj
   rw [hn,aA (by decide)]
   exact h.PG i r.atom hn
  rw [this]
  exact h.mono (mN _) (aQ _)
 .have e:gj d i r=rD (lI { (bl d i r.atom).1 with steps:=d.steps+1 } r) i:=by
   unfold gj
   rw [hn,aB rfl]
  obtain ⟨k1,k2,k3,k4,k5,k6,k7⟩:=Gj d i r.atom
  have h0:=h.add i r.atom
  have hr:=h.aC
  have hq:=h.queue
  have hw:((((bl d i r.atom).1.calls[i]?).map aX.waiters).getD []).length<=W:=by
   cases hc:(bl d i r.atom).1.calls[i]? with
   |none=>exact jl _
   |some c=>exact h0.pf c (ek hc)
  have hk:lI { (bl d i r.atom).1 with steps:=d.steps+1 } r={ (bl d i r.atom).1 with steps:=d.steps+1,known:=(lI { (bl d i r.atom).1 with steps:=d.steps+1 } r).known,aC:=(lI { (bl d i r.atom).1 with steps:=d.steps+1 } r).aC }/\(lI { (bl d i r.atom).1 with steps:=d.steps+1 } r).aC.length<=d.steps+1:=by
   unfold lI
   dsimp only
   split
   .exact ⟨rfl,by show (bl d i r.atom).1.aC.length<=_;rw [k4];omega⟩
   .refine ⟨rfl,?_⟩
    show ((bl d i r.atom).1.aC++[r]).length<=_
    rw [cT,jk,k4];omega
  rw [e,hk.1]
  refine ⟨h0.steps,h0.ab,hk.2,h0.count,h0.lq,h0.pf,?_,h0.calls⟩
  show ((bl d i r.atom).1.queue++(((bl d i r.atom).1.calls[i]?).map aX.waiters).getD []).length<=(d.steps+1)*(W+1)
  rw [cT,k2,qH];omega
theorem dE.open (h:dE S W C d) (a:ae):dE S W (C+1) (cY d a).1:=by
 unfold cY
 split
 .exact h.mono (aQ _) (mN _)
 split
 .exact h.mono (aQ _) (mN _)
 .refine ⟨h.steps,h.ab,h.aC,h.count,λc hc=>?_,λc hc=>?_,h.queue,?_⟩
  .rcases iT.1 hc with hc|hc
   .exact h.lq c hc
   .rw [eM.1 hc];exact jl _
  .rcases iT.1 hc with hc|hc
   .exact h.pf c hc
   .rw [eM.1 hc];exact jl _
  .show (d.calls++[_]).length<=_
   have:=h.calls
   rw [cT,jk];omega
theorem dE.iI (i:Nat):∀ (l:aN) {S:Nat} {d:aY},dE S W C d->dE (S+l.length) W C (jM d i l)
 | [],S,d,h=>h
 |f::l,S,d,h=>by
  have:=dE.iI i l (h.answer i ⟨f,-1,[]⟩)
  rw [eB,show S+(l.length+1)=S+1+l.length by omega]
  exact this
theorem dE.dr (i:Nat) (a:ae):∀ (cl:List aq) {k S:Nat} {d:aY},dE S W C d->dE (S+cl.length) W C (gk d i a k cl)
 | [],k,S,d,h=>h
 |c::cl,k,S,d,h=>by
  rw [eB,show S+(cl.length+1)=S+1+cl.length by omega,gk]
  refine dE.dr i a cl ?_
  split
  .exact h.begin _
  .exact h.mono (mN _) (aQ _)
theorem dE.Bt (h:dE S W C d) {facts:aN} {cl:List aq} (a:ae) (hS:S+facts.length+cl.length<=2000000) (hW:W<=2000000) (hC:C+1<=4000000):Mr facts cl d a:=by
 have ho:=h.open (bC a)
 have mT:(fB (bC (bC a)) facts).length<=facts.length:=OC _ _
 refine ⟨λi=>?_,λj=>?_⟩
 .refine (dE.iI _ _ ho).HJ ?_ hW hC
  rw [gR];omega
 .refine (dE.dr _ _ _ (dE.iI _ _ ho)).HJ ?_ hW hC
  rw [gR];omega
theorem dE.aT (h:dE S W C d) (facts:aN) (cl:List aq) (a:ae):dE (S+facts.length+cl.length) W (C+1) (aT facts cl d a).1:=by
 have ho:=h.open (bC a)
 have mT:(fB (bC (bC a)) facts).length<=facts.length:=OC _ _
 unfold Am.aT
 split
 .exact (dE.dr _ _ _ (dE.iI _ _ ho)).mono (by omega) (aQ _)
 .exact ho.mono (by omega) (aQ _)
theorem dE.state (h:dE S W C d) (k:Nat) (s:dv):dE S W C { d with ab:=d.ab.set k s } :=
 ⟨h.steps,by show (d.ab.set k s).length<=_;rw [iS];exact h.ab,h.aC,h.count,h.lq,h.pf,h.queue,h.calls⟩
theorem dE.bI (h:dE S W C d) (k:Nat) (s:dv) (a:ae):dE (S+1) W C (bI k s a d):=by
 unfold Am.bI
 dsimp only
 split
 .exact (h.begin _).state k _
 .exact (h.mono (mN _) (aQ _)).state k _
theorem dE.turns (k:Nat) {B:Nat}:∀ (l:aN) {S:Nat} {d:aY},dE S W C d->d.aD=(B:Int)->B+1<=S->dE S W C (fH k l d)
 | [],S,d,h,hb,hS=>h
 |a::l,S,d,h,hb,hS=>by
  by_cases ho:d.aD < (d.steps:Int)
  .rw [wX ho];exact h
  .cases hs:d.ab[k]? with
   |none=>rw [xQ hs];exact h
   |some s =>
    rw [tz ho hs]
    obtain ⟨k1,k2,k3,k4,k5,k6,k7⟩:=Oh k s a d
    have h2:=h.bI k s a
    refine dE.turns k l ⟨by omega,h2.ab,h2.aC,h2.count,h2.lq,h2.pf,h2.queue,h2.calls⟩ (k2.trans hb) hS
end
theorem zws {facts:aN} {cl:List aq} {d:aY} (h:Mr facts cl d a):qb (aT facts cl d a).1:=by
 unfold aT
 split
 .have:=h.2 cl.length
  rw [Mf] at this
  exact this
 .have:=h.1 0
  rw [Fj] at this
  exact this
theorem zsb {d:aY} (h:0 < d.calls.length) (a:ae):(cY d a).2.1 < (cY d a).1.calls.length:=by
 unfold cY
 split
 .exact h
 split
 .rename_i hm
  show wE _ _ < d.calls.length
  have:=List.findIdx_lt_length_of_exists (p:=λx=>decide (bC a=x)) ⟨_,hm,by simp⟩
  rw [gq] at this
  exact this
 .show d.calls.length < (d.calls++[_]).length
  rw [cT,jk];omega
end Go.Am

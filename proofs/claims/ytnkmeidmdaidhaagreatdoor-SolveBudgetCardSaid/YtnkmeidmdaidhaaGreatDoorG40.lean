/- The solver: a state is taken on. No condition. -/
import Derived.Test.YtnkmeidmdaidhaaGreatDoorG38
set_option linter.unusedSimpArgs false
set_option linter.unusedVariables false
noncomputable section
namespace Go.Am
def en (facts:aU) (cl:List ay) (d:bg) (k:Nat) (s:eu) (c:ay):bg :=
 if s.next.pred≠⟨#[]⟩ then d
 else
  let s1:eu:={ s with next:=dA s.l ((c.body[s.taken]?).getD ah) }
  let o:=bp facts cl { d with ab:=d.ab.set k s1 } s1.next
  js { o.1 with ab:=o.1.ab.set k { s1 with src:=o.2 } } o.2 k
def fM (k:Nat):aU->bg->bg
 | [],d=>d
 |a::l,d =>
  if d.aE < (d.steps:Int) then d
  else match d.ab[k]? with
   |some s =>
    let d1:=match cz [] s.next a with
     |some m=>kT d ⟨s.call,s.clause,s.taken+1,kQ s.l m,ah,0,0⟩
     |none=>d
    fM k l { d1 with ab:=d1.ab.set k { s with seen:=s.seen+1 } }
   |none=>d
def Kq (facts:aU) (cl:List ay) (d:bg) (a:ae):Prop :=
 (∀ i,og (jR (dr d (b8 a)).1 (dr d (b8 a)).2.1 ((fX (b8 (b8 a)) facts).take i))) /\
 ∀ j,og (gQ (jR (dr d (b8 a)).1 (dr d (b8 a)).2.1 (fX (b8 (b8 a)) facts)) (dr d (b8 a)).2.1 (b8 (b8 a)) 0 (cl.take j))
def i7 (facts:aU) (cl:List ay) (d:bg) (k:Nat):bg :=
 match d.ab[k]? with
 |some s=>match cl[s.clause.toNat]? with
  |some c =>
   if s.taken=c.body.length then gm d s.call (Dn c s)
   else
    let d4:=en facts cl d k s c
    match d4.ab[k]? with
    |some s4=>fM k (((d4.calls[s4.src]?).map ba.answers).getD [] |>.drop s4.seen) d4
    |none=>d4
  |none=>d
 |none=>d
theorem zn2 (d:bg) (a:ae):(dr d a).1.ab=d.ab:=by
 unfold dr
 split
 .rfl
 .split <;> rfl
theorem To (i:Nat) (a:ae) (k:Nat):∀ (cl:List ay) (j:Nat) (d:bg),k < d.ab.length->(gQ d i a j cl).ab[k]? = d.ab[k]?
 | [],j,d,h=>rfl
 |c::cl,j,d,h=>by
  rw [gQ]
  cases nZ a c.head with
  |none=>exact To i a k cl (j+1) d h
  |some l =>
   have h2:k < (kT d ⟨i,(j:Int),0,l,ah,0,0⟩).ab.length:=by
    show k < (d.ab++[_]).length
    rw [dx]
    omega
   refine (To i a k cl (j+1) _ h2).trans ?_
   show (d.ab++[_])[k]? = _
   rw [kY h]
theorem T5 {facts:aU} {cl:List ay} {d:bg} {a:ae} {k:Nat} (h:k < d.ab.length):(bp facts cl d a).1.ab[k]? = d.ab[k]? := by
 have h2:=zn2 d (b8 a)
 unfold bp
 split
 .refine (To _ _ k _ _ _ (by rw [Jf,h2];exact h)).trans ?_
  rw [Jf,h2]
 .show (dr d (b8 a)).1.ab[k]? = _
  rw [h2]
end Go.Am
namespace Go.Am
variable {k:Nat} {a:ae} {l m:List av}
theorem xZ {d:bg} (h:d.aE < (d.steps:Int)):∀ l,fM k l d=d
 | []=>rfl
 |a::l=>by rw [fM,aG h]
theorem xY {d:bg} (h:d.ab[k]? = none):∀ l,fM k l d=d
 | []=>rfl
 |a::l=>by rw [fM,h];split <;> rfl
def bJ (k:Nat) (s:eu) (a:ae) (d:bg):bg :=
 let d1:=match cz [] s.next a with
  |some m=>kT d ⟨s.call,s.clause,s.taken+1,kQ s.l m,ah,0,0⟩
  |none=>d
 { d1 with ab:=d1.ab.set k { s with seen:=s.seen+1 } }
theorem vP {s:eu} {d:bg} (hb:¬ d.aE < (d.steps:Int)) (hs:d.ab[k]? = some s) (l:aU):fM k (a::l) d=fM k l (bJ k s a d):=by
 rw [fM,aA hb,hs]
 rfl
theorem Te (k:Nat):∀ (l m:aU) (d:bg),fM k (l++m) d=fM k m (fM k l d)
 | [],m,d=>rfl
 |a::l,m,d=>by
  by_cases hb:d.aE < (d.steps:Int)
  .rw [xZ hb,xZ hb,xZ hb]
  .cases hs:d.ab[k]? with
   |none=>rw [xY hs,xY hs,xY hs]
   |some s=>rw [qG,vP hb hs,vP hb hs,Te k l m]
theorem zos {s:eu} {d:bg} (hs:d.ab[k]? = some s):(bJ k s a d).ab[k]? = some { s with seen:=s.seen+1 }:=by
 have hl:=au hs
 unfold bJ
 dsimp only
 refine qF ?_
 split
 .show k < (d.ab++[_]).length
  rw [dx]
  omega
 .exact hl
theorem TK (k:Nat) (s:eu) (a:ae) (d:bg):(bJ k s a d).calls=d.calls/\(bJ k s a d).aE=d.aE/\(bJ k s a d).count=d.count/\(bJ k s a d).aB=d.aB/\(bJ k s a d).known=d.known/\d.steps<=(bJ k s a d).steps/\(bJ k s a d).steps<=d.steps+1:=by
 unfold bJ
 dsimp only
 split
 .exact ⟨rfl,rfl,rfl,rfl,rfl,mx _,aS _⟩
 .exact ⟨rfl,rfl,rfl,rfl,rfl,aS _,mx _⟩
theorem zot (k:Nat) (s:eu) (a:ae) (d:bg):d.ab.length<=(bJ k s a d).ab.length:=by
 unfold bJ
 dsimp only
 rw [ij]
 split
 .show d.ab.length<=(d.ab++[_]).length
  rw [dx];omega
 .exact aS _
theorem Mh (k:Nat):∀ (l:aU) (d:bg),d.ab.length<=(fM k l d).ab.length
 | [],d=>aS _
 |a::l,d=>by
  by_cases hb:d.aE < (d.steps:Int)
  .rw [xZ hb];exact aS _
  .cases hs:d.ab[k]? with
   |none=>rw [xY hs];exact aS _
   |some s=>rw [vP hb hs];exact dZ (zot k s a d) (Mh k l _)
theorem zwc (l:List av) (b:av):(jt l b).length=l.length+1:=by
 unfold jt
 rw [dx,dB,<- na,<- dx,Ts]
theorem Ek {v:bf} {t:az} (h:jz l v t=some m):m.length=l.length+1:=by
 unfold jz at h
 split at h
 .cases h
 split at h
 .cases h
 split at h
 .cases h
 split at h
 .cases h
 cases h
 rw [zwc]
 unfold hY
 rw [fN]
theorem zvK {x y:az} (h:Fi l x y=some m):m.length<=l.length+1:=by
 unfold Fi at h
 split at h
 .cases h;omega
 split at h
 .exact sy (Ek h)
 split at h
 .exact sy (Ek h)
 .cases h
theorem zk0 {a b:ae}:∀ {k:Nat} {l:List av},n7 a b k=some l->l.length<=k
 |0,l,h=>by cases h;exact aS _
 |k+1,l,h=>by
  cases ho:n7 a b k with
  |none=>rw [L5 (mx k) ho] at h;cases h
  |some o =>
   rw [Tq ho] at h
   have:=zvK h
   have:=zk0 ho
   omega
theorem ztB {b:ae} (h:nZ a b=some l):l.length<=4:=by
 unfold nZ at h
 split at h
 .rename_i ha
  obtain ⟨_,_,_,e4,e5⟩:=iq.1 ha
  have:=zk0 h
  omega
 .cases h
theorem zs6 {x y:az} (h:qA l x y=some m):m.length<=l.length+1:=by
 unfold qA at h
 split at h
 .split at h <;> cases h
  omega
 split at h
 .split at h <;> cases h
  omega
 .exact sy (Ek h)
theorem zjv {p g:ae}:∀ {k:Nat} {l m:List av},pH p g k l=some m->m.length<=l.length+k
 |0,l,m,h=>by cases h;exact aS _
 |k+1,l,m,h=>by
  unfold pH at h
  cases ho:pH p g k l with
  |none=>rw [ho] at h;cases h
  |some o =>
   rw [ho] at h
   have:=zs6 (show qA o (p.arg k) (g.arg k)=some m from h)
   have:=zjv ho
   omega
theorem zqU {p g:ae} (h:cz l p g=some m):m.length<=l.length+4:=by
 unfold cz at h
 split at h
 .cases h
 rename_i hc
 split at h
 .cases h
 have ha:lM p g=true:=by
  cases hq:lM p g
  .exact absurd (.inr (.inl hq)) hc
  .rfl
 obtain ⟨_,_,_,e4,e5⟩:=iq.1 ha
 have:=zjv h
 omega
theorem zm9 (a b:List av):(kQ a b).length<=a.length+b.length:=by
 unfold kQ
 split
 .split
  .exact Up b.length
  .exact jv _
 .exact jv _
theorem znN:∀ (l:List Nat) (n:Nat),l.Nodup->(∀ k∈l,k < n)->l.length<=n
 | [],n,_,_=>jv _
 |x::l,0,_,h=>absurd (h x (by simp)) (uZ _)
 |x::l,n+1,hn,h=>by
  obtain ⟨h1,h2⟩:=List.nodup_cons.1 hn
  have:=znN (l.map λk=>if k=n then x else k) n (by
   rw [List.Nodup,List.pairwise_map]
   refine List.Pairwise.imp_of_mem (λ{a b} ha hb ta=>?_) h2
   have Xv:a≠x:=λe=>h1 (e ▸ ha)
   have hxb:b≠x:=λe=>h1 (e ▸ hb)
   by_cases e1:a=n <;> by_cases e2:b=n
   .omega
   .rw [aG e1,aA e2];exact λe=>hxb e.symm
   .rw [aA e1,aG e2];exact Xv
   .rw [aA e1,aA e2];exact ta) (λk hk=>by
   obtain ⟨a,ha,rfl⟩:=sx.1 hk
   have Xv:a≠x:=λe=>h1 (e ▸ ha)
   have h3:=h a (sn _ ha)
   have h4:=h x (by simp)
   split <;> omega)
  rw [fN] at this
  rw [dB]
  omega
structure dp (S W C:Nat) (d:bg):Prop where
 steps:d.steps<=S
 ab:d.ab.length<=d.steps
 aB:d.aB.length<=d.steps
 count:d.count<=d.steps
 lP:∀ c∈d.calls,c.answers.length<=d.steps
 nk:∀ c∈d.calls,c.waiters.length<=W
 queue:d.queue.length<=d.steps*(W+1)
 calls:d.calls.length<=C
theorem dp.FW {S W C:Nat} {d:bg} (h:dp S W C d) (hS:S<=2000000) (hW:W<=2000000) (hC:C<=4000000):og d:=by
 have h1:=h.steps
 have h2:d.steps*(W+1)<=2000000*2000001:=Nat.mul_le_mul (by omega) (by omega)
 have h3:=h.queue
 exact ⟨by omega,by omega,by have:=h.calls;omega,λc hc=>by have:=h.lP c hc;omega,λc hc=>by have:=h.nk c hc;omega,by have:=h.count;omega,by have:=h.aB;omega,by have:=h.ab;omega⟩
section
variable {S W C:Nat} {d:bg}
theorem dp.mono {S' C':Nat} (h:dp S W C d) (hS:S<=S') (hC:C<=C'):dp S' W C' d :=
 ⟨dZ h.steps hS,h.ab,h.aB,h.count,h.lP,h.nk,h.queue,dZ h.calls hC⟩
theorem dp.begin (h:dp S W C d) (s:eu):dp (S+1) W C (kT d s):=by
 have h1:=h.steps;have h2:=h.ab;have h3:=h.aB;have h4:=h.count;have h5:=h.queue
 refine ⟨?_,?_,?_,?_,λc hc=>?_,h.nk,?_,h.calls⟩
 .show d.steps+1<=_;omega
 .show (d.ab++[s]).length<=d.steps+1
  rw [dx,j9];omega
 .show d.aB.length<=d.steps+1;omega
 .show d.count<=d.steps+1;omega
 .show c.answers.length<=d.steps+1
  have:=h.lP c hc;omega
 .show (d.queue++[d.ab.length]).length<=(d.steps+1)*(W+1)
  rw [dx,j9,oH];omega
theorem dp.add (h:dp S W C d) (i:Nat) (a:ae):dp (S+1) W C { (bq d i a).1 with steps:=d.steps+1 }:=by
 obtain ⟨k1,k2,k3,k4,k5,k6,k7⟩:=JF d i a
 have h1:=h.steps;have h2:=h.ab;have h3:=h.aB;have h4:=h.count;have h5:=h.queue
 have hc:(bq d i a).1.count<=d.count+1:=by
  unfold bq
  split
  .split
   .exact mx _
   .exact aS _
  .exact mx _
 have hm:∀ c∈(bq d i a).1.calls,c.answers.length<=d.steps+1/\c.waiters.length<=W:=by
  intro c hc
  unfold bq at hc
  split at hc
  .rename_i c0 lx
   split at hc
   .exact ⟨Nat.le_succ_of_le (h.lP c hc),h.nk c hc⟩
   .rcases EN hc with hc|rfl
    .exact ⟨Nat.le_succ_of_le (h.lP c hc),h.nk c hc⟩
    .have xj:=fV lx
     refine ⟨?_,h.nk c0 xj⟩
     show (c0.answers++[a]).length<=_
     have:=h.lP c0 xj
     rw [dx,j9];omega
  .exact ⟨Nat.le_succ_of_le (h.lP c hc),h.nk c hc⟩
 refine ⟨?_,?_,?_,?_,λc hc=>(hm c hc).1,λc hc=>(hm c hc).2,?_,?_⟩
 .show d.steps+1<=_;omega
 .show (bq d i a).1.ab.length<=d.steps+1;rw [k3];omega
 .show (bq d i a).1.aB.length<=d.steps+1;rw [k4];omega
 .show (bq d i a).1.count<=d.steps+1;omega
 .show (bq d i a).1.queue.length<=(d.steps+1)*(W+1)
  rw [k2,oH];omega
 .show (bq d i a).1.calls.length<=C;rw [k7];exact h.calls
theorem dp.Nr (h:dp S W C d) (i:Nat) (a:ae) (hn:(bq d i a).2=false):(bq d i a).1=d:=by
 unfold bq at hn ⊢
 split
 .rename_i c hc
  rw [hc] at hn
  dsimp only at hn
  split
  .rfl
  .rename_i h2
   rw [aA h2] at hn
   cases hn
 .rfl
theorem dp.answer (h:dp S W C d) (i:Nat) (r:aV):dp (S+1) W C (gm d i r):=by
 cases hn:(bq d i r.atom).2
 .have:gm d i r=d:=by
   unfold gm
   rw [hn,aA (by decide)]
   exact h.Nr i r.atom hn
  rw [this]
  exact h.mono (mx _) (aS _)
 .have e:gm d i r=pE (j7 { (bq d i r.atom).1 with steps:=d.steps+1 } r) i:=by
   unfold gm
   rw [hn,aG rfl]
  obtain ⟨k1,k2,k3,k4,k5,k6,k7⟩:=JF d i r.atom
  have h0:=h.add i r.atom
  have hr:=h.aB
  have hq:=h.queue
  have hw:((((bq d i r.atom).1.calls[i]?).map ba.waiters).getD []).length<=W:=by
   cases hc:(bq d i r.atom).1.calls[i]? with
   |none=>exact jv _
   |some c=>exact h0.nk c (fV hc)
  have hk:j7 { (bq d i r.atom).1 with steps:=d.steps+1 } r={ (bq d i r.atom).1 with steps:=d.steps+1,known:=(j7 { (bq d i r.atom).1 with steps:=d.steps+1 } r).known,aB:=(j7 { (bq d i r.atom).1 with steps:=d.steps+1 } r).aB }/\(j7 { (bq d i r.atom).1 with steps:=d.steps+1 } r).aB.length<=d.steps+1:=by
   unfold j7
   dsimp only
   split
   .exact ⟨rfl,by show (bq d i r.atom).1.aB.length<=_;rw [k4];omega⟩
   .refine ⟨rfl,?_⟩
    show ((bq d i r.atom).1.aB++[r]).length<=_
    rw [dx,j9,k4];omega
  rw [e,hk.1]
  refine ⟨h0.steps,h0.ab,hk.2,h0.count,h0.lP,h0.nk,?_,h0.calls⟩
  show ((bq d i r.atom).1.queue++(((bq d i r.atom).1.calls[i]?).map ba.waiters).getD []).length<=(d.steps+1)*(W+1)
  rw [dx,k2,oH];omega
theorem dp.open (h:dp S W C d) (a:ae):dp S W (C+1) (dr d a).1:=by
 unfold dr
 split
 .exact h.mono (aS _) (mx _)
 split
 .exact h.mono (aS _) (mx _)
 .refine ⟨h.steps,h.ab,h.aB,h.count,λc hc=>?_,λc hc=>?_,h.queue,?_⟩
  .rcases ju.1 hc with hc|hc
   .exact h.lP c hc
   .rw [ek.1 hc];exact jv _
  .rcases ju.1 hc with hc|hc
   .exact h.nk c hc
   .rw [ek.1 hc];exact jv _
  .show (d.calls++[_]).length<=_
   have:=h.calls
   rw [dx,j9];omega
theorem dp.lI (i:Nat):∀ (l:aU) {S:Nat} {d:bg},dp S W C d->dp (S+l.length) W C (jR d i l)
 | [],S,d,h=>h
 |f::l,S,d,h=>by
  have:=dp.lI i l (h.answer i ⟨f,-1,[]⟩)
  rw [dB,show S+(l.length+1)=S+1+l.length by omega]
  exact this
theorem dp.fL (i:Nat) (a:ae):∀ (cl:List ay) {k S:Nat} {d:bg},dp S W C d->dp (S+cl.length) W C (gQ d i a k cl)
 | [],k,S,d,h=>h
 |c::cl,k,S,d,h=>by
  rw [dB,show S+(cl.length+1)=S+1+cl.length by omega,gQ]
  refine dp.fL i a cl ?_
  split
  .exact h.begin _
  .exact h.mono (mx _) (aS _)
theorem dp.zk (h:dp S W C d) {facts:aU} {cl:List ay} (a:ae) (hS:S+facts.length+cl.length<=2000000) (hW:W<=2000000) (hC:C+1<=4000000):Kq facts cl d a:=by
 have ho:=h.open (b8 a)
 have oo:(fX (b8 (b8 a)) facts).length<=facts.length:=MA _ _
 refine ⟨λi=>?_,λj=>?_⟩
 .refine (dp.lI _ _ ho).FW ?_ hW hC
  rw [hZ];omega
 .refine (dp.fL _ _ _ (dp.lI _ _ ho)).FW ?_ hW hC
  rw [hZ];omega
theorem dp.bp (h:dp S W C d) (facts:aU) (cl:List ay) (a:ae):dp (S+facts.length+cl.length) W (C+1) (bp facts cl d a).1:=by
 have ho:=h.open (b8 a)
 have oo:(fX (b8 (b8 a)) facts).length<=facts.length:=MA _ _
 unfold Am.bp
 split
 .exact (dp.fL _ _ _ (dp.lI _ _ ho)).mono (by omega) (aS _)
 .exact ho.mono (by omega) (aS _)
theorem dp.state (h:dp S W C d) (k:Nat) (s:eu):dp S W C { d with ab:=d.ab.set k s } :=
 ⟨h.steps,by show (d.ab.set k s).length<=_;rw [ij];exact h.ab,h.aB,h.count,h.lP,h.nk,h.queue,h.calls⟩
theorem dp.bJ (h:dp S W C d) (k:Nat) (s:eu) (a:ae):dp (S+1) W C (bJ k s a d):=by
 unfold Am.bJ
 dsimp only
 split
 .exact (h.begin _).state k _
 .exact (h.mono (mx _) (aS _)).state k _
theorem dp.turns (k:Nat) {B:Nat}:∀ (l:aU) {S:Nat} {d:bg},dp S W C d->d.aE=(B:Int)->B+1<=S->dp S W C (fM k l d)
 | [],S,d,h,hb,hS=>h
 |a::l,S,d,h,hb,hS=>by
  by_cases ho:d.aE < (d.steps:Int)
  .rw [xZ ho];exact h
  .cases hs:d.ab[k]? with
   |none=>rw [xY hs];exact h
   |some s =>
    rw [vP ho hs]
    obtain ⟨k1,k2,k3,k4,k5,k6,k7⟩:=TK k s a d
    have h2:=h.bJ k s a
    refine dp.turns k l ⟨by omega,h2.ab,h2.aB,h2.count,h2.lP,h2.nk,h2.queue,h2.calls⟩ (k2.trans hb) hS
end
theorem zvu {facts:aU} {cl:List ay} {d:bg} (h:Kq facts cl d a):og (bp facts cl d a).1:=by
 unfold bp
 split
 .have:=h.2 cl.length
  rw [List.take_length] at this
  exact this
 .have:=h.1 0
  rw [Ds] at this
  exact this
theorem zrn {d:bg} (h:0 < d.calls.length) (a:ae):(dr d a).2.1 < (dr d a).1.calls.length:=by
 unfold dr
 split
 .exact h
 split
 .rename_i hm
  show uj _ _ < d.calls.length
  have:=List.findIdx_lt_length_of_exists (p:=λx=>decide (b8 a=x)) ⟨_,hm,by simp⟩
  rw [fN] at this
  exact this
 .show d.calls.length < (d.calls++[_]).length
  rw [dx,j9];omega
end Go.Am

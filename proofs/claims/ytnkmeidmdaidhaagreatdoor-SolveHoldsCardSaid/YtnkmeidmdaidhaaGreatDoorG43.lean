/- The solver: one state taken on keeps the shape and the counts; the run. No condition. -/
import Derived.Test.YtnkmeidmdaidhaaGreatDoorZSB9
set_option linter.unusedSimpArgs false
set_option linter.unusedVariables false
namespace Go.Am
variable {k:Nat}
section
variable {S W C:Nat} {d:aY} {cl:List aq} {facts:aN} {e:Nat}
theorem dE.fix (n:dE S W C d) (h:dU cl e d):dE S W (S+e) d:=by
 have h1:=n.ab
 have h2:=h.cb
 have h3:=znS d.ab
 have h4:=n.steps
 exact ⟨n.steps,n.ab,n.aC,n.count,n.lq,n.pf,n.queue,by omega⟩
theorem dE.wait (n:dE S W C d) (i k:Nat) (h:dU cl e (iP d i k)) (hW:S<=W):dE S W C (iP d i k):=by
 obtain ⟨k1,k2,k3,k4,k5,k6,k7,k8,k9⟩:=BQ d i k
 have h1:=n.ab
 have h4:=n.steps
 refine ⟨by rw [k2];exact n.steps,by rw [k2,k3];exact n.ab,by rw [k2,k7];exact n.aC,by rw [k2,k6];exact n.count,λc hc=>?_,λc hc=>?_,by rw [k2,k5];exact n.queue,by rw [k4];exact n.calls⟩
 .obtain ⟨c0,h0,e0⟩:=k9 c hc
  rw [k2,e0];exact n.lq c0 h0
 .have:=V8 c.waiters _ (h.wn c hc) (h.wb c hc)
  rw [k3] at this
  omega
theorem dU.pos (h:dU cl e d) {s:dv} (hs:d.ab[k]? = some s):0 < d.calls.length:=by have:=(h.st k s hs).call;omega
theorem zys (h:dU cl 1 d) (n:dE S W C d) {s:dv} (hs:d.ab[k]? = some s) (c:aq) (hF:facts.length<=1000) (hL:cl.length<=1000) (hW:S+2000<=W) :
 dU cl 1 (dG facts cl d k s c)/\dE (S+2000) W (S+2001) (dG facts cl d k s c)/\(dG facts cl d k s c).aD=d.aD/\d.steps<=(dG facts cl d k s c).steps/\d.calls.length<=(dG facts cl d k s c).calls.length /\
 ∃ s4,(dG facts cl d k s c).ab[k]? = some s4/\s4.l=s.l/\s4.taken=s.taken/\s4.clause=s.clause/\s4.call=s.call:=by
 by_cases hb:s.next.pred≠⟨#[]⟩
 .have e1:dG facts cl d k s c=d:=by unfold dG;rw [aB hb]
  rw [e1]
  exact ⟨h,((n.mono (by omega) (aQ _)).fix h).mono (aQ _) (by omega),rfl,aQ _,aQ _,s,hs,rfl,rfl,rfl,rfl⟩
 .obtain ⟨s1,jo⟩:∃ s1:dv,s1={ s with next:=cB s.l ((c.body[s.taken]?).getD ah) }:=⟨_,rfl⟩
  obtain ⟨d1,iY⟩:∃ d1:aY,d1={ d with ab:=d.ab.set k s1 }:=⟨_,rfl⟩
  obtain ⟨o,ho⟩:∃ o,o=aT facts cl d1 s1.next:=⟨_,rfl⟩
  have e1:dG facts cl d k s c=iP { o.1 with ab:=o.1.ab.set k { s1 with src:=o.2 } } o.2 k:=by
   unfold dG
   rw [aA hb,ho,iY,jo]
  have jI:=ao hs
  have hS:=h.st k s hs
  have AQ:mO cl d.calls.length s1:=by rw [jo];exact ⟨hS.call,hS.CJ,hS.len,hS.src⟩
  have ta:d1.ab[k]? = some s1:=by rw [iY];exact mz jI
  have qh:d1.calls=d.calls:=by rw [iY]
  have xr:yc s=false:=tO hb
  have hO:dU cl 1 o.1:=by
   cases oo:yc s1
   .have ki:¬ bm (bC s1.next):=λhv=>by
     have h2:=hv.pred.1.1.pos
     have h3:s1.next.pred=⟨#[]⟩:=by
      unfold yc at oo
      simpa using oo
     change 1<=s1.next.pred.size at h2
     rw [h3] at h2
     exact absurd h2 (by decide)
    have eo:o=(d1,0):=by rw [ho];unfold aT;rw [zoX ki];rfl
    rw [eo]
    have:=h.state (e':=1) hs AQ (by rw [xr,oo];exact aQ _)
    rw [iY];exact this
   .have h0:dU cl 0 d1:=by
     rw [iY]
     exact h.state hs AQ (by rw [xr,oo];exact aQ _)
    rw [ho]
    exact h0.aT facts s1.next
  have n1:dE S W C d1:=by rw [iY];exact n.state k s1
  have nO:dE (S+2000) W (C+1) o.1:=by rw [ho];exact (n1.aT facts cl s1.next).mono (by omega) (aQ _)
  obtain ⟨k1,k2,k3,k4⟩:=BP facts cl d1 s1.next
  rw [<- ho] at k1 k2 k3 k4
  have mf:0 < d1.calls.length:=by rw [qh];exact h.pos hs
  have lS:o.2 < o.1.calls.length:=by rw [k3,k4];exact zsb mf _
  have tb:d.calls.length<=o.1.calls.length:=by
   rw [k3,<- qh]
   unfold cY
   split
   .exact aQ _
   .split
    .exact aQ _
    .show d1.calls.length<=(d1.calls++[_]).length
     rw [cT];omega
  have mV:o.1.ab[k]? = some s1:=by rw [ho,Ot (ao ta)];exact ta
  have Sb:mO cl o.1.calls.length { s1 with src:=o.2 }:=⟨dt AQ.call tb,AQ.CJ,AQ.len,lS⟩
  have h3:=hO.state (e':=1) mV Sb (aQ _)
  have n3:=nO.state k { s1 with src:=o.2 }
  have S2:k < ({ o.1 with ab:=o.1.ab.set k { s1 with src:=o.2 } }:aY).ab.length:=by
   show k < (o.1.ab.set k _).length
   rw [iS];exact ao mV
  have h4:=h3.wait o.2 S2
  have n4:=n3.wait o.2 k h4 hW
  obtain ⟨w1,w2,w3,w4,_⟩:=BQ { o.1 with ab:=o.1.ab.set k { s1 with src:=o.2 } } o.2 k
  rw [e1]
  refine ⟨h4,(n4.fix h4).mono (aQ _) (by omega),w1.trans (k1.trans (by rw [iY])),?_,?_,{ s1 with src:=o.2 },?_,by rw [jo],by rw [jo],by rw [jo],by rw [jo]⟩
  .rw [w2]
   refine dZ (uJ ?_) k2
   rw [iY]
  .rw [w4];exact tb
  .rw [w3]
   exact mz (ao mV)
theorem Gs {s:dv} {a:ae} {d:aY} (h:bz [] s.next a=none):bI k s a d={ d with ab:=d.ab.set k { s with seen:=s.seen+1 } }:=by
 unfold bI
 rw [h]
theorem Ew {s:dv} {a:ae} {d:aY} {m:List av} (h:bz [] s.next a=some m):bI k s a d={ jB d ⟨s.call,s.clause,s.taken+1,jq s.l m,ah,0,0⟩ with ab:=(jB d ⟨s.call,s.clause,s.taken+1,jq s.l m,ah,0,0⟩).ab.set k { s with seen:=s.seen+1 } }:=by
 unfold bI
 rw [h]
theorem dU.bI (h:dU cl 1 d) {k:Nat} {s:dv} (hs:d.ab[k]? = some s) {j:Nat} {c:aq} (hj:s.clause=(j:Int)) (hc:cl[j]? = some c) (ht:s.taken < c.body.length) (a:ae):dU cl 1 (bI k s a d):=by
 have hS:=h.st k s hs
 have e0:1+(if yc s=true then 1 else 0)<=1+(if yc { s with seen:=s.seen+1 }=true then 1 else 0):=aQ _
 cases hx:bz [] s.next a with
 |none =>
  rw [Gs hx]
  exact h.state (s':={ s with seen:=s.seen+1 }) hs ⟨hS.call,hS.CJ,hS.len,hS.src⟩ e0
 |some m =>
  rw [Ew hx]
  have hm:=zrK hx
  have hl:=zn7 s.l m
  have gO:=hS.len
  have h2:dU cl 1 (jB d ⟨s.call,s.clause,s.taken+1,jq s.l m,ah,0,0⟩):=h.begin ⟨hS.call,⟨j,c,hj,hc,ht⟩,by
   show (jq s.l m).length<=4+4*(s.taken+1)
   simp only [dK] at hm
   omega,h.pos hs⟩
  have eE:(jB d ⟨s.call,s.clause,s.taken+1,jq s.l m,ah,0,0⟩).ab[k]? = some s:=by
   show (d.ab++[_])[k]? = _
   rw [jC (ao hs)]
   exact hs
  exact h2.state (s':={ s with seen:=s.seen+1 }) eE ⟨hS.call,hS.CJ,hS.len,hS.src⟩ e0
theorem dU.turns {k j:Nat} {c:aq} (hc:cl[j]? = some c):∀ (l:aN) {d:aY} {s:dv},dU cl 1 d->d.ab[k]? = some s->s.clause=(j:Int)->s.taken < c.body.length->dU cl 1 (fH k l d)
 | [],d,s,h,hs,hj,ht=>h
 |a::l,d,s,h,hs,hj,ht=>by
  by_cases hb:d.aD < (d.steps:Int)
  .rw [wX hb];exact h
  .rw [tz hb hs]
   exact dU.turns hc l (h.bI hs hj hc ht a) (Ox hs) hj ht
theorem xR (k:Nat):∀ (l:aN) (d:aY),(fH k l d).aD=d.aD/\d.steps<=(fH k l d).steps/\(fH k l d).calls=d.calls
 | [],d=>⟨rfl,aQ _,rfl⟩
 |a::l,d=>by
  by_cases hb:d.aD < (d.steps:Int)
  .rw [wX hb];exact ⟨rfl,aQ _,rfl⟩
  .cases hs:d.ab[k]? with
   |none=>rw [xQ hs];exact ⟨rfl,aQ _,rfl⟩
   |some s =>
    rw [tz hb hs]
    obtain ⟨k1,k2,k3,k4,k5,k6,k7⟩:=Oh k s a d
    obtain ⟨g1,g2,g3⟩:=xR k l (Am.bI k s a d)
    exact ⟨g1.trans k2,dZ k6 g2,g3.trans k1⟩
structure Pz (facts:aN) (cl:List aq) (d:aY) (k:Nat):Prop where
 ask:∃ s j c,d.ab[k]? = some s/\s.clause=((j:Nat):Int)/\cl[j]? = some c/\s.l.length<=400/\s.taken<=c.body.length/\qb d /\
  (∀ b2,c.body[s.taken]? = some b2->Mr facts cl { d with ab:=d.ab.set k { s with next:=cB s.l b2 } } (cB s.l b2))/\s.call < d.calls.length/\s.src < d.calls.length /\
  (∀ s4 c9,(dG facts cl d k s c).ab[k]? = some s4->(dG facts cl d k s c).calls[s4.src]? = some c9->∀ i,qb (fH k ((c9.answers.drop s4.seen).take i) (dG facts cl d k s c)))
 str:dU cl 1 (gU facts cl d k)
 num:dE 60000 60000 60001 (gU facts cl d k)
 aD:(gU facts cl d k).aD=d.aD
 steps:d.steps<=(gU facts cl d k).steps
theorem zBn {B:Nat} (h:dU cl 1 d) (n:dE 60000 60000 60001 d) (hB:d.aD=(B:Int)) (Il:B<=50000) (ho:¬ d.aD < (d.steps:Int)) (hF:facts.length<=1000) (hL:cl.length<=1000) (kQ:∀ c∈cl,c.body.length<=90) (hk:k < d.ab.length):Pz facts cl d k:=by
 obtain ⟨s,hs⟩:=nM hk
 have hS:=h.st k s hs
 obtain ⟨j,c,hj,hc,ht⟩:=hS.CJ
 have jd:=kQ c (ek hc)
 have n5:dE 50000 60000 60001 d:=⟨by omega,n.ab,n.aC,n.count,n.lq,n.pf,n.queue,n.calls⟩
 have gO:=hS.len
 obtain ⟨p1,p2,p3,p4,p5,s4,q1,q2,q3,q4,q5⟩:=zys (facts:=facts) h n5 hs c hF hL (by omega)
 have gV:qb d:=n5.HJ (by omega) (by omega) (by omega)
 have p2':dE 60000 60000 60001 (dG facts cl d k s c):=p2.mono (by omega) (by omega)
 have hT:∀ l,dE 60000 60000 60001 (fH k l (dG facts cl d k s c)):=λl=>dE.turns k l p2' (p3.trans hB) (by omega)
 have hd:gU facts cl d k=if s.taken=c.body.length then gj d s.call (qD c s) else fH k (((((dG facts cl d k s c).calls[s4.src]?).map aX.answers).getD []).drop s4.seen) (dG facts cl d k s c):=by
  unfold gU
  rw [hs]
  dsimp only
  rw [hj,uG,hc]
  dsimp only
  rw [q1]
 have hA:=tA d s.call (qD c s)
 have hK:=xR k (((((dG facts cl d k s c).calls[s4.src]?).map aX.answers).getD []).drop s4.seen) (dG facts cl d k s c)
 refine ⟨⟨s,j,c,hs,hj,hc,by omega,ht,gV,λb2 ic=>(n5.state k _).Bt _ (by omega) (by omega) (by omega),hS.call,hS.src,λs4' c9 Jw xu i=>(hT _).HJ (by omega) (by omega) (by omega)⟩,?_,?_,?_,?_⟩
 .rw [hd]
  split
  .exact h.answer _ _
  .rename_i aL
   exact dU.turns hc _ p1 q1 (q4.trans hj) (by omega)
 .rw [hd]
  split
  .exact (n5.answer _ _).mono (by omega) (aQ _)
  .exact hT _
 .rw [hd]
  split
  .exact hA.1
  .exact hK.1.trans p3
 .rw [hd]
  split
  .exact hA.2.2.2.1
  .exact dZ p4 hK.2.1
end
theorem zgz (d:aY) (i:Nat) (r:ba):d.queue.length<=(gj d i r).queue.length:=by
 rw [(tA d i r).2.2.2.2,cT]
 exact G5 _ _
theorem zjZ (i:Nat):∀ (l:aN) (d:aY),d.queue.length<=(jM d i l).queue.length
 | [],d=>aQ _
 |f::l,d=>dZ (zgz d i ⟨f,-1,[]⟩) (zjZ i l _)
theorem zh1 (d:aY) (s:dv):d.queue.length<=(jB d s).queue.length:=by
 show _<=(d.queue++[_]).length
 rw [cT]
 exact G5 _ _
theorem Vl (i:Nat) (a:ae):∀ (cs:List aq) (k:Nat) (d:aY),d.queue.length<=(gk d i a k cs).queue.length
 | [],k,d=>aQ _
 |c::cs,k,d=>by
  rw [gk]
  cases j8 a c.head with
  |none=>exact Vl i a cs (k+1) d
  |some l=>exact dZ (zh1 d _) (Vl i a cs (k+1) _)
theorem zqK (d:aY) (a:ae):(cY d a).1.queue=d.queue/\d.calls.length<=(cY d a).1.calls.length:=by
 unfold cY
 split
 .exact ⟨rfl,aQ _⟩
 .split
  .exact ⟨rfl,aQ _⟩
  .refine ⟨rfl,?_⟩
   show _<=(d.calls++[_]).length
   rw [cT]
   exact G5 _ _
theorem zqL (facts:aN) (cl:List aq) (d:aY) (a:ae):d.queue.length<=(aT facts cl d a).1.queue.length/\d.calls.length<=(aT facts cl d a).1.calls.length:=by
 have ho:=zqK d (bC a)
 refine ⟨?_,by rw [(BP facts cl d a).2.2.1];exact ho.2⟩
 rw [<- ho.1]
 unfold aT
 split
 .exact dZ (zjZ _ _ _) (Vl _ _ _ _ _)
 .exact aQ _
theorem VG (facts:aN) (cl:List aq) (d:aY) (k:Nat) (s:dv) (c:aq):d.queue.length<=(dG facts cl d k s c).queue.length/\d.calls.length<=(dG facts cl d k s c).calls.length:=by
 unfold dG
 split
 .exact ⟨aQ _,aQ _⟩
 .dsimp only
  obtain ⟨_,_,_,k4,k5,_⟩:=BQ { (aT facts cl { d with ab:=d.ab.set k { s with next:=cB s.l ((c.body[s.taken]?).getD ah) } } (cB s.l ((c.body[s.taken]?).getD ah))).1 with ab:=(aT facts cl { d with ab:=d.ab.set k { s with next:=cB s.l ((c.body[s.taken]?).getD ah) } } (cB s.l ((c.body[s.taken]?).getD ah))).1.ab.set k { s with next:=cB s.l ((c.body[s.taken]?).getD ah),src:=(aT facts cl { d with ab:=d.ab.set k { s with next:=cB s.l ((c.body[s.taken]?).getD ah) } } (cB s.l ((c.body[s.taken]?).getD ah))).2 } } (aT facts cl { d with ab:=d.ab.set k { s with next:=cB s.l ((c.body[s.taken]?).getD ah) } } (cB s.l ((c.body[s.taken]?).getD ah))).2 k
  have ho:=zqL facts cl { d with ab:=d.ab.set k { s with next:=cB s.l ((c.body[s.taken]?).getD ah) } } (cB s.l ((c.body[s.taken]?).getD ah))
  exact ⟨by rw [k5];exact ho.1,by rw [k4];exact ho.2⟩
theorem zra (k:Nat) (s:dv) (a:ae) (d:aY):d.queue.length<=(bI k s a d).queue.length:=by
 cases h:bz [] s.next a with
 |none=>rw [Gs h];exact aQ _
 |some m=>rw [Ew h];exact zh1 d ⟨s.call,s.clause,s.taken+1,jq s.l m,ah,0,0⟩
theorem zii (k:Nat):∀ (l:aN) (d:aY),d.queue.length<=(fH k l d).queue.length
 | [],d=>aQ _
 |a::l,d=>by
  by_cases hb:d.aD < (d.steps:Int)
  .rw [wX hb];exact aQ _
  .cases hs:d.ab[k]? with
   |none=>rw [xQ hs];exact aQ _
   |some s=>rw [tz hb hs];exact dZ (zra k s a d) (zii k l _)
theorem zvp (facts:aN) (cl:List aq) (d:aY) (k:Nat):d.queue.length<=(gU facts cl d k).queue.length/\d.calls.length<=(gU facts cl d k).calls.length:=by
 unfold gU
 split
 .split
  .split
   .exact ⟨zgz _ _ _,uJ (tA _ _ _).2.2.1.symm⟩
   .dsimp only
    split
    .exact ⟨dZ (VG facts cl d k _ _).1 (zii _ _ _),by rw [(xR _ _ _).2.2];exact (VG facts cl d k _ _).2⟩
    .exact VG facts cl d k _ _
  .exact ⟨aQ _,aQ _⟩
 .exact ⟨aQ _,aQ _⟩
theorem zxL (facts:aN) (cl:List aq) (d:aY) (k:Nat):d.queue.length<=(gU facts cl d k).queue.length:=(zvp facts cl d k).1
theorem zxK (facts:aN) (cl:List aq) (d:aY) (k:Nat):d.calls.length<=(gU facts cl d k).calls.length:=(zvp facts cl d k).2
def oP (b:Int):aY:=⟨b,0,[],0,[],[],[],[]⟩
inductive eT (facts:aN) (cl:List aq):Nat->aY->aY->Prop
 |over {i:Nat} {d:aY}:d.aD < (d.steps:Int)->eT facts cl i d d
 |done {i:Nat} {d:aY}:¬ d.aD < (d.steps:Int)->d.queue.length<=i->eT facts cl i d d
 |step {i k:Nat} {d d':aY}:¬ d.aD < (d.steps:Int)->d.queue[i]? = some k->eT facts cl (i+1) (gU facts cl d k) d'->eT facts cl i d d'
noncomputable def rH (facts:aN) (cl:List aq) (b:Int) (goal:ae):aY:=(aT facts cl (oP b) (bC goal)).1
theorem zvt (cl:List aq) (b:Int):dU cl 0 (oP b):=⟨λk s hs=>(by cases hs),nofun,nofun,nofun,jl _⟩
theorem zvs (b:Int) (W:Nat):dE 0 W 0 (oP b):=⟨aQ _,aQ _,aQ _,aQ _,nofun,nofun,jl _,aQ _⟩
theorem zsu (facts:aN) (cl:List aq) (b:Int) (goal:ae) (hF:facts.length<=1000) (hL:cl.length<=1000):dU cl 1 (rH facts cl b goal)/\dE 60000 60000 60001 (rH facts cl b goal)/\(rH facts cl b goal).aD=b/\Mr facts cl (oP b) (bC goal):=by
 have n:=zvs b 60000
 refine ⟨(zvt cl b).aT facts _,(n.aT facts cl _).mono (by omega) (by omega),(BP facts cl (oP b) (bC goal)).1,n.Bt _ (by omega) (by omega) (by omega)⟩
end Go.Am
namespace Go.Am
variable {A:Nat} {h:Heap}
def zu (W T PM KM:Nat):cG:={ pl:=λr=>match r with | .t=>T | .pm=>PM | .km=>KM|_=>W,vl:=λ_=>.slice none 0 0,vb:=λ_=>.slice none 0 0 }
theorem Inv.first {T:xn} {b h:Heap} {W T0 PM KM:Nat} {bZ vf:ai} {B:Int}
 (qw:ak h W (.row [bZ,vf,.int .i64 B,.int .i64 0,.pointer (some ⟨T0,0,none⟩),.slice none 0 0,.slice none 0 0,.slice none 0 0,.map (some KM)] T.w false))
 (qt:ak h T0 (.row [.map (some PM),.slice none 0 0,.int .i64 0] T.t false)) (mp:bV h PM []) (mk:eR h KM [])
 (hb:b.size<=W/\b.size<=T0/\b.size<=PM/\b.size<=KM) (aL:W≠T0/\W≠PM/\W≠KM/\T0≠PM/\T0≠KM/\PM≠KM):Inv T b [W,T0,PM,KM] (zu W T0 PM KM) bZ vf (oP B) h:=by
 obtain ⟨b1,b2,b3,b4⟩:=hb
 obtain ⟨n1,n2,n3,n4,n5,n6⟩:=aL
 have eD:∀ r,sy (oP B) r->r=.w\/r=.t\/r=.pm\/r=.km:=by
  intro r hr
  cases r with
  |w=>exact .inl rfl
  |t=>exact .inr (.inl rfl)
  |pm=>exact .inr (.inr (.inl rfl))
  |km=>exact .inr (.inr (.inr rfl))
  |ca=>exact absurd rfl hr
  |sa=>exact absurd rfl hr
  |qa=>exact absurd rfl hr
  |ra=>exact absurd rfl hr
  |c i=>exact absurd hr (uH _)
  |th i=>exact absurd hr (uH _)
  |an i=>obtain ⟨c,hc,_⟩:=hr;cases hc
  |wa i=>obtain ⟨c,hc,_⟩:=hr;cases hc
  |s i=>exact absurd hr (uH _)
 refine ⟨λr=>?_,λr hr=>?_,λr r' hr cI e=>?_,λB hB=>?_,λB hB=>?_,λi s hs=>(by cases hs),λi r hr=>(by cases hr)⟩
 .cases r with
  |w=>exact qw
  |t=>exact qt
  |pm=>exact mp
  |km=>exact mk
  |ca=>exact .inl ⟨rfl,rfl⟩
  |sa=>exact .inl ⟨rfl,rfl⟩
  |qa=>exact .inl ⟨rfl,rfl⟩
  |ra=>exact .inl ⟨rfl,rfl⟩
  |c i=>intro c hc;cases hc
  |th i=>intro c hc;cases hc
  |an i=>intro c hc;cases hc
  |wa i=>intro c hc;cases hc
  |s i=>intro s hs;cases hs
 .rcases eD r hr with rfl|rfl|rfl|rfl <;> simp [zu]
 .rcases eD r hr with rfl|rfl|rfl|rfl <;> rcases eD r' cI with rfl|rfl|rfl|rfl <;> first|rfl|(exfalso;simp only [zu] at e;omega)
 .simp only [db,hY,or_false] at hB
  rcases hB with rfl|rfl|rfl|rfl <;> assumption
 .simp only [db,hY,or_false] at hB
  rcases hB with rfl|rfl|rfl|rfl
  .exact qw.lt
  .exact qt.lt
  .exact mp.lt
  .exact mk.lt
theorem LM (vb:Nat->ai):∀ (k:Nat) (l:List ba),(nJ vb k l).length=l.length
 |k,[]=>rfl
 |k,r::l=>by rw [nJ,eB,LM vb (k+1) l,eB]
theorem zwI (vb:Nat->ai):∀ (k:Nat) (l:List ba) (i:Nat) {r:ba},l[i]? = some r->(nJ vb k l)[i]? = some (r.atom,r.clause,vb (k+i))
 |k,x::l,0,r,h=>by
  cases h
  rfl
 |k,x::l,i+1,r,h=>by
  rw [nJ,List.getElem?_cons_succ,zwI vb (k+1) l i (by simpa using h),show k+1+i=k+(i+1) by omega]
theorem Inv.aC {T:xn} {b h:Heap} {E:List Nat} {x:cG} {bZ vf:ai} {d:aY} (v:Inv T b E x bZ vf d h):Sl aG.reason h (x.vl .ra) d.aC:=by
 have o:du aG.rv b h T.r (x.pl .ra) (x.vl .ra) (nJ x.vb 0 d.aC):=v.dB .ra
 rcases o.sl (by decide) with ⟨e1,e2⟩|⟨A,o,c,row,u,ro,e1,e2,e3,e4,e5,e6⟩
 .exact .inl ⟨e1,oN.1 e2⟩
 .rw [LM] at e1 e2 e3
  refine .inr ⟨A,o,c,row,u,ro,e1,e2,e3,e4,e5,λi r hr=>?_⟩
  obtain ⟨cs,h1,h2⟩:=e6 i _ (zwI x.vb 0 d.aC i hr)
  refine ⟨cs,h1,x.vb i,?_,(v.fb i r hr).mono (ui _ _)⟩
  have:=h2.1
  rw [i5] at this
  exact this
theorem Sl.small {Z:Type} {r:aG Z} {h':Heap} {v:ai} {l:List Z} {cs mD:List ai} {u u':TypeId} {ro ro':Bool} (f:Sl r h v l) (q:ak h A (.row cs u ro)) (hk:cs.length < r.k) (c:fc A h h') (q':ak h' A (.row mD u' ro')) (he:∀ cs x,r.R h cs x->r.R h' cs x):Sl r h' v l:=by
 rcases f with ⟨e1,e2⟩|⟨B,o,n,row,t,rr,e1,e2,e3,e4,e5,e6⟩
 .exact .inl ⟨e1,e2⟩
 .by_cases hB:B=A
  .subst hB
   have er:row=cs:=by
    have:=q.get.symm.trans e5
    cases this
    rfl
   have hl:l=[]:=by
    cases l with
    |nil=>rfl
    |cons x l =>
     obtain ⟨c1,h1,_⟩:=e6 0 x rfl
     unfold cut at h1
     split at h1
     .rename_i hh;rw [er] at hh;omega
     .cases h1
   subst hl
   exact .inr ⟨B,o,n,mD,u',ro',e1,e2,e3,q'.lt,q'.get,λi x hx=>by simp at hx⟩
  .refine .inr ⟨B,o,n,row,t,rr,e1,e2,e3,dt e4 c.size,(c.get B e4 hB).trans e5,λi x hx=>?_⟩
   obtain ⟨c1,h1,h2⟩:=e6 i x hx
   exact ⟨c1,h1,he c1 x h2⟩
theorem bV.new (q:ak h A (.map [] 0)):bV h A []:=⟨[],0,q,rfl⟩
theorem eR.new (q:ak h A (.map [] 0)):eR h A []:=⟨[],0,[],q,rfl,λa=>Iff.rfl,nofun⟩
end Go.Am
namespace Go.Proofs.YtnkmeidmdaidhaaGreatDoor
open Go.Am Tryz
set_option maxRecDepth 100000
set_option maxHeartbeats 0
theorem zBa (p:Nat):nP aJ 85 [(0,.map (some p))]=some (.agg ⟨[.map (some p)]⟩):=by kernel_rfl
theorem zBd (p:Nat):nP aJ 88 [(0,.agg ⟨[.map (some p)]⟩)]=some (.agg ⟨[.map (some p),.slice none 0 0,.int .i64 0]⟩):=by kernel_rfl
theorem zyj (h:Heap) (K:aO) (hk:∀ h' T0 PM,Ext h h'->ak h' T0 (.row [.map (some PM),.slice none 0 0,.int .i64 0] 88 false)->bV h' PM []->h.size<=T0->h.size<=PM->T0≠PM->K (.pointer (some ⟨T0,0,none⟩)) h'):Ok prog aJ ov 28 [] h K:=by
 have z:=Ext.refl h
 rw [az h]
 refine Ok.aF 5 (bY XL) ?_
 simp only [aa,seval,c28,Lm,zBa,zBd]
 exact hk _ (h.size+1) (h.size+0) z.aw ⟨by rw [br];simp,by rw [kE];rfl⟩ (bV.new ⟨by rw [br];simp,by rw [kE];rfl⟩) (by omega) (by omega) (by omega)
end Go.Proofs.YtnkmeidmdaidhaaGreatDoor

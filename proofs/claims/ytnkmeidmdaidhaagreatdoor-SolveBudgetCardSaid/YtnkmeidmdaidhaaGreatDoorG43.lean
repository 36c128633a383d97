/- The solver: one state taken on keeps the shape and the counts; the run. No condition. -/
import Derived.Test.YtnkmeidmdaidhaaGreatDoorZSB9
set_option linter.unusedSimpArgs false
set_option linter.unusedVariables false
namespace Go.Am
variable {k:Nat}
section
variable {S W C:Nat} {d:bg} {cl:List ay} {facts:aU} {e:Nat}
theorem dp.fix (n:dp S W C d) (h:dL cl e d):dp S W (S+e) d:=by
 have h1:=n.ab
 have h2:=h.cb
 have h3:=zt6 d.ab
 have h4:=n.steps
 exact ⟨n.steps,n.ab,n.aB,n.count,n.lP,n.nk,n.queue,by omega⟩
theorem dp.wait (n:dp S W C d) (i k:Nat) (h:dL cl e (js d i k)) (hW:S<=W):dp S W C (js d i k):=by
 obtain ⟨k1,k2,k3,k4,k5,k6,k7,k8,k9⟩:=CH d i k
 have h1:=n.ab
 have h4:=n.steps
 refine ⟨by rw [k2];exact n.steps,by rw [k2,k3];exact n.ab,by rw [k2,k7];exact n.aB,by rw [k2,k6];exact n.count,λc hc=>?_,λc hc=>?_,by rw [k2,k5];exact n.queue,by rw [k4];exact n.calls⟩
 .obtain ⟨c0,h0,e0⟩:=k9 c hc
  rw [k2,e0];exact n.lP c0 h0
 .have:=znN c.waiters _ (h.wn c hc) (h.wb c hc)
  rw [k3] at this
  omega
theorem dL.pos (h:dL cl e d) {s:eu} (hs:d.ab[k]? = some s):0 < d.calls.length:=by have:=(h.st k s hs).call;omega
theorem zxe (h:dL cl 1 d) (n:dp S W C d) {s:eu} (hs:d.ab[k]? = some s) (c:ay) (hF:facts.length<=1000) (hL:cl.length<=1000) (hW:S+2000<=W) :
 dL cl 1 (en facts cl d k s c)/\dp (S+2000) W (S+2001) (en facts cl d k s c)/\(en facts cl d k s c).aE=d.aE/\d.steps<=(en facts cl d k s c).steps/\d.calls.length<=(en facts cl d k s c).calls.length /\
 ∃ s4,(en facts cl d k s c).ab[k]? = some s4/\s4.l=s.l/\s4.taken=s.taken/\s4.clause=s.clause/\s4.call=s.call:=by
 by_cases hb:s.next.pred≠⟨#[]⟩
 .have e1:en facts cl d k s c=d:=by unfold en;rw [aG hb]
  rw [e1]
  exact ⟨h,((n.mono (by omega) (aS _)).fix h).mono (aS _) (by omega),rfl,aS _,aS _,s,hs,rfl,rfl,rfl,rfl⟩
 .obtain ⟨s1,mQ⟩:∃ s1:eu,s1={ s with next:=dA s.l ((c.body[s.taken]?).getD ah) }:=⟨_,rfl⟩
  obtain ⟨d1,iR⟩:∃ d1:bg,d1={ d with ab:=d.ab.set k s1 }:=⟨_,rfl⟩
  obtain ⟨o,ho⟩:∃ o,o=bp facts cl d1 s1.next:=⟨_,rfl⟩
  have e1:en facts cl d k s c=js { o.1 with ab:=o.1.ab.set k { s1 with src:=o.2 } } o.2 k:=by
   unfold en
   rw [aA hb,ho,iR,mQ]
  have xb:=au hs
  have hS:=h.st k s hs
  have yR:lp cl d.calls.length s1:=by rw [mQ];exact ⟨hS.call,hS.DK,hS.len,hS.src⟩
  have wY:d1.ab[k]? = some s1:=by rw [iR];exact qF xb
  have qQ:d1.calls=d.calls:=by rw [iR]
  have vm:vW s=false:=su hb
  have hO:dL cl 1 o.1:=by
   cases ng:vW s1
   .have gE:¬ bT (b8 s1.next):=λhv=>by
     have h2:=hv.pred.1.1.pos
     have h3:s1.next.pred=⟨#[]⟩:=by
      unfold vW at ng
      simpa using ng
     change 1<=s1.next.pred.size at h2
     rw [h3] at h2
     exact absurd h2 (by decide)
    have eo:o=(d1,0):=by rw [ho];unfold bp;rw [zvv gE];rfl
    rw [eo]
    have:=h.state (e':=1) hs yR (by rw [vm,ng];exact aS _)
    rw [iR];exact this
   .have h0:dL cl 0 d1:=by
     rw [iR]
     exact h.state hs yR (by rw [vm,ng];exact aS _)
    rw [ho]
    exact h0.bp facts s1.next
  have n1:dp S W C d1:=by rw [iR];exact n.state k s1
  have nO:dp (S+2000) W (C+1) o.1:=by rw [ho];exact (n1.bp facts cl s1.next).mono (by omega) (aS _)
  obtain ⟨k1,k2,k3,k4⟩:=zH facts cl d1 s1.next
  rw [<- ho] at k1 k2 k3 k4
  have aae:0 < d1.calls.length:=by rw [qQ];exact h.pos hs
  have ki:o.2 < o.1.calls.length:=by rw [k3,k4];exact zrn aae _
  have qU:d.calls.length<=o.1.calls.length:=by
   rw [k3,<- qQ]
   unfold dr
   split
   .exact aS _
   .split
    .exact aS _
    .show d1.calls.length<=(d1.calls++[_]).length
     rw [dx];omega
  have qg:o.1.ab[k]? = some s1:=by rw [ho,T5 (au wY)];exact wY
  have P3:lp cl o.1.calls.length { s1 with src:=o.2 }:=⟨dU yR.call qU,yR.DK,yR.len,ki⟩
  have h3:=hO.state (e':=1) qg P3 (aS _)
  have n3:=nO.state k { s1 with src:=o.2 }
  have QL:k < ({ o.1 with ab:=o.1.ab.set k { s1 with src:=o.2 } }:bg).ab.length:=by
   show k < (o.1.ab.set k _).length
   rw [ij];exact au qg
  have h4:=h3.wait o.2 QL
  have n4:=n3.wait o.2 k h4 hW
  obtain ⟨w1,w2,w3,w4,_⟩:=CH { o.1 with ab:=o.1.ab.set k { s1 with src:=o.2 } } o.2 k
  rw [e1]
  refine ⟨h4,(n4.fix h4).mono (aS _) (by omega),w1.trans (k1.trans (by rw [iR])),?_,?_,{ s1 with src:=o.2 },?_,by rw [mQ],by rw [mQ],by rw [mQ],by rw [mQ]⟩
  .rw [w2]
   refine dZ (sy ?_) k2
   rw [iR]
  .rw [w4];exact qU
  .rw [w3]
   exact qF (au qg)
theorem Me {s:eu} {a:ae} {d:bg} (h:cz [] s.next a=none):bJ k s a d={ d with ab:=d.ab.set k { s with seen:=s.seen+1 } }:=by
 unfold bJ
 rw [h]
theorem Mf {s:eu} {a:ae} {d:bg} {m:List av} (h:cz [] s.next a=some m):bJ k s a d={ kT d ⟨s.call,s.clause,s.taken+1,kQ s.l m,ah,0,0⟩ with ab:=(kT d ⟨s.call,s.clause,s.taken+1,kQ s.l m,ah,0,0⟩).ab.set k { s with seen:=s.seen+1 } }:=by
 unfold bJ
 rw [h]
theorem dL.bJ (h:dL cl 1 d) {k:Nat} {s:eu} (hs:d.ab[k]? = some s) {j:Nat} {c:ay} (hj:s.clause=(j:Int)) (hc:cl[j]? = some c) (ht:s.taken < c.body.length) (a:ae):dL cl 1 (bJ k s a d):=by
 have hS:=h.st k s hs
 have e0:1+(if vW s=true then 1 else 0)<=1+(if vW { s with seen:=s.seen+1 }=true then 1 else 0):=aS _
 cases hx:cz [] s.next a with
 |none =>
  rw [Me hx]
  exact h.state (s':={ s with seen:=s.seen+1 }) hs ⟨hS.call,hS.DK,hS.len,hS.src⟩ e0
 |some m =>
  rw [Mf hx]
  have hm:=zqU hx
  have hl:=zm9 s.l m
  have gx:=hS.len
  have h2:dL cl 1 (kT d ⟨s.call,s.clause,s.taken+1,kQ s.l m,ah,0,0⟩):=h.begin ⟨hS.call,⟨j,c,hj,hc,ht⟩,by
   show (kQ s.l m).length<=4+4*(s.taken+1)
   simp only [cW] at hm
   omega,h.pos hs⟩
  have eX:(kT d ⟨s.call,s.clause,s.taken+1,kQ s.l m,ah,0,0⟩).ab[k]? = some s:=by
   show (d.ab++[_])[k]? = _
   rw [kY (au hs)]
   exact hs
  exact h2.state (s':={ s with seen:=s.seen+1 }) eX ⟨hS.call,hS.DK,hS.len,hS.src⟩ e0
theorem dL.turns {k j:Nat} {c:ay} (hc:cl[j]? = some c):∀ (l:aU) {d:bg} {s:eu},dL cl 1 d->d.ab[k]? = some s->s.clause=(j:Int)->s.taken < c.body.length->dL cl 1 (fM k l d)
 | [],d,s,h,hs,hj,ht=>h
 |a::l,d,s,h,hs,hj,ht=>by
  by_cases hb:d.aE < (d.steps:Int)
  .rw [xZ hb];exact h
  .rw [vP hb hs]
   exact dL.turns hc l (h.bJ hs hj hc ht a) (zos hs) hj ht
theorem CJ (k:Nat):∀ (l:aU) (d:bg),(fM k l d).aE=d.aE/\d.steps<=(fM k l d).steps/\(fM k l d).calls=d.calls
 | [],d=>⟨rfl,aS _,rfl⟩
 |a::l,d=>by
  by_cases hb:d.aE < (d.steps:Int)
  .rw [xZ hb];exact ⟨rfl,aS _,rfl⟩
  .cases hs:d.ab[k]? with
   |none=>rw [xY hs];exact ⟨rfl,aS _,rfl⟩
   |some s =>
    rw [vP hb hs]
    obtain ⟨k1,k2,k3,k4,k5,k6,k7⟩:=TK k s a d
    obtain ⟨g1,g2,g3⟩:=CJ k l (Am.bJ k s a d)
    exact ⟨g1.trans k2,dZ k6 g2,g3.trans k1⟩
structure Ni (facts:aU) (cl:List ay) (d:bg) (k:Nat):Prop where
 ask:∃ s j c,d.ab[k]? = some s/\s.clause=((j:Nat):Int)/\cl[j]? = some c/\s.l.length<=400/\s.taken<=c.body.length/\og d /\
  (∀ b2,c.body[s.taken]? = some b2->Kq facts cl { d with ab:=d.ab.set k { s with next:=dA s.l b2 } } (dA s.l b2))/\s.call < d.calls.length/\s.src < d.calls.length /\
  (∀ s4 c9,(en facts cl d k s c).ab[k]? = some s4->(en facts cl d k s c).calls[s4.src]? = some c9->∀ i,og (fM k ((c9.answers.drop s4.seen).take i) (en facts cl d k s c)))
 str:dL cl 1 (i7 facts cl d k)
 num:dp 60000 60000 60001 (i7 facts cl d k)
 aE:(i7 facts cl d k).aE=d.aE
 steps:d.steps<=(i7 facts cl d k).steps
theorem zAP {B:Nat} (h:dL cl 1 d) (n:dp 60000 60000 60001 d) (hB:d.aE=(B:Int)) (Gt:B<=50000) (ho:¬ d.aE < (d.steps:Int)) (hF:facts.length<=1000) (hL:cl.length<=1000) (nh:∀ c∈cl,c.body.length<=90) (hk:k < d.ab.length):Ni facts cl d k:=by
 obtain ⟨s,hs⟩:=vK hk
 have hS:=h.st k s hs
 obtain ⟨j,c,hj,hc,ht⟩:=hS.DK
 have kn:=nh c (fV hc)
 have n5:dp 50000 60000 60001 d:=⟨by omega,n.ab,n.aB,n.count,n.lP,n.nk,n.queue,n.calls⟩
 have gx:=hS.len
 obtain ⟨p1,p2,p3,p4,p5,s4,q1,q2,q3,q4,q5⟩:=zxe (facts:=facts) h n5 hs c hF hL (by omega)
 have fO:og d:=n5.FW (by omega) (by omega) (by omega)
 have p2':dp 60000 60000 60001 (en facts cl d k s c):=p2.mono (by omega) (by omega)
 have hT:∀ l,dp 60000 60000 60001 (fM k l (en facts cl d k s c)):=λl=>dp.turns k l p2' (p3.trans hB) (by omega)
 have hd:i7 facts cl d k=if s.taken=c.body.length then gm d s.call (Dn c s) else fM k (((((en facts cl d k s c).calls[s4.src]?).map ba.answers).getD []).drop s4.seen) (en facts cl d k s c):=by
  unfold i7
  rw [hs]
  dsimp only
  rw [hj,wj,hc]
  dsimp only
  rw [q1]
 have hA:=zB d s.call (Dn c s)
 have hK:=CJ k (((((en facts cl d k s c).calls[s4.src]?).map ba.answers).getD []).drop s4.seen) (en facts cl d k s c)
 refine ⟨⟨s,j,c,hs,hj,hc,by omega,ht,fO,λb2 jg=>(n5.state k _).zk _ (by omega) (by omega) (by omega),hS.call,hS.src,λs4' c9 Xn qf i=>(hT _).FW (by omega) (by omega) (by omega)⟩,?_,?_,?_,?_⟩
 .rw [hd]
  split
  .exact h.answer _ _
  .rename_i aO
   exact dL.turns hc _ p1 q1 (q4.trans hj) (by omega)
 .rw [hd]
  split
  .exact (n5.answer _ _).mono (by omega) (aS _)
  .exact hT _
 .rw [hd]
  split
  .exact hA.1
  .exact hK.1.trans p3
 .rw [hd]
  split
  .exact hA.2.2.2.1
  .exact dZ p4 hK.2.1
end
theorem Zp (d:bg) (i:Nat) (r:aV):d.queue.length<=(gm d i r).queue.length:=by
 rw [(zB d i r).2.2.2.2,dx]
 exact Fc _ _
theorem zjI (i:Nat):∀ (l:aU) (d:bg),d.queue.length<=(jR d i l).queue.length
 | [],d=>aS _
 |f::l,d=>dZ (Zp d i ⟨f,-1,[]⟩) (zjI i l _)
theorem ZQ (d:bg) (s:eu):d.queue.length<=(kT d s).queue.length:=by
 show _<=(d.queue++[_]).length
 rw [dx]
 exact Fc _ _
theorem Td (i:Nat) (a:ae):∀ (cs:List ay) (k:Nat) (d:bg),d.queue.length<=(gQ d i a k cs).queue.length
 | [],k,d=>aS _
 |c::cs,k,d=>by
  rw [gQ]
  cases nZ a c.head with
  |none=>exact Td i a cs (k+1) d
  |some l=>exact dZ (ZQ d _) (Td i a cs (k+1) _)
theorem zpS (d:bg) (a:ae):(dr d a).1.queue=d.queue/\d.calls.length<=(dr d a).1.calls.length:=by
 unfold dr
 split
 .exact ⟨rfl,aS _⟩
 .split
  .exact ⟨rfl,aS _⟩
  .refine ⟨rfl,?_⟩
   show _<=(d.calls++[_]).length
   rw [dx]
   exact Fc _ _
theorem zpT (facts:aU) (cl:List ay) (d:bg) (a:ae):d.queue.length<=(bp facts cl d a).1.queue.length/\d.calls.length<=(bp facts cl d a).1.calls.length:=by
 have ho:=zpS d (b8 a)
 refine ⟨?_,by rw [(zH facts cl d a).2.2.1];exact ho.2⟩
 rw [<- ho.1]
 unfold bp
 split
 .exact dZ (zjI _ _ _) (Td _ _ _ _ _)
 .exact aS _
theorem Tm (facts:aU) (cl:List ay) (d:bg) (k:Nat) (s:eu) (c:ay):d.queue.length<=(en facts cl d k s c).queue.length/\d.calls.length<=(en facts cl d k s c).calls.length:=by
 unfold en
 split
 .exact ⟨aS _,aS _⟩
 .dsimp only
  obtain ⟨_,_,_,k4,k5,_⟩:=CH { (bp facts cl { d with ab:=d.ab.set k { s with next:=dA s.l ((c.body[s.taken]?).getD ah) } } (dA s.l ((c.body[s.taken]?).getD ah))).1 with ab:=(bp facts cl { d with ab:=d.ab.set k { s with next:=dA s.l ((c.body[s.taken]?).getD ah) } } (dA s.l ((c.body[s.taken]?).getD ah))).1.ab.set k { s with next:=dA s.l ((c.body[s.taken]?).getD ah),src:=(bp facts cl { d with ab:=d.ab.set k { s with next:=dA s.l ((c.body[s.taken]?).getD ah) } } (dA s.l ((c.body[s.taken]?).getD ah))).2 } } (bp facts cl { d with ab:=d.ab.set k { s with next:=dA s.l ((c.body[s.taken]?).getD ah) } } (dA s.l ((c.body[s.taken]?).getD ah))).2 k
  have ho:=zpT facts cl { d with ab:=d.ab.set k { s with next:=dA s.l ((c.body[s.taken]?).getD ah) } } (dA s.l ((c.body[s.taken]?).getD ah))
  exact ⟨by rw [k5];exact ho.1,by rw [k4];exact ho.2⟩
theorem zqj (k:Nat) (s:eu) (a:ae) (d:bg):d.queue.length<=(bJ k s a d).queue.length:=by
 cases h:cz [] s.next a with
 |none=>rw [Me h];exact aS _
 |some m=>rw [Mf h];exact ZQ d ⟨s.call,s.clause,s.taken+1,kQ s.l m,ah,0,0⟩
theorem ZN (k:Nat):∀ (l:aU) (d:bg),d.queue.length<=(fM k l d).queue.length
 | [],d=>aS _
 |a::l,d=>by
  by_cases hb:d.aE < (d.steps:Int)
  .rw [xZ hb];exact aS _
  .cases hs:d.ab[k]? with
   |none=>rw [xY hs];exact aS _
   |some s=>rw [vP hb hs];exact dZ (zqj k s a d) (ZN k l _)
theorem zuv (facts:aU) (cl:List ay) (d:bg) (k:Nat):d.queue.length<=(i7 facts cl d k).queue.length/\d.calls.length<=(i7 facts cl d k).calls.length:=by
 unfold i7
 split
 .split
  .split
   .exact ⟨Zp _ _ _,sy (zB _ _ _).2.2.1.symm⟩
   .dsimp only
    split
    .exact ⟨dZ (Tm facts cl d k _ _).1 (ZN _ _ _),by rw [(CJ _ _ _).2.2];exact (Tm facts cl d k _ _).2⟩
    .exact Tm facts cl d k _ _
  .exact ⟨aS _,aS _⟩
 .exact ⟨aS _,aS _⟩
theorem zwA (facts:aU) (cl:List ay) (d:bg) (k:Nat):d.queue.length<=(i7 facts cl d k).queue.length:=(zuv facts cl d k).1
theorem zwz (facts:aU) (cl:List ay) (d:bg) (k:Nat):d.calls.length<=(i7 facts cl d k).calls.length:=(zuv facts cl d k).2
def nY (b:Int):bg:=⟨b,0,[],0,[],[],[],[]⟩
inductive dW (facts:aU) (cl:List ay):Nat->bg->bg->Prop
 |over {i:Nat} {d:bg}:d.aE < (d.steps:Int)->dW facts cl i d d
 |done {i:Nat} {d:bg}:¬ d.aE < (d.steps:Int)->d.queue.length<=i->dW facts cl i d d
 |step {i k:Nat} {d d':bg}:¬ d.aE < (d.steps:Int)->d.queue[i]? = some k->dW facts cl (i+1) (i7 facts cl d k) d'->dW facts cl i d d'
theorem dW.Wu {facts:aU} {cl:List ay} {i:Nat} {d d1:bg} (h:dW facts cl i d d1):∀ {d2:bg},dW facts cl i d d2->d1=d2:=by
 induction h with
 |over ho =>
  intro d2 g
  cases g with
  |over=>rfl
  |done hn _=>rfl
  |step hn _ _=>exact absurd ho hn
 |done hn hl =>
  intro d2 g
  cases g with
  |over=>rfl
  |done=>rfl
  |step _ hq _=>exact absurd (au hq) (by omega)
 |step hn hq _ ih =>
  intro d2 g
  cases g with
  |over ho=>exact absurd ho hn
  |done _ hl=>exact absurd (au hq) (by omega)
  |step _ Rc g2 =>
   rw [hq] at Rc
   cases Rc
   exact ih g2
noncomputable def m9 (facts:aU) (cl:List ay) (b:Int) (goal:ae):bg:=(bp facts cl (nY b) (b8 goal)).1
theorem zuz (cl:List ay) (b:Int):dL cl 0 (nY b):=⟨λk s hs=>(by cases hs),nofun,nofun,nofun,jv _⟩
theorem zuy (b:Int) (W:Nat):dp 0 W 0 (nY b):=⟨aS _,aS _,aS _,aS _,nofun,nofun,jv _,aS _⟩
theorem zxq (facts:aU) (cl:List ay) (b:Int) (goal:ae) (hF:facts.length<=1000) (hL:cl.length<=1000):dL cl 1 (m9 facts cl b goal)/\dp 60000 60000 60001 (m9 facts cl b goal)/\(m9 facts cl b goal).aE=b/\Kq facts cl (nY b) (b8 goal):=by
 have n:=zuy b 60000
 refine ⟨(zuz cl b).bp facts _,(n.bp facts cl _).mono (by omega) (by omega),(zH facts cl (nY b) (b8 goal)).1,n.zk _ (by omega) (by omega) (by omega)⟩
end Go.Am
namespace Go.Am
variable {A:Nat} {h:Heap}
def xD (W T PM KM:Nat):cp:={ pl:=λr=>match r with | .t=>T | .pm=>PM | .km=>KM|_=>W,vl:=λ_=>.slice none 0 0,vb:=λ_=>.slice none 0 0 }
theorem Inv.first {T:vd} {b h:Heap} {W T0 PM KM:Nat} {bN vf:ai} {B:Int}
 (qw:ak h W (.row [bN,vf,.int .i64 B,.int .i64 0,.pointer (some ⟨T0,0,none⟩),.slice none 0 0,.slice none 0 0,.slice none 0 0,.map (some KM)] T.w false))
 (qt:ak h T0 (.row [.map (some PM),.slice none 0 0,.int .i64 0] T.t false)) (mp:ct h PM []) (mk:fj h KM [])
 (hb:b.size<=W/\b.size<=T0/\b.size<=PM/\b.size<=KM) (aO:W≠T0/\W≠PM/\W≠KM/\T0≠PM/\T0≠KM/\PM≠KM):Inv T b [W,T0,PM,KM] (xD W T0 PM KM) bN vf (nY B) h:=by
 obtain ⟨b1,b2,b3,b4⟩:=hb
 obtain ⟨n1,n2,n3,n4,n5,n6⟩:=aO
 have dG:∀ r,qD (nY B) r->r=.w\/r=.t\/r=.pm\/r=.km:=by
  intro r hr
  cases r with
  |w=>exact .inl rfl
  |t=>exact .inr (.inl rfl)
  |pm=>exact .inr (.inr (.inl rfl))
  |km=>exact .inr (.inr (.inr rfl))
  |ca=>exact absurd rfl hr
  |sa=>exact absurd rfl hr
  |qa=>exact absurd rfl hr
  |ra=>exact absurd rfl hr
  |c i=>exact absurd hr (uZ _)
  |th i=>exact absurd hr (uZ _)
  |an i=>obtain ⟨c,hc,_⟩:=hr;cases hc
  |wa i=>obtain ⟨c,hc,_⟩:=hr;cases hc
  |s i=>exact absurd hr (uZ _)
 refine ⟨λr=>?_,λr hr=>?_,λr r' hr cv e=>?_,λB hB=>?_,λB hB=>?_,λi s hs=>(by cases hs),λi r hr=>(by cases hr)⟩
 .cases r with
  |w=>exact qw
  |t=>exact qt
  |pm=>exact mp
  |km=>exact mk
  |ca=>exact .inl ⟨rfl,rfl⟩
  |sa=>exact .inl ⟨rfl,rfl⟩
  |qa=>exact .inl ⟨rfl,rfl⟩
  |ra=>exact .inl ⟨rfl,rfl⟩
  |c i=>intro c hc;cases hc
  |th i=>intro c hc;cases hc
  |an i=>intro c hc;cases hc
  |wa i=>intro c hc;cases hc
  |s i=>intro s hs;cases hs
 .rcases dG r hr with rfl|rfl|rfl|rfl <;> simp [xD]
 .rcases dG r hr with rfl|rfl|rfl|rfl <;> rcases dG r' cv with rfl|rfl|rfl|rfl <;> first|rfl|(exfalso;simp only [xD] at e;omega)
 .simp only [dg,gS,or_false] at hB
  rcases hB with rfl|rfl|rfl|rfl <;> assumption
 .simp only [dg,gS,or_false] at hB
  rcases hB with rfl|rfl|rfl|rfl
  .exact qw.lt
  .exact qt.lt
  .exact mp.lt
  .exact mk.lt
theorem JW (vb:Nat->ai):∀ (k:Nat) (l:List aV),(mn vb k l).length=l.length
 |k,[]=>rfl
 |k,r::l=>by rw [mn,dB,JW vb (k+1) l,dB]
theorem zvF (vb:Nat->ai):∀ (k:Nat) (l:List aV) (i:Nat) {r:aV},l[i]? = some r->(mn vb k l)[i]? = some (r.atom,r.clause,vb (k+i))
 |k,x::l,0,r,h=>by
  cases h
  rfl
 |k,x::l,i+1,r,h=>by
  rw [mn,List.getElem?_cons_succ,zvF vb (k+1) l i (by simpa using h),show k+1+i=k+(i+1) by omega]
theorem Inv.aB {T:vd} {b h:Heap} {E:List Nat} {x:cp} {bN vf:ai} {d:bg} (v:Inv T b E x bN vf d h):Sl aF.reason h (x.vl .ra) d.aB:=by
 have o:cS aF.rv b h T.r (x.pl .ra) (x.vl .ra) (mn x.vb 0 d.aB):=v.cZ .ra
 rcases o.sl (by decide) with ⟨e1,e2⟩|⟨A,o,c,row,u,ro,e1,e2,e3,e4,e5,e6⟩
 .exact .inl ⟨e1,m8.1 e2⟩
 .rw [JW] at e1 e2 e3
  refine .inr ⟨A,o,c,row,u,ro,e1,e2,e3,e4,e5,λi r hr=>?_⟩
  obtain ⟨cs,h1,h2⟩:=e6 i _ (zvF x.vb 0 d.aB i hr)
  refine ⟨cs,h1,x.vb i,?_,(v.fb i r hr).mono (rY _ _)⟩
  have:=h2.1
  rw [ia] at this
  exact this
theorem Sl.small {Z:Type} {r:aF Z} {h':Heap} {v:ai} {l:List Z} {cs la:List ai} {u u':TypeId} {ro XT:Bool} (f:Sl r h v l) (q:ak h A (.row cs u ro)) (hk:cs.length < r.k) (c:fW A h h') (q':ak h' A (.row la u' XT)) (he:∀ cs x,r.R h cs x->r.R h' cs x):Sl r h' v l:=by
 rcases f with ⟨e1,e2⟩|⟨B,o,n,row,t,rr,e1,e2,e3,e4,e5,e6⟩
 .exact .inl ⟨e1,e2⟩
 .by_cases hB:B=A
  .subst hB
   have er:row=cs:=by
    have:=q.get.symm.trans e5
    cases this
    rfl
   have hl:l=[]:=by
    cases l with
    |nil=>rfl
    |cons x l =>
     obtain ⟨c1,h1,_⟩:=e6 0 x rfl
     unfold cut at h1
     split at h1
     .rename_i hh;rw [er] at hh;omega
     .cases h1
   subst hl
   exact .inr ⟨B,o,n,la,u',XT,e1,e2,e3,q'.lt,q'.get,λi x hx=>by simp at hx⟩
  .refine .inr ⟨B,o,n,row,t,rr,e1,e2,e3,dU e4 c.size,(c.get B e4 hB).trans e5,λi x hx=>?_⟩
   obtain ⟨c1,h1,h2⟩:=e6 i x hx
   exact ⟨c1,h1,he c1 x h2⟩
theorem ct.new (q:ak h A (.map [] 0)):ct h A []:=⟨[],0,q,rfl⟩
theorem fj.new (q:ak h A (.map [] 0)):fj h A []:=⟨[],0,[],q,rfl,λa=>Iff.rfl,nofun⟩
end Go.Am
namespace Go.Proofs.YtnkmeidmdaidhaaGreatDoor
open Go.Am Tryz
set_option maxRecDepth 100000
set_option maxHeartbeats 0
theorem zz4 (p:Nat):mu aH 85 [(0,.map (some p))]=some (.agg ⟨[.map (some p)]⟩):=by kernel_rfl
theorem zz7 (p:Nat):mu aH 88 [(0,.agg ⟨[.map (some p)]⟩)]=some (.agg ⟨[.map (some p),.slice none 0 0,.int .i64 0]⟩):=by kernel_rfl
theorem zw5 (h:Heap) (K:aL) (hk:∀ h' T0 PM,Ext h h'->ak h' T0 (.row [.map (some PM),.slice none 0 0,.int .i64 0] 88 false)->ct h' PM []->h.size<=T0->h.size<=PM->T0≠PM->K (.pointer (some ⟨T0,0,none⟩)) h'):Ok prog aH ov 28 [] h K:=by
 have z:=Ext.refl h
 rw [aq h]
 refine Ok.aC 5 (bH Vr) ?_
 simp only [aa,seval,c28,Jy,zz4,zz7]
 exact hk _ (h.size+1) (h.size+0) z.aw ⟨by rw [bo];simp,by rw [kM];rfl⟩ (ct.new ⟨by rw [bo];simp,by rw [kM];rfl⟩) (by omega) (by omega) (by omega)
end Go.Proofs.YtnkmeidmdaidhaaGreatDoor

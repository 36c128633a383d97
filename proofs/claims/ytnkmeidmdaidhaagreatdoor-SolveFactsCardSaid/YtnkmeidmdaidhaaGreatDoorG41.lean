/- The solver: one state taken on keeps the shape and the counts; the run. No condition. -/
import Derived.Test.YtnkmeidmdaidhaaGreatDoorZSB9
set_option linter.unusedSimpArgs false
set_option linter.unusedVariables false
namespace Go.Am
variable {k:Nat}
section
variable {S W C:Nat} {d:ba} {cl:List ak} {facts:aN} {e:Nat}
theorem dz.fix (n:dz S W C d) (h:dW cl e d):dz S W (S+e) d:=by
 have h1:=n.ab
 have h2:=h.cb
 have h3:=zn9 d.ab
 have h4:=n.steps
 exact ⟨n.steps,n.ab,n.aF,n.count,n.mY,n.pN,n.queue,by omega⟩
theorem dz.wait (n:dz S W C d) (i k:Nat) (h:dW cl e (i9 d i k)) (hW:S<=W):dz S W C (i9 d i k):=by
 obtain ⟨k1,k2,k3,k4,k5,k6,k7,k8,k9⟩:=CQ d i k
 have h1:=n.ab
 have h4:=n.steps
 refine ⟨by rw [k2];exact n.steps,by rw [k2,k3];exact n.ab,by rw [k2,k7];exact n.aF,by rw [k2,k6];exact n.count,λc hc=>?_,λc hc=>?_,by rw [k2,k5];exact n.queue,by rw [k4];exact n.calls⟩
 .obtain ⟨c0,h0,e0⟩:=k9 c hc
  rw [k2,e0];exact n.mY c0 h0
 .have:=X3 c.waiters _ (h.wn c hc) (h.wb c hc)
  rw [k3] at this
  omega
theorem dW.pos (h:dW cl e d) {s:dy} (hs:d.ab[k]? = some s):0 < d.calls.length:=by have:=(h.st k s hs).call;omega
theorem zzv (h:dW cl 1 d) (n:dz S W C d) {s:dy} (hs:d.ab[k]? = some s) (c:ak) (hF:facts.length<=1000) (hL:cl.length<=1000) (hW:S+2000<=W) :
 dW cl 1 (dE facts cl d k s c)/\dz (S+2000) W (S+2001) (dE facts cl d k s c)/\(dE facts cl d k s c).aE=d.aE/\d.steps<=(dE facts cl d k s c).steps/\d.calls.length<=(dE facts cl d k s c).calls.length /\
 ∃ s4,(dE facts cl d k s c).ab[k]? = some s4/\s4.l=s.l/\s4.taken=s.taken/\s4.clause=s.clause/\s4.call=s.call:=by
 by_cases hb:s.next.pred≠⟨#[]⟩
 .have e1:dE facts cl d k s c=d:=by unfold dE;rw [aD hb]
  rw [e1]
  exact ⟨h,((n.mono (by omega) (aR _)).fix h).mono (aR _) (by omega),rfl,aR _,aR _,s,hs,rfl,rfl,rfl,rfl⟩
 .obtain ⟨s1,ji⟩:∃ s1:dy,s1={ s with next:=cN s.l ((c.body[s.taken]?).getD ah) }:=⟨_,rfl⟩
  obtain ⟨d1,jh⟩:∃ d1:ba,d1={ d with ab:=d.ab.set k s1 }:=⟨_,rfl⟩
  obtain ⟨o,ho⟩:∃ o,o=aW facts cl d1 s1.next:=⟨_,rfl⟩
  have e1:dE facts cl d k s c=i9 { o.1 with ab:=o.1.ab.set k { s1 with src:=o.2 } } o.2 k:=by
   unfold dE
   rw [az hb,ho,jh,ji]
  have jY:=aq hs
  have hS:=h.st k s hs
  have B6:nt cl d.calls.length s1:=by rw [ji];exact ⟨hS.call,hS.BT,hS.len,hS.src⟩
  have tM:d1.ab[k]? = some s1:=by rw [jh];exact mV jY
  have uR:d1.calls=d.calls:=by rw [jh]
  have sI:yU s=false:=tn hb
  have hO:dW cl 1 o.1:=by
   cases m8:yU s1
   .have hZ:¬ bg (bB s1.next):=λhv=>by
     have h2:=hv.pred.1.1.pos
     have h3:s1.next.pred=⟨#[]⟩:=by
      unfold yU at m8
      simpa using m8
     change 1<=s1.next.pred.size at h2
     rw [h3] at h2
     exact absurd h2 (by decide)
    have eo:o=(d1,0):=by rw [ho];unfold aW;rw [zpi hZ];rfl
    rw [eo]
    have:=h.state (e':=1) hs B6 (by rw [sI,m8];exact aR _)
    rw [jh];exact this
   .have h0:dW cl 0 d1:=by
     rw [jh]
     exact h.state hs B6 (by rw [sI,m8];exact aR _)
    rw [ho]
    exact h0.aW facts s1.next
  have n1:dz S W C d1:=by rw [jh];exact n.state k s1
  have nO:dz (S+2000) W (C+1) o.1:=by rw [ho];exact (n1.aW facts cl s1.next).mono (by omega) (aR _)
  obtain ⟨k1,k2,k3,k4⟩:=CT facts cl d1 s1.next
  rw [<- ho] at k1 k2 k3 k4
  have tX:0 < d1.calls.length:=by rw [uR];exact h.pos hs
  have mr:o.2 < o.1.calls.length:=by rw [k3,k4];exact zsS tX _
  have tN:d.calls.length<=o.1.calls.length:=by
   rw [k3,<- uR]
   unfold de
   split
   .exact aR _
   .split
    .exact aR _
    .show d1.calls.length<=(d1.calls++[_]).length
     rw [cE];omega
  have mB:o.1.ab[k]? = some s1:=by rw [ho,P6 (aq tM)];exact tM
  have T6:nt cl o.1.calls.length { s1 with src:=o.2 }:=⟨dr B6.call tN,B6.BT,B6.len,mr⟩
  have h3:=hO.state (e':=1) mB T6 (aR _)
  have n3:=nO.state k { s1 with src:=o.2 }
  have UP:k < ({ o.1 with ab:=o.1.ab.set k { s1 with src:=o.2 } }:ba).ab.length:=by
   show k < (o.1.ab.set k _).length
   rw [ja];exact aq mB
  have h4:=h3.wait o.2 UP
  have n4:=n3.wait o.2 k h4 hW
  obtain ⟨w1,w2,w3,w4,_⟩:=CQ { o.1 with ab:=o.1.ab.set k { s1 with src:=o.2 } } o.2 k
  rw [e1]
  refine ⟨h4,(n4.fix h4).mono (aR _) (by omega),w1.trans (k1.trans (by rw [jh])),?_,?_,{ s1 with src:=o.2 },?_,by rw [ji],by rw [ji],by rw [ji],by rw [ji]⟩
  .rw [w2]
   refine eA (vy ?_) k2
   rw [jh]
  .rw [w4];exact tN
  .rw [w3]
   exact mV (aq mB)
theorem Hs {s:dy} {a:ae} {d:ba} (h:bG [] s.next a=none):bL k s a d={ d with ab:=d.ab.set k { s with seen:=s.seen+1 } }:=by
 unfold bL
 rw [h]
theorem FF {s:dy} {a:ae} {d:ba} {m:List au} (h:bG [] s.next a=some m):bL k s a d={ jV d ⟨s.call,s.clause,s.taken+1,jE s.l m,ah,0,0⟩ with ab:=(jV d ⟨s.call,s.clause,s.taken+1,jE s.l m,ah,0,0⟩).ab.set k { s with seen:=s.seen+1 } }:=by
 unfold bL
 rw [h]
theorem dW.bL (h:dW cl 1 d) {k:Nat} {s:dy} (hs:d.ab[k]? = some s) {j:Nat} {c:ak} (hj:s.clause=(j:Int)) (hc:cl[j]? = some c) (ht:s.taken < c.body.length) (a:ae):dW cl 1 (bL k s a d):=by
 have hS:=h.st k s hs
 have e0:1+(if yU s=true then 1 else 0)<=1+(if yU { s with seen:=s.seen+1 }=true then 1 else 0):=aR _
 cases hx:bG [] s.next a with
 |none =>
  rw [Hs hx]
  exact h.state (s':={ s with seen:=s.seen+1 }) hs ⟨hS.call,hS.BT,hS.len,hS.src⟩ e0
 |some m =>
  rw [FF hx]
  have hm:=zsm hx
  have hl:=zor s.l m
  have ia:=hS.len
  have h2:dW cl 1 (jV d ⟨s.call,s.clause,s.taken+1,jE s.l m,ah,0,0⟩):=h.begin ⟨hS.call,⟨j,c,hj,hc,ht⟩,by
   show (jE s.l m).length<=4+4*(s.taken+1)
   simp only [db] at hm
   omega,h.pos hs⟩
  have eQ:(jV d ⟨s.call,s.clause,s.taken+1,jE s.l m,ah,0,0⟩).ab[k]? = some s:=by
   show (d.ab++[_])[k]? = _
   rw [jz (aq hs)]
   exact hs
  exact h2.state (s':={ s with seen:=s.seen+1 }) eQ ⟨hS.call,hS.BT,hS.len,hS.src⟩ e0
theorem dW.turns {k j:Nat} {c:ak} (hc:cl[j]? = some c):∀ (l:aN) {d:ba} {s:dy},dW cl 1 d->d.ab[k]? = some s->s.clause=(j:Int)->s.taken < c.body.length->dW cl 1 (fO k l d)
 | [],d,s,h,hs,hj,ht=>h
 |a::l,d,s,h,hs,hj,ht=>by
  by_cases hb:d.aE < (d.steps:Int)
  .rw [xN hb];exact h
  .rw [ur hb hs]
   exact dW.turns hc l (h.bL hs hj hc ht a) (Qc hs) hj ht
theorem yN (k:Nat):∀ (l:aN) (d:ba),(fO k l d).aE=d.aE/\d.steps<=(fO k l d).steps/\(fO k l d).calls=d.calls
 | [],d=>⟨rfl,aR _,rfl⟩
 |a::l,d=>by
  by_cases hb:d.aE < (d.steps:Int)
  .rw [xN hb];exact ⟨rfl,aR _,rfl⟩
  .cases hs:d.ab[k]? with
   |none=>rw [yM hs];exact ⟨rfl,aR _,rfl⟩
   |some s =>
    rw [ur hb hs]
    obtain ⟨k1,k2,k3,k4,k5,k6,k7⟩:=PV k s a d
    obtain ⟨g1,g2,g3⟩:=yN k l (Am.bL k s a d)
    exact ⟨g1.trans k2,eA k6 g2,g3.trans k1⟩
structure Q7 (facts:aN) (cl:List ak) (d:ba) (k:Nat):Prop where
 ask:∃ s j c,d.ab[k]? = some s/\s.clause=((j:Nat):Int)/\cl[j]? = some c/\s.l.length<=400/\s.taken<=c.body.length/\qP d /\
  (∀ b2,c.body[s.taken]? = some b2->N1 facts cl { d with ab:=d.ab.set k { s with next:=cN s.l b2 } } (cN s.l b2))/\s.call < d.calls.length/\s.src < d.calls.length /\
  (∀ s4 c9,(dE facts cl d k s c).ab[k]? = some s4->(dE facts cl d k s c).calls[s4.src]? = some c9->∀ i,qP (fO k ((c9.answers.drop s4.seen).take i) (dE facts cl d k s c)))
 str:dW cl 1 (gU facts cl d k)
 num:dz 60000 60000 60001 (gU facts cl d k)
 aE:(gU facts cl d k).aE=d.aE
 steps:d.steps<=(gU facts cl d k).steps
theorem QZ {B:Nat} (h:dW cl 1 d) (n:dz 60000 60000 60001 d) (hB:d.aE=(B:Int)) (JV:B<=50000) (ho:¬ d.aE < (d.steps:Int)) (hF:facts.length<=1000) (hL:cl.length<=1000) (jN:∀ c∈cl,c.body.length<=90) (hk:k < d.ab.length):Q7 facts cl d k:=by
 obtain ⟨s,hs⟩:=oF hk
 have hS:=h.st k s hs
 obtain ⟨j,c,hj,hc,ht⟩:=hS.BT
 have jt:=jN c (en hc)
 have n5:dz 50000 60000 60001 d:=⟨by omega,n.ab,n.aF,n.count,n.mY,n.pN,n.queue,n.calls⟩
 have ia:=hS.len
 obtain ⟨p1,p2,p3,p4,p5,s4,q1,q2,q3,q4,q5⟩:=zzv (facts:=facts) h n5 hs c hF hL (by omega)
 have gz:qP d:=n5.Jg (by omega) (by omega) (by omega)
 have p2':dz 60000 60000 60001 (dE facts cl d k s c):=p2.mono (by omega) (by omega)
 have hT:∀ l,dz 60000 60000 60001 (fO k l (dE facts cl d k s c)):=λl=>dz.turns k l p2' (p3.trans hB) (by omega)
 have hd:gU facts cl d k=if s.taken=c.body.length then gA d s.call (rf c s) else fO k (((((dE facts cl d k s c).calls[s4.src]?).map aY.answers).getD []).drop s4.seen) (dE facts cl d k s c):=by
  unfold gU
  rw [hs]
  dsimp only
  rw [hj,uK,hc]
  dsimp only
  rw [q1]
 have hA:=uq d s.call (rf c s)
 have hK:=yN k (((((dE facts cl d k s c).calls[s4.src]?).map aY.answers).getD []).drop s4.seen) (dE facts cl d k s c)
 refine ⟨⟨s,j,c,hs,hj,hc,by omega,ht,gz,λb2 iB=>(n5.state k _).Cz _ (by omega) (by omega) (by omega),hS.call,hS.src,λs4' c9 KR yn i=>(hT _).Jg (by omega) (by omega) (by omega)⟩,?_,?_,?_,?_⟩
 .rw [hd]
  split
  .exact h.answer _ _
  .rename_i aM
   exact dW.turns hc _ p1 q1 (q4.trans hj) (by omega)
 .rw [hd]
  split
  .exact (n5.answer _ _).mono (by omega) (aR _)
  .exact hT _
 .rw [hd]
  split
  .exact hA.1
  .exact hK.1.trans p3
 .rw [hd]
  split
  .exact hA.2.2.2.1
  .exact eA p4 hK.2.1
end
theorem zgL (d:ba) (i:Nat) (r:bc):d.queue.length<=(gA d i r).queue.length:=by
 rw [(uq d i r).2.2.2.2,cE]
 exact Ih _ _
theorem zkb (i:Nat):∀ (l:aN) (d:ba),d.queue.length<=(j6 d i l).queue.length
 | [],d=>aR _
 |f::l,d=>eA (zgL d i ⟨f,-1,[]⟩) (zkb i l _)
theorem zia (d:ba) (s:dy):d.queue.length<=(jV d s).queue.length:=by
 show _<=(d.queue++[_]).length
 rw [cE]
 exact Ih _ _
theorem Xh (i:Nat) (a:ae):∀ (cs:List ak) (k:Nat) (d:ba),d.queue.length<=(fY d i a k cs).queue.length
 | [],k,d=>aR _
 |c::cs,k,d=>by
  rw [fY]
  cases kD a c.head with
  |none=>exact Xh i a cs (k+1) d
  |some l=>exact eA (zia d _) (Xh i a cs (k+1) _)
theorem zrh (d:ba) (a:ae):(de d a).1.queue=d.queue/\d.calls.length<=(de d a).1.calls.length:=by
 unfold de
 split
 .exact ⟨rfl,aR _⟩
 .split
  .exact ⟨rfl,aR _⟩
  .refine ⟨rfl,?_⟩
   show _<=(d.calls++[_]).length
   rw [cE]
   exact Ih _ _
theorem zri (facts:aN) (cl:List ak) (d:ba) (a:ae):d.queue.length<=(aW facts cl d a).1.queue.length/\d.calls.length<=(aW facts cl d a).1.calls.length:=by
 have ho:=zrh d (bB a)
 refine ⟨?_,by rw [(CT facts cl d a).2.2.1];exact ho.2⟩
 rw [<- ho.1]
 unfold aW
 split
 .exact eA (zkb _ _ _) (Xh _ _ _ _ _)
 .exact aR _
theorem Xv (facts:aN) (cl:List ak) (d:ba) (k:Nat) (s:dy) (c:ak):d.queue.length<=(dE facts cl d k s c).queue.length/\d.calls.length<=(dE facts cl d k s c).calls.length:=by
 unfold dE
 split
 .exact ⟨aR _,aR _⟩
 .dsimp only
  obtain ⟨_,_,_,k4,k5,_⟩:=CQ { (aW facts cl { d with ab:=d.ab.set k { s with next:=cN s.l ((c.body[s.taken]?).getD ah) } } (cN s.l ((c.body[s.taken]?).getD ah))).1 with ab:=(aW facts cl { d with ab:=d.ab.set k { s with next:=cN s.l ((c.body[s.taken]?).getD ah) } } (cN s.l ((c.body[s.taken]?).getD ah))).1.ab.set k { s with next:=cN s.l ((c.body[s.taken]?).getD ah),src:=(aW facts cl { d with ab:=d.ab.set k { s with next:=cN s.l ((c.body[s.taken]?).getD ah) } } (cN s.l ((c.body[s.taken]?).getD ah))).2 } } (aW facts cl { d with ab:=d.ab.set k { s with next:=cN s.l ((c.body[s.taken]?).getD ah) } } (cN s.l ((c.body[s.taken]?).getD ah))).2 k
  have ho:=zri facts cl { d with ab:=d.ab.set k { s with next:=cN s.l ((c.body[s.taken]?).getD ah) } } (cN s.l ((c.body[s.taken]?).getD ah))
  exact ⟨by rw [k5];exact ho.1,by rw [k4];exact ho.2⟩
theorem zrK (k:Nat) (s:dy) (a:ae) (d:ba):d.queue.length<=(bL k s a d).queue.length:=by
 cases h:bG [] s.next a with
 |none=>rw [Hs h];exact aR _
 |some m=>rw [FF h];exact zia d ⟨s.call,s.clause,s.taken+1,jE s.l m,ah,0,0⟩
theorem zit (k:Nat):∀ (l:aN) (d:ba),d.queue.length<=(fO k l d).queue.length
 | [],d=>aR _
 |a::l,d=>by
  by_cases hb:d.aE < (d.steps:Int)
  .rw [xN hb];exact aR _
  .cases hs:d.ab[k]? with
   |none=>rw [yM hs];exact aR _
   |some s=>rw [ur hb hs];exact eA (zrK k s a d) (zit k l _)
theorem zwh (facts:aN) (cl:List ak) (d:ba) (k:Nat):d.queue.length<=(gU facts cl d k).queue.length/\d.calls.length<=(gU facts cl d k).calls.length:=by
 unfold gU
 split
 .split
  .split
   .exact ⟨zgL _ _ _,vy (uq _ _ _).2.2.1.symm⟩
   .dsimp only
    split
    .exact ⟨eA (Xv facts cl d k _ _).1 (zit _ _ _),by rw [(yN _ _ _).2.2];exact (Xv facts cl d k _ _).2⟩
    .exact Xv facts cl d k _ _
  .exact ⟨aR _,aR _⟩
 .exact ⟨aR _,aR _⟩
theorem zyN (facts:aN) (cl:List ak) (d:ba) (k:Nat):d.queue.length<=(gU facts cl d k).queue.length:=(zwh facts cl d k).1
theorem zyL (facts:aN) (cl:List ak) (d:ba) (k:Nat):d.calls.length<=(gU facts cl d k).calls.length:=(zwh facts cl d k).2
def tf (b:Int):ba:=⟨b,0,[],0,[],[],[],[]⟩
inductive dP (facts:aN) (cl:List ak):Nat->ba->ba->Prop
 |over {i:Nat} {d:ba}:d.aE < (d.steps:Int)->dP facts cl i d d
 |done {i:Nat} {d:ba}:¬ d.aE < (d.steps:Int)->d.queue.length<=i->dP facts cl i d d
 |step {i k:Nat} {d d':ba}:¬ d.aE < (d.steps:Int)->d.queue[i]? = some k->dP facts cl (i+1) (gU facts cl d k) d'->dP facts cl i d d'
theorem dP.det {facts:aN} {cl:List ak} {i:Nat} {d d1:ba} (h:dP facts cl i d d1):∀ {d2:ba},dP facts cl i d d2->d1=d2:=by
 induction h with
 |over ho =>
  intro d2 g
  cases g with
  |over=>rfl
  |done hn _=>rfl
  |step hn _ _=>exact absurd ho hn
 |done hn hl =>
  intro d2 g
  cases g with
  |over=>rfl
  |done=>rfl
  |step _ hq _=>exact absurd (aq hq) (by omega)
 |step hn hq _ ih =>
  intro d2 g
  cases g with
  |over ho=>exact absurd ho hn
  |done _ hl=>exact absurd (aq hq) (by omega)
  |step _ Vj g2 =>
   rw [hq] at Vj
   cases Vj
   exact ih g2
noncomputable def pz (facts:aN) (cl:List ak) (b:Int) (goal:ae):ba:=(aW facts cl (tf b) (bB goal)).1
theorem zwl (cl:List ak) (b:Int):dW cl 0 (tf b):=⟨λk s hs=>(by cases hs),nofun,nofun,nofun,iN _⟩
theorem zwk (b:Int) (W:Nat):dz 0 W 0 (tf b):=⟨aR _,aR _,aR _,aR _,nofun,nofun,iN _,aR _⟩
theorem YK (facts:aN) (cl:List ak) (b:Int) (goal:ae) (hF:facts.length<=1000) (hL:cl.length<=1000):dW cl 1 (pz facts cl b goal)/\dz 60000 60000 60001 (pz facts cl b goal)/\(pz facts cl b goal).aE=b/\N1 facts cl (tf b) (bB goal):=by
 have n:=zwk b 60000
 refine ⟨(zwl cl b).aW facts _,(n.aW facts cl _).mono (by omega) (by omega),(CT facts cl (tf b) (bB goal)).1,n.Cz _ (by omega) (by omega) (by omega)⟩
end Go.Am
namespace Go.Am
variable {A:Nat} {h:Heap}
def AK (W T PM KM:Nat):cO:={ pl:=λr=>match r with | .t=>T | .pm=>PM | .km=>KM|_=>W,vl:=λ_=>.slice none 0 0,vb:=λ_=>.slice none 0 0 }
theorem Inv.first {T:yf} {b h:Heap} {W T0 PM KM:Nat} {cd vf:ai} {B:Int}
 (qw:Holds h W (.row [cd,vf,.int .i64 B,.int .i64 0,.pointer (some ⟨T0,0,none⟩),.slice none 0 0,.slice none 0 0,.slice none 0 0,.map (some KM)] T.w false))
 (qt:Holds h T0 (.row [.map (some PM),.slice none 0 0,.int .i64 0] T.t false)) (mp:b9 h PM []) (mk:fh h KM [])
 (hb:b.size<=W/\b.size<=T0/\b.size<=PM/\b.size<=KM) (aM:W≠T0/\W≠PM/\W≠KM/\T0≠PM/\T0≠KM/\PM≠KM):Inv T b [W,T0,PM,KM] (AK W T0 PM KM) cd vf (tf B) h:=by
 obtain ⟨b1,b2,b3,b4⟩:=hb
 obtain ⟨n1,n2,n3,n4,n5,n6⟩:=aM
 have dQ:∀ r,tg (tf B) r->r=.w\/r=.t\/r=.pm\/r=.km:=by
  intro r hr
  cases r with
  |w=>exact .inl rfl
  |t=>exact .inr (.inl rfl)
  |pm=>exact .inr (.inr (.inl rfl))
  |km=>exact .inr (.inr (.inr rfl))
  |ca=>exact absurd rfl hr
  |sa=>exact absurd rfl hr
  |qa=>exact absurd rfl hr
  |ra=>exact absurd rfl hr
  |c i=>exact absurd hr (vx _)
  |th i=>exact absurd hr (vx _)
  |an i=>obtain ⟨c,hc,_⟩:=hr;cases hc
  |wa i=>obtain ⟨c,hc,_⟩:=hr;cases hc
  |s i=>exact absurd hr (vx _)
 refine ⟨λr=>?_,λr hr=>?_,λr r' hr cw e=>?_,λB hB=>?_,λB hB=>?_,λi s hs=>(by cases hs),λi r hr=>(by cases hr)⟩
 .cases r with
  |w=>exact qw
  |t=>exact qt
  |pm=>exact mp
  |km=>exact mk
  |ca=>exact .inl ⟨rfl,rfl⟩
  |sa=>exact .inl ⟨rfl,rfl⟩
  |qa=>exact .inl ⟨rfl,rfl⟩
  |ra=>exact .inl ⟨rfl,rfl⟩
  |c i=>intro c hc;cases hc
  |th i=>intro c hc;cases hc
  |an i=>intro c hc;cases hc
  |wa i=>intro c hc;cases hc
  |s i=>intro s hs;cases hs
 .rcases dQ r hr with rfl|rfl|rfl|rfl <;> simp [AK]
 .rcases dQ r hr with rfl|rfl|rfl|rfl <;> rcases dQ r' cw with rfl|rfl|rfl|rfl <;> first|rfl|(exfalso;simp only [AK] at e;omega)
 .simp only [df,il,or_false] at hB
  rcases hB with rfl|rfl|rfl|rfl <;> assumption
 .simp only [df,il,or_false] at hB
  rcases hB with rfl|rfl|rfl|rfl
  .exact qw.lt
  .exact qt.lt
  .exact mp.lt
  .exact mk.lt
theorem NG (vb:Nat->ai):∀ (k:Nat) (l:List bc),(oD vb k l).length=l.length
 |k,[]=>rfl
 |k,r::l=>by rw [oD,ek,NG vb (k+1) l,ek]
theorem zxJ (vb:Nat->ai):∀ (k:Nat) (l:List bc) (i:Nat) {r:bc},l[i]? = some r->(oD vb k l)[i]? = some (r.atom,r.clause,vb (k+i))
 |k,x::l,0,r,h=>by
  cases h
  rfl
 |k,x::l,i+1,r,h=>by
  rw [oD,List.getElem?_cons_succ,zxJ vb (k+1) l i (by simpa using h),show k+1+i=k+(i+1) by omega]
theorem Inv.aF {T:yf} {b h:Heap} {E:List Nat} {x:cO} {cd vf:ai} {d:ba} (v:Inv T b E x cd vf d h):Sl aC.reason h (x.vl .ra) d.aF:=by
 have o:dx aC.rv b h T.r (x.pl .ra) (x.vl .ra) (oD x.vb 0 d.aF):=v.dF .ra
 rcases o.sl (by decide) with ⟨e1,e2⟩|⟨A,o,c,row,u,ro,e1,e2,e3,e4,e5,e6⟩
 .exact .inl ⟨e1,px.1 e2⟩
 .rw [NG] at e1 e2 e3
  refine .inr ⟨A,o,c,row,u,ro,e1,e2,e3,e4,e5,λi r hr=>?_⟩
  obtain ⟨cs,h1,h2⟩:=e6 i _ (zxJ x.vb 0 d.aF i hr)
  refine ⟨cs,h1,x.vb i,?_,(v.fb i r hr).mono (uX _ _)⟩
  have:=h2.1
  rw [iA] at this
  exact this
theorem Sl.small {Z:Type} {r:aC Z} {h':Heap} {v:ai} {l:List Z} {cs m7:List ai} {u u':TypeId} {ro ro':Bool} (f:Sl r h v l) (q:Holds h A (.row cs u ro)) (hk:cs.length < r.k) (c:ff A h h') (q':Holds h' A (.row m7 u' ro')) (he:∀ cs x,r.R h cs x->r.R h' cs x):Sl r h' v l:=by
 rcases f with ⟨e1,e2⟩|⟨B,o,n,row,t,rr,e1,e2,e3,e4,e5,e6⟩
 .exact .inl ⟨e1,e2⟩
 .by_cases hB:B=A
  .subst hB
   have er:row=cs:=by
    have:=q.get.symm.trans e5
    cases this
    rfl
   have hl:l=[]:=by
    cases l with
    |nil=>rfl
    |cons x l =>
     obtain ⟨c1,h1,_⟩:=e6 0 x rfl
     unfold cut at h1
     split at h1
     .rename_i hh;rw [er] at hh;omega
     .cases h1
   subst hl
   exact .inr ⟨B,o,n,m7,u',ro',e1,e2,e3,q'.lt,q'.get,λi x hx=>by simp at hx⟩
  .refine .inr ⟨B,o,n,row,t,rr,e1,e2,e3,dr e4 c.size,(c.get B e4 hB).trans e5,λi x hx=>?_⟩
   obtain ⟨c1,h1,h2⟩:=e6 i x hx
   exact ⟨c1,h1,he c1 x h2⟩
theorem b9.new (q:Holds h A (.map [] 0)):b9 h A []:=⟨[],0,q,rfl⟩
theorem fh.new (q:Holds h A (.map [] 0)):fh h A []:=⟨[],0,[],q,rfl,λa=>Iff.rfl,nofun⟩
end Go.Am
namespace Go.Proofs.YtnkmeidmdaidhaaGreatDoor
open Go.Am Tryz
set_option maxRecDepth 100000
set_option maxHeartbeats 0
theorem zCw (p:Nat):lL aH 85 [(0,.map (some p))]=some (.agg ⟨[.map (some p)]⟩):=by kernel_rfl
theorem zCz (p:Nat):lL aH 88 [(0,.agg ⟨[.map (some p)]⟩)]=some (.agg ⟨[.map (some p),.slice none 0 0,.int .i64 0]⟩):=by kernel_rfl
theorem zzi (h:Heap) (K:aJ) (hk:∀ h' T0 PM,Ext h h'->Holds h' T0 (.row [.map (some PM),.slice none 0 0,.int .i64 0] 88 false)->b9 h' PM []->h.size<=T0->h.size<=PM->T0≠PM->K (.pointer (some ⟨T0,0,none⟩)) h'):Ok prog aH ov 28 [] h K:=by
 have z:=Ext.refl h
 rw [aw h]
 refine Ok.aA 5 (bH ZJ) ?_
 simp only [aa,seval,c28,MZ,zCw,zCz]
 exact hk _ (h.size+1) (h.size+0) z.av ⟨by rw [bh];simp,by rw [jG];rfl⟩ (b9.new ⟨by rw [bh];simp,by rw [jG];rfl⟩) (by omega) (by omega) (by omega)
end Go.Proofs.YtnkmeidmdaidhaaGreatDoor

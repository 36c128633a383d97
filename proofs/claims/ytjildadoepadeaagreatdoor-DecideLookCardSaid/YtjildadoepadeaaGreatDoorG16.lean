/- Slices of strings, sorted and without repetition. No condition. -/
import Derived.Test.YtjildadoepadeaaGreatDoorG14
import Derived.Test.YtjildadoepadeaaGreatDoorGPol
set_option linter.unusedSimpArgs false
set_option linter.unusedVariables false
namespace Go.Am
open Go.Proofs
def aak (h:Heap) (A:Nat) (e:TypeId) (v:ai) (l:List aA):Prop:=∃ c,v=.slice (some ⟨A,0,none⟩) l.length c/\zxF 1 l.length c/\Holds h A (.row (l.map Value.string) e false)
theorem aak.sl {h:Heap} {A:Nat} {e:TypeId} {v:ai} {l:List aA} (f:aak h A e v l) (hn:l.length<=1000):Sl aQ.str h v l:=by
 obtain ⟨c,rfl,hc,q⟩:=f
 have hM:(1000:Nat)<=maxLen:=by decide
 refine .inr ⟨A,0,c,l.map Value.string,e,false,rfl,by omega,hc,q.lt,q.get,λi x hx=>⟨[.string x],?_,rfl⟩⟩
 have hi:=(fB.1 hx).1
 show cut (l.map Value.string) (0+i*1) 1=_
 rw [jX,uS]
 unfold cut
 rw [aC (by rw [uQ];omega),<- List.map_drop,<- List.map_take,F5 hi]
 simp only [List.take_succ_cons,List.take_zero,zzs,List.map_nil]
 rw [(fB.1 hx).2]
def Cq (h:Heap) (v:ai) (d:aD):Prop:=∃ p0 p1 p2 p5 p6 q b,v=fS p0 p1 p2 p5 p6 q b/\dP h p0 p1 p2 p5 p6 d
end Go.Am
namespace Go.Proofs.YtjildadoepadeaaGreatDoor
open Go.Am Tryz
set_option maxRecDepth 100000
variable {v:ai} {n:Nat} {h:Heap} {cs:List ai}
theorem Tn:prog.cellsOf 67=2:=by kernel_rfl
theorem Tl:prog.cellsOf 69=2:=by kernel_rfl
theorem To:prog.cellsOf 71=12:=by kernel_rfl
theorem Tm:prog.cellsOf 73=13:=by kernel_rfl
theorem zpN:prog.cellsOf 29=7:=by kernel_rfl
theorem SL (hs:dn prog h (n+2) 23 [v]):∃ l,Sl aQ.str h v l :=
 Bc underlying23 zpR (λcs hc=>vV hc) hs
theorem SB (hs:s8 prog h (n+1) 9 v):∃ s:aA,v=.string s:=by
 unfold s8 at hs
 rw [underlying9] at hs
 obtain ⟨s,hs⟩:=vV hs
 simp only [List.cons.injEq,and_true] at hs
 exact ⟨s,hs⟩
theorem TQ {k:Nat} (h:k < cs.length):∃ v,(cs.drop k).take 1=[v]:=by
 rw [F5 h]
 exact ⟨_,rfl⟩
theorem zux (hs:dn prog h (n+2) 67 cs):∃ x,aQ.pred.R h cs x:=by
 unfold dn at hs
 rw [underlying67] at hs
 obtain ⟨hl,hf⟩:=hs
 rw [Tn] at hl
 match cs,hl with
 | [a,b],_ =>
  have h0:dn prog h (n+1) 9 (([a,b].drop 0).take 1):=hf 0 _ rfl
  have h1:dn prog h (n+1) 3 (([a,b].drop 1).take 1):=hf 1 _ rfl
  obtain ⟨s,e0⟩:=vV h0
  obtain ⟨i,e1,_⟩:=Gj h1
  simp at e0 e1
  subst e0 e1
  exact ⟨⟨s,i⟩,rfl⟩
theorem zsT (hs:dn prog h (n+3) 69 cs):∃ x,aQ.clear.R h cs x:=by
 unfold dn at hs
 rw [underlying69] at hs
 obtain ⟨hl,hf⟩:=hs
 rw [Tl] at hl
 match cs,hl with
 | [a,b],_ =>
  have h0:dn prog h (n+2) 9 (([a,b].drop 0).take 1):=hf 0 _ rfl
  have h1:dn prog h (n+2) 23 (([a,b].drop 1).take 1):=hf 1 _ rfl
  obtain ⟨s,e0⟩:=vV h0
  obtain ⟨l,e1⟩:=SL h1
  simp at e0
  subst e0
  exact ⟨⟨s,l⟩,_,rfl,e1⟩
theorem zuy (hs:dn prog h (n+6) 71 cs):∃ x,aQ.clause.R h cs x:=by
 unfold dn at hs
 rw [underlying71] at hs
 obtain ⟨hl,hf⟩:=hs
 rw [To] at hl
 have h0:dn prog h (n+5) 41 ((cs.drop 0).take 11):=hf 0 _ rfl
 have h1:dn prog h (n+5) 50 ((cs.drop 11).take 1):=hf 1 _ rfl
 obtain ⟨a,ha⟩:=Ik (n:=n+1) h0
 obtain ⟨v,hv⟩:=TQ (cs:=cs) (k:=11) (by omega)
 rw [hv] at h1
 obtain ⟨l,kH⟩:=TI h1
 refine ⟨⟨a,l⟩,v,?_,kH⟩
 have e1:cs=cs.take 11++cs.drop 11:=(Io 11 cs).symm
 rw [i9 (by simp;omega)] at hv
 rw [List.drop_zero] at ha
 rw [e1,ha,hv]
theorem zsU (hs:dn prog h (n+6) 73 cs):∃ x,aQ.lX.R h cs x:=by
 unfold dn at hs
 rw [underlying73] at hs
 obtain ⟨hl,hf⟩:=hs
 rw [Tm] at hl
 match cs,hl with
 |c0::cs,hl =>
  have hl:cs.length=12:=by simpa using hl
  have h0:dn prog h (n+5) 9 (((c0::cs).drop 0).take 1):=hf 0 _ rfl
  have h1:dn prog h (n+5) 41 ((cs.drop 0).take 11):=hf 1 _ rfl
  have h2:dn prog h (n+5) 50 ((cs.drop 11).take 1):=hf 2 _ rfl
  obtain ⟨s,e0⟩:=vV h0
  obtain ⟨a,ha⟩:=Ik (n:=n+1) h1
  obtain ⟨v,hv⟩:=TQ (cs:=cs) (k:=11) (by omega)
  rw [hv] at h2
  obtain ⟨l,kH⟩:=TI h2
  simp at e0
  subst e0
  refine ⟨⟨s,a,l⟩,v,?_,kH⟩
  have e1:cs=cs.take 11++cs.drop 11:=(Io 11 cs).symm
  rw [i9 (by simp;omega)] at hv
  rw [List.drop_zero] at ha
  rw [e1,ha,hv]
theorem zpy (hs:s8 prog h (n+8) 29 v):∃ d,Cq h v d:=by
 unfold s8 at hs
 rw [underlying29] at hs
 obtain ⟨cs,rfl,hc⟩:=hs
 unfold dn at hc
 rw [underlying29] at hc
 obtain ⟨hl,hf⟩:=hc
 rw [zpN] at hl
 match cs,hl with
 | [c0,c1,c2,c3,c4,c5,c6],_ =>
  have h0:dn prog h (n+7) 23 (([c0,c1,c2,c3,c4,c5,c6].drop 0).take 1):=hf 0 _ rfl
  have h1:dn prog h (n+7) 24 (([c0,c1,c2,c3,c4,c5,c6].drop 1).take 1):=hf 1 _ rfl
  have h2:dn prog h (n+7) 25 (([c0,c1,c2,c3,c4,c5,c6].drop 2).take 1):=hf 2 _ rfl
  have h3:dn prog h (n+7) 3 (([c0,c1,c2,c3,c4,c5,c6].drop 3).take 1):=hf 3 _ rfl
  have h4:dn prog h (n+7) 3 (([c0,c1,c2,c3,c4,c5,c6].drop 4).take 1):=hf 4 _ rfl
  have h5:dn prog h (n+7) 26 (([c0,c1,c2,c3,c4,c5,c6].drop 5).take 1):=hf 5 _ rfl
  have h6:dn prog h (n+7) 27 (([c0,c1,c2,c3,c4,c5,c6].drop 6).take 1):=hf 6 _ rfl
  obtain ⟨l0,g0⟩:=SL h0
  obtain ⟨l1,g1⟩:=Bc (n:=n+6) underlying24 Tn (λcs hc=>zux hc) h1
  obtain ⟨l2,g2⟩:=Bc (n:=n+6) underlying25 Tl (λcs hc=>zsT hc) h2
  obtain ⟨i3,e3,_⟩:=Gj h3
  obtain ⟨i4,e4,_⟩:=Gj h4
  obtain ⟨l5,g5⟩:=Bc (n:=n+6) underlying26 To (λcs hc=>zuy hc) h5
  obtain ⟨l6,g6⟩:=Bc (n:=n+6) underlying27 Tm (λcs hc=>zsU hc) h6
  simp at e3 e4
  subst e3 e4
  exact ⟨⟨l0,l1,l2,i3,i4,l5,l6⟩,_,_,_,_,_,_,_,rfl,⟨g0,g1,g2,g5,g6⟩⟩
end Go.Proofs.YtjildadoepadeaaGreatDoor
namespace Go.Am
variable {s:aA} {a b:ae}
def iB (c:Int):Prop:=(97<=c/\c<=122)\/(65<=c/\c<=90)\/(48<=c/\c<=57)\/c=95
def mV (c:Int):Prop:=(97<=c/\c<=122)\/(48<=c/\c<=57)\/c=95
def Ix (s:aA):Prop:=1<=s.size/\∀ i,i < s.size->mV (gG s i)
def zwC (s:aA):Prop:=1<=s.size/\(65<=gG s 0/\gG s 0<=90)/\∀ i,i < s.size->iB (gG s i)
def N3 (t:aH):Prop:=if t.v then zwC t.s else Ix t.s
structure Jh (a:ae):Prop where
 says:Ix a.says
 pred:Ix a.pred
 lo:0<=a.n
 hi:a.n<=4
 gY:∀ i:Nat,(i:Int) < a.n->N3 (a.arg i)
 rest:∀ i:Nat,a.n<=(i:Int)->i < 4->a.arg i=aZ
def zw6 (s:aA):Bool:=decide (65<=gG s 0) && decide (gG s 0<=90)
structure gp (a:ae):Prop where
 says:Word a.says.data.toList
 pred:Word a.pred.data.toList
 lo:0<=a.n
 hi:a.n<=4
 gY:∀ i:Nat,(i:Int) < a.n->Word (a.arg i).s.data.toList/\(a.arg i).v=zw6 (a.arg i).s
 rest:∀ i:Nat,a.n<=(i:Int)->i < 4->a.arg i=aZ
theorem zzj {c:UInt8} (h:c∈s.data.toList):∃ i,i < s.size/\gG s i=c.toNat:=by
 obtain ⟨i,hi,he⟩:=List.getElem_of_mem h
 have oc:i < s.size:=by rw [<- aaI];exact hi
 refine ⟨i,oc,?_⟩
 unfold gG
 have:s[i]? = some s[i]:=by simp [oc]
 rw [this]
 simp only [zzo]
 have h2:s[i]=c:=by rw [<- he];rfl
 rw [h2]
theorem zzn (h:Ix s):Word s.data.toList:=by
 intro c hc
 obtain ⟨i,hi,he⟩:=zzj hc
 have:=h.2 i hi
 unfold mV at this
 unfold lQ
 omega
theorem zzF (h:zwC s):Word s.data.toList:=by
 intro c hc
 obtain ⟨i,hi,he⟩:=zzj hc
 have:=h.2.2 i hi
 unfold iB at this
 unfold lQ
 omega
theorem Jh.plain (w:Jh a):gp a:=by
 refine ⟨zzn w.says,zzn w.pred,w.lo,w.hi,λi hi=>?_,w.rest⟩
 have h:=w.gY i hi
 unfold N3 at h
 cases hv:(a.arg i).v
 .rw [hv] at h
  have h:Ix (a.arg i).s:=h
  refine ⟨zzn h,?_⟩
  have:=h.2 0 h.1
  unfold mV at this
  unfold zw6
  rw [eq_comm,zzg,decide_eq_false_iff_not,decide_eq_false_iff_not]
  omega
 .rw [hv] at h
  have h:zwC (a.arg i).s:=h
  refine ⟨zzF h,?_⟩
  unfold zw6
  rw [wE h.2.1.1,wE h.2.1.2]
  rfl
theorem Um (a:ae):lR a=GO a.says.data.toList a.pred.data.toList (se a):=by
 unfold lR GO Bj se UT UF
 cases h:a.args with
 |nil=>simp
 |cons t r=>simp
theorem args_at {i:Nat} (h:i < a.bR):a.args[i]? = some (a.arg i):=by
 have hc:a.bR<=4:=Be _ _
 unfold ae.args
 rw [nV,aC h]
 have:i=0\/i=1\/i=2\/i=3:=by omega
 rcases this with rfl|rfl|rfl|rfl <;> rfl
theorem zvs (h0:a.says=b.says) (h1:a.pred=b.pred) (h2:a.n=b.n) (h:∀ i,i < 4->a.arg i=b.arg i):a=b:=by
 have e0:=h 0 (by omega)
 have e1:=h 1 (by omega)
 have e2:=h 2 (by omega)
 have e3:=h 3 (by omega)
 obtain ⟨s,p,n,t0,t1,t2,t3⟩:=a
 obtain ⟨s',p',n',u0,u1,u2,u3⟩:=b
 simp only [ae.arg] at e0 e1 e2 e3
 simp only at h0 h1 h2
 subst h0 h1 h2 e0 e1 e2 e3
 rfl
theorem Sf (w:gp a):∀ x∈se a,Word x:=by
 intro x hx
 obtain ⟨t,ht,rfl⟩:=zC.1 hx
 obtain ⟨i,hi⟩:=zn ht
 have aS:i < a.bR:=by
  have h1:=(fB.1 hi).1
  unfold ae.args at h1
  rw [ku] at h1
  omega
 rw [args_at aS] at hi
 cases hi
 have:(i:Int) < a.n:=by
  have:a.bR<=a.n.toNat:=sx _ _
  omega
 exact (w.gY i this).1
theorem Nd (wa:gp a) (wb:gp b) (h:lR a=lR b):a=b:=by
 rw [Um,Um] at h
 obtain ⟨h1,h2,h3⟩:=zuG wa.says wb.says wa.pred wb.pred (Sf wa) (Sf wb) h
 have hlen:=congrArg List.length h3
 have kF:(a.bR:Int)=a.n:=by
  have:=wa.lo;have:=wa.hi
  unfold ae.bR
  omega
 have G4:(b.bR:Int)=b.n:=by
  have:=wb.lo;have:=wb.hi
  unfold ae.bR
  omega
 have V6:(se a).length=a.bR:=by
  have:a.bR<=4:=Be _ _
  unfold se ae.args
  rw [uQ,ku]
  simp only [nW,jb]
  omega
 have Lt:(se b).length=b.bR:=by
  have:b.bR<=4:=Be _ _
  unfold se ae.args
  rw [uQ,ku]
  simp only [nW,jb]
  omega
 rw [V6,Lt] at hlen
 have hn:a.n=b.n:=by omega
 refine zvs (Gz h1) (Gz h2) hn (λi hi=>?_)
 by_cases aR:(i:Int) < a.n
 .have e1:=args_at (a:=a) (i:=i) (by omega)
  have e2:=args_at (a:=b) (i:=i) (by omega)
  have e3:(se a)[i]? = (se b)[i]? := by rw [h3]
  unfold se at e3
  rw [lE,lE,e1,e2] at e3
  simp only [gJ,de] at e3
  have es:=Gz e3
  have ev:=(wa.gY i aR).2
  have ew:=(wb.gY i (by omega)).2
  rw [es] at ev
  have:(a.arg i).v=(b.arg i).v:=ev.trans ew.symm
  calc a.arg i=⟨(a.arg i).v,(a.arg i).s⟩:=rfl
   _=⟨(b.arg i).v,(b.arg i).s⟩:=by rw [this,es]
   _=b.arg i:=rfl
 .rw [wa.rest i (by omega) hi,wb.rest i (by omega) hi]
theorem zsO (wa:gp a) (wb:gp b):bZ a b=0↔a=b:=⟨λh=>Nd wa wb (kA.1 h),λh=>by rw [h];exact Nc _⟩
def qk (l:cR):Prop:=∀ x∈l,gp x
theorem zsm {l:cR} (h:qk l) {x:ae}:x∈zx l↔x∈l:=by
 refine ⟨λhx=>(Im l).mem hx,λhx=>?_⟩
 obtain ⟨y,hy,e⟩:=(Im l).U7 x hx
 have:=Nd (h y ((Im l).mem hy)) (h x hx) e
 subst this
 exact hy
theorem zpB {l:cR} (p:ae->Bool) (h:gK l):gK (l.filter p):=h.sublist List.filter_sublist
end Go.Am

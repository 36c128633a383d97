/- Atoms of the document's form, and plain ones: their texts tell them apart; lists of such, merged. No condition. -/
import Derived.Test.YtnkmeidmdaidhaaGreatDoorG18
import Derived.Test.YtnkmeidmdaidhaaGreatDoorG10
set_option linter.unusedSimpArgs false
set_option linter.unusedVariables false
namespace Go.Am
variable {s:aV} {a b:ae} {l:aN}
def kY (c:Int):Prop:=(97<=c/\c<=122)\/(65<=c/\c<=90)\/(48<=c/\c<=57)\/c=95
def sA (c:Int):Prop:=(97<=c/\c<=122)\/(48<=c/\c<=57)\/c=95
def GJ (s:aV):Prop:=1<=s.size/\∀ i,i < s.size->sA (kH s i)
def Xj (s:aV):Prop:=1<=s.size/\(65<=kH s 0/\kH s 0<=90)/\∀ i,i < s.size->kY (kH s i)
def O2 (t:ay):Prop:=if t.v then Xj t.s else GJ t.s
structure qM (a:ae):Prop where
 says:GJ a.says
 pred:GJ a.pred
 lo:0<=a.n
 hi:a.n<=4
 fG:∀ i:Nat,(i:Int) < a.n->O2 (a.arg i)
 rest:∀ i:Nat,a.n<=(i:Int)->i < 4->a.arg i=bX
def Xs (s:aV):Bool:=decide (65<=kH s 0) && decide (kH s 0<=90)
structure gK (a:ae):Prop where
 says:Word a.says.data.toList
 pred:Word a.pred.data.toList
 lo:0<=a.n
 hi:a.n<=4
 fG:∀ i:Nat,(i:Int) < a.n->Word (a.arg i).s.data.toList/\(a.arg i).v=Xs (a.arg i).s
 rest:∀ i:Nat,a.n<=(i:Int)->i < 4->a.arg i=bX
theorem zlc {c:UInt8} (h:c∈s.data.toList):∃ i,i < s.size/\kH s i=c.toNat:=by
 obtain ⟨i,hi,he⟩:=tM h
 have lZ:i < s.size:=by rw [<- Cx];exact hi
 refine ⟨i,lZ,?_⟩
 unfold kH
 have:s[i]? = some s[i]:=by simp [lZ]
 rw [this]
 simp only [Aq]
 have h2:s[i]=c:=by rw [<- he];rfl
 rw [h2]
theorem Wv (h:GJ s):Word s.data.toList:=by
 intro c hc
 obtain ⟨i,hi,he⟩:=zlc hc
 have:=h.2 i hi
 unfold sA at this
 unfold nT
 omega
theorem zyY (h:Xj s):Word s.data.toList:=by
 intro c hc
 obtain ⟨i,hi,he⟩:=zlc hc
 have:=h.2.2 i hi
 unfold kY at this
 unfold nT
 omega
theorem qM.plain (w:qM a):gK a:=by
 refine ⟨Wv w.says,Wv w.pred,w.lo,w.hi,λi hi=>?_,w.rest⟩
 have h:=w.fG i hi
 unfold O2 at h
 cases hv:(a.arg i).v
 .rw [hv] at h
  have h:GJ (a.arg i).s:=h
  refine ⟨Wv h,?_⟩
  have:=h.2 0 h.1
  unfold sA at this
  unfold Xs
  rw [eq_comm,Bool.and_eq_false_iff,decide_eq_false_iff_not,decide_eq_false_iff_not]
  omega
 .rw [hv] at h
  have h:Xj (a.arg i).s:=h
  refine ⟨zyY h,?_⟩
  unfold Xs
  rw [sH h.2.1.1,sH h.2.1.2]
  rfl
theorem zw3 (a:ae):iu a=MA a.says.data.toList a.pred.data.toList (ng a):=by
 unfold iu MA G9 ng MB fY
 cases h:a.args with
 |nil=>simp
 |cons t r=>simp
theorem args_at {i:Nat} (h:i < a.bt):a.args[i]? = some (a.arg i):=by
 have hc:a.bt<=4:=G6 _ _
 unfold ae.args
 rw [qF,aB h]
 have:i=0\/i=1\/i=2\/i=3:=by omega
 rcases this with rfl|rfl|rfl|rfl <;> rfl
theorem BT (h0:a.says=b.says) (h1:a.pred=b.pred) (h2:a.n=b.n) (h:∀ i,i < 4->a.arg i=b.arg i):a=b:=by
 have e0:=h 0 (by omega)
 have e1:=h 1 (by omega)
 have e2:=h 2 (by omega)
 have e3:=h 3 (by omega)
 obtain ⟨s,p,n,t0,t1,t2,t3⟩:=a
 obtain ⟨s',p',n',u0,u1,u2,u3⟩:=b
 simp only [ae.arg] at e0 e1 e2 e3
 simp only at h0 h1 h2
 subst h0 h1 h2 e0 e1 e2 e3
 rfl
theorem zjP (w:gK a):∀ x∈ng a,Word x:=by
 intro x hx
 obtain ⟨t,ht,rfl⟩:=ph.1 hx
 obtain ⟨i,hi⟩:=E6 ht
 have bc:i < a.bt:=by
  have h1:=(fR.1 hi).1
  unfold ae.args at h1
  rw [gR] at h1
  omega
 rw [args_at bc] at hi
 cases hi
 have:(i:Int) < a.n:=by
  have:a.bt<=a.n.toNat:=xj _ _
  omega
 exact (w.fG i this).1
theorem zo5 (wa:gK a) (wb:gK b) (h:iu a=iu b):a=b:=by
 rw [zw3,zw3] at h
 obtain ⟨h1,h2,h3⟩:=zyM wa.says wb.says wa.pred wb.pred (zjP wa) (zjP wb) h
 have hlen:=congrArg List.length h3
 have kP:(a.bt:Int)=a.n:=by
  have:=wa.lo;have:=wa.hi
  unfold ae.bt
  omega
 have kQ:(b.bt:Int)=b.n:=by
  have:=wb.lo;have:=wb.hi
  unfold ae.bt
  omega
 have Nk:(ng a).length=a.bt:=by
  have:a.bt<=4:=G6 _ _
  unfold ng ae.args
  rw [gq,gR]
  simp only [eB,dK]
  omega
 have yX:(ng b).length=b.bt:=by
  have:b.bt<=4:=G6 _ _
  unfold ng ae.args
  rw [gq,gR]
  simp only [eB,dK]
  omega
 rw [Nk,yX] at hlen
 have hn:a.n=b.n:=by omega
 refine BT (EV h1) (EV h2) hn (λi hi=>?_)
 by_cases aU:(i:Int) < a.n
 .have e1:=args_at (a:=a) (i:=i) (by omega)
  have e2:=args_at (a:=b) (i:=i) (by omega)
  have e3:(ng a)[i]? = (ng b)[i]? := by rw [h3]
  unfold ng at e3
  rw [lk,lk,e1,e2] at e3
  simp only [kK,dR] at e3
  have es:=EV e3
  have ev:=(wa.fG i aU).2
  have ew:=(wb.fG i (by omega)).2
  rw [es] at ev
  have:(a.arg i).v=(b.arg i).v:=ev.trans ew.symm
  calc a.arg i=⟨(a.arg i).v,(a.arg i).s⟩:=rfl
   _=⟨(b.arg i).v,(b.arg i).s⟩:=by rw [this,es]
   _=b.arg i:=rfl
 .rw [wa.rest i (by omega) hi,wb.rest i (by omega) hi]
theorem zwz (wa:gK a) (wb:gK b):bg a b=0↔a=b:=⟨λh=>zo5 wa wb (iW.1 h),λh=>by rw [h];exact EH _⟩
def i6 (l:aN):Prop:=∀ x∈l,gK x
theorem i6.app {m:aN} (h:i6 l) (g:i6 m):i6 (l++m):=λx hx=>(iT.1 hx).elim (h x) (g x)
theorem i6.sort (h:i6 l):i6 (dY l):=λx hx=>h x ((xT l).mem hx)
theorem uj (h:i6 l) {x:ae}:x∈dY l↔x∈l:=by
 refine ⟨λhx=>(xT l).mem hx,λhx=>?_⟩
 obtain ⟨y,hy,e⟩:=(xT l).AH x hx
 have:=zo5 (h y ((xT l).mem hy)) (h x hx) e
 subst this
 exact hy
theorem zwM {m:aN} (h:i6 l) (g:i6 m) (e:∀ x,x∈l↔x∈m):dY l=dY m :=
 L8 (xT l).lu (xT m).lu (λx=>by rw [uj h,uj g,e])
theorem zs0 (p:ae->Bool) (h:gI l):gI (l.filter p):=h.sublist List.filter_sublist
end Go.Am
namespace Go.Am
variable {a:ae}
def ru (s:aV):Prop:=(⟨#[115,97,121,115]⟩:aV)=s\/(⟨#[105,102]⟩:aV)=s\/(⟨#[99,97,110,115,97,121]⟩:aV)=s\/(⟨#[112,114,105,110,99,105,112,97,108]⟩:aV)=s\/(⟨#[112,114,101,100]⟩:aV)=s\/(⟨#[99,108,101,97,114]⟩:aV)=s\/(⟨#[113,117,111,116,97]⟩:aV)=s\/(⟨#[98,117,100,103,101,116]⟩:aV)=s
structure J4 (s:aV):Prop where
 pos:1<=s.size
 len:s.size<=255
 first:kH s 0≠95
 all:∀ i,i < s.size->sA (kH s i)
def cP (s:aV):Prop:=J4 s/\¬ ru s
def Ao (s:aV):Prop:=cP s/\(97<=kH s 0/\kH s 0<=122)
structure wS (s:aV):Prop where
 pos:1<=s.size
 len:s.size<=255
 first:65<=kH s 0/\kH s 0<=90
 all:∀ i,i < s.size->kY (kH s i)
def dQ (t:ay):Prop:=if t.v=true then wS t.s else cP t.s
structure bm (a:ae):Prop where
 says:Ao a.says
 pred:Ao a.pred
 lo:0<=a.n
 hi:a.n<=4
 fG:∀ i:Nat,(i:Int) < a.n->dQ (a.arg i)
 rest:∀ i:Nat,a.n<=(i:Int)->i < 4->a.arg i=bX
theorem cP.low {s:aV} (h:cP s):GJ s:=⟨h.1.pos,h.1.all⟩
theorem dQ.ok {t:ay} (h:dQ t):O2 t:=by
 unfold dQ at h
 unfold O2
 split at h
 .rename_i hv
  rw [hv]
  exact ⟨h.pos,h.first,h.all⟩
 .rename_i hv
  rw [show t.v=false by simpa using hv]
  exact h.low
theorem bm.valid (h:bm a):qM a:=⟨h.says.1.low,h.pred.1.low,h.lo,h.hi,λi hi=>(h.fG i hi).ok,h.rest⟩
def qE (a:ae) (x:aV):Prop:=∃ i:Nat,i < 4/\(i:Int) < a.n/\(a.arg i).v=true/\(a.arg i).s=x
structure nV (c:aq):Prop where
 head:bm c.head
 body:∀ b∈c.body,bm b
 mj:∀ x,qE c.head x->∃ b∈c.body,qE b x
structure bF (a:ae):Prop where
 valid:bm a
 ground:a.ground=true
structure eb (cl:List aq) (facts:aN):Prop where
 clauses:∀ c∈cl,nV c
 facts:∀ a∈facts,bF a
theorem lr {t:ay}:t∈a.args↔∃ i:Nat,i < a.bt/\a.arg i=t:=by
 have h4:a.bt=0\/a.bt=1\/a.bt=2\/a.bt=3\/a.bt=4:=by unfold ae.bt;omega
 unfold ae.args
 have one:∀ {n:Nat} {P:Nat->Prop},(∃ i,i < n+1/\P i)↔(∃ i,i < n/\P i)\/P n:=by
  intro n P
  constructor
  .rintro ⟨i,hi,hp⟩
   by_cases e:i=n
   .subst e;exact .inr hp
   .exact .inl ⟨i,by omega,hp⟩
  .rintro (⟨i,hi,hp⟩|hp)
   .exact ⟨i,by omega,hp⟩
   .exact ⟨n,by omega,hp⟩
 rcases h4 with e|e|e|e|e <;> rw [e] <;> simp [one,ae.arg,eq_comm,or_assoc]
theorem cf:a.ground=true↔∀ i:Nat,i < a.bt->(a.arg i).v=false:=by
 unfold ae.ground
 rw [yi,L5]
 constructor
 .intro h i hi
  have:=h (a.arg i) (lr.2 ⟨i,hi,rfl⟩)
  simpa using this
 .intro h t ht
  obtain ⟨i,hi,rfl⟩:=lr.1 ht
  simpa using h i hi
theorem bA {i:Nat}:i < a.bt↔i < 4/\(i:Int) < a.n:=by
 unfold ae.bt
 omega
theorem ky {x:aV}:qE a x↔∃ i:Nat,i < a.bt/\(a.arg i).v=true/\(a.arg i).s=x:=by
 constructor
 .rintro ⟨i,h1,h2,h3,h4⟩
  exact ⟨i,bA.2 ⟨h1,h2⟩,h3,h4⟩
 .rintro ⟨i,h1,h3,h4⟩
  exact ⟨i,(bA.1 h1).1,(bA.1 h1).2,h3,h4⟩
theorem Lv {T:bN} {t u:TypeId} {w n i:Nat} {cs vs:List ai} {v:ai} {h1:Heap} {bs:List aZ} {K:aO} (hb:bs[i]? = some (.row cs u false)) (hs:dF T t=some n) (hc:cs.length=n) (hv:v.cells.toList=vs) (hl:vs.length=n) (xE:vs.all one=true)
 (hK:K undef (h1.lay (bs.set i (.row vs u false)) (min w (h1.size+i)))):kX (iQ T t (.pointer (some ⟨h1.size+i,0,none⟩)) v (h1.lay bs w)) K:=by
 have hi:=(fR.1 hb).1
 have hg:(h1.lay bs w).get (h1.size+i)=some (.row cs u false):=by rw [kE];exact hb
 have dV:v.cells.size=n:=by rw [<- uE,hv,hl]
 have dq:aI cs 0 vs=vs:=by
  unfold aI
  rw [Fj,yk,List.drop_eq_nil_of_le (by omega),bD]
 have he:iQ T t (.pointer (some ⟨h1.size+i,0,none⟩)) v (h1.lay bs w)=some ((h1.lay bs w).set (h1.size+i) (.row vs u false)):=by
  unfold iQ
  simp only [hs,dH]
  rw [aB dV,hv]
  unfold nQ
  rw [hg]
  simp only
  rw [aB (by simp only [dW,ix];exact ⟨by omega,xE⟩),dq]
 rw [he,GI _ _ _ _ _ hi]
 exact hK
end Go.Am
namespace Go.Am
def atR (l:List ba) (a:ae):Int:=mY (λx=>decide (x.atom=a)) l
end Go.Am

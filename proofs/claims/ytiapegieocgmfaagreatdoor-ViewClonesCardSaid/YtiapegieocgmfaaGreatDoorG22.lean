/- What a node of a function's code is to its walk: parts of a code by their places; statements for simp. No condition. -/
import Derived.Test.YtiapegieocgmfaaGreatDoorG20
set_option linter.unusedSimpArgs false
set_option linter.unusedVariables false
noncomputable section
namespace Go.Am
variable {i:Nat}
def ek:Code->Array Oper
 | .region _ a _=>a
 |_=>#[]
def mh (A:Array Oper) (n:Nat):List Oper:=A.toList.drop n
theorem Zv (K:Code) (A:Array Oper) (hK:K=.region i A false:=by rfl) (P:Program) (T:bI) (ov:Ov):∀ (rd:Option Nat) (e:Env) (h:Heap) (Q:Ex->Env->Heap->Prop),W P T ov rd K e h Q=de P T ov A (mh A 0) e h (Ui Q):=by
 subst hK
 intro rd e h Q
 rfl
theorem NX (A:Array Oper) (n:Nat) (hn:mh A n=[]:=by rfl) (P:Program) (T:bI) (ov:Ov):∀ (e:Env) (h:Heap) (Q:Env->Heap->Prop),de P T ov A (mh A n) e h Q=Q e h:=by
 intro e h Q
 rw [hn]
 rfl
theorem Zf (A:Array Oper) (n:Nat) (hn:mh A n=[]:=by rfl) (P:Program) (T:bI) (ov:Ov):∀ (b j:Nat) (e:Env) (h:Heap) (Q:Env->Heap->Prop),cx P T ov b A (mh A n) j e h Q=Q e h:=by
 intro b j e h Q
 rw [hn]
 rfl
theorem Cd (K A B:Code) (hK:K=.seq A B:=by rfl) (P:Program) (T:bI) (ov:Ov):∀ (rd:Option Nat) (e:Env) (h:Heap) (Q:Ex->Env->Heap->Prop),W P T ov rd K e h Q=W P T ov rd A e h (J7 P T ov rd B Q):=by
 subst hK
 intro rd e h Q
 exact zB7 _ _ _ _ _
theorem zCk (K A B:Code) {o:Operand} (hK:K=.cond o A B:=by rfl) (P:Program) (T:bI) (ov:Ov):∀ (rd:Option Nat) (e:Env) (h:Heap) (Q:Ex->Env->Heap->Prop),W P T ov rd K e h Q=HQ P T ov rd A B e h Q (bt e o):=by
 subst hK
 intro rd e h Q
 rfl
theorem UY (K A:Code) (hK:K=.block i A:=by rfl) (P:Program) (T:bI) (ov:Ov):∀ (rd:Option Nat) (e:Env) (h:Heap) (Q:Ex->Env->Heap->Prop),W P T ov rd K e h Q=W P T ov rd A e h (Ej i Q):=by
 subst hK
 intro rd e h Q
 exact zvr _ _ _ _ _
theorem zER (K A:Code) (hK:K=.loop A:=by rfl) (P:Program) (T:bI) (ov:Ov):∀ (rd:Option Nat) (e:Env) (h:Heap) (Q:Ex->Env->Heap->Prop),W P T ov rd K e h Q=W P T ov rd (.loop A) e h Q:=by
 subst hK
 intro rd e h Q
 rfl
theorem zCM (K A:Code) (hK:K=.scope A:=by rfl) (P:Program) (T:bI) (ov:Ov):∀ (rd:Option Nat) (e:Env) (h:Heap) (Q:Ex->Env->Heap->Prop),W P T ov rd K e h Q=W P T ov rd A e h Q:=by
 subst hK
 intro rd e h Q
 rfl
theorem zCq (K:Code) (hK:K=.exit i:=by rfl) (P:Program) (T:bI) (ov:Ov):∀ (rd:Option Nat) (e:Env) (h:Heap) (Q:Ex->Env->Heap->Prop),W P T ov rd K e h Q=Q (.exit i) e h:=by
 subst hK
 intro rd e h Q
 rfl
theorem Zw (K:Code) (hK:K=.ret:=by rfl) (P:Program) (T:bI) (ov:Ov):∀ (rd:Option Nat) (e:Env) (h:Heap) (Q:Ex->Env->Heap->Prop),W P T ov rd K e h Q=Q .ret e h:=by
 subst hK
 intro rd e h Q
 rfl
theorem zEV (K:Code) (hK:K=.skip:=by rfl) (P:Program) (T:bI) (ov:Ov):∀ (rd:Option Nat) (e:Env) (h:Heap) (Q:Ex->Env->Heap->Prop),W P T ov rd K e h Q=Q .normal e h:=by
 subst hK
 intro rd e h Q
 rfl
theorem zCw (K:Code) (hK:K=.label i:=by rfl) (P:Program) (T:bI) (ov:Ov):∀ (rd:Option Nat) (e:Env) (h:Heap) (Q:Ex->Env->Heap->Prop),W P T ov rd K e h Q=Q .normal e h:=by
 subst hK
 intro rd e h Q
 rfl
abbrev zB0 (K:Code) (A:Array Oper):Prop:=∀ {P:Program} {T:bI} {ov:Ov} {rd:Option Nat} {e:Env} {h0 h:Heap} {Q:Ex->Env->Heap->Prop},Ext h0 h->cx P T ov (min h0.low h0.size) A (mh A 0) 0 e h (λe' h1=>rT h0 h1/\LX h0 Q e' h1)->W P T ov rd K e h Q
theorem zDo {K:Code} {A:Array Oper} (hK:K=.region i A true) (ht:Jn A (pA A.toList [])=true):zB0 K A:=by
 subst hK
 intro P T ov rd e h0 h Q z hw
 exact zAl (ops:=A.toList) z ht hw
theorem nd {p q:Prop} (h:p) (g:q):p/\q:=⟨h,g⟩
end Go.Am
namespace Go.Am
def bh:Code->Nat
 | .seq a b=>bh a+bh b+1
 | .cond _ a b=>bh a+bh b+1
 | .block _ a=>bh a+1
 | .loop a=>bh a+1
 | .scope a=>bh a+1
 | .rangeFunc _ _ a b=>bh a+bh b+1
 |_=>1
def jG:Code->Nat->Code
 | .seq a b,n=>if n=0 then .seq a b else if n<=bh a then jG a (n - 1) else jG b (n - 1 - bh a)
 | .cond o a b,n=>if n=0 then .cond o a b else if n<=bh a then jG a (n - 1) else jG b (n - 1 - bh a)
 | .block i a,n=>if n=0 then .block i a else jG a (n - 1)
 | .loop a,n=>if n=0 then .loop a else jG a (n - 1)
 | .scope a,n=>if n=0 then .scope a else jG a (n - 1)
 | .rangeFunc g ps a b,n=>if n=0 then .rangeFunc g ps a b else if n<=bh a then jG a (n - 1) else jG b (n - 1 - bh a)
 |c,_=>c
def codeOf (f:Func):Code:=f.body.getD .skip
def bA (f:Func):Nat->Code:=jG (codeOf f)
theorem zgh (c:Code):jG c 0=c:=by cases c <;> rfl
def oB:List Oper->Nat->Option Tmp
 | [],_=>none
 |o::_,0=>o.dst
 |_::l,j+1=>oB l j
theorem zAX (l:List Oper) (j:Nat):oB l j=(l[j]?).bind (·.dst):=by
 induction l generalizing j with
 |nil=>rfl
 |cons o l ih=>cases j with
  |zero=>rfl
  |succ j=>exact ih j
def rC (L:List Oper) (e:Env):Option (Nat × Bool)->Bool
 |none=>true
 |some (j,g)=>CC (e.get ((oB L j).getD 0)) g
def QJ (L:List Oper) (o:Oper):Bool:=match o.guard with
 |none=>true
 |some (j,_)=>(oB L j).isSome
theorem zs2 {A:Array Oper} {o:Oper} (h:QJ A.toList o=true) (e:Env):nR A o e=rC A.toList e o.guard:=by
 unfold QJ at h
 unfold nR
 cases hg:o.guard with
 |none=>rfl
 |some p =>
  obtain ⟨j,g⟩:=p
  rw [hg] at h
  have e1:A[j]? = A.toList[j]? := by simp
  have h2:(oB A.toList j).isSome=true:=h
  show _=CC (e.get ((oB A.toList j).getD 0)) g
  simp only [e1,<- zAX]
  cases hd:oB A.toList j with
  |none=>rw [hd] at h2;cases h2
  |some t=>rfl
def T5:Code->Bool
 | .region _ A true=>Jn A (pA A.toList [])
 |_=>false
theorem dL {K:Code} (hd:T5 K=true):zB0 K (ek K):=by
 unfold T5 at hd
 split at hd
 .rename_i i A
  exact zDo rfl hd
 .cases hd
def sx:Code->Bool
 | .seq a b=>sx a && sx b
 | .cond _ a b=>sx a && sx b
 | .block _ a=>sx a
 | .loop a=>sx a
 | .scope a=>sx a
 | .rangeFunc _ _ a b=>sx a && sx b
 | .region i A d=>A.toList.all (QJ A.toList) && (!d || T5 (.region i A d))
 |_=>true
def zf (A:Array Oper) (L:List Oper):List Oper->Nat->Prop
 | [],n=>∀ (P:Program) (T:bI) (ov:Ov) (e:Env) (h:Heap) (Q:Env->Heap->Prop),de P T ov A (mh A n) e h Q=Q e h
 |o::l,n=>(∀ (P:Program) (T:bI) (ov:Ov) (e:Env) (h:Heap) (Q:Env->Heap->Prop),de P T ov A (mh A n) e h Q=TX P T ov A o (mh A (n+1)) o.dst e h Q (rC L e o.guard))/\zf A L l (n+1)
def zg (A:Array Oper) (L:List Oper):List Oper->Nat->Prop
 | [],n=>∀ (P:Program) (T:bI) (ov:Ov) (b j:Nat) (e:Env) (h:Heap) (Q:Env->Heap->Prop),cx P T ov b A (mh A n) j e h Q=Q e h
 |o::l,n=>(∀ (P:Program) (T:bI) (ov:Ov) (b:Nat) (e:Env) (h:Heap) (Q:Env->Heap->Prop),cx P T ov b A (mh A n) n e h Q=Qy P T ov b A o (mh A (n+1)) n o.dst e h Q (rC L e o.guard) (iP o))/\zg A L l (n+1)
def cJ (N:Nat->Code):Code->Nat->Prop
 | .seq a b,n=>(∀ (P:Program) (T:bI) (ov:Ov) (rd:Option Nat) (e:Env) (h:Heap) (Q:Ex->Env->Heap->Prop),W P T ov rd (N n) e h Q=W P T ov rd (N (n+1)) e h (J7 P T ov rd (N (n+1+bh a)) Q))/\cJ N a (n+1)/\cJ N b (n+1+bh a)
 | .cond o a b,n=>(∀ (P:Program) (T:bI) (ov:Ov) (rd:Option Nat) (e:Env) (h:Heap) (Q:Ex->Env->Heap->Prop),W P T ov rd (N n) e h Q=HQ P T ov rd (N (n+1)) (N (n+1+bh a)) e h Q (bt e o))/\cJ N a (n+1)/\cJ N b (n+1+bh a)
 | .block i a,n=>(∀ (P:Program) (T:bI) (ov:Ov) (rd:Option Nat) (e:Env) (h:Heap) (Q:Ex->Env->Heap->Prop),W P T ov rd (N n) e h Q=W P T ov rd (N (n+1)) e h (Ej i Q))/\cJ N a (n+1)
 | .loop a,n=>(∀ (P:Program) (T:bI) (ov:Ov) (rd:Option Nat) (e:Env) (h:Heap) (Q:Ex->Env->Heap->Prop),W P T ov rd (N n) e h Q=W P T ov rd (.loop (N (n+1))) e h Q)/\cJ N a (n+1)
 | .scope a,n=>(∀ (P:Program) (T:bI) (ov:Ov) (rd:Option Nat) (e:Env) (h:Heap) (Q:Ex->Env->Heap->Prop),W P T ov rd (N n) e h Q=W P T ov rd (N (n+1)) e h Q)/\cJ N a (n+1)
 | .rangeFunc g ps a b,n=>(∀ (P:Program) (T:bI) (ov:Ov) (rd:Option Nat) (e:Env) (h:Heap) (Q:Ex->Env->Heap->Prop),W P T ov rd (N n) e h Q=Cv P T ov rd (bt e g) ps.toList (N (n+1)) (N (n+1+bh a)) e h Q)/\cJ N a (n+1)/\cJ N b (n+1+bh a)
 | .region i A false,n=>(∀ (P:Program) (T:bI) (ov:Ov) (rd:Option Nat) (e:Env) (h:Heap) (Q:Ex->Env->Heap->Prop),W P T ov rd (N n) e h Q=de P T ov (ek (N n)) (mh (ek (N n)) 0) e h (Ui Q))/\zf (ek (N n)) A.toList A.toList 0
 | .region i A true,n=>T5 (N n)=true/\zg (ek (N n)) A.toList A.toList 0
 | .exit i,n=>∀ (P:Program) (T:bI) (ov:Ov) (rd:Option Nat) (e:Env) (h:Heap) (Q:Ex->Env->Heap->Prop),W P T ov rd (N n) e h Q=Q (.exit i) e h
 | .ret,n=>∀ (P:Program) (T:bI) (ov:Ov) (rd:Option Nat) (e:Env) (h:Heap) (Q:Ex->Env->Heap->Prop),W P T ov rd (N n) e h Q=Q .ret e h
 | .skip,n=>∀ (P:Program) (T:bI) (ov:Ov) (rd:Option Nat) (e:Env) (h:Heap) (Q:Ex->Env->Heap->Prop),W P T ov rd (N n) e h Q=Q .normal e h
 | .label _,n=>∀ (P:Program) (T:bI) (ov:Ov) (rd:Option Nat) (e:Env) (h:Heap) (Q:Ex->Env->Heap->Prop),W P T ov rd (N n) e h Q=Q .normal e h
 |_,_=>True
theorem zsI (A:Array Oper) (h:∀ o∈A.toList,QJ A.toList o=true):∀ (l:List Oper) (n:Nat),mh A n=l->(∀ o∈l,o∈A.toList)->zf A A.toList l n
 | [],n,hl,_=>NX A n hl
 |o::l,n,hl,hm=>by
  have iE:mh A (n+1)=l:=by
   unfold mh at hl ⊢
   have:=congrArg (List.drop 1) hl
   rw [H6] at this
   exact this
  refine ⟨λP T ov e h' Q=>?_,zsI A h l (n+1) iE (λx hx=>hm x (fB _ hx))⟩
  rw [hl,iE,zth,zs2 (h o (hm o (jm ..)))]
theorem zsJ (A:Array Oper) (h:∀ o∈A.toList,QJ A.toList o=true):∀ (l:List Oper) (n:Nat),mh A n=l->(∀ o∈l,o∈A.toList)->zg A A.toList l n
 | [],n,hl,_=>Zf A n hl
 |o::l,n,hl,hm=>by
  have iE:mh A (n+1)=l:=by
   unfold mh at hl ⊢
   have:=congrArg (List.drop 1) hl
   rw [H6] at this
   exact this
  refine ⟨λP T ov b e h' Q=>?_,zsJ A h l (n+1) iE (λx hx=>hm x (fB _ hx))⟩
  rw [hl,iE,zql,zs2 (h o (hm o (jm ..)))]
theorem zj5 {N:Nat->Code} {a b x:Code} {n:Nat} (h:∀ k,k < bh a+bh b+1->N (n+k)=jG x k) (ha:∀ k,0 < k->k<=bh a->jG x k=jG a (k - 1)) (hb:∀ k,bh a < k->jG x k=jG b (k - 1 - bh a)) (pa:0 < bh a) (pb:0 < bh b) :
 N (n+1)=a/\N (n+1+bh a)=b/\(∀ k,k < bh a->N (n+1+k)=jG a k)/\∀ k,k < bh b->N (n+1+bh a+k)=jG b k:=by
 have h1:∀ k,k < bh a->N (n+1+k)=jG a k:=λk hk=>by
  rw [show n+1+k=n+(k+1) by omega,h _ (by omega),ha _ (by omega) (by omega),CL]
 have h2:∀ k,k < bh b->N (n+1+bh a+k)=jG b k:=λk hk=>by
  rw [show n+1+bh a+k=n+(k+1+bh a) by omega,h _ (by omega),hb _ (by omega)]
  congr 1
  omega
 have h3:=h1 0 pa
 have h4:=h2 0 pb
 rw [zgh] at h3 h4
 exact ⟨h3,h4,h1,h2⟩
theorem ql (c:Code):0 < bh c:=by cases c <;> simp [bh]
theorem zm6 {N:Nat->Code} {a x:Code} {n:Nat} (h:∀ k,k < bh a+1->N (n+k)=jG x k) (ha:∀ k,0 < k->jG x k=jG a (k - 1)):N (n+1)=a/\∀ k,k < bh a->N (n+1+k)=jG a k:=by
 have h1:∀ k,k < bh a->N (n+1+k)=jG a k:=λk hk=>by
  rw [show n+1+k=n+(k+1) by omega,h _ (by omega),ha _ (by omega),CL]
 have h3:=h1 0 (ql a)
 rw [zgh] at h3
 exact ⟨h3,h1⟩
theorem Aq (N:Nat->Code):∀ (c:Code) (n:Nat),sx c=true->(∀ k,k < bh c->N (n+k)=jG c k)->cJ N c n
 | .seq a b,n,hw,h=>by
  have h0:N n=.seq a b:=h 0 (ql _)
  simp only [sx,ep] at hw
  obtain ⟨e1,e2,f1,f2⟩:=zj5 (a:=a) (b:=b) h (λk h1 h2=>by simp only [jG];rw [az (by omega),aE h2]) (λk h1=>by simp only [jG];rw [az (by omega),az (by omega)]) (ql _) (ql _)
  exact ⟨λP T ov=>by rw [e1,e2];exact Cd _ a b h0 P T ov,Aq N a _ hw.1 f1,Aq N b _ hw.2 f2⟩
 | .cond o a b,n,hw,h=>by
  have h0:N n=.cond o a b:=h 0 (ql _)
  simp only [sx,ep] at hw
  obtain ⟨e1,e2,f1,f2⟩:=zj5 (a:=a) (b:=b) h (λk h1 h2=>by simp only [jG];rw [az (by omega),aE h2]) (λk h1=>by simp only [jG];rw [az (by omega),az (by omega)]) (ql _) (ql _)
  exact ⟨λP T ov=>by rw [e1,e2];exact zCk _ a b h0 P T ov,Aq N a _ hw.1 f1,Aq N b _ hw.2 f2⟩
 | .rangeFunc g ps a b,n,hw,h=>by
  have h0:N n=.rangeFunc g ps a b:=h 0 (ql _)
  simp only [sx,ep] at hw
  obtain ⟨e1,e2,f1,f2⟩:=zj5 (a:=a) (b:=b) h (λk h1 h2=>by simp only [jG];rw [az (by omega),aE h2]) (λk h1=>by simp only [jG];rw [az (by omega),az (by omega)]) (ql _) (ql _)
  exact ⟨λP T ov rd e h' Q=>by rw [e1,e2,h0];rfl,Aq N a _ hw.1 f1,Aq N b _ hw.2 f2⟩
 | .block i a,n,hw,h=>by
  have h0:N n=.block i a:=h 0 (ql _)
  obtain ⟨e1,f1⟩:=zm6 (a:=a) h (λk h1=>by simp only [jG];rw [az (by omega)])
  exact ⟨λP T ov=>by rw [e1];exact UY _ a h0 P T ov,Aq N a _ hw f1⟩
 | .loop a,n,hw,h=>by
  have h0:N n=.loop a:=h 0 (ql _)
  obtain ⟨e1,f1⟩:=zm6 (a:=a) h (λk h1=>by simp only [jG];rw [az (by omega)])
  exact ⟨λP T ov=>by rw [e1];exact zER _ a h0 P T ov,Aq N a _ hw f1⟩
 | .scope a,n,hw,h=>by
  have h0:N n=.scope a:=h 0 (ql _)
  obtain ⟨e1,f1⟩:=zm6 (a:=a) h (λk h1=>by simp only [jG];rw [az (by omega)])
  exact ⟨λP T ov=>by rw [e1];exact zCM _ a h0 P T ov,Aq N a _ hw f1⟩
 | .region i A false,n,hw,h=>by
  have h0:N n=.region i A false:=h 0 (ql _)
  have hr:ek (N n)=A:=by rw [h0];rfl
  simp only [sx,ep,iT] at hw
  refine ⟨λP T ov=>?_,?_⟩
  .rw [hr]
   exact Zv _ A h0 P T ov
  .rw [hr]
   exact zsI A hw.1 _ 0 rfl (λo ho=>ho)
 | .region i A true,n,hw,h=>by
  have h0:N n=.region i A true:=h 0 (ql _)
  have hr:ek (N n)=A:=by rw [h0];rfl
  simp only [sx,ep,iT,fQ,Bool.false_or] at hw
  refine ⟨?_,?_⟩
  .rw [h0]
   exact hw.2
  .rw [hr]
   exact zsJ A hw.1 _ 0 rfl (λo ho=>ho)
 | .exit i,n,hw,h=>zCq _ (h 0 (ql _))
 | .ret,n,hw,h=>Zw _ (h 0 (ql _))
 | .skip,n,hw,h=>zEV _ (h 0 (ql _))
 | .label l,n,hw,h=>zCw _ (h 0 (ql _))
 | .goto l,n,hw,h=>trivial
 | .refuse w,n,hw,h=>trivial
theorem bB (N:Nat->Code) (f:Func) (hN:N=bA f:=by rfl) (hw:sx (codeOf f)=true:=by kernel_rfl):cJ N (codeOf f) 0 :=
 Aq N _ 0 hw (λk _=>by rw [hN,jo];rfl)
theorem bq {f:Func} (N:Nat->Code) (hN:N=bA f:=by rfl) (h:f.body.isSome=true:=by rfl):f.body=some (N 0):=by
 rw [hN]
 unfold bA
 rw [zgh]
 unfold codeOf
 cases hb:f.body with
 |none=>rw [hb] at h;cases h
 |some c=>rfl
def DR:=PLift.up (And.intro @codeOf.eq_1 <| And.intro @cJ.eq_1 <| And.intro @cJ.eq_2 <| And.intro @cJ.eq_3 <| And.intro @cJ.eq_4 <| And.intro @cJ.eq_5 <| And.intro @cJ.eq_6 <| And.intro @cJ.eq_7 <| And.intro @cJ.eq_8 <| And.intro @cJ.eq_9 <| And.intro @cJ.eq_10 <| And.intro @cJ.eq_11 <| And.intro @cJ.eq_12 <| And.intro @cJ.eq_13 <| And.intro @zf.eq_1 <| And.intro @zf.eq_2 <| And.intro @zg.eq_1 <| And.intro @zg.eq_2 <| And.intro @bh.eq_1 <| And.intro @bh.eq_2 <| And.intro @bh.eq_3 <| And.intro @bh.eq_4 <| And.intro @bh.eq_5 <| And.intro @bh.eq_6 <| And.intro @bh.eq_7 <| And.intro @rC.eq_1 <| And.intro @rC.eq_2 <| And.intro @oB.eq_1 <| And.intro @oB.eq_2 <| And.intro @oB.eq_3 <| And.intro @iP.eq_1 <| And.intro @Option.getD_some.{0} <| And.intro @List.append_eq.{0} <| And.intro @List.cons_append.{0} <| @List.nil_append.{0})
theorem aN:type_of% DR.down:=DR.down
theorem Ok.aw {P:Program} {T:bI} {ov:Ov} {f:FuncId} {fn:Func} {c:Code} {args:List Value} {h:Heap} {K:Value->Heap->Prop} (m:Nat) (hc:fn.body=some c) (hw:W P T ov none c (args++List.replicate m undef) h (ie T fn K)) (ho:ov f=none:=by exact rfl) (hf:T.fn f=some fn:=by kernel_rfl) (Bw:T.LS f=false:=by exact rfl) (hm:fn.ntmps - args.length=m:=by exact rfl):Ok P T ov f args h K:=Ok.YY ho hf hc Bw hm hw
theorem bl {shape:(Nat->Value)->Env} {e:Env} (h:e=shape e.get:=by kernel_rfl):∃ J,e=shape J:=⟨_,h⟩
end Go.Am
namespace Go.Proofs.YtiapegieocgmfaaGreatDoor
open Go.Am Tryz
set_option maxRecDepth 100000
set_option maxHeartbeats 0
def N88:=bA f88
def x88:=PLift.up (by have c:=bB N88 f88;simp only [aN,f88,seval] at c;exact nd c <| nd @zCy <| @Wt)
theorem c88:type_of% x88.down:=x88.down
def K9:=bA f223
def PJ:=PLift.up (by have c:=bB K9 f223;simp only [aN,f223,seval] at c;exact nd c <| nd @ZR <| nd @mZ <| @zEw)
theorem xN:type_of% PJ.down:=PJ.down
def Lc:=bA f226
def PM:=PLift.up (by have c:=bB Lc f226;simp only [aN,f226,seval] at c;exact nd c <| nd @ZR <| nd @mZ <| nd @zEz <| @zEI)
theorem xO:type_of% PM.down:=PM.down
def La:=bA f224
def PK:=PLift.up (by have c:=bB La f224;simp only [aN,f224,seval] at c;exact nd c <| nd @zqL <| nd @ZR <| nd @Z7 <| nd @mZ <| nd @zCy <| @zEx)
theorem LI:type_of% PK.down:=PK.down
def Lb:=bA f225
def PL:=PLift.up (by have c:=bB Lb f225;simp only [aN,f225,seval] at c;exact nd c <| nd @zDm <| nd @zqL <| nd @Z7 <| nd @zEy <| @zEH)
theorem Ff:type_of% PL.down:=PL.down
def N89:=bA f89
def x89:=PLift.up (by have c:=bB N89 f89;simp only [aN,f89,seval] at c;exact nd c <| @Wu)
theorem LM:type_of% x89.down:=x89.down
def Ka:=bA f104
def Ot:=PLift.up (by have c:=bB Ka f104;simp only [aN,f104,seval] at c;exact nd c <| nd @zDt <| @zEA)
theorem A4:type_of% Ot.down:=Ot.down
def KC:=bA f146
def O3:=PLift.up (by have c:=bB KC f146;simp only [aN,f146,seval] at c;exact nd c <| nd @zDW <| @zEC)
theorem mw:type_of% O3.down:=O3.down
def Ku:=bA f135
def OT:=PLift.up (by have c:=bB Ku f135;simp only [aN,f135,seval] at c;exact nd c <| @zDN)
theorem eg:type_of% OT.down:=OT.down
def J9:=bA f103
def Oq:=PLift.up (by have c:=bB J9 f103;simp only [aN,f103,seval] at c;exact nd c <| nd @zqM <| nd @zqO <| nd @ZS <| nd @Z8 <| nd @mZ <| nd @zCz <| @zDs)
theorem xH:type_of% Oq.down:=Oq.down
def N54:=bA f54
def x54:=PLift.up (by have c:=bB N54 f54;simp only [aN,f54,seval] at c;exact nd c <| nd @zDn <| nd @zqL <| nd @zv2 <| nd @zqM <| nd @zqN <| nd @zqO <| nd @ZS <| nd @Z6 <| nd @Z7 <| nd @Z8 <| nd @mZ <| nd @zCz <| nd @Ca <| @VZ)
theorem pN:type_of% x54.down:=x54.down
def N64:=bA f64
def x64:=PLift.up (by have c:=bB N64 f64;simp only [aN,f64,seval] at c;exact nd c <| nd @zv2 <| nd @zqM <| nd @zqN <| nd @zA0 <| nd @zqO <| nd @ZS <| nd @Z6 <| nd @Z8 <| nd @mZ <| nd @gA <| @V8)
theorem wz:type_of% x64.down:=x64.down
def N63:=bA f63
def x63:=PLift.up (by have c:=bB N63 f63;simp only [aN,f63,seval] at c;exact nd c <| nd @zqN <| nd @Z6 <| @V7)
theorem U8:type_of% x63.down:=x63.down
def Uv:=bA f52
def x52:=PLift.up (by have c:=bB Uv f52;simp only [aN,f52,seval] at c;exact nd c <| @VX)
theorem c52:type_of% x52.down:=x52.down
end Go.Proofs.YtiapegieocgmfaaGreatDoor
namespace Go.Am
def dF {κ:Type} (kv:κ->ab) (h:Heap) (A:Nat) (met:List κ):Prop:=∃ es clock,∃ ks:List κ,Holds h A (.map es clock)/\es.map (λx:MapEntry=>x.key)=ks.map kv/\(∀ a,a∈ks↔a∈met)/\∀ x∈es,x.val=.agg ⟨[]⟩
section
variable {κ:Type} {kv:κ->ab} {T:bI} {t kt et:TypeId} {A:Nat} {met:List κ} {a:κ} {h1:Heap} {bs:List ba} {w:Nat} {K:aF} {z:ab}
theorem zja [DecidableEq κ] (heq:∀ x y:κ,fF T 20 kt (kv x) (kv y)=some (decide (x=y))):∀ (es:List MapEntry) (ks:List κ) (i:Nat),es.map (λx:MapEntry=>x.key)=ks.map kv ->
 (a ∉ ks->qJ T kt (kv a) es i=some none)/\(a∈ks->∃ (j:Nat) (e:MapEntry),qJ T kt (kv a) es i=some (some (i+j,e.val))/\es[j]? = some e/\e.key=kv a)
 | [],ks,i,hk=>by
  cases ks with
  |nil=>exact ⟨λ_=>rfl,λh=>by simp at h⟩
  |cons k ks=>simp at hk
 |e::es,ks,i,hk=>by
  cases ks with
  |nil=>simp at hk
  |cons k ks =>
   simp only [lD,List.cons.injEq] at hk
   obtain ⟨h1,h2⟩:=zja heq es ks (i+1) hk.2
   unfold qJ
   rw [hk.1,heq]
   by_cases hx:a=k
   .subst hx
    refine ⟨λhn=>absurd jm hn,λ_=>⟨0,e,by simp,rfl,hk.1⟩⟩
   .simp only [tM hx,dM,gM,if_false,dh,hx,false_or]
    refine ⟨h1,λha=>?_⟩
    obtain ⟨j,e',g1,g2,g3⟩:=h2 ha
    refine ⟨j+1,e',?_,by simpa using g2,g3⟩
    rw [g1,show i+1+j=i+(j+1) by omega]
    simp
theorem zqV [DecidableEq κ] (hp:∀ x:κ,plain (kv x)=true) (a:κ) (heq:∀ x y:κ,fF T 20 kt (kv x) (kv y)=some (decide (x=y))):wk T kt (kv a)=true:=by
 unfold wk
 rw [hp,heq]
 simp
theorem dF.over (m:dF kv h1 A met) {h2:Heap} (x:Ext (h1.lay bs w) h2):dF kv h2 A met:=by
 obtain ⟨es,cl,ks,m1,m2,m3⟩:=m
 exact ⟨es,cl,ks,m1.over x,m2,m3⟩
theorem dF.ext (m:dF kv h1 A met) {h2:Heap} (x:Ext h1 h2):dF kv h2 A met:=by
 obtain ⟨es,cl,ks,m1,m2,m3⟩:=m
 exact ⟨es,cl,ks,⟨dB m1.lt x.size,(x.get A m1.lt).trans m1.get⟩,m2,m3⟩
theorem dF.br (m:dF kv h1 A met) {B:Nat} {h2:Heap} (c:eG B (h1.lay bs w) h2) (aQ:A≠B):dF kv h2 A met:=by
 obtain ⟨es,cl,ks,m1,m2,m3⟩:=m
 exact ⟨es,cl,ks,m1.br c aQ,m2,m3⟩
theorem dF.lay (m:dF kv h1 A met) (bs:List ba) (w:Nat):dF kv (h1.lay bs w) A met:=by
 obtain ⟨es,cl,ks,m1,m2,m3⟩:=m
 exact ⟨es,cl,ks,m1.on bs w,m2,m3⟩
theorem dF.new (q:Holds h1 A (.map [] 0)):dF kv h1 A ([]:List κ):=⟨[],0,[],q,rfl,λ_=>Iff.rfl,λ_ hx=>by simp at hx⟩
theorem dF.lt (m:dF kv h1 A met):A < h1.size:=by
 obtain ⟨es,cl,ks,m1,m2,m3⟩:=m
 exact m1.lt
theorem dF.hold {H:Heap} (m:dF kv h1 A met) (hO:∀ A b,Holds h1 A b->Holds H A b):dF kv H A met:=by
 obtain ⟨es,cl,ks,m1,m2,m3⟩:=m
 exact ⟨es,cl,ks,hO _ _ m1,m2,m3⟩
theorem dF.same {NT:List κ} (m:dF kv h1 A met) (h:∀ a,a∈met↔a∈NT):dF kv h1 A NT:=by
 obtain ⟨es,cl,ks,m1,m2,m3,m4⟩:=m
 exact ⟨es,cl,ks,m1,m2,λa=>(m3 a).trans (h a),m4⟩
theorem ztS [DecidableEq κ] (m:dF kv h1 A met) (hp:∀ x:κ,plain (kv x)=true) (hd:T.desc t=some (.map kt et)) (heq:∀ x y:κ,fF T 20 kt (kv x) (kv y)=some (decide (x=y))) (hz:T.zero et=some (.agg ⟨[]⟩))
 (o9:a∈met->K (.tuple #[.agg ⟨[]⟩,.bool true]) (h1.lay bs w)) (iV:a ∉ met->K (.tuple #[.agg ⟨[]⟩,.bool false]) (h1.lay bs w)):aC (Cs T t (.map (some A)) (kv a) true (h1.lay bs w)) (h1.lay bs w) K:=by
 obtain ⟨es,cl,ks,m1,m2,m3,m4⟩:=m
 obtain ⟨f1,f2⟩:=zja (a:=a) heq es ks 0 m2
 have hg:(h1.lay bs w).get A=some (.map es cl):=m1.lay bs w
 unfold Cs
 simp only [hd,zqV hp a heq,if_true,Rw,hg,dM]
 by_cases ha:a∈ks
 .obtain ⟨j,e,hr,hx,_⟩:=f2 ha
  rw [hr]
  have ke:e.val=.agg ⟨[]⟩:=m4 e (ic hx)
  simp only [ke,dM,jn,if_true]
  exact o9 ((m3 a).1 ha)
 .rw [f1 ha]
  simp only [hz,dM,jn,if_true]
  exact iV (λhh=>ha ((m3 a).2 hh))
theorem zzI [DecidableEq κ] (m:dF kv h1 A met) (hp:∀ x:κ,plain (kv x)=true) (BO:∀ x:κ,HH (kv x) (kv x)=true) (hd:T.desc t=some (.map kt et)) (heq:∀ x y:κ,fF T 20 kt (kv x) (kv y)=some (decide (x=y)))
 (hK:∀ h',dF kv h' A (a::met)->eG A (h1.lay bs w) h'->K undef h'):iv (rO T t (.map (some A)) (kv a) (.agg ⟨[]⟩) (h1.lay bs w)) K:=by
 obtain ⟨es,cl,ks,m1,m2,m3,m4⟩:=m
 obtain ⟨f1,f2⟩:=zja (a:=a) heq es ks 0 m2
 have hg:(h1.lay bs w).get A=some (.map es cl):=m1.lay bs w
 have hA:A < (h1.lay bs w).size:=(m1.on bs w).lt
 have hc:∀ b,eG A (h1.lay bs w) ((h1.lay bs w).set A b):=λb=>⟨by rw [Heap.size_set];exact bj _,λB hB aQ=>by rw [Heap.aJ _ _ _ _ hA,az aQ],by rw [Heap.bQ];omega⟩
 have hh:∀ b,Holds ((h1.lay bs w).set A b) A b:=λb=>⟨by rw [Heap.size_set];exact hA,by rw [Heap.aJ _ _ _ _ hA,aE rfl]⟩
 by_cases ha:a∈ks
 .obtain ⟨j,e,hr,hx,hek⟩:=f2 ha
  have he:rO T t (.map (some A)) (kv a) (.agg ⟨[]⟩) (h1.lay bs w)=some ((h1.lay bs w).set A (.map (es.modify j λe=>{ e with key:=kv a,val:=.agg ⟨[]⟩ }) cl)):=by
   unfold rO
   simp only [hd,hg,zqV hp a heq,if_true,hr,dM,jo,hx,hek,BO]
  rw [he]
  refine hK _ ⟨_,cl,ks,hh _,?_,λb=>?_,λx BW=>?_⟩ (hc _)
  .rw [<- m2]
   refine qN (λi=>?_)
   simp only [lC,CG]
   by_cases dK:j=i
   .subst dK
    rw [hx]
    simp [hek]
   .cases es[i]? <;> simp [dK]
  .rw [m3,dh]
   exact ⟨.inr,λh=>h.elim (λe=>e ▸ (m3 a).1 ha) id⟩
  .obtain ⟨i,hi⟩:=uL BW
   rw [CG] at hi
   cases pW:es[i]? with
   |none=>rw [pW] at hi;simp at hi
   |some y =>
    rw [pW] at hi
    simp only [Option.map_eq_map,jn,dO] at hi
    by_cases dK:j=i
    .rw [aE dK] at hi;rw [<- hi]
    .rw [az dK] at hi;rw [<- hi];exact m4 y (ic pW)
 .have he:rO T t (.map (some A)) (kv a) (.agg ⟨[]⟩) (h1.lay bs w)=some ((h1.lay bs w).set A (.map (es++[{ key:=kv a,val:=.agg ⟨[]⟩,born:=cl }]) (cl+1))):=by
   unfold rO
   simp only [hd,hg,zqV hp a heq,if_true,f1 ha,dM]
  rw [he]
  refine hK _ ⟨_,_,ks++[a],hh _,by simp [m2],λb=>?_,λx hx=>?_⟩ (hc _)
  .rw [mj,hU,dh,m3]
   exact Or.comm
  .rcases mj.1 hx with hx|hx
   .exact m4 x hx
   .rw [hU.1 hx]
end
end Go.Am

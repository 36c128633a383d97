/- What a node of a function's code is to its walk: parts of a code by their places; statements for simp. No condition. -/
import Derived.Test.YtkgojconmeeegaaGreatDoorG15
set_option linter.unusedSimpArgs false
set_option linter.unusedVariables false
namespace Go.Am
variable {i:Nat}
def k7:Code->Array Oper
 | .region _ a _=>a
 |_=>#[]
def ml (A:Array Oper) (n:Nat):List Oper:=A.toList.drop n
theorem aas (K:Code) (A:Array Oper) (hK:K=.region i A false:=by rfl) (P:Program) (T:bL) (ov:Ov):∀ (rd:Option Nat) (e:Env) (h:Heap) (Q:Ex->Env->Heap->Prop),W P T ov rd K e h Q=dA P T ov A (ml A 0) e h (Vd Q):=by
 subst hK
 intro rd e h Q
 rfl
theorem OM (A:Array Oper) (n:Nat) (hn:ml A n=[]:=by rfl) (P:Program) (T:bL) (ov:Ov):∀ (e:Env) (h:Heap) (Q:Env->Heap->Prop),dA P T ov A (ml A n) e h Q=Q e h:=by
 intro e h Q
 rw [hn]
 rfl
theorem Z9 (A:Array Oper) (n:Nat) (hn:ml A n=[]:=by rfl) (P:Program) (T:bL) (ov:Ov):∀ (b j:Nat) (e:Env) (h:Heap) (Q:Env->Heap->Prop),cw P T ov b A (ml A n) j e h Q=Q e h:=by
 intro b j e h Q
 rw [hn]
 rfl
theorem Cx (K A B:Code) (hK:K=.seq A B:=by rfl) (P:Program) (T:bL) (ov:Ov):∀ (rd:Option Nat) (e:Env) (h:Heap) (Q:Ex->Env->Heap->Prop),W P T ov rd K e h Q=W P T ov rd A e h (Kh P T ov rd B Q):=by
 subst hK
 intro rd e h Q
 exact zDE _ _ _ _ _
theorem zDO (K A B:Code) {o:Operand} (hK:K=.cond o A B:=by rfl) (P:Program) (T:bL) (ov:Ov):∀ (rd:Option Nat) (e:Env) (h:Heap) (Q:Ex->Env->Heap->Prop),W P T ov rd K e h Q=EE P T ov rd A B e h Q (bz e o):=by
 subst hK
 intro rd e h Q
 rfl
theorem VV (K A:Code) (hK:K=.block i A:=by rfl) (P:Program) (T:bL) (ov:Ov):∀ (rd:Option Nat) (e:Env) (h:Heap) (Q:Ex->Env->Heap->Prop),W P T ov rd K e h Q=W P T ov rd A e h (w8 i Q):=by
 subst hK
 intro rd e h Q
 exact zws _ _ _ _ _
theorem zG8 (K A:Code) (hK:K=.loop A:=by rfl) (P:Program) (T:bL) (ov:Ov):∀ (rd:Option Nat) (e:Env) (h:Heap) (Q:Ex->Env->Heap->Prop),W P T ov rd K e h Q=W P T ov rd (.loop A) e h Q:=by
 subst hK
 intro rd e h Q
 rfl
theorem zEf (K A:Code) (hK:K=.scope A:=by rfl) (P:Program) (T:bL) (ov:Ov):∀ (rd:Option Nat) (e:Env) (h:Heap) (Q:Ex->Env->Heap->Prop),W P T ov rd K e h Q=W P T ov rd A e h Q:=by
 subst hK
 intro rd e h Q
 rfl
theorem zDT (K:Code) (hK:K=.exit i:=by rfl) (P:Program) (T:bL) (ov:Ov):∀ (rd:Option Nat) (e:Env) (h:Heap) (Q:Ex->Env->Heap->Prop),W P T ov rd K e h Q=Q (.exit i) e h:=by
 subst hK
 intro rd e h Q
 rfl
theorem aat (K:Code) (hK:K=.ret:=by rfl) (P:Program) (T:bL) (ov:Ov):∀ (rd:Option Nat) (e:Env) (h:Heap) (Q:Ex->Env->Heap->Prop),W P T ov rd K e h Q=Q .ret e h:=by
 subst hK
 intro rd e h Q
 rfl
theorem zHd (K:Code) (hK:K=.skip:=by rfl) (P:Program) (T:bL) (ov:Ov):∀ (rd:Option Nat) (e:Env) (h:Heap) (Q:Ex->Env->Heap->Prop),W P T ov rd K e h Q=Q .normal e h:=by
 subst hK
 intro rd e h Q
 rfl
theorem zDZ (K:Code) (hK:K=.label i:=by rfl) (P:Program) (T:bL) (ov:Ov):∀ (rd:Option Nat) (e:Env) (h:Heap) (Q:Ex->Env->Heap->Prop),W P T ov rd K e h Q=Q .normal e h:=by
 subst hK
 intro rd e h Q
 rfl
abbrev zDz (K:Code) (A:Array Oper):Prop:=∀ {P:Program} {T:bL} {ov:Ov} {rd:Option Nat} {e:Env} {h0 h:Heap} {Q:Ex->Env->Heap->Prop},Ext h0 h->cw P T ov (min h0.low h0.size) A (ml A 0) 0 e h (λe' h1=>AX h0 h1/\Bw h0 Q e' h1)->W P T ov rd K e h Q
theorem zEX {K:Code} {A:Array Oper} (hK:K=.region i A true) (ht:Ey A (nS A.toList [])=true):zDz K A:=by
 subst hK
 intro P T ov rd e h0 h Q z hw
 exact zBL (ops:=A.toList) z ht hw
theorem nd {p q:Prop} (h:p) (g:q):p/\q:=⟨h,g⟩
end Go.Am
namespace Go.Am
def bd:Code->Nat
 | .seq a b=>bd a+bd b+1
 | .cond _ a b=>bd a+bd b+1
 | .block _ a=>bd a+1
 | .loop a=>bd a+1
 | .scope a=>bd a+1
 | .rangeFunc _ _ a b=>bd a+bd b+1
 |_=>1
def gB:Code->Nat->Code
 | .seq a b,n=>if n=0 then .seq a b else if n<=bd a then gB a (n - 1) else gB b (n - 1 - bd a)
 | .cond o a b,n=>if n=0 then .cond o a b else if n<=bd a then gB a (n - 1) else gB b (n - 1 - bd a)
 | .block i a,n=>if n=0 then .block i a else gB a (n - 1)
 | .loop a,n=>if n=0 then .loop a else gB a (n - 1)
 | .scope a,n=>if n=0 then .scope a else gB a (n - 1)
 | .rangeFunc g ps a b,n=>if n=0 then .rangeFunc g ps a b else if n<=bd a then gB a (n - 1) else gB b (n - 1 - bd a)
 |c,_=>c
def codeOf (f:Func):Code:=f.body.getD .skip
def bp (f:Func):Nat->Code:=gB (codeOf f)
theorem zgD (c:Code):gB c 0=c:=by cases c <;> rfl
def oD:List Oper->Nat->Option Tmp
 | [],_=>none
 |o::_,0=>o.dst
 |_::l,j+1=>oD l j
theorem zCp (l:List Oper) (j:Nat):oD l j=(l[j]?).bind (·.dst):=by
 induction l generalizing j with
 |nil=>rfl
 |cons o l ih=>cases j with
  |zero=>rfl
  |succ j=>exact ih j
def nJ (L:List Oper) (e:Env):Option (Nat × Bool)->Bool
 |none=>true
 |some (j,g)=>CT (e.get ((oD L j).getD 0)) g
def JE (L:List Oper) (o:Oper):Bool:=match o.guard with
 |none=>true
 |some (j,_)=>(oD L j).isSome
theorem znC {A:Array Oper} {o:Oper} (h:JE A.toList o=true) (e:Env):nP A o e=nJ A.toList e o.guard:=by
 unfold JE at h
 unfold nP
 cases hg:o.guard with
 |none=>rfl
 |some p =>
  obtain ⟨j,g⟩:=p
  rw [hg] at h
  have e1:A[j]? = A.toList[j]? := by simp
  have h2:(oD A.toList j).isSome=true:=h
  show _=CT (e.get ((oD A.toList j).getD 0)) g
  simp only [e1,<- zCp]
  cases hd:oD A.toList j with
  |none=>rw [hd] at h2;cases h2
  |some t=>rfl
def JT:Code->Bool
 | .region _ A true=>Ey A (nS A.toList [])
 |_=>false
theorem cZ {K:Code} (hd:JT K=true):zDz K (k7 K):=by
 unfold JT at hd
 split at hd
 .rename_i i A
  exact zEX rfl hd
 .cases hd
def og:Code->Bool
 | .seq a b=>og a && og b
 | .cond _ a b=>og a && og b
 | .block _ a=>og a
 | .loop a=>og a
 | .scope a=>og a
 | .rangeFunc _ _ a b=>og a && og b
 | .region i A d=>A.toList.all (JE A.toList) && (!d || JT (.region i A d))
 |_=>true
def y8 (A:Array Oper) (L:List Oper):List Oper->Nat->Prop
 | [],n=>∀ (P:Program) (T:bL) (ov:Ov) (e:Env) (h:Heap) (Q:Env->Heap->Prop),dA P T ov A (ml A n) e h Q=Q e h
 |o::l,n=>(∀ (P:Program) (T:bL) (ov:Ov) (e:Env) (h:Heap) (Q:Env->Heap->Prop),dA P T ov A (ml A n) e h Q=U8 P T ov A o (ml A (n+1)) o.dst e h Q (nJ L e o.guard))/\y8 A L l (n+1)
def y9 (A:Array Oper) (L:List Oper):List Oper->Nat->Prop
 | [],n=>∀ (P:Program) (T:bL) (ov:Ov) (b j:Nat) (e:Env) (h:Heap) (Q:Env->Heap->Prop),cw P T ov b A (ml A n) j e h Q=Q e h
 |o::l,n=>(∀ (P:Program) (T:bL) (ov:Ov) (b:Nat) (e:Env) (h:Heap) (Q:Env->Heap->Prop),cw P T ov b A (ml A n) n e h Q=RI P T ov b A o (ml A (n+1)) n o.dst e h Q (nJ L e o.guard) (fh o))/\y9 A L l (n+1)
def cE (N:Nat->Code):Code->Nat->Prop
 | .seq a b,n=>(∀ (P:Program) (T:bL) (ov:Ov) (rd:Option Nat) (e:Env) (h:Heap) (Q:Ex->Env->Heap->Prop),W P T ov rd (N n) e h Q=W P T ov rd (N (n+1)) e h (Kh P T ov rd (N (n+1+bd a)) Q))/\cE N a (n+1)/\cE N b (n+1+bd a)
 | .cond o a b,n=>(∀ (P:Program) (T:bL) (ov:Ov) (rd:Option Nat) (e:Env) (h:Heap) (Q:Ex->Env->Heap->Prop),W P T ov rd (N n) e h Q=EE P T ov rd (N (n+1)) (N (n+1+bd a)) e h Q (bz e o))/\cE N a (n+1)/\cE N b (n+1+bd a)
 | .block i a,n=>(∀ (P:Program) (T:bL) (ov:Ov) (rd:Option Nat) (e:Env) (h:Heap) (Q:Ex->Env->Heap->Prop),W P T ov rd (N n) e h Q=W P T ov rd (N (n+1)) e h (w8 i Q))/\cE N a (n+1)
 | .loop a,n=>(∀ (P:Program) (T:bL) (ov:Ov) (rd:Option Nat) (e:Env) (h:Heap) (Q:Ex->Env->Heap->Prop),W P T ov rd (N n) e h Q=W P T ov rd (.loop (N (n+1))) e h Q)/\cE N a (n+1)
 | .scope a,n=>(∀ (P:Program) (T:bL) (ov:Ov) (rd:Option Nat) (e:Env) (h:Heap) (Q:Ex->Env->Heap->Prop),W P T ov rd (N n) e h Q=W P T ov rd (N (n+1)) e h Q)/\cE N a (n+1)
 | .rangeFunc g ps a b,n=>(∀ (P:Program) (T:bL) (ov:Ov) (rd:Option Nat) (e:Env) (h:Heap) (Q:Ex->Env->Heap->Prop),W P T ov rd (N n) e h Q=C1 P T ov rd (bz e g) ps.toList (N (n+1)) (N (n+1+bd a)) e h Q)/\cE N a (n+1)/\cE N b (n+1+bd a)
 | .region i A false,n=>(∀ (P:Program) (T:bL) (ov:Ov) (rd:Option Nat) (e:Env) (h:Heap) (Q:Ex->Env->Heap->Prop),W P T ov rd (N n) e h Q=dA P T ov (k7 (N n)) (ml (k7 (N n)) 0) e h (Vd Q))/\y8 (k7 (N n)) A.toList A.toList 0
 | .region i A true,n=>JT (N n)=true/\y9 (k7 (N n)) A.toList A.toList 0
 | .exit i,n=>∀ (P:Program) (T:bL) (ov:Ov) (rd:Option Nat) (e:Env) (h:Heap) (Q:Ex->Env->Heap->Prop),W P T ov rd (N n) e h Q=Q (.exit i) e h
 | .ret,n=>∀ (P:Program) (T:bL) (ov:Ov) (rd:Option Nat) (e:Env) (h:Heap) (Q:Ex->Env->Heap->Prop),W P T ov rd (N n) e h Q=Q .ret e h
 | .skip,n=>∀ (P:Program) (T:bL) (ov:Ov) (rd:Option Nat) (e:Env) (h:Heap) (Q:Ex->Env->Heap->Prop),W P T ov rd (N n) e h Q=Q .normal e h
 | .label _,n=>∀ (P:Program) (T:bL) (ov:Ov) (rd:Option Nat) (e:Env) (h:Heap) (Q:Ex->Env->Heap->Prop),W P T ov rd (N n) e h Q=Q .normal e h
 |_,_=>True
theorem ztv (A:Array Oper) (h:∀ o∈A.toList,JE A.toList o=true):∀ (l:List Oper) (n:Nat),ml A n=l->(∀ o∈l,o∈A.toList)->y8 A A.toList l n
 | [],n,hl,_=>OM A n hl
 |o::l,n,hl,hm=>by
  have j7:ml A (n+1)=l:=by
   unfold ml at hl ⊢
   have:=congrArg (List.drop 1) hl
   rw [Dd] at this
   exact this
  refine ⟨λP T ov e h' Q=>?_,ztv A h l (n+1) j7 (λx hx=>hm x (gJ _ hx))⟩
  rw [hl,j7,zt3,znC (h o (hm o (lj ..)))]
theorem ztx (A:Array Oper) (h:∀ o∈A.toList,JE A.toList o=true):∀ (l:List Oper) (n:Nat),ml A n=l->(∀ o∈l,o∈A.toList)->y9 A A.toList l n
 | [],n,hl,_=>Z9 A n hl
 |o::l,n,hl,hm=>by
  have j7:ml A (n+1)=l:=by
   unfold ml at hl ⊢
   have:=congrArg (List.drop 1) hl
   rw [Dd] at this
   exact this
  refine ⟨λP T ov b e h' Q=>?_,ztx A h l (n+1) j7 (λx hx=>hm x (gJ _ hx))⟩
  rw [hl,j7,zq1,znC (h o (hm o (lj ..)))]
theorem Jq {N:Nat->Code} {a b x:Code} {n:Nat} (h:∀ k,k < bd a+bd b+1->N (n+k)=gB x k) (ha:∀ k,0 < k->k<=bd a->gB x k=gB a (k - 1)) (hb:∀ k,bd a < k->gB x k=gB b (k - 1 - bd a)) (pa:0 < bd a) (pb:0 < bd b) :
 N (n+1)=a/\N (n+1+bd a)=b/\(∀ k,k < bd a->N (n+1+k)=gB a k)/\∀ k,k < bd b->N (n+1+bd a+k)=gB b k:=by
 have h1:∀ k,k < bd a->N (n+1+k)=gB a k:=λk hk=>by
  rw [show n+1+k=n+(k+1) by omega,h _ (by omega),ha _ (by omega) (by omega),C7]
 have h2:∀ k,k < bd b->N (n+1+bd a+k)=gB b k:=λk hk=>by
  rw [show n+1+bd a+k=n+(k+1+bd a) by omega,h _ (by omega),hb _ (by omega)]
  congr 1
  omega
 have h3:=h1 0 pa
 have h4:=h2 0 pb
 rw [zgD] at h3 h4
 exact ⟨h3,h4,h1,h2⟩
theorem mj (c:Code):0 < bd c:=by cases c <;> simp [bd]
theorem Jv {N:Nat->Code} {a x:Code} {n:Nat} (h:∀ k,k < bd a+1->N (n+k)=gB x k) (ha:∀ k,0 < k->gB x k=gB a (k - 1)):N (n+1)=a/\∀ k,k < bd a->N (n+1+k)=gB a k:=by
 have h1:∀ k,k < bd a->N (n+1+k)=gB a k:=λk hk=>by
  rw [show n+1+k=n+(k+1) by omega,h _ (by omega),ha _ (by omega),C7]
 have h3:=h1 0 (mj a)
 rw [zgD] at h3
 exact ⟨h3,h1⟩
theorem Ao (N:Nat->Code):∀ (c:Code) (n:Nat),og c=true->(∀ k,k < bd c->N (n+k)=gB c k)->cE N c n
 | .seq a b,n,hw,h=>by
  have h0:N n=.seq a b:=h 0 (mj _)
  simp only [og,dP] at hw
  obtain ⟨e1,e2,f1,f2⟩:=Jq (a:=a) (b:=b) h (λk h1 h2=>by simp only [gB];rw [az (by omega),aE h2]) (λk h1=>by simp only [gB];rw [az (by omega),az (by omega)]) (mj _) (mj _)
  exact ⟨λP T ov=>by rw [e1,e2];exact Cx _ a b h0 P T ov,Ao N a _ hw.1 f1,Ao N b _ hw.2 f2⟩
 | .cond o a b,n,hw,h=>by
  have h0:N n=.cond o a b:=h 0 (mj _)
  simp only [og,dP] at hw
  obtain ⟨e1,e2,f1,f2⟩:=Jq (a:=a) (b:=b) h (λk h1 h2=>by simp only [gB];rw [az (by omega),aE h2]) (λk h1=>by simp only [gB];rw [az (by omega),az (by omega)]) (mj _) (mj _)
  exact ⟨λP T ov=>by rw [e1,e2];exact zDO _ a b h0 P T ov,Ao N a _ hw.1 f1,Ao N b _ hw.2 f2⟩
 | .rangeFunc g ps a b,n,hw,h=>by
  have h0:N n=.rangeFunc g ps a b:=h 0 (mj _)
  simp only [og,dP] at hw
  obtain ⟨e1,e2,f1,f2⟩:=Jq (a:=a) (b:=b) h (λk h1 h2=>by simp only [gB];rw [az (by omega),aE h2]) (λk h1=>by simp only [gB];rw [az (by omega),az (by omega)]) (mj _) (mj _)
  exact ⟨λP T ov rd e h' Q=>by rw [e1,e2,h0];rfl,Ao N a _ hw.1 f1,Ao N b _ hw.2 f2⟩
 | .block i a,n,hw,h=>by
  have h0:N n=.block i a:=h 0 (mj _)
  obtain ⟨e1,f1⟩:=Jv (a:=a) h (λk h1=>by simp only [gB];rw [az (by omega)])
  exact ⟨λP T ov=>by rw [e1];exact VV _ a h0 P T ov,Ao N a _ hw f1⟩
 | .loop a,n,hw,h=>by
  have h0:N n=.loop a:=h 0 (mj _)
  obtain ⟨e1,f1⟩:=Jv (a:=a) h (λk h1=>by simp only [gB];rw [az (by omega)])
  exact ⟨λP T ov=>by rw [e1];exact zG8 _ a h0 P T ov,Ao N a _ hw f1⟩
 | .scope a,n,hw,h=>by
  have h0:N n=.scope a:=h 0 (mj _)
  obtain ⟨e1,f1⟩:=Jv (a:=a) h (λk h1=>by simp only [gB];rw [az (by omega)])
  exact ⟨λP T ov=>by rw [e1];exact zEf _ a h0 P T ov,Ao N a _ hw f1⟩
 | .region i A false,n,hw,h=>by
  have h0:N n=.region i A false:=h 0 (mj _)
  have hr:k7 (N n)=A:=by rw [h0];rfl
  simp only [og,dP,gK] at hw
  refine ⟨λP T ov=>?_,?_⟩
  .rw [hr]
   exact aas _ A h0 P T ov
  .rw [hr]
   exact ztv A hw.1 _ 0 rfl (λo ho=>ho)
 | .region i A true,n,hw,h=>by
  have h0:N n=.region i A true:=h 0 (mj _)
  have hr:k7 (N n)=A:=by rw [h0];rfl
  simp only [og,dP,gK,Bool.not_true,Ih] at hw
  refine ⟨?_,?_⟩
  .rw [h0]
   exact hw.2
  .rw [hr]
   exact ztx A hw.1 _ 0 rfl (λo ho=>ho)
 | .exit i,n,hw,h=>zDT _ (h 0 (mj _))
 | .ret,n,hw,h=>aat _ (h 0 (mj _))
 | .skip,n,hw,h=>zHd _ (h 0 (mj _))
 | .label l,n,hw,h=>zDZ _ (h 0 (mj _))
 | .goto l,n,hw,h=>trivial
 | .refuse w,n,hw,h=>trivial
theorem bq (N:Nat->Code) (f:Func) (hN:N=bp f:=by rfl) (hw:og (codeOf f)=true:=by kernel_rfl):cE N (codeOf f) 0 :=
 Ao N _ 0 hw (λk _=>by rw [hN,iu];rfl)
theorem bm {f:Func} (N:Nat->Code) (hN:N=bp f:=by rfl) (h:f.body.isSome=true:=by rfl):f.body=some (N 0):=by
 rw [hN]
 unfold bp
 rw [zgD]
 unfold codeOf
 cases hb:f.body with
 |none=>rw [hb] at h;cases h
 |some c=>rfl
noncomputable def Ei:=PLift.up (And.intro @codeOf.eq_1 <| And.intro @cE.eq_1 <| And.intro @cE.eq_2 <| And.intro @cE.eq_3 <| And.intro @cE.eq_4 <| And.intro @cE.eq_5 <| And.intro @cE.eq_6 <| And.intro @cE.eq_7 <| And.intro @cE.eq_8 <| And.intro @cE.eq_9 <| And.intro @cE.eq_10 <| And.intro @cE.eq_11 <| And.intro @cE.eq_12 <| And.intro @cE.eq_13 <| And.intro @y8.eq_1 <| And.intro @y8.eq_2 <| And.intro @y9.eq_1 <| And.intro @y9.eq_2 <| And.intro @bd.eq_1 <| And.intro @bd.eq_2 <| And.intro @bd.eq_3 <| And.intro @bd.eq_4 <| And.intro @bd.eq_5 <| And.intro @bd.eq_6 <| And.intro @bd.eq_7 <| And.intro @nJ.eq_1 <| And.intro @nJ.eq_2 <| And.intro @oD.eq_1 <| And.intro @oD.eq_2 <| And.intro @oD.eq_3 <| And.intro @fh.eq_1 <| And.intro @Option.getD_some.{0} <| And.intro @List.append_eq.{0} <| And.intro @List.cons_append.{0} <| @List.nil_append.{0})
theorem aI:type_of% Ei.down:=Ei.down
theorem Ok.aq {P:Program} {T:bL} {ov:Ov} {f:FuncId} {fn:Func} {c:Code} {args:List Value} {h:Heap} {K:Value->Heap->Prop} (m:Nat) (hc:fn.body=some c) (hw:W P T ov none c (args++List.replicate m undef) h (eL T fn K)) (ho:ov f=none:=by exact rfl) (hf:T.fn f=some fn:=by kernel_rfl) (BF:T.MC f=false:=by exact rfl) (hm:fn.ntmps - args.length=m:=by exact rfl):Ok P T ov f args h K:=Ok.ZR ho hf hc BF hm hw
theorem bc {shape:(Nat->Value)->Env} {e:Env} (h:e=shape e.get:=by kernel_rfl):∃ J,e=shape J:=⟨_,h⟩
end Go.Am

/- What a node of a function's code is to its walk: parts of a code by their places; statements for simp. No condition. -/
import Derived.Test.YtnkmeidmdaidhaaGreatDoorG10
set_option linter.unusedSimpArgs false
set_option linter.unusedVariables false
namespace Go.Am
variable {i:Nat}
def iY:Code->Array Oper
 | .region _ a _=>a
 |_=>#[]
def jA (A:Array Oper) (n:Nat):List Oper:=A.toList.drop n
theorem Ss (K:Code) (A:Array Oper) (hK:K=.region i A false:=by rfl) (P:Program) (T:bx) (ov:Ov):∀ (rd:Option Nat) (e:Env) (h:Heap) (Q:Ex->Env->Heap->Prop),W P T ov rd K e h Q=cM P T ov A (jA A 0) e h (Na Q):=by
 subst hK
 intro rd e h Q
 rfl
theorem H5 (A:Array Oper) (n:Nat) (hn:jA A n=[]:=by rfl) (P:Program) (T:bx) (ov:Ov):∀ (e:Env) (h:Heap) (Q:Env->Heap->Prop),cM P T ov A (jA A n) e h Q=Q e h:=by
 intro e h Q
 rw [hn]
 rfl
theorem Sh (A:Array Oper) (n:Nat) (hn:jA A n=[]:=by rfl) (P:Program) (T:bx) (ov:Ov):∀ (b j:Nat) (e:Env) (h:Heap) (Q:Env->Heap->Prop),bI P T ov b A (jA A n) j e h Q=Q e h:=by
 intro b j e h Q
 rw [hn]
 rfl
theorem ry (K A B:Code) (hK:K=.seq A B:=by rfl) (P:Program) (T:bx) (ov:Ov):∀ (rd:Option Nat) (e:Env) (h:Heap) (Q:Ex->Env->Heap->Prop),W P T ov rd K e h Q=W P T ov rd A e h (Ae P T ov rd B Q):=by
 subst hK
 intro rd e h Q
 exact zzX _ _ _ _ _
theorem Ze (K A B:Code) {o:Operand} (hK:K=.cond o A B:=by rfl) (P:Program) (T:bx) (ov:Ov):∀ (rd:Option Nat) (e:Env) (h:Heap) (Q:Ex->Env->Heap->Prop),W P T ov rd K e h Q=C4 P T ov rd A B e h Q (br e o):=by
 subst hK
 intro rd e h Q
 rfl
theorem NJ (K A:Code) (hK:K=.block i A:=by rfl) (P:Program) (T:bx) (ov:Ov):∀ (rd:Option Nat) (e:Env) (h:Heap) (Q:Ex->Env->Heap->Prop),W P T ov rd K e h Q=W P T ov rd A e h (uN i Q):=by
 subst hK
 intro rd e h Q
 exact ztW _ _ _ _ _
theorem zBt (K A:Code) (hK:K=.loop A:=by rfl) (P:Program) (T:bx) (ov:Ov):∀ (rd:Option Nat) (e:Env) (h:Heap) (Q:Ex->Env->Heap->Prop),W P T ov rd K e h Q=W P T ov rd (.loop A) e h Q:=by
 subst hK
 intro rd e h Q
 rfl
theorem zAC (K A:Code) (hK:K=.scope A:=by rfl) (P:Program) (T:bx) (ov:Ov):∀ (rd:Option Nat) (e:Env) (h:Heap) (Q:Ex->Env->Heap->Prop),W P T ov rd K e h Q=W P T ov rd A e h Q:=by
 subst hK
 intro rd e h Q
 rfl
theorem Zg (K:Code) (hK:K=.exit i:=by rfl) (P:Program) (T:bx) (ov:Ov):∀ (rd:Option Nat) (e:Env) (h:Heap) (Q:Ex->Env->Heap->Prop),W P T ov rd K e h Q=Q (.exit i) e h:=by
 subst hK
 intro rd e h Q
 rfl
theorem St (K:Code) (hK:K=.ret:=by rfl) (P:Program) (T:bx) (ov:Ov):∀ (rd:Option Nat) (e:Env) (h:Heap) (Q:Ex->Env->Heap->Prop),W P T ov rd K e h Q=Q .ret e h:=by
 subst hK
 intro rd e h Q
 rfl
theorem zBx (K:Code) (hK:K=.skip:=by rfl) (P:Program) (T:bx) (ov:Ov):∀ (rd:Option Nat) (e:Env) (h:Heap) (Q:Ex->Env->Heap->Prop),W P T ov rd K e h Q=Q .normal e h:=by
 subst hK
 intro rd e h Q
 rfl
theorem zAs (K:Code) (hK:K=.label i:=by rfl) (P:Program) (T:bx) (ov:Ov):∀ (rd:Option Nat) (e:Env) (h:Heap) (Q:Ex->Env->Heap->Prop),W P T ov rd K e h Q=Q .normal e h:=by
 subst hK
 intro rd e h Q
 rfl
abbrev zzS (K:Code) (A:Array Oper):Prop:=∀ {P:Program} {T:bx} {ov:Ov} {rd:Option Nat} {e:Env} {h0 h:Heap} {Q:Ex->Env->Heap->Prop},Ext h0 h->bI P T ov (min h0.low h0.size) A (jA A 0) 0 e h (λe' h1=>wo h0 h1/\wF h0 Q e' h1)->W P T ov rd K e h Q
theorem zAR {K:Code} {A:Array Oper} (hK:K=.region i A true) (ht:zI A (kV A.toList [])=true):zzS K A:=by
 subst hK
 intro P T ov rd e h0 h Q z hw
 exact zys (ops:=A.toList) z ht hw
theorem nd {p q:Prop} (h:p) (g:q):p/\q:=⟨h,g⟩
end Go.Am
namespace Go.Am
def aR:Code->Nat
 | .seq a b=>aR a+aR b+1
 | .cond _ a b=>aR a+aR b+1
 | .block _ a=>aR a+1
 | .loop a=>aR a+1
 | .scope a=>aR a+1
 | .rangeFunc _ _ a b=>aR a+aR b+1
 |_=>1
def eN:Code->Nat->Code
 | .seq a b,n=>if n=0 then .seq a b else if n<=aR a then eN a (n - 1) else eN b (n - 1 - aR a)
 | .cond o a b,n=>if n=0 then .cond o a b else if n<=aR a then eN a (n - 1) else eN b (n - 1 - aR a)
 | .block i a,n=>if n=0 then .block i a else eN a (n - 1)
 | .loop a,n=>if n=0 then .loop a else eN a (n - 1)
 | .scope a,n=>if n=0 then .scope a else eN a (n - 1)
 | .rangeFunc g ps a b,n=>if n=0 then .rangeFunc g ps a b else if n<=aR a then eN a (n - 1) else eN b (n - 1 - aR a)
 |c,_=>c
def codeOf (f:Func):Code:=f.body.getD .skip
def bD (f:Func):Nat->Code:=eN (codeOf f)
theorem Tk (c:Code):eN c 0=c:=by cases c <;> rfl
def lu:List Oper->Nat->Option Tmp
 | [],_=>none
 |o::_,0=>o.dst
 |_::l,j+1=>lu l j
theorem zy0 (l:List Oper) (j:Nat):lu l j=(l[j]?).bind (·.dst):=by
 induction l generalizing j with
 |nil=>rfl
 |cons o l ih=>cases j with
  |zero=>rfl
  |succ j=>exact ih j
def kH (L:List Oper) (e:Env):Option (Nat × Bool)->Bool
 |none=>true
 |some (j,g)=>yk (e.get ((lu L j).getD 0)) g
def EK (L:List Oper) (o:Oper):Bool:=match o.guard with
 |none=>true
 |some (j,_)=>(lu L j).isSome
theorem Uq {A:Array Oper} {o:Oper} (h:EK A.toList o=true) (e:Env):kU A o e=kH A.toList e o.guard:=by
 unfold EK at h
 unfold kU
 cases hg:o.guard with
 |none=>rfl
 |some p =>
  obtain ⟨j,g⟩:=p
  rw [hg] at h
  have e1:A[j]? = A.toList[j]? := by simp
  have h2:(lu A.toList j).isSome=true:=h
  show _=yk (e.get ((lu A.toList j).getD 0)) g
  simp only [e1,<- zy0]
  cases hd:lu A.toList j with
  |none=>rw [hd] at h2;cases h2
  |some t=>rfl
def EU:Code->Bool
 | .region _ A true=>zI A (kV A.toList [])
 |_=>false
theorem dO {K:Code} (hd:EU K=true):zzS K (iY K):=by
 unfold EU at hd
 split at hd
 .rename_i i A
  exact zAR rfl hd
 .cases hd
def lg:Code->Bool
 | .seq a b=>lg a && lg b
 | .cond _ a b=>lg a && lg b
 | .block _ a=>lg a
 | .loop a=>lg a
 | .scope a=>lg a
 | .rangeFunc _ _ a b=>lg a && lg b
 | .region i A d=>A.toList.all (EK A.toList) && (!d || EU (.region i A d))
 |_=>true
def ur (A:Array Oper) (L:List Oper):List Oper->Nat->Prop
 | [],n=>∀ (P:Program) (T:bx) (ov:Ov) (e:Env) (h:Heap) (Q:Env->Heap->Prop),cM P T ov A (jA A n) e h Q=Q e h
 |o::l,n=>(∀ (P:Program) (T:bx) (ov:Ov) (e:Env) (h:Heap) (Q:Env->Heap->Prop),cM P T ov A (jA A n) e h Q=MY P T ov A o (jA A (n+1)) o.dst e h Q (kH L e o.guard))/\ur A L l (n+1)
def uv (A:Array Oper) (L:List Oper):List Oper->Nat->Prop
 | [],n=>∀ (P:Program) (T:bx) (ov:Ov) (b j:Nat) (e:Env) (h:Heap) (Q:Env->Heap->Prop),bI P T ov b A (jA A n) j e h Q=Q e h
 |o::l,n=>(∀ (P:Program) (T:bx) (ov:Ov) (b:Nat) (e:Env) (h:Heap) (Q:Env->Heap->Prop),bI P T ov b A (jA A n) n e h Q=JQ P T ov b A o (jA A (n+1)) n o.dst e h Q (kH L e o.guard) (dS o))/\uv A L l (n+1)
def bV (N:Nat->Code):Code->Nat->Prop
 | .seq a b,n=>(∀ (P:Program) (T:bx) (ov:Ov) (rd:Option Nat) (e:Env) (h:Heap) (Q:Ex->Env->Heap->Prop),W P T ov rd (N n) e h Q=W P T ov rd (N (n+1)) e h (Ae P T ov rd (N (n+1+aR a)) Q))/\bV N a (n+1)/\bV N b (n+1+aR a)
 | .cond o a b,n=>(∀ (P:Program) (T:bx) (ov:Ov) (rd:Option Nat) (e:Env) (h:Heap) (Q:Ex->Env->Heap->Prop),W P T ov rd (N n) e h Q=C4 P T ov rd (N (n+1)) (N (n+1+aR a)) e h Q (br e o))/\bV N a (n+1)/\bV N b (n+1+aR a)
 | .block i a,n=>(∀ (P:Program) (T:bx) (ov:Ov) (rd:Option Nat) (e:Env) (h:Heap) (Q:Ex->Env->Heap->Prop),W P T ov rd (N n) e h Q=W P T ov rd (N (n+1)) e h (uN i Q))/\bV N a (n+1)
 | .loop a,n=>(∀ (P:Program) (T:bx) (ov:Ov) (rd:Option Nat) (e:Env) (h:Heap) (Q:Ex->Env->Heap->Prop),W P T ov rd (N n) e h Q=W P T ov rd (.loop (N (n+1))) e h Q)/\bV N a (n+1)
 | .scope a,n=>(∀ (P:Program) (T:bx) (ov:Ov) (rd:Option Nat) (e:Env) (h:Heap) (Q:Ex->Env->Heap->Prop),W P T ov rd (N n) e h Q=W P T ov rd (N (n+1)) e h Q)/\bV N a (n+1)
 | .rangeFunc g ps a b,n=>(∀ (P:Program) (T:bx) (ov:Ov) (rd:Option Nat) (e:Env) (h:Heap) (Q:Ex->Env->Heap->Prop),W P T ov rd (N n) e h Q=EY P T ov rd (br e g) ps.toList (N (n+1)) (N (n+1+aR a)) e h Q)/\bV N a (n+1)/\bV N b (n+1+aR a)
 | .region i A false,n=>(∀ (P:Program) (T:bx) (ov:Ov) (rd:Option Nat) (e:Env) (h:Heap) (Q:Ex->Env->Heap->Prop),W P T ov rd (N n) e h Q=cM P T ov (iY (N n)) (jA (iY (N n)) 0) e h (Na Q))/\ur (iY (N n)) A.toList A.toList 0
 | .region i A true,n=>EU (N n)=true/\uv (iY (N n)) A.toList A.toList 0
 | .exit i,n=>∀ (P:Program) (T:bx) (ov:Ov) (rd:Option Nat) (e:Env) (h:Heap) (Q:Ex->Env->Heap->Prop),W P T ov rd (N n) e h Q=Q (.exit i) e h
 | .ret,n=>∀ (P:Program) (T:bx) (ov:Ov) (rd:Option Nat) (e:Env) (h:Heap) (Q:Ex->Env->Heap->Prop),W P T ov rd (N n) e h Q=Q .ret e h
 | .skip,n=>∀ (P:Program) (T:bx) (ov:Ov) (rd:Option Nat) (e:Env) (h:Heap) (Q:Ex->Env->Heap->Prop),W P T ov rd (N n) e h Q=Q .normal e h
 | .label _,n=>∀ (P:Program) (T:bx) (ov:Ov) (rd:Option Nat) (e:Env) (h:Heap) (Q:Ex->Env->Heap->Prop),W P T ov rd (N n) e h Q=Q .normal e h
 |_,_=>True
theorem zro (A:Array Oper) (h:∀ o∈A.toList,EK A.toList o=true):∀ (l:List Oper) (n:Nat),jA A n=l->(∀ o∈l,o∈A.toList)->ur A A.toList l n
 | [],n,hl,_=>H5 A n hl
 |o::l,n,hl,hm=>by
  have lZ:jA A (n+1)=l:=by
   unfold jA at hl ⊢
   have:=congrArg (List.drop 1) hl
   rw [yz] at this
   exact this
  refine ⟨λP T ov e h' Q=>?_,zro A h l (n+1) lZ (λx hx=>hm x (sn _ hx))⟩
  rw [hl,lZ,zrV,Uq (h o (hm o (pO ..)))]
theorem zrq (A:Array Oper) (h:∀ o∈A.toList,EK A.toList o=true):∀ (l:List Oper) (n:Nat),jA A n=l->(∀ o∈l,o∈A.toList)->uv A A.toList l n
 | [],n,hl,_=>Sh A n hl
 |o::l,n,hl,hm=>by
  have lZ:jA A (n+1)=l:=by
   unfold jA at hl ⊢
   have:=congrArg (List.drop 1) hl
   rw [yz] at this
   exact this
  refine ⟨λP T ov b e h' Q=>?_,zrq A h l (n+1) lZ (λx hx=>hm x (sn _ hx))⟩
  rw [hl,lZ,zoV,Uq (h o (hm o (pO ..)))]
theorem Ei {N:Nat->Code} {a b x:Code} {n:Nat} (h:∀ k,k < aR a+aR b+1->N (n+k)=eN x k) (ha:∀ k,0 < k->k<=aR a->eN x k=eN a (k - 1)) (hb:∀ k,aR a < k->eN x k=eN b (k - 1 - aR a)) (pa:0 < aR a) (pb:0 < aR b) :
 N (n+1)=a/\N (n+1+aR a)=b/\(∀ k,k < aR a->N (n+1+k)=eN a k)/\∀ k,k < aR b->N (n+1+aR a+k)=eN b k:=by
 have h1:∀ k,k < aR a->N (n+1+k)=eN a k:=λk hk=>by
  rw [show n+1+k=n+(k+1) by omega,h _ (by omega),ha _ (by omega) (by omega),zW]
 have h2:∀ k,k < aR b->N (n+1+aR a+k)=eN b k:=λk hk=>by
  rw [show n+1+aR a+k=n+(k+1+aR a) by omega,h _ (by omega),hb _ (by omega)]
  congr 1
  omega
 have h3:=h1 0 pa
 have h4:=h2 0 pb
 rw [Tk] at h3 h4
 exact ⟨h3,h4,h1,h2⟩
theorem jy (c:Code):0 < aR c:=by cases c <;> simp [aR]
theorem Ez {N:Nat->Code} {a x:Code} {n:Nat} (h:∀ k,k < aR a+1->N (n+k)=eN x k) (ha:∀ k,0 < k->eN x k=eN a (k - 1)):N (n+1)=a/\∀ k,k < aR a->N (n+1+k)=eN a k:=by
 have h1:∀ k,k < aR a->N (n+1+k)=eN a k:=λk hk=>by
  rw [show n+1+k=n+(k+1) by omega,h _ (by omega),ha _ (by omega),zW]
 have h3:=h1 0 (jy a)
 rw [Tk] at h3
 exact ⟨h3,h1⟩
theorem vM (N:Nat->Code):∀ (c:Code) (n:Nat),lg c=true->(∀ k,k < aR c->N (n+k)=eN c k)->bV N c n
 | .seq a b,n,hw,h=>by
  have h0:N n=.seq a b:=h 0 (jy _)
  simp only [lg,dj] at hw
  obtain ⟨e1,e2,f1,f2⟩:=Ei (a:=a) (b:=b) h (λk h1 h2=>by simp only [eN];rw [aA (by omega),aG h2]) (λk h1=>by simp only [eN];rw [aA (by omega),aA (by omega)]) (jy _) (jy _)
  exact ⟨λP T ov=>by rw [e1,e2];exact ry _ a b h0 P T ov,vM N a _ hw.1 f1,vM N b _ hw.2 f2⟩
 | .cond o a b,n,hw,h=>by
  have h0:N n=.cond o a b:=h 0 (jy _)
  simp only [lg,dj] at hw
  obtain ⟨e1,e2,f1,f2⟩:=Ei (a:=a) (b:=b) h (λk h1 h2=>by simp only [eN];rw [aA (by omega),aG h2]) (λk h1=>by simp only [eN];rw [aA (by omega),aA (by omega)]) (jy _) (jy _)
  exact ⟨λP T ov=>by rw [e1,e2];exact Ze _ a b h0 P T ov,vM N a _ hw.1 f1,vM N b _ hw.2 f2⟩
 | .rangeFunc g ps a b,n,hw,h=>by
  have h0:N n=.rangeFunc g ps a b:=h 0 (jy _)
  simp only [lg,dj] at hw
  obtain ⟨e1,e2,f1,f2⟩:=Ei (a:=a) (b:=b) h (λk h1 h2=>by simp only [eN];rw [aA (by omega),aG h2]) (λk h1=>by simp only [eN];rw [aA (by omega),aA (by omega)]) (jy _) (jy _)
  exact ⟨λP T ov rd e h' Q=>by rw [e1,e2,h0];rfl,vM N a _ hw.1 f1,vM N b _ hw.2 f2⟩
 | .block i a,n,hw,h=>by
  have h0:N n=.block i a:=h 0 (jy _)
  obtain ⟨e1,f1⟩:=Ez (a:=a) h (λk h1=>by simp only [eN];rw [aA (by omega)])
  exact ⟨λP T ov=>by rw [e1];exact NJ _ a h0 P T ov,vM N a _ hw f1⟩
 | .loop a,n,hw,h=>by
  have h0:N n=.loop a:=h 0 (jy _)
  obtain ⟨e1,f1⟩:=Ez (a:=a) h (λk h1=>by simp only [eN];rw [aA (by omega)])
  exact ⟨λP T ov=>by rw [e1];exact zBt _ a h0 P T ov,vM N a _ hw f1⟩
 | .scope a,n,hw,h=>by
  have h0:N n=.scope a:=h 0 (jy _)
  obtain ⟨e1,f1⟩:=Ez (a:=a) h (λk h1=>by simp only [eN];rw [aA (by omega)])
  exact ⟨λP T ov=>by rw [e1];exact zAC _ a h0 P T ov,vM N a _ hw f1⟩
 | .region i A false,n,hw,h=>by
  have h0:N n=.region i A false:=h 0 (jy _)
  have hr:iY (N n)=A:=by rw [h0];rfl
  simp only [lg,dj,gz] at hw
  refine ⟨λP T ov=>?_,?_⟩
  .rw [hr]
   exact Ss _ A h0 P T ov
  .rw [hr]
   exact zro A hw.1 _ 0 rfl (λo ho=>ho)
 | .region i A true,n,hw,h=>by
  have h0:N n=.region i A true:=h 0 (jy _)
  have hr:iY (N n)=A:=by rw [h0];rfl
  simp only [lg,dj,gz,Bool.not_true,DA] at hw
  refine ⟨?_,?_⟩
  .rw [h0]
   exact hw.2
  .rw [hr]
   exact zrq A hw.1 _ 0 rfl (λo ho=>ho)
 | .exit i,n,hw,h=>Zg _ (h 0 (jy _))
 | .ret,n,hw,h=>St _ (h 0 (jy _))
 | .skip,n,hw,h=>zBx _ (h 0 (jy _))
 | .label l,n,hw,h=>zAs _ (h 0 (jy _))
 | .goto l,n,hw,h=>trivial
 | .refuse w,n,hw,h=>trivial
theorem bG (N:Nat->Code) (f:Func) (hN:N=bD f:=by rfl) (hw:lg (codeOf f)=true:=by kernel_rfl):bV N (codeOf f) 0 :=
 vM N _ 0 hw (λk _=>by rw [hN,ia];rfl)
theorem bH {f:Func} (N:Nat->Code) (hN:N=bD f:=by rfl) (h:f.body.isSome=true:=by rfl):f.body=some (N 0):=by
 rw [hN]
 unfold bD
 rw [Tk]
 unfold codeOf
 cases hb:f.body with
 |none=>rw [hb] at h;cases h
 |some c=>rfl
noncomputable def zo:=PLift.up (And.intro @codeOf.eq_1 <| And.intro @bV.eq_1 <| And.intro @bV.eq_2 <| And.intro @bV.eq_3 <| And.intro @bV.eq_4 <| And.intro @bV.eq_5 <| And.intro @bV.eq_6 <| And.intro @bV.eq_7 <| And.intro @bV.eq_8 <| And.intro @bV.eq_9 <| And.intro @bV.eq_10 <| And.intro @bV.eq_11 <| And.intro @bV.eq_12 <| And.intro @bV.eq_13 <| And.intro @ur.eq_1 <| And.intro @ur.eq_2 <| And.intro @uv.eq_1 <| And.intro @uv.eq_2 <| And.intro @aR.eq_1 <| And.intro @aR.eq_2 <| And.intro @aR.eq_3 <| And.intro @aR.eq_4 <| And.intro @aR.eq_5 <| And.intro @aR.eq_6 <| And.intro @aR.eq_7 <| And.intro @kH.eq_1 <| And.intro @kH.eq_2 <| And.intro @lu.eq_1 <| And.intro @lu.eq_2 <| And.intro @lu.eq_3 <| And.intro @dS.eq_1 <| And.intro @Option.getD_some.{0} <| And.intro @List.append_eq.{0} <| And.intro @List.cons_append.{0} <| @List.nil_append.{0})
theorem aQ:type_of% zo.down:=zo.down
theorem Ok.aC {P:Program} {T:bx} {ov:Ov} {f:FuncId} {fn:Func} {c:Code} {args:List Value} {h:Heap} {K:Value->Heap->Prop} (m:Nat) (hc:fn.body=some c) (hw:W P T ov none c (args++List.replicate m undef) h (dM T fn K)) (ho:ov f=none:=by exact rfl) (hf:T.fn f=some fn:=by kernel_rfl) (wN:T.Gc f=false:=by exact rfl) (hm:fn.ntmps - args.length=m:=by exact rfl):Ok P T ov f args h K:=Ok.R1 ho hf hc wN hm hw
theorem bw {shape:(Nat->Value)->Env} {e:Env} (h:e=shape e.get:=by kernel_rfl):∃ J,e=shape J:=⟨_,h⟩
end Go.Am
namespace Go.Am
variable {T:bx} {fn:Func} {K:aL} {e:Env} {h:Heap}
theorem we (hr:fn.results=#[]):dM T fn K .ret e h=K undef h:=by
 simp [dM,lL,hr,undef]
theorem vS (hr:fn.results=#[]):dM T fn K .normal e h=K undef h:=by
 simp [dM,lL,hr,undef]
theorem zuO {a b c:Tmp} (hr:fn.results=#[.tmp a,.tmp b,.tmp c]):dM T fn K .ret e h=K (.tuple #[e.get a,e.get b,e.get c]) h:=by
 simp [dM,lL,hr,rG]
theorem Ti {a b:Tmp} {y:TypeId} (hr:fn.results=#[.cell a y,.tmp b]):dM T fn K .ret e h=aK (fU T y (e.get a) h) h (λx h'=>K (.tuple #[x,e.get b]) h'):=by
 cases hl:fU T y (e.get a) h with
 |none=>simp [dM,lL,hr,rG,aK,hl]
 |some x=>simp [dM,lL,hr,rG,aK,hl]
end Go.Am

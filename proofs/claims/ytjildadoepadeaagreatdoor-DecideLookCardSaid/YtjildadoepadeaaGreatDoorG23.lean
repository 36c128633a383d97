/- What a node of a function's code is to its walk: parts of a code by their places; statements for simp. No condition. -/
import Derived.Test.YtjildadoepadeaaGreatDoorG17
set_option linter.unusedSimpArgs false
set_option linter.unusedVariables false
namespace Go.Am
variable {i:Nat}
def iC:Code->Array Oper
 | .region _ a _=>a
 |_=>#[]
def iM (A:Array Oper) (n:Nat):List Oper:=A.toList.drop n
theorem Ms (K:Code) (A:Array Oper) (hK:K=.region i A false:=by rfl) (P:Program) (T:bm) (ov:Ov):∀ (rd:Option Nat) (e:Env) (h:Heap) (Q:Ex->Env->Heap->Prop),W P T ov rd K e h Q=cm P T ov A (iM A 0) e h (I0 Q):=by
 subst hK
 intro rd e h Q
 rfl
theorem Mm (A:Array Oper) (n:Nat) (hn:iM A n=[]:=by rfl) (P:Program) (T:bm) (ov:Ov):∀ (e:Env) (h:Heap) (Q:Env->Heap->Prop),cm P T ov A (iM A n) e h Q=Q e h:=by
 intro e h Q
 rw [hn]
 rfl
theorem Mn (A:Array Oper) (n:Nat) (hn:iM A n=[]:=by rfl) (P:Program) (T:bm) (ov:Ov):∀ (b j:Nat) (e:Env) (h:Heap) (Q:Env->Heap->Prop),bF P T ov b A (iM A n) j e h Q=Q e h:=by
 intro b j e h Q
 rw [hn]
 rfl
theorem Mw (K A B:Code) (hK:K=.seq A B:=by rfl) (P:Program) (T:bm) (ov:Ov):∀ (rd:Option Nat) (e:Env) (h:Heap) (Q:Ex->Env->Heap->Prop),W P T ov rd K e h Q=W P T ov rd A e h (Bk P T ov rd B Q):=by
 subst hK
 intro rd e h Q
 exact UP _ _ _ _ _
theorem zxG (K A B:Code) {o:Operand} (hK:K=.cond o A B:=by rfl) (P:Program) (T:bm) (ov:Ov):∀ (rd:Option Nat) (e:Env) (h:Heap) (Q:Ex->Env->Heap->Prop),W P T ov rd K e h Q=zj P T ov rd A B e h Q (aX e o):=by
 subst hK
 intro rd e h Q
 rfl
theorem Jv (K A:Code) (hK:K=.block i A:=by rfl) (P:Program) (T:bm) (ov:Ov):∀ (rd:Option Nat) (e:Env) (h:Heap) (Q:Ex->Env->Heap->Prop),W P T ov rd K e h Q=W P T ov rd A e h (wh i Q):=by
 subst hK
 intro rd e h Q
 exact Uj _ _ _ _ _
theorem zyU (K A:Code) (hK:K=.loop A:=by rfl) (P:Program) (T:bm) (ov:Ov):∀ (rd:Option Nat) (e:Env) (h:Heap) (Q:Ex->Env->Heap->Prop),W P T ov rd K e h Q=W P T ov rd (.loop A) e h Q:=by
 subst hK
 intro rd e h Q
 rfl
theorem zxi (K A:Code) (hK:K=.scope A:=by rfl) (P:Program) (T:bm) (ov:Ov):∀ (rd:Option Nat) (e:Env) (h:Heap) (Q:Ex->Env->Heap->Prop),W P T ov rd K e h Q=W P T ov rd A e h Q:=by
 subst hK
 intro rd e h Q
 rfl
theorem zxJ (K:Code) (hK:K=.exit i:=by rfl) (P:Program) (T:bm) (ov:Ov):∀ (rd:Option Nat) (e:Env) (h:Heap) (Q:Ex->Env->Heap->Prop),W P T ov rd K e h Q=Q (.exit i) e h:=by
 subst hK
 intro rd e h Q
 rfl
theorem Mt (K:Code) (hK:K=.ret:=by rfl) (P:Program) (T:bm) (ov:Ov):∀ (rd:Option Nat) (e:Env) (h:Heap) (Q:Ex->Env->Heap->Prop),W P T ov rd K e h Q=Q .ret e h:=by
 subst hK
 intro rd e h Q
 rfl
theorem zyY (K:Code) (hK:K=.skip:=by rfl) (P:Program) (T:bm) (ov:Ov):∀ (rd:Option Nat) (e:Env) (h:Heap) (Q:Ex->Env->Heap->Prop),W P T ov rd K e h Q=Q .normal e h:=by
 subst hK
 intro rd e h Q
 rfl
theorem zw9 (K:Code) (hK:K=.label i:=by rfl) (P:Program) (T:bm) (ov:Ov):∀ (rd:Option Nat) (e:Env) (h:Heap) (Q:Ex->Env->Heap->Prop),W P T ov rd K e h Q=Q .normal e h:=by
 subst hK
 intro rd e h Q
 rfl
abbrev UN (K:Code) (A:Array Oper):Prop:=∀ {P:Program} {T:bm} {ov:Ov} {rd:Option Nat} {e:Env} {h0 h:Heap} {Q:Ex->Env->Heap->Prop},Ext h0 h->bF P T ov (min h0.low h0.size) A (iM A 0) 0 e h (λe' h1=>te h0 h1/\tA h0 Q e' h1)->W P T ov rd K e h Q
theorem zxI {K:Code} {A:Array Oper} (hK:K=.region i A true) (ht:vX A (jJ A.toList [])=true):UN K A:=by
 subst hK
 intro P T ov rd e h0 h Q z hw
 exact zvg (ops:=A.toList) z ht hw
theorem nd {p q:Prop} (h:p) (g:q):p/\q:=⟨h,g⟩
end Go.Am
namespace Go.Am
def aK:Code->Nat
 | .seq a b=>aK a+aK b+1
 | .cond _ a b=>aK a+aK b+1
 | .block _ a=>aK a+1
 | .loop a=>aK a+1
 | .scope a=>aK a+1
 | .rangeFunc _ _ a b=>aK a+aK b+1
 |_=>1
def ei:Code->Nat->Code
 | .seq a b,n=>if n=0 then .seq a b else if n<=aK a then ei a (n - 1) else ei b (n - 1 - aK a)
 | .cond o a b,n=>if n=0 then .cond o a b else if n<=aK a then ei a (n - 1) else ei b (n - 1 - aK a)
 | .block i a,n=>if n=0 then .block i a else ei a (n - 1)
 | .loop a,n=>if n=0 then .loop a else ei a (n - 1)
 | .scope a,n=>if n=0 then .scope a else ei a (n - 1)
 | .rangeFunc g ps a b,n=>if n=0 then .rangeFunc g ps a b else if n<=aK a then ei a (n - 1) else ei b (n - 1 - aK a)
 |c,_=>c
def codeOf (f:Func):Code:=f.body.getD .skip
def bq (f:Func):Nat->Code:=ei (codeOf f)
theorem MV (c:Code):ei c 0=c:=by cases c <;> rfl
def j4:List Oper->Nat->Option Tmp
 | [],_=>none
 |o::_,0=>o.dst
 |_::l,j+1=>j4 l j
theorem zv4 (l:List Oper) (j:Nat):j4 l j=(l[j]?).bind (·.dst):=by
 induction l generalizing j with
 |nil=>rfl
 |cons o l ih=>cases j with
  |zero=>rfl
  |succ j=>exact ih j
def jC (L:List Oper) (e:Env):Option (Nat × Bool)->Bool
 |none=>true
 |some (j,g)=>uI (e.get ((j4 L j).getD 0)) g
def AV (L:List Oper) (o:Oper):Bool:=match o.guard with
 |none=>true
 |some (j,_)=>(j4 L j).isSome
theorem NF {A:Array Oper} {o:Oper} (h:AV A.toList o=true) (e:Env):jG A o e=jC A.toList e o.guard:=by
 unfold AV at h
 unfold jG
 cases hg:o.guard with
 |none=>rfl
 |some p =>
  obtain ⟨j,g⟩:=p
  rw [hg] at h
  have e1:A[j]? = A.toList[j]? := by simp
  have h2:(j4 A.toList j).isSome=true:=h
  show _=uI (e.get ((j4 A.toList j).getD 0)) g
  simp only [e1,<- zv4]
  cases hd:j4 A.toList j with
  |none=>rw [hd] at h2;cases h2
  |some t=>rfl
def A5:Code->Bool
 | .region _ A true=>vX A (jJ A.toList [])
 |_=>false
theorem hH {K:Code} (hd:A5 K=true):UN K (iC K):=by
 unfold A5 at hd
 split at hd
 .rename_i i A
  exact zxI rfl hd
 .cases hd
def jU:Code->Bool
 | .seq a b=>jU a && jU b
 | .cond _ a b=>jU a && jU b
 | .block _ a=>jU a
 | .loop a=>jU a
 | .scope a=>jU a
 | .rangeFunc _ _ a b=>jU a && jU b
 | .region i A d=>A.toList.all (AV A.toList) && (!d || A5 (.region i A d))
 |_=>true
def rR (A:Array Oper) (L:List Oper):List Oper->Nat->Prop
 | [],n=>∀ (P:Program) (T:bm) (ov:Ov) (e:Env) (h:Heap) (Q:Env->Heap->Prop),cm P T ov A (iM A n) e h Q=Q e h
 |o::l,n=>(∀ (P:Program) (T:bm) (ov:Ov) (e:Env) (h:Heap) (Q:Env->Heap->Prop),cm P T ov A (iM A n) e h Q=ID P T ov A o (iM A (n+1)) o.dst e h Q (jC L e o.guard))/\rR A L l (n+1)
def rS (A:Array Oper) (L:List Oper):List Oper->Nat->Prop
 | [],n=>∀ (P:Program) (T:bm) (ov:Ov) (b j:Nat) (e:Env) (h:Heap) (Q:Env->Heap->Prop),bF P T ov b A (iM A n) j e h Q=Q e h
 |o::l,n=>(∀ (P:Program) (T:bm) (ov:Ov) (b:Nat) (e:Env) (h:Heap) (Q:Env->Heap->Prop),bF P T ov b A (iM A n) n e h Q=Gd P T ov b A o (iM A (n+1)) n o.dst e h Q (jC L e o.guard) (dB o))/\rS A L l (n+1)
def bP (N:Nat->Code):Code->Nat->Prop
 | .seq a b,n=>(∀ (P:Program) (T:bm) (ov:Ov) (rd:Option Nat) (e:Env) (h:Heap) (Q:Ex->Env->Heap->Prop),W P T ov rd (N n) e h Q=W P T ov rd (N (n+1)) e h (Bk P T ov rd (N (n+1+aK a)) Q))/\bP N a (n+1)/\bP N b (n+1+aK a)
 | .cond o a b,n=>(∀ (P:Program) (T:bm) (ov:Ov) (rd:Option Nat) (e:Env) (h:Heap) (Q:Ex->Env->Heap->Prop),W P T ov rd (N n) e h Q=zj P T ov rd (N (n+1)) (N (n+1+aK a)) e h Q (aX e o))/\bP N a (n+1)/\bP N b (n+1+aK a)
 | .block i a,n=>(∀ (P:Program) (T:bm) (ov:Ov) (rd:Option Nat) (e:Env) (h:Heap) (Q:Ex->Env->Heap->Prop),W P T ov rd (N n) e h Q=W P T ov rd (N (n+1)) e h (wh i Q))/\bP N a (n+1)
 | .loop a,n=>(∀ (P:Program) (T:bm) (ov:Ov) (rd:Option Nat) (e:Env) (h:Heap) (Q:Ex->Env->Heap->Prop),W P T ov rd (N n) e h Q=W P T ov rd (.loop (N (n+1))) e h Q)/\bP N a (n+1)
 | .scope a,n=>(∀ (P:Program) (T:bm) (ov:Ov) (rd:Option Nat) (e:Env) (h:Heap) (Q:Ex->Env->Heap->Prop),W P T ov rd (N n) e h Q=W P T ov rd (N (n+1)) e h Q)/\bP N a (n+1)
 | .rangeFunc g ps a b,n=>(∀ (P:Program) (T:bm) (ov:Ov) (rd:Option Nat) (e:Env) (h:Heap) (Q:Ex->Env->Heap->Prop),W P T ov rd (N n) e h Q=Bb P T ov rd (aX e g) ps.toList (N (n+1)) (N (n+1+aK a)) e h Q)/\bP N a (n+1)/\bP N b (n+1+aK a)
 | .region i A false,n=>(∀ (P:Program) (T:bm) (ov:Ov) (rd:Option Nat) (e:Env) (h:Heap) (Q:Ex->Env->Heap->Prop),W P T ov rd (N n) e h Q=cm P T ov (iC (N n)) (iM (iC (N n)) 0) e h (I0 Q))/\rR (iC (N n)) A.toList A.toList 0
 | .region i A true,n=>A5 (N n)=true/\rS (iC (N n)) A.toList A.toList 0
 | .exit i,n=>∀ (P:Program) (T:bm) (ov:Ov) (rd:Option Nat) (e:Env) (h:Heap) (Q:Ex->Env->Heap->Prop),W P T ov rd (N n) e h Q=Q (.exit i) e h
 | .ret,n=>∀ (P:Program) (T:bm) (ov:Ov) (rd:Option Nat) (e:Env) (h:Heap) (Q:Ex->Env->Heap->Prop),W P T ov rd (N n) e h Q=Q .ret e h
 | .skip,n=>∀ (P:Program) (T:bm) (ov:Ov) (rd:Option Nat) (e:Env) (h:Heap) (Q:Ex->Env->Heap->Prop),W P T ov rd (N n) e h Q=Q .normal e h
 | .label _,n=>∀ (P:Program) (T:bm) (ov:Ov) (rd:Option Nat) (e:Env) (h:Heap) (Q:Ex->Env->Heap->Prop),W P T ov rd (N n) e h Q=Q .normal e h
 |_,_=>True
theorem TR (A:Array Oper) (h:∀ o∈A.toList,AV A.toList o=true):∀ (l:List Oper) (n:Nat),iM A n=l->(∀ o∈l,o∈A.toList)->rR A A.toList l n
 | [],n,hl,_=>Mm A n hl
 |o::l,n,hl,hm=>by
  have kH:iM A (n+1)=l:=by
   unfold iM at hl ⊢
   have:=congrArg (List.drop 1) hl
   rw [zr] at this
   exact this
  refine ⟨λP T ov e h' Q=>?_,TR A h l (n+1) kH (λx hx=>hm x (sq _ hx))⟩
  rw [hl,kH,zpw,NF (h o (hm o (qj ..)))]
theorem TT (A:Array Oper) (h:∀ o∈A.toList,AV A.toList o=true):∀ (l:List Oper) (n:Nat),iM A n=l->(∀ o∈l,o∈A.toList)->rS A A.toList l n
 | [],n,hl,_=>Mn A n hl
 |o::l,n,hl,hm=>by
  have kH:iM A (n+1)=l:=by
   unfold iM at hl ⊢
   have:=congrArg (List.drop 1) hl
   rw [zr] at this
   exact this
  refine ⟨λP T ov b e h' Q=>?_,TT A h l (n+1) kH (λx hx=>hm x (sq _ hx))⟩
  rw [hl,kH,Zj,NF (h o (hm o (qj ..)))]
theorem Ay {N:Nat->Code} {a b x:Code} {n:Nat} (h:∀ k,k < aK a+aK b+1->N (n+k)=ei x k) (ha:∀ k,0 < k->k<=aK a->ei x k=ei a (k - 1)) (hb:∀ k,aK a < k->ei x k=ei b (k - 1 - aK a)) (pa:0 < aK a) (pb:0 < aK b) :
 N (n+1)=a/\N (n+1+aK a)=b/\(∀ k,k < aK a->N (n+1+k)=ei a k)/\∀ k,k < aK b->N (n+1+aK a+k)=ei b k:=by
 have h1:∀ k,k < aK a->N (n+1+k)=ei a k:=λk hk=>by
  rw [show n+1+k=n+(k+1) by omega,h _ (by omega),ha _ (by omega) (by omega),Nat.add_sub_cancel]
 have h2:∀ k,k < aK b->N (n+1+aK a+k)=ei b k:=λk hk=>by
  rw [show n+1+aK a+k=n+(k+1+aK a) by omega,h _ (by omega),hb _ (by omega)]
  congr 1
  omega
 have h3:=h1 0 pa
 have h4:=h2 0 pb
 rw [MV] at h3 h4
 exact ⟨h3,h4,h1,h2⟩
theorem iK (c:Code):0 < aK c:=by cases c <;> simp [aK]
theorem AH {N:Nat->Code} {a x:Code} {n:Nat} (h:∀ k,k < aK a+1->N (n+k)=ei x k) (ha:∀ k,0 < k->ei x k=ei a (k - 1)):N (n+1)=a/\∀ k,k < aK a->N (n+1+k)=ei a k:=by
 have h1:∀ k,k < aK a->N (n+1+k)=ei a k:=λk hk=>by
  rw [show n+1+k=n+(k+1) by omega,h _ (by omega),ha _ (by omega),Nat.add_sub_cancel]
 have h3:=h1 0 (iK a)
 rw [MV] at h3
 exact ⟨h3,h1⟩
theorem sV (N:Nat->Code):∀ (c:Code) (n:Nat),jU c=true->(∀ k,k < aK c->N (n+k)=ei c k)->bP N c n
 | .seq a b,n,hw,h=>by
  have h0:N n=.seq a b:=h 0 (iK _)
  simp only [jU,cY] at hw
  obtain ⟨e1,e2,f1,f2⟩:=Ay (a:=a) (b:=b) h (λk h1 h2=>by simp only [ei];rw [ay (by omega),aC h2]) (λk h1=>by simp only [ei];rw [ay (by omega),ay (by omega)]) (iK _) (iK _)
  exact ⟨λP T ov=>by rw [e1,e2];exact Mw _ a b h0 P T ov,sV N a _ hw.1 f1,sV N b _ hw.2 f2⟩
 | .cond o a b,n,hw,h=>by
  have h0:N n=.cond o a b:=h 0 (iK _)
  simp only [jU,cY] at hw
  obtain ⟨e1,e2,f1,f2⟩:=Ay (a:=a) (b:=b) h (λk h1 h2=>by simp only [ei];rw [ay (by omega),aC h2]) (λk h1=>by simp only [ei];rw [ay (by omega),ay (by omega)]) (iK _) (iK _)
  exact ⟨λP T ov=>by rw [e1,e2];exact zxG _ a b h0 P T ov,sV N a _ hw.1 f1,sV N b _ hw.2 f2⟩
 | .rangeFunc g ps a b,n,hw,h=>by
  have h0:N n=.rangeFunc g ps a b:=h 0 (iK _)
  simp only [jU,cY] at hw
  obtain ⟨e1,e2,f1,f2⟩:=Ay (a:=a) (b:=b) h (λk h1 h2=>by simp only [ei];rw [ay (by omega),aC h2]) (λk h1=>by simp only [ei];rw [ay (by omega),ay (by omega)]) (iK _) (iK _)
  exact ⟨λP T ov rd e h' Q=>by rw [e1,e2,h0];rfl,sV N a _ hw.1 f1,sV N b _ hw.2 f2⟩
 | .block i a,n,hw,h=>by
  have h0:N n=.block i a:=h 0 (iK _)
  obtain ⟨e1,f1⟩:=AH (a:=a) h (λk h1=>by simp only [ei];rw [ay (by omega)])
  exact ⟨λP T ov=>by rw [e1];exact Jv _ a h0 P T ov,sV N a _ hw f1⟩
 | .loop a,n,hw,h=>by
  have h0:N n=.loop a:=h 0 (iK _)
  obtain ⟨e1,f1⟩:=AH (a:=a) h (λk h1=>by simp only [ei];rw [ay (by omega)])
  exact ⟨λP T ov=>by rw [e1];exact zyU _ a h0 P T ov,sV N a _ hw f1⟩
 | .scope a,n,hw,h=>by
  have h0:N n=.scope a:=h 0 (iK _)
  obtain ⟨e1,f1⟩:=AH (a:=a) h (λk h1=>by simp only [ei];rw [ay (by omega)])
  exact ⟨λP T ov=>by rw [e1];exact zxi _ a h0 P T ov,sV N a _ hw f1⟩
 | .region i A false,n,hw,h=>by
  have h0:N n=.region i A false:=h 0 (iK _)
  have hr:iC (N n)=A:=by rw [h0];rfl
  simp only [jU,cY,fD] at hw
  refine ⟨λP T ov=>?_,?_⟩
  .rw [hr]
   exact Ms _ A h0 P T ov
  .rw [hr]
   exact TR A hw.1 _ 0 rfl (λo ho=>ho)
 | .region i A true,n,hw,h=>by
  have h0:N n=.region i A true:=h 0 (iK _)
  have hr:iC (N n)=A:=by rw [h0];rfl
  simp only [jU,cY,fD,Bool.not_true,zB] at hw
  refine ⟨?_,?_⟩
  .rw [h0]
   exact hw.2
  .rw [hr]
   exact TT A hw.1 _ 0 rfl (λo ho=>ho)
 | .exit i,n,hw,h=>zxJ _ (h 0 (iK _))
 | .ret,n,hw,h=>Mt _ (h 0 (iK _))
 | .skip,n,hw,h=>zyY _ (h 0 (iK _))
 | .label l,n,hw,h=>zw9 _ (h 0 (iK _))
 | .goto l,n,hw,h=>trivial
 | .refuse w,n,hw,h=>trivial
theorem bw (N:Nat->Code) (f:Func) (hN:N=bq f:=by rfl) (hw:jU (codeOf f)=true:=by kernel_rfl):bP N (codeOf f) 0 :=
 sV N _ 0 hw (λk _=>by rw [hN,jX];rfl)
theorem br {f:Func} (N:Nat->Code) (hN:N=bq f:=by rfl) (h:f.body.isSome=true:=by rfl):f.body=some (N 0):=by
 rw [hN]
 unfold bq
 rw [MV]
 unfold codeOf
 cases hb:f.body with
 |none=>rw [hb] at h;cases h
 |some c=>rfl
noncomputable def vL:=PLift.up (And.intro @codeOf.eq_1 <| And.intro @bP.eq_1 <| And.intro @bP.eq_2 <| And.intro @bP.eq_3 <| And.intro @bP.eq_4 <| And.intro @bP.eq_5 <| And.intro @bP.eq_6 <| And.intro @bP.eq_7 <| And.intro @bP.eq_8 <| And.intro @bP.eq_9 <| And.intro @bP.eq_10 <| And.intro @bP.eq_11 <| And.intro @bP.eq_12 <| And.intro @bP.eq_13 <| And.intro @rR.eq_1 <| And.intro @rR.eq_2 <| And.intro @rS.eq_1 <| And.intro @rS.eq_2 <| And.intro @aK.eq_1 <| And.intro @aK.eq_2 <| And.intro @aK.eq_3 <| And.intro @aK.eq_4 <| And.intro @aK.eq_5 <| And.intro @aK.eq_6 <| And.intro @aK.eq_7 <| And.intro @jC.eq_1 <| And.intro @jC.eq_2 <| And.intro @j4.eq_1 <| And.intro @j4.eq_2 <| And.intro @j4.eq_3 <| And.intro @dB.eq_1 <| And.intro @Option.getD_some.{0} <| And.intro @List.append_eq.{0} <| And.intro @List.cons_append.{0} <| @List.nil_append.{0})
theorem aJ:type_of% vL.down:=vL.down
theorem Ok.au {P:Program} {T:bm} {ov:Ov} {f:FuncId} {fn:Func} {c:Code} {args:List Value} {h:Heap} {K:Value->Heap->Prop} (m:Nat) (hc:fn.body=some c) (hw:W P T ov none c (args++List.replicate m undef) h (dq T fn K)) (ho:ov f=none:=by exact rfl) (hf:T.fn f=some fn:=by kernel_rfl) (tF:T.CT f=false:=by exact rfl) (hm:fn.ntmps - args.length=m:=by exact rfl):Ok P T ov f args h K:=Ok.Mh ho hf hc tF hm hw
theorem bx {shape:(Nat->Value)->Env} {e:Env} (h:e=shape e.get:=by kernel_rfl):∃ J,e=shape J:=⟨_,h⟩
end Go.Am

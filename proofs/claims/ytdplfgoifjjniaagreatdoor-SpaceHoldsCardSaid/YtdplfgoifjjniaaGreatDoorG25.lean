/- What a node of a function's code is to its walk: parts of a code by their places; statements for simp. No condition. -/
import Derived.Test.YtdplfgoifjjniaaGreatDoorG19
set_option linter.unusedVariables false
namespace Go.Am
def o8:Code→Array Oper
 | .region _ a _=>a
 |_=>#[]
def nS (A:Array Oper) (n:Nat):List Oper:=A.toList.drop n
theorem Xz (K:Code) (A:Array Oper) {i:Nat} (hK:K=.region i A false:=by rfl) (P:Program) (T:bD) (ov:Ov):∀ (rd:Option Nat) (e:Env) (h:Heap) (Q:Ex→Env→Heap→Prop),W P T ov rd K e h Q=cQ P T ov A (nS A 0) e h (PH Q):=by
 subst hK
 intro rd e h Q
 rfl
theorem Kr (A:Array Oper) (n:Nat) (hn:nS A n=[]:=by rfl) (P:Program) (T:bD) (ov:Ov):∀ (e:Env) (h:Heap) (Q:Env→Heap→Prop),cQ P T ov A (nS A n) e h Q=Q e h:=by
 intro e h Q
 rw [hn]
 rfl
theorem Xm (A:Array Oper) (n:Nat) (hn:nS A n=[]:=by rfl) (P:Program) (T:bD) (ov:Ov):∀ (b j:Nat) (e:Env) (h:Heap) (Q:Env→Heap→Prop),bZ P T ov b A (nS A n) j e h Q=Q e h:=by
 intro b j e h Q
 rw [hn]
 rfl
theorem zE (K A B:Code) (hK:K=.seq A B:=by rfl) (P:Program) (T:bD) (ov:Ov):∀ (rd:Option Nat) (e:Env) (h:Heap) (Q:Ex→Env→Heap→Prop),W P T ov rd K e h Q=W P T ov rd A e h (Fb P T ov rd B Q):=by
 subst hK
 intro rd e h Q
 exact zDy _ _ _ _ _
theorem zDN (K A B:Code) {o:Operand} (hK:K=.cond o A B:=by rfl) (P:Program) (T:bD) (ov:Ov):∀ (rd:Option Nat) (e:Env) (h:Heap) (Q:Ex→Env→Heap→Prop),W P T ov rd K e h Q=EU P T ov rd A B e h Q (aZ e o):=by
 subst hK
 intro rd e h Q
 rfl
theorem Tc (K A:Code) {i:Nat} (hK:K=.block i A:=by rfl) (P:Program) (T:bD) (ov:Ov):∀ (rd:Option Nat) (e:Env) (h:Heap) (Q:Ex→Env→Heap→Prop),W P T ov rd K e h Q=W P T ov rd A e h (zS i Q):=by
 subst hK
 intro rd e h Q
 exact zsK _ _ _ _ _
theorem zH3 (K A:Code) (hK:K=.loop A:=by rfl) (P:Program) (T:bD) (ov:Ov):∀ (rd:Option Nat) (e:Env) (h:Heap) (Q:Ex→Env→Heap→Prop),W P T ov rd K e h Q=W P T ov rd (.loop A) e h Q:=by
 subst hK
 intro rd e h Q
 rfl
theorem zEp (K A:Code) (hK:K=.scope A:=by rfl) (P:Program) (T:bD) (ov:Ov):∀ (rd:Option Nat) (e:Env) (h:Heap) (Q:Ex→Env→Heap→Prop),W P T ov rd K e h Q=W P T ov rd A e h Q:=by
 subst hK
 intro rd e h Q
 rfl
theorem zDS (K:Code) {i:Nat} (hK:K=.exit i:=by rfl) (P:Program) (T:bD) (ov:Ov):∀ (rd:Option Nat) (e:Env) (h:Heap) (Q:Ex→Env→Heap→Prop),W P T ov rd K e h Q=Q (.exit i) e h:=by
 subst hK
 intro rd e h Q
 rfl
theorem XA (K:Code) (hK:K=.ret:=by rfl) (P:Program) (T:bD) (ov:Ov):∀ (rd:Option Nat) (e:Env) (h:Heap) (Q:Ex→Env→Heap→Prop),W P T ov rd K e h Q=Q .ret e h:=by
 subst hK
 intro rd e h Q
 rfl
theorem zH9 (K:Code) (hK:K=.skip:=by rfl) (P:Program) (T:bD) (ov:Ov):∀ (rd:Option Nat) (e:Env) (h:Heap) (Q:Ex→Env→Heap→Prop),W P T ov rd K e h Q=Q .normal e h:=by
 subst hK
 intro rd e h Q
 rfl
theorem zD7 (K:Code) {i:Nat} (hK:K=.label i:=by rfl) (P:Program) (T:bD) (ov:Ov):∀ (rd:Option Nat) (e:Env) (h:Heap) (Q:Ex→Env→Heap→Prop),W P T ov rd K e h Q=Q .normal e h:=by
 subst hK
 intro rd e h Q
 rfl
abbrev zDr (K:Code) (A:Array Oper):Prop:=∀ {P:Program} {T:bD} {ov:Ov} {rd:Option Nat} {e:Env} {h0 h:Heap} {Q:Ex→Env→Heap→Prop},Ext h0 h→bZ P T ov (min h0.low h0.size) A (nS A 0) 0 e h (fun e' h1=>BS h0 h1∧IA h0 Q e' h1)→W P T ov rd K e h Q
theorem zGM {K:Code} {A:Array Oper} {i:Nat} (hK:K=.region i A true) (ht:zK A (lJ A.toList [])=true):zDr K A:=by
 subst hK
 intro P T ov rd e h0 h Q z hw
 exact zBu (ops:=A.toList) z ht hw
theorem nd {p q:Prop} (h:p) (g:q):p∧q:=⟨h,g⟩
end Go.Am
namespace Go.Am
def aW:Code→Nat
 | .seq a b=>aW a+aW b+1
 | .cond _ a b=>aW a+aW b+1
 | .block _ a=>aW a+1
 | .loop a=>aW a+1
 | .scope a=>aW a+1
 | .rangeFunc _ _ a b=>aW a+aW b+1
 |_=>1
def iv:Code→Nat→Code
 | .seq a b,n=>if n=0 then .seq a b else if n≤aW a then iv a (n - 1) else iv b (n - 1 - aW a)
 | .cond o a b,n=>if n=0 then .cond o a b else if n≤aW a then iv a (n - 1) else iv b (n - 1 - aW a)
 | .block i a,n=>if n=0 then .block i a else iv a (n - 1)
 | .loop a,n=>if n=0 then .loop a else iv a (n - 1)
 | .scope a,n=>if n=0 then .scope a else iv a (n - 1)
 | .rangeFunc g ps a b,n=>if n=0 then .rangeFunc g ps a b else if n≤aW a then iv a (n - 1) else iv b (n - 1 - aW a)
 |c,_=>c
def codeOf (f:Func):Code:=f.body.getD .skip
def bq (f:Func):Nat→Code:=iv (codeOf f)
theorem YT (c:Code):iv c 0=c:=by cases c <;> rfl
def lZ:List Oper→Nat→Option Tmp
 | [],_=>none
 |o::_,0=>o.dst
 |_::l,j+1=>lZ l j
theorem zCf (l:List Oper) (j:Nat):lZ l j=(l[j]?).bind (·.dst):=by
 induction l generalizing j with
 |nil=>rfl
 |cons o l ih=>cases j with
  |zero=>rfl
  |succ j=>exact ih j
def pc (L:List Oper) (e:Env):Option (Nat × Bool)→Bool
 |none=>true
 |some (j,g)=>zR (e.get ((lZ L j).getD 0)) g
def My (L:List Oper) (o:Oper):Bool:=match o.guard with
 |none=>true
 |some (j,_)=>(lZ L j).isSome
theorem zqI {A:Array Oper} {o:Oper} (h:My A.toList o=true) (e:Env):kP A o e=pc A.toList e o.guard:=by
 unfold My at h
 unfold kP
 cases hg:o.guard with
 |none=>rfl
 |some p =>
  obtain ⟨j,g⟩:=p
  rw [hg] at h
  have e1:A[j]? = A.toList[j]? := by simp
  have h2:(lZ A.toList j).isSome=true:=h
  show _=zR (e.get ((lZ A.toList j).getD 0)) g
  simp only [e1,← zCf]
  cases hd:lZ A.toList j with
  |none=>rw [hd] at h2;cases h2
  |some t=>rfl
def Pr:Code→Bool
 | .region _ A true=>zK A (lJ A.toList [])
 |_=>false
theorem eu {K:Code} (hd:Pr K=true):zDr K (o8 K):=by
 unfold Pr at hd
 split at hd
 ·rename_i i A
  exact zGM rfl hd
 ·cases hd
def pJ:Code→Bool
 | .seq a b=>pJ a && pJ b
 | .cond _ a b=>pJ a && pJ b
 | .block _ a=>pJ a
 | .loop a=>pJ a
 | .scope a=>pJ a
 | .rangeFunc _ _ a b=>pJ a && pJ b
 | .region i A d=>A.toList.all (My A.toList) && (!d || Pr (.region i A d))
 |_=>true
def uY (A:Array Oper) (L:List Oper):List Oper→Nat→Prop
 | [],n=>∀ (P:Program) (T:bD) (ov:Ov) (e:Env) (h:Heap) (Q:Env→Heap→Prop),cQ P T ov A (nS A n) e h Q=Q e h
 |o::l,n=>(∀ (P:Program) (T:bD) (ov:Ov) (e:Env) (h:Heap) (Q:Env→Heap→Prop),cQ P T ov A (nS A n) e h Q=Px P T ov A o (nS A (n+1)) o.dst e h Q (pc L e o.guard))∧uY A L l (n+1)
def uZ (A:Array Oper) (L:List Oper):List Oper→Nat→Prop
 | [],n=>∀ (P:Program) (T:bD) (ov:Ov) (b j:Nat) (e:Env) (h:Heap) (Q:Env→Heap→Prop),bZ P T ov b A (nS A n) j e h Q=Q e h
 |o::l,n=>(∀ (P:Program) (T:bD) (ov:Ov) (b:Nat) (e:Env) (h:Heap) (Q:Env→Heap→Prop),bZ P T ov b A (nS A n) n e h Q=MC P T ov b A o (nS A (n+1)) n o.dst e h Q (pc L e o.guard) (gw o))∧uZ A L l (n+1)
def cn (N:Nat→Code):Code→Nat→Prop
 | .seq a b,n=>(∀ (P:Program) (T:bD) (ov:Ov) (rd:Option Nat) (e:Env) (h:Heap) (Q:Ex→Env→Heap→Prop),W P T ov rd (N n) e h Q=W P T ov rd (N (n+1)) e h (Fb P T ov rd (N (n+1+aW a)) Q))∧cn N a (n+1)∧cn N b (n+1+aW a)
 | .cond o a b,n=>(∀ (P:Program) (T:bD) (ov:Ov) (rd:Option Nat) (e:Env) (h:Heap) (Q:Ex→Env→Heap→Prop),W P T ov rd (N n) e h Q=EU P T ov rd (N (n+1)) (N (n+1+aW a)) e h Q (aZ e o))∧cn N a (n+1)∧cn N b (n+1+aW a)
 | .block i a,n=>(∀ (P:Program) (T:bD) (ov:Ov) (rd:Option Nat) (e:Env) (h:Heap) (Q:Ex→Env→Heap→Prop),W P T ov rd (N n) e h Q=W P T ov rd (N (n+1)) e h (zS i Q))∧cn N a (n+1)
 | .loop a,n=>(∀ (P:Program) (T:bD) (ov:Ov) (rd:Option Nat) (e:Env) (h:Heap) (Q:Ex→Env→Heap→Prop),W P T ov rd (N n) e h Q=W P T ov rd (.loop (N (n+1))) e h Q)∧cn N a (n+1)
 | .scope a,n=>(∀ (P:Program) (T:bD) (ov:Ov) (rd:Option Nat) (e:Env) (h:Heap) (Q:Ex→Env→Heap→Prop),W P T ov rd (N n) e h Q=W P T ov rd (N (n+1)) e h Q)∧cn N a (n+1)
 | .rangeFunc g ps a b,n=>(∀ (P:Program) (T:bD) (ov:Ov) (rd:Option Nat) (e:Env) (h:Heap) (Q:Ex→Env→Heap→Prop),W P T ov rd (N n) e h Q=EX P T ov rd (aZ e g) ps.toList (N (n+1)) (N (n+1+aW a)) e h Q)∧cn N a (n+1)∧cn N b (n+1+aW a)
 | .region i A false,n=>(∀ (P:Program) (T:bD) (ov:Ov) (rd:Option Nat) (e:Env) (h:Heap) (Q:Ex→Env→Heap→Prop),W P T ov rd (N n) e h Q=cQ P T ov (o8 (N n)) (nS (o8 (N n)) 0) e h (PH Q))∧uY (o8 (N n)) A.toList A.toList 0
 | .region i A true,n=>Pr (N n)=true∧uZ (o8 (N n)) A.toList A.toList 0
 | .exit i,n=>∀ (P:Program) (T:bD) (ov:Ov) (rd:Option Nat) (e:Env) (h:Heap) (Q:Ex→Env→Heap→Prop),W P T ov rd (N n) e h Q=Q (.exit i) e h
 | .ret,n=>∀ (P:Program) (T:bD) (ov:Ov) (rd:Option Nat) (e:Env) (h:Heap) (Q:Ex→Env→Heap→Prop),W P T ov rd (N n) e h Q=Q .ret e h
 | .skip,n=>∀ (P:Program) (T:bD) (ov:Ov) (rd:Option Nat) (e:Env) (h:Heap) (Q:Ex→Env→Heap→Prop),W P T ov rd (N n) e h Q=Q .normal e h
 | .label _,n=>∀ (P:Program) (T:bD) (ov:Ov) (rd:Option Nat) (e:Env) (h:Heap) (Q:Ex→Env→Heap→Prop),W P T ov rd (N n) e h Q=Q .normal e h
 |_,_=>True
theorem zqr (A:Array Oper) (h:∀ o∈A.toList,My A.toList o=true):∀ (l:List Oper) (n:Nat),nS A n=l→(∀ o∈l,o∈A.toList)→uY A A.toList l n
 | [],n,hl,_=>Kr A n hl
 |o::l,n,hl,hm=>by
  have fT:nS A (n+1)=l:=by
   unfold nS at hl ⊢
   have:=congrArg (List.drop 1) hl
   rw [List.drop_drop] at this
   exact this
  refine ⟨fun P T ov e h' Q=>?_,zqr A h l (n+1) fT (fun x hx=>hm x (List.mem_cons_of_mem _ hx))⟩
  rw [hl,fT,zqL,zqI (h o (hm o (List.mem_cons_self ..)))]
theorem zqs (A:Array Oper) (h:∀ o∈A.toList,My A.toList o=true):∀ (l:List Oper) (n:Nat),nS A n=l→(∀ o∈l,o∈A.toList)→uZ A A.toList l n
 | [],n,hl,_=>Xm A n hl
 |o::l,n,hl,hm=>by
  have fT:nS A (n+1)=l:=by
   unfold nS at hl ⊢
   have:=congrArg (List.drop 1) hl
   rw [List.drop_drop] at this
   exact this
  refine ⟨fun P T ov b e h' Q=>?_,zqs A h l (n+1) fT (fun x hx=>hm x (List.mem_cons_of_mem _ hx))⟩
  rw [hl,fT,zof,zqI (h o (hm o (List.mem_cons_self ..)))]
theorem Zn {N:Nat→Code} {a b x:Code} {n:Nat} (h:∀ k,k < aW a+aW b+1→N (n+k)=iv x k) (ha:∀ k,0 < k→k≤aW a→iv x k=iv a (k - 1)) (hb:∀ k,aW a < k→iv x k=iv b (k - 1 - aW a)) (pa:0 < aW a) (pb:0 < aW b) :
 N (n+1)=a∧N (n+1+aW a)=b∧(∀ k,k < aW a→N (n+1+k)=iv a k)∧∀ k,k < aW b→N (n+1+aW a+k)=iv b k:=by
 have h1:∀ k,k < aW a→N (n+1+k)=iv a k:=fun k hk=>by
  rw [show n+1+k=n+(k+1) by omega,h _ (by omega),ha _ (by omega) (by omega),Nat.add_sub_cancel]
 have h2:∀ k,k < aW b→N (n+1+aW a+k)=iv b k:=fun k hk=>by
  rw [show n+1+aW a+k=n+(k+1+aW a) by omega,h _ (by omega),hb _ (by omega)]
  congr 1
  omega
 have h3:=h1 0 pa
 have h4:=h2 0 pb
 rw [YT] at h3 h4
 exact ⟨h3,h4,h1,h2⟩
theorem nN (c:Code):0 < aW c:=by cases c <;> simp [aW]
theorem ZC {N:Nat→Code} {a x:Code} {n:Nat} (h:∀ k,k < aW a+1→N (n+k)=iv x k) (ha:∀ k,0 < k→iv x k=iv a (k - 1)):N (n+1)=a∧∀ k,k < aW a→N (n+1+k)=iv a k:=by
 have h1:∀ k,k < aW a→N (n+1+k)=iv a k:=fun k hk=>by
  rw [show n+1+k=n+(k+1) by omega,h _ (by omega),ha _ (by omega),Nat.add_sub_cancel]
 have h3:=h1 0 (nN a)
 rw [YT] at h3
 exact ⟨h3,h1⟩
theorem vX (N:Nat→Code):∀ (c:Code) (n:Nat),pJ c=true→(∀ k,k < aW c→N (n+k)=iv c k)→cn N c n
 | .seq a b,n,hw,h=>by
  have h0:N n=.seq a b:=h 0 (nN _)
  simp only [pJ,Bool.and_eq_true] at hw
  obtain ⟨e1,e2,f1,f2⟩:=Zn (a:=a) (b:=b) h (fun k h1 h2=>by simp only [iv];rw [if_neg (by omega),if_pos h2]) (fun k h1=>by simp only [iv];rw [if_neg (by omega),if_neg (by omega)]) (nN _) (nN _)
  exact ⟨fun P T ov=>by rw [e1,e2];exact zE _ a b h0 P T ov,vX N a _ hw.1 f1,vX N b _ hw.2 f2⟩
 | .cond o a b,n,hw,h=>by
  have h0:N n=.cond o a b:=h 0 (nN _)
  simp only [pJ,Bool.and_eq_true] at hw
  obtain ⟨e1,e2,f1,f2⟩:=Zn (a:=a) (b:=b) h (fun k h1 h2=>by simp only [iv];rw [if_neg (by omega),if_pos h2]) (fun k h1=>by simp only [iv];rw [if_neg (by omega),if_neg (by omega)]) (nN _) (nN _)
  exact ⟨fun P T ov=>by rw [e1,e2];exact zDN _ a b h0 P T ov,vX N a _ hw.1 f1,vX N b _ hw.2 f2⟩
 | .rangeFunc g ps a b,n,hw,h=>by
  have h0:N n=.rangeFunc g ps a b:=h 0 (nN _)
  simp only [pJ,Bool.and_eq_true] at hw
  obtain ⟨e1,e2,f1,f2⟩:=Zn (a:=a) (b:=b) h (fun k h1 h2=>by simp only [iv];rw [if_neg (by omega),if_pos h2]) (fun k h1=>by simp only [iv];rw [if_neg (by omega),if_neg (by omega)]) (nN _) (nN _)
  exact ⟨fun P T ov rd e h' Q=>by rw [e1,e2,h0];rfl,vX N a _ hw.1 f1,vX N b _ hw.2 f2⟩
 | .block i a,n,hw,h=>by
  have h0:N n=.block i a:=h 0 (nN _)
  obtain ⟨e1,f1⟩:=ZC (a:=a) h (fun k h1=>by simp only [iv];rw [if_neg (by omega)])
  exact ⟨fun P T ov=>by rw [e1];exact Tc _ a h0 P T ov,vX N a _ hw f1⟩
 | .loop a,n,hw,h=>by
  have h0:N n=.loop a:=h 0 (nN _)
  obtain ⟨e1,f1⟩:=ZC (a:=a) h (fun k h1=>by simp only [iv];rw [if_neg (by omega)])
  exact ⟨fun P T ov=>by rw [e1];exact zH3 _ a h0 P T ov,vX N a _ hw f1⟩
 | .scope a,n,hw,h=>by
  have h0:N n=.scope a:=h 0 (nN _)
  obtain ⟨e1,f1⟩:=ZC (a:=a) h (fun k h1=>by simp only [iv];rw [if_neg (by omega)])
  exact ⟨fun P T ov=>by rw [e1];exact zEp _ a h0 P T ov,vX N a _ hw f1⟩
 | .region i A false,n,hw,h=>by
  have h0:N n=.region i A false:=h 0 (nN _)
  have hr:o8 (N n)=A:=by rw [h0];rfl
  simp only [pJ,Bool.and_eq_true,List.all_eq_true] at hw
  refine ⟨fun P T ov=>?_,?_⟩
  ·rw [hr]
   exact Xz _ A h0 P T ov
  ·rw [hr]
   exact zqr A hw.1 _ 0 rfl (fun o ho=>ho)
 | .region i A true,n,hw,h=>by
  have h0:N n=.region i A true:=h 0 (nN _)
  have hr:o8 (N n)=A:=by rw [h0];rfl
  simp only [pJ,Bool.and_eq_true,List.all_eq_true,Bool.not_true,Bool.false_or] at hw
  refine ⟨?_,?_⟩
  ·rw [h0]
   exact hw.2
  ·rw [hr]
   exact zqs A hw.1 _ 0 rfl (fun o ho=>ho)
 | .exit i,n,hw,h=>zDS _ (h 0 (nN _))
 | .ret,n,hw,h=>XA _ (h 0 (nN _))
 | .skip,n,hw,h=>zH9 _ (h 0 (nN _))
 | .label l,n,hw,h=>zD7 _ (h 0 (nN _))
 | .goto l,n,hw,h=>trivial
 | .refuse w,n,hw,h=>trivial
theorem bu (N:Nat→Code) (f:Func) (hN:N=bq f:=by rfl) (hw:pJ (codeOf f)=true:=by kernel_rfl):cn N (codeOf f) 0 :=
 vX N _ 0 hw (fun k _=>by rw [hN,Nat.zero_add];rfl)
theorem br {f:Func} (N:Nat→Code) (hN:N=bq f:=by rfl) (h:f.body.isSome=true:=by rfl):f.body=some (N 0):=by
 rw [hN]
 unfold bq
 rw [YT]
 unfold codeOf
 cases hb:f.body with
 |none=>rw [hb] at h;cases h
 |some c=>rfl
noncomputable def Bf:=PLift.up (And.intro @codeOf.eq_1 <| And.intro @cn.eq_1 <| And.intro @cn.eq_2 <| And.intro @cn.eq_3 <| And.intro @cn.eq_4 <| And.intro @cn.eq_5 <| And.intro @cn.eq_6 <| And.intro @cn.eq_7 <| And.intro @cn.eq_8 <| And.intro @cn.eq_9 <| And.intro @cn.eq_10 <| And.intro @cn.eq_11 <| And.intro @cn.eq_12 <| And.intro @cn.eq_13 <| And.intro @uY.eq_1 <| And.intro @uY.eq_2 <| And.intro @uZ.eq_1 <| And.intro @uZ.eq_2 <| And.intro @aW.eq_1 <| And.intro @aW.eq_2 <| And.intro @aW.eq_3 <| And.intro @aW.eq_4 <| And.intro @aW.eq_5 <| And.intro @aW.eq_6 <| And.intro @aW.eq_7 <| And.intro @pc.eq_1 <| And.intro @pc.eq_2 <| And.intro @lZ.eq_1 <| And.intro @lZ.eq_2 <| And.intro @lZ.eq_3 <| And.intro @gw.eq_1 <| And.intro @Option.getD_some.{0} <| And.intro @List.append_eq.{0} <| And.intro @List.cons_append.{0} <| @List.nil_append.{0})
theorem aE:type_of% Bf.down:=Bf.down
end Go.Am

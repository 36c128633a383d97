/- What a node of a function's code is to its walk: parts of a code by their places; statements for simp. No condition. -/
import Derived.Test.YtdplfgoifjjniaaGreatDoorG17
set_option linter.unusedVariables false
namespace Go.Am
def rops:Code→Array Oper
 | .region _ a _=>a
 |_=>#[]
def zes (A:Array Oper) (n:Nat):List Oper:=A.toList.drop n
theorem regK (K:Code) (A:Array Oper) {i:Nat} (hK:K=.region i A false:=by rfl) (P:Program) (T:Tab) (ov:Ov):∀ (rd:Option Nat) (e:Env) (h:Heap) (Q:Ex→Env→Heap→Prop),W P T ov rd K e h Q=WOps P T ov A (zes A 0) e h (zvt Q):=by
 subst hK
 intro rd e h Q
 rfl
theorem nilK (A:Array Oper) (n:Nat) (hn:zes A n=[]:=by rfl) (P:Program) (T:Tab) (ov:Ov):∀ (e:Env) (h:Heap) (Q:Env→Heap→Prop),WOps P T ov A (zes A n) e h Q=Q e h:=by
 intro e h Q
 rw [hn]
 rfl
theorem nilX (A:Array Oper) (n:Nat) (hn:zes A n=[]:=by rfl) (P:Program) (T:Tab) (ov:Ov):∀ (b j:Nat) (e:Env) (h:Heap) (Q:Env→Heap→Prop),WOpsX P T ov b A (zes A n) j e h Q=Q e h:=by
 intro b j e h Q
 rw [hn]
 rfl
theorem seqK (K A B:Code) (hK:K=.seq A B:=by rfl) (P:Program) (T:Tab) (ov:Ov):∀ (rd:Option Nat) (e:Env) (h:Heap) (Q:Ex→Env→Heap→Prop),W P T ov rd K e h Q=W P T ov rd A e h (zri P T ov rd B Q):=by
 subst hK
 intro rd e h Q
 exact zzP _ _ _ _ _
theorem zAa (K A B:Code) {o:Operand} (hK:K=.cond o A B:=by rfl) (P:Program) (T:Tab) (ov:Ov):∀ (rd:Option Nat) (e:Env) (h:Heap) (Q:Ex→Env→Heap→Prop),W P T ov rd K e h Q=zh5 P T ov rd A B e h Q (zab e o):=by
 subst hK
 intro rd e h Q
 rfl
theorem blkK (K A:Code) {i:Nat} (hK:K=.block i A:=by rfl) (P:Program) (T:Tab) (ov:Ov):∀ (rd:Option Nat) (e:Env) (h:Heap) (Q:Ex→Env→Heap→Prop),W P T ov rd K e h Q=W P T ov rd A e h (zhm i Q):=by
 subst hK
 intro rd e h Q
 exact zrC _ _ _ _ _
theorem zEf (K A:Code) (hK:K=.loop A:=by rfl) (P:Program) (T:Tab) (ov:Ov):∀ (rd:Option Nat) (e:Env) (h:Heap) (Q:Ex→Env→Heap→Prop),W P T ov rd K e h Q=W P T ov rd (.loop A) e h Q:=by
 subst hK
 intro rd e h Q
 rfl
theorem zAT (K A:Code) (hK:K=.scope A:=by rfl) (P:Program) (T:Tab) (ov:Ov):∀ (rd:Option Nat) (e:Env) (h:Heap) (Q:Ex→Env→Heap→Prop),W P T ov rd K e h Q=W P T ov rd A e h Q:=by
 subst hK
 intro rd e h Q
 rfl
theorem zAe (K:Code) {i:Nat} (hK:K=.exit i:=by rfl) (P:Program) (T:Tab) (ov:Ov):∀ (rd:Option Nat) (e:Env) (h:Heap) (Q:Ex→Env→Heap→Prop),W P T ov rd K e h Q=Q (.exit i) e h:=by
 subst hK
 intro rd e h Q
 rfl
theorem retK (K:Code) (hK:K=.ret:=by rfl) (P:Program) (T:Tab) (ov:Ov):∀ (rd:Option Nat) (e:Env) (h:Heap) (Q:Ex→Env→Heap→Prop),W P T ov rd K e h Q=Q .ret e h:=by
 subst hK
 intro rd e h Q
 rfl
theorem zGe (K:Code) (hK:K=.skip:=by rfl) (P:Program) (T:Tab) (ov:Ov):∀ (rd:Option Nat) (e:Env) (h:Heap) (Q:Ex→Env→Heap→Prop),W P T ov rd K e h Q=Q .normal e h:=by
 subst hK
 intro rd e h Q
 rfl
theorem zAB (K:Code) {i:Nat} (hK:K=.label i:=by rfl) (P:Program) (T:Tab) (ov:Ov):∀ (rd:Option Nat) (e:Env) (h:Heap) (Q:Ex→Env→Heap→Prop),W P T ov rd K e h Q=Q .normal e h:=by
 subst hK
 intro rd e h Q
 rfl
abbrev zzL (K:Code) (A:Array Oper):Prop:=∀ {P:Program} {T:Tab} {ov:Ov} {rd:Option Nat} {e:Env} {h0 h:Heap} {Q:Ex→Env→Heap→Prop},Ext h0 h→WOpsX P T ov (min h0.low h0.size) A (zes A 0) 0 e h (fun e' h1=>Grw h0 h1∧endZ h0 Q e' h1)→W P T ov rd K e h Q
theorem zDa {K:Code} {A:Array Oper} {i:Nat} (hK:K=.region i A true) (ht:zda A (zdC A.toList [])=true):zzL K A:=by
 subst hK
 intro P T ov rd e h0 h Q z hw
 exact zxV (ops:=A.toList) z ht hw
theorem nd {p q:Prop} (h:p) (g:q):p∧q:=⟨h,g⟩
end Go.Am
namespace Go.Am
def ncount:Code→Nat
 | .seq a b=>ncount a+ncount b+1
 | .cond _ a b=>ncount a+ncount b+1
 | .block _ a=>ncount a+1
 | .loop a=>ncount a+1
 | .scope a=>ncount a+1
 | .rangeFunc _ _ a b=>ncount a+ncount b+1
 |_=>1
def zbe:Code→Nat→Code
 | .seq a b,n=>if n=0 then .seq a b else if n≤ncount a then zbe a (n - 1) else zbe b (n - 1 - ncount a)
 | .cond o a b,n=>if n=0 then .cond o a b else if n≤ncount a then zbe a (n - 1) else zbe b (n - 1 - ncount a)
 | .block i a,n=>if n=0 then .block i a else zbe a (n - 1)
 | .loop a,n=>if n=0 then .loop a else zbe a (n - 1)
 | .scope a,n=>if n=0 then .scope a else zbe a (n - 1)
 | .rangeFunc g ps a b,n=>if n=0 then .rangeFunc g ps a b else if n≤ncount a then zbe a (n - 1) else zbe b (n - 1 - ncount a)
 |c,_=>c
def codeOf (f:Func):Code:=f.body.getD .skip
def zax (f:Func):Nat→Code:=zbe (codeOf f)
theorem zf5 (c:Code):zbe c 0=c:=by cases c <;> rfl
def dstL:List Oper→Nat→Option Tmp
 | [],_=>none
 |o::_,0=>o.dst
 |_::l,j+1=>dstL l j
theorem zys (l:List Oper) (j:Nat):dstL l j=(l[j]?).bind (·.dst):=by
 induction l generalizing j with
 |nil=>rfl
 |cons o l ih=>cases j with
  |zero=>rfl
  |succ j=>exact ih j
def wantG (L:List Oper) (e:Env):Option (Nat × Bool)→Bool
 |none=>true
 |some (j,g)=>zgp (e.get ((dstL L j).getD 0)) g
def zim (L:List Oper) (o:Oper):Bool:=match o.guard with
 |none=>true
 |some (j,_)=>(dstL L j).isSome
theorem zpJ {A:Array Oper} {o:Oper} (h:zim A.toList o=true) (e:Env):zbf A o e=wantG A.toList e o.guard:=by
 unfold zim at h
 unfold zbf
 cases hg:o.guard with
 |none=>rfl
 |some p =>
  obtain ⟨j,g⟩:=p
  rw [hg] at h
  have e1:A[j]? = A.toList[j]? := by simp
  have h2:(dstL A.toList j).isSome=true:=h
  show _=zgp (e.get ((dstL A.toList j).getD 0)) g
  simp only [e1,← zys]
  cases hd:dstL A.toList j with
  |none=>rw [hd] at h2;cases h2
  |some t=>rfl
def zpc:Code→Bool
 | .region _ A true=>zda A (zdC A.toList [])
 |_=>false
theorem zb9 {K:Code} (hd:zpc K=true):zzL K (rops K):=by
 unfold zpc at hd
 split at hd
 ·rename_i i A
  exact zDa rfl hd
 ·cases hd
def zc9:Code→Bool
 | .seq a b=>zc9 a && zc9 b
 | .cond _ a b=>zc9 a && zc9 b
 | .block _ a=>zc9 a
 | .loop a=>zc9 a
 | .scope a=>zc9 a
 | .rangeFunc _ _ a b=>zc9 a && zc9 b
 | .region i A d=>A.toList.all (zim A.toList) && (!d || zpc (.region i A d))
 |_=>true
def opsF (A:Array Oper) (L:List Oper):List Oper→Nat→Prop
 | [],n=>∀ (P:Program) (T:Tab) (ov:Ov) (e:Env) (h:Heap) (Q:Env→Heap→Prop),WOps P T ov A (zes A n) e h Q=Q e h
 |o::l,n=>(∀ (P:Program) (T:Tab) (ov:Ov) (e:Env) (h:Heap) (Q:Env→Heap→Prop),WOps P T ov A (zes A n) e h Q=zo4 P T ov A o (zes A (n+1)) o.dst e h Q (wantG L e o.guard))∧opsF A L l (n+1)
def opsX (A:Array Oper) (L:List Oper):List Oper→Nat→Prop
 | [],n=>∀ (P:Program) (T:Tab) (ov:Ov) (b j:Nat) (e:Env) (h:Heap) (Q:Env→Heap→Prop),WOpsX P T ov b A (zes A n) j e h Q=Q e h
 |o::l,n=>(∀ (P:Program) (T:Tab) (ov:Ov) (b:Nat) (e:Env) (h:Heap) (Q:Env→Heap→Prop),WOpsX P T ov b A (zes A n) n e h Q=zhY P T ov b A o (zes A (n+1)) n o.dst e h Q (wantG L e o.guard) (quietS o))∧opsX A L l (n+1)
def factsF (N:Nat→Code):Code→Nat→Prop
 | .seq a b,n=>(∀ (P:Program) (T:Tab) (ov:Ov) (rd:Option Nat) (e:Env) (h:Heap) (Q:Ex→Env→Heap→Prop),W P T ov rd (N n) e h Q=W P T ov rd (N (n+1)) e h (zri P T ov rd (N (n+1+ncount a)) Q))∧factsF N a (n+1)∧factsF N b (n+1+ncount a)
 | .cond o a b,n=>(∀ (P:Program) (T:Tab) (ov:Ov) (rd:Option Nat) (e:Env) (h:Heap) (Q:Ex→Env→Heap→Prop),W P T ov rd (N n) e h Q=zh5 P T ov rd (N (n+1)) (N (n+1+ncount a)) e h Q (zab e o))∧factsF N a (n+1)∧factsF N b (n+1+ncount a)
 | .block i a,n=>(∀ (P:Program) (T:Tab) (ov:Ov) (rd:Option Nat) (e:Env) (h:Heap) (Q:Ex→Env→Heap→Prop),W P T ov rd (N n) e h Q=W P T ov rd (N (n+1)) e h (zhm i Q))∧factsF N a (n+1)
 | .loop a,n=>(∀ (P:Program) (T:Tab) (ov:Ov) (rd:Option Nat) (e:Env) (h:Heap) (Q:Ex→Env→Heap→Prop),W P T ov rd (N n) e h Q=W P T ov rd (.loop (N (n+1))) e h Q)∧factsF N a (n+1)
 | .scope a,n=>(∀ (P:Program) (T:Tab) (ov:Ov) (rd:Option Nat) (e:Env) (h:Heap) (Q:Ex→Env→Heap→Prop),W P T ov rd (N n) e h Q=W P T ov rd (N (n+1)) e h Q)∧factsF N a (n+1)
 | .rangeFunc g ps a b,n=>(∀ (P:Program) (T:Tab) (ov:Ov) (rd:Option Nat) (e:Env) (h:Heap) (Q:Ex→Env→Heap→Prop),W P T ov rd (N n) e h Q=ziO P T ov rd (zab e g) ps.toList (N (n+1)) (N (n+1+ncount a)) e h Q)∧factsF N a (n+1)∧factsF N b (n+1+ncount a)
 | .region i A false,n=>(∀ (P:Program) (T:Tab) (ov:Ov) (rd:Option Nat) (e:Env) (h:Heap) (Q:Ex→Env→Heap→Prop),W P T ov rd (N n) e h Q=WOps P T ov (rops (N n)) (zes (rops (N n)) 0) e h (zvt Q))∧opsF (rops (N n)) A.toList A.toList 0
 | .region i A true,n=>zpc (N n)=true∧opsX (rops (N n)) A.toList A.toList 0
 | .exit i,n=>∀ (P:Program) (T:Tab) (ov:Ov) (rd:Option Nat) (e:Env) (h:Heap) (Q:Ex→Env→Heap→Prop),W P T ov rd (N n) e h Q=Q (.exit i) e h
 | .ret,n=>∀ (P:Program) (T:Tab) (ov:Ov) (rd:Option Nat) (e:Env) (h:Heap) (Q:Ex→Env→Heap→Prop),W P T ov rd (N n) e h Q=Q .ret e h
 | .skip,n=>∀ (P:Program) (T:Tab) (ov:Ov) (rd:Option Nat) (e:Env) (h:Heap) (Q:Ex→Env→Heap→Prop),W P T ov rd (N n) e h Q=Q .normal e h
 | .label _,n=>∀ (P:Program) (T:Tab) (ov:Ov) (rd:Option Nat) (e:Env) (h:Heap) (Q:Ex→Env→Heap→Prop),W P T ov rd (N n) e h Q=Q .normal e h
 |_,_=>True
theorem zpr (A:Array Oper) (h:∀ o∈A.toList,zim A.toList o=true):∀ (l:List Oper) (n:Nat),zes A n=l→(∀ o∈l,o∈A.toList)→opsF A A.toList l n
 | [],n,hl,_=>nilK A n hl
 |o::l,n,hl,hm=>by
  have hl2:zes A (n+1)=l:=by
   unfold zes at hl ⊢
   have:=congrArg (List.drop 1) hl
   rw [List.drop_drop] at this
   exact this
  refine ⟨fun P T ov e h' Q=>?_,zpr A h l (n+1) hl2 (fun x hx=>hm x (List.mem_cons_of_mem _ hx))⟩
  rw [hl,hl2,zpM,zpJ (h o (hm o (List.mem_cons_self ..)))]
theorem zps (A:Array Oper) (h:∀ o∈A.toList,zim A.toList o=true):∀ (l:List Oper) (n:Nat),zes A n=l→(∀ o∈l,o∈A.toList)→opsX A A.toList l n
 | [],n,hl,_=>nilX A n hl
 |o::l,n,hl,hm=>by
  have hl2:zes A (n+1)=l:=by
   unfold zes at hl ⊢
   have:=congrArg (List.drop 1) hl
   rw [List.drop_drop] at this
   exact this
  refine ⟨fun P T ov b e h' Q=>?_,zps A h l (n+1) hl2 (fun x hx=>hm x (List.mem_cons_of_mem _ hx))⟩
  rw [hl,hl2,zns,zpJ (h o (hm o (List.mem_cons_self ..)))]
theorem zjn {N:Nat→Code} {a b x:Code} {n:Nat} (h:∀ k,k < ncount a+ncount b+1→N (n+k)=zbe x k) (ha:∀ k,0 < k→k≤ncount a→zbe x k=zbe a (k - 1)) (hb:∀ k,ncount a < k→zbe x k=zbe b (k - 1 - ncount a)) (pa:0 < ncount a) (pb:0 < ncount b) :
 N (n+1)=a∧N (n+1+ncount a)=b∧(∀ k,k < ncount a→N (n+1+k)=zbe a k)∧∀ k,k < ncount b→N (n+1+ncount a+k)=zbe b k:=by
 have h1:∀ k,k < ncount a→N (n+1+k)=zbe a k:=fun k hk=>by
  rw [show n+1+k=n+(k+1) by omega,h _ (by omega),ha _ (by omega) (by omega),Nat.add_sub_cancel]
 have h2:∀ k,k < ncount b→N (n+1+ncount a+k)=zbe b k:=fun k hk=>by
  rw [show n+1+ncount a+k=n+(k+1+ncount a) by omega,h _ (by omega),hb _ (by omega)]
  congr 1
  omega
 have h3:=h1 0 pa
 have h4:=h2 0 pb
 rw [zf5] at h3 h4
 exact ⟨h3,h4,h1,h2⟩
theorem zaM (c:Code):0 < ncount c:=by cases c <;> simp [ncount]
theorem zlf {N:Nat→Code} {a x:Code} {n:Nat} (h:∀ k,k < ncount a+1→N (n+k)=zbe x k) (ha:∀ k,0 < k→zbe x k=zbe a (k - 1)):N (n+1)=a∧∀ k,k < ncount a→N (n+1+k)=zbe a k:=by
 have h1:∀ k,k < ncount a→N (n+1+k)=zbe a k:=fun k hk=>by
  rw [show n+1+k=n+(k+1) by omega,h _ (by omega),ha _ (by omega),Nat.add_sub_cancel]
 have h3:=h1 0 (zaM a)
 rw [zf5] at h3
 exact ⟨h3,h1⟩
theorem zbT (N:Nat→Code):∀ (c:Code) (n:Nat),zc9 c=true→(∀ k,k < ncount c→N (n+k)=zbe c k)→factsF N c n
 | .seq a b,n,hw,h=>by
  have h0:N n=.seq a b:=h 0 (zaM _)
  simp only [zc9,Bool.and_eq_true] at hw
  obtain ⟨e1,e2,f1,f2⟩:=zjn (a:=a) (b:=b) h (fun k h1 h2=>by simp only [zbe];rw [if_neg (by omega),if_pos h2]) (fun k h1=>by simp only [zbe];rw [if_neg (by omega),if_neg (by omega)]) (zaM _) (zaM _)
  exact ⟨fun P T ov=>by rw [e1,e2];exact seqK _ a b h0 P T ov,zbT N a _ hw.1 f1,zbT N b _ hw.2 f2⟩
 | .cond o a b,n,hw,h=>by
  have h0:N n=.cond o a b:=h 0 (zaM _)
  simp only [zc9,Bool.and_eq_true] at hw
  obtain ⟨e1,e2,f1,f2⟩:=zjn (a:=a) (b:=b) h (fun k h1 h2=>by simp only [zbe];rw [if_neg (by omega),if_pos h2]) (fun k h1=>by simp only [zbe];rw [if_neg (by omega),if_neg (by omega)]) (zaM _) (zaM _)
  exact ⟨fun P T ov=>by rw [e1,e2];exact zAa _ a b h0 P T ov,zbT N a _ hw.1 f1,zbT N b _ hw.2 f2⟩
 | .rangeFunc g ps a b,n,hw,h=>by
  have h0:N n=.rangeFunc g ps a b:=h 0 (zaM _)
  simp only [zc9,Bool.and_eq_true] at hw
  obtain ⟨e1,e2,f1,f2⟩:=zjn (a:=a) (b:=b) h (fun k h1 h2=>by simp only [zbe];rw [if_neg (by omega),if_pos h2]) (fun k h1=>by simp only [zbe];rw [if_neg (by omega),if_neg (by omega)]) (zaM _) (zaM _)
  exact ⟨fun P T ov rd e h' Q=>by rw [e1,e2,h0];rfl,zbT N a _ hw.1 f1,zbT N b _ hw.2 f2⟩
 | .block i a,n,hw,h=>by
  have h0:N n=.block i a:=h 0 (zaM _)
  obtain ⟨e1,f1⟩:=zlf (a:=a) h (fun k h1=>by simp only [zbe];rw [if_neg (by omega)])
  exact ⟨fun P T ov=>by rw [e1];exact blkK _ a h0 P T ov,zbT N a _ hw f1⟩
 | .loop a,n,hw,h=>by
  have h0:N n=.loop a:=h 0 (zaM _)
  obtain ⟨e1,f1⟩:=zlf (a:=a) h (fun k h1=>by simp only [zbe];rw [if_neg (by omega)])
  exact ⟨fun P T ov=>by rw [e1];exact zEf _ a h0 P T ov,zbT N a _ hw f1⟩
 | .scope a,n,hw,h=>by
  have h0:N n=.scope a:=h 0 (zaM _)
  obtain ⟨e1,f1⟩:=zlf (a:=a) h (fun k h1=>by simp only [zbe];rw [if_neg (by omega)])
  exact ⟨fun P T ov=>by rw [e1];exact zAT _ a h0 P T ov,zbT N a _ hw f1⟩
 | .region i A false,n,hw,h=>by
  have h0:N n=.region i A false:=h 0 (zaM _)
  have hr:rops (N n)=A:=by rw [h0];rfl
  simp only [zc9,Bool.and_eq_true,List.all_eq_true] at hw
  refine ⟨fun P T ov=>?_,?_⟩
  ·rw [hr]
   exact regK _ A h0 P T ov
  ·rw [hr]
   exact zpr A hw.1 _ 0 rfl (fun o ho=>ho)
 | .region i A true,n,hw,h=>by
  have h0:N n=.region i A true:=h 0 (zaM _)
  have hr:rops (N n)=A:=by rw [h0];rfl
  simp only [zc9,Bool.and_eq_true,List.all_eq_true,Bool.not_true,Bool.false_or] at hw
  refine ⟨?_,?_⟩
  ·rw [h0]
   exact hw.2
  ·rw [hr]
   exact zps A hw.1 _ 0 rfl (fun o ho=>ho)
 | .exit i,n,hw,h=>zAe _ (h 0 (zaM _))
 | .ret,n,hw,h=>retK _ (h 0 (zaM _))
 | .skip,n,hw,h=>zGe _ (h 0 (zaM _))
 | .label l,n,hw,h=>zAB _ (h 0 (zaM _))
 | .goto l,n,hw,h=>trivial
 | .refuse w,n,hw,h=>trivial
theorem zag (N:Nat→Code) (f:Func) (hN:N=zax f:=by rfl) (hw:zc9 (codeOf f)=true:=by kernel_rfl):factsF N (codeOf f) 0 :=
 zbT N _ 0 hw (fun k _=>by rw [hN,Nat.zero_add];rfl)
theorem zaw {f:Func} (N:Nat→Code) (hN:N=zax f:=by rfl) (h:f.body.isSome=true:=by rfl):f.body=some (N 0):=by
 rw [hN]
 unfold zax
 rw [zf5]
 unfold codeOf
 cases hb:f.body with
 |none=>rw [hb] at h;cases h
 |some c=>rfl
noncomputable def ynEqs:=PLift.up (And.intro @codeOf.eq_1 <| And.intro @factsF.eq_1 <| And.intro @factsF.eq_2 <| And.intro @factsF.eq_3 <| And.intro @factsF.eq_4 <| And.intro @factsF.eq_5 <| And.intro @factsF.eq_6 <| And.intro @factsF.eq_7 <| And.intro @factsF.eq_8 <| And.intro @factsF.eq_9 <| And.intro @factsF.eq_10 <| And.intro @factsF.eq_11 <| And.intro @factsF.eq_12 <| And.intro @factsF.eq_13 <| And.intro @opsF.eq_1 <| And.intro @opsF.eq_2 <| And.intro @opsX.eq_1 <| And.intro @opsX.eq_2 <| And.intro @ncount.eq_1 <| And.intro @ncount.eq_2 <| And.intro @ncount.eq_3 <| And.intro @ncount.eq_4 <| And.intro @ncount.eq_5 <| And.intro @ncount.eq_6 <| And.intro @ncount.eq_7 <| And.intro @wantG.eq_1 <| And.intro @wantG.eq_2 <| And.intro @dstL.eq_1 <| And.intro @dstL.eq_2 <| And.intro @dstL.eq_3 <| And.intro @quietS.eq_1 <| And.intro @Option.getD_some.{0} <| And.intro @List.append_eq.{0} <| And.intro @List.cons_append.{0} <| @List.nil_append.{0})
theorem nEqs:type_of% ynEqs.down:=ynEqs.down
end Go.Am

/- What a node of a function's code is to its walk: parts of a code by their places; statements for simp. No condition. -/
import Derived.Test.YtdplfgoifjjniaaGreatDoorG19
import Derived.KernelRfl
namespace Go.Am
def rops:Code→Array Oper
 | .region _ a _=>a
 |_=>#[]
def zeq (A:Array Oper) (n:Nat):List Oper:=A.toList.drop n
theorem regK (K:Code) (A:Array Oper) {i:Nat} (hK:K=.region i A false:=by rfl) (P:Program) (T:Tab) (ov:Ov):∀ (rd:Option Nat) (e:Env) (h:Heap) (Q:Ex→Env→Heap→Prop),W P T ov rd K e h Q=WOps P T ov A (zeq A 0) e h (zx4 Q):=by
 subst hK
 intro rd e h Q
 rfl
theorem nilK (A:Array Oper) (n:Nat) (hn:zeq A n=[]:=by rfl) (P:Program) (T:Tab) (ov:Ov):∀ (e:Env) (h:Heap) (Q:Env→Heap→Prop),WOps P T ov A (zeq A n) e h Q=Q e h:=by
 intro e h Q
 rw [hn]
 rfl
theorem nilX (A:Array Oper) (n:Nat) (hn:zeq A n=[]:=by rfl) (P:Program) (T:Tab) (ov:Ov):∀ (b j:Nat) (e:Env) (h:Heap) (Q:Env→Heap→Prop),WOpsX P T ov b A (zeq A n) j e h Q=Q e h:=by
 intro b j e h Q
 rw [hn]
 rfl
theorem seqK (K A B:Code) (hK:K=.seq A B:=by rfl) (P:Program) (T:Tab) (ov:Ov):∀ (rd:Option Nat) (e:Env) (h:Heap) (Q:Ex→Env→Heap→Prop),W P T ov rd K e h Q=W P T ov rd A e h (zp5 P T ov rd B Q):=by
 subst hK
 intro rd e h Q
 exact zCH _ _ _ _ _
theorem zCY (K A B:Code) {o:Operand} (hK:K=.cond o A B:=by rfl) (P:Program) (T:Tab) (ov:Ov):∀ (rd:Option Nat) (e:Env) (h:Heap) (Q:Ex→Env→Heap→Prop),W P T ov rd K e h Q=ziJ P T ov rd A B e h Q (zab e o):=by
 subst hK
 intro rd e h Q
 rfl
theorem blkK (K A:Code) {i:Nat} (hK:K=.block i A:=by rfl) (P:Program) (T:Tab) (ov:Ov):∀ (rd:Option Nat) (e:Env) (h:Heap) (Q:Ex→Env→Heap→Prop),W P T ov rd K e h Q=W P T ov rd A e h (zhq i Q):=by
 subst hK
 intro rd e h Q
 exact zuV _ _ _ _ _
theorem zDM (K A:Code) (hK:K=.loop A:=by rfl) (P:Program) (T:Tab) (ov:Ov):∀ (rd:Option Nat) (e:Env) (h:Heap) (Q:Ex→Env→Heap→Prop),W P T ov rd K e h Q=W P T ov rd (.loop A) e h Q:=by
 subst hK
 intro rd e h Q
 rfl
theorem zCi (K A:Code) (hK:K=.scope A:=by rfl) (P:Program) (T:Tab) (ov:Ov):∀ (rd:Option Nat) (e:Env) (h:Heap) (Q:Ex→Env→Heap→Prop),W P T ov rd K e h Q=W P T ov rd A e h Q:=by
 subst hK
 intro rd e h Q
 rfl
theorem zCK (K:Code) {i:Nat} (hK:K=.exit i:=by rfl) (P:Program) (T:Tab) (ov:Ov):∀ (rd:Option Nat) (e:Env) (h:Heap) (Q:Ex→Env→Heap→Prop),W P T ov rd K e h Q=Q (.exit i) e h:=by
 subst hK
 intro rd e h Q
 rfl
theorem retK (K:Code) (hK:K=.ret:=by rfl) (P:Program) (T:Tab) (ov:Ov):∀ (rd:Option Nat) (e:Env) (h:Heap) (Q:Ex→Env→Heap→Prop),W P T ov rd K e h Q=Q .ret e h:=by
 subst hK
 intro rd e h Q
 rfl
theorem zDz (K:Code) (hK:K=.skip:=by rfl) (P:Program) (T:Tab) (ov:Ov):∀ (rd:Option Nat) (e:Env) (h:Heap) (Q:Ex→Env→Heap→Prop),W P T ov rd K e h Q=Q .normal e h:=by
 subst hK
 intro rd e h Q
 rfl
theorem zB2 (K:Code) {i:Nat} (hK:K=.label i:=by rfl) (P:Program) (T:Tab) (ov:Ov):∀ (rd:Option Nat) (e:Env) (h:Heap) (Q:Ex→Env→Heap→Prop),W P T ov rd K e h Q=Q .normal e h:=by
 subst hK
 intro rd e h Q
 rfl
abbrev zCz (K:Code) (A:Array Oper):Prop:=∀ {P:Program} {T:Tab} {ov:Ov} {rd:Option Nat} {e:Env} {h0 h:Heap} {Q:Ex→Env→Heap→Prop},Ext h0 h→WOpsX P T ov (min h0.low h0.size) A (zeq A 0) 0 e h (fun e' h1=>Grw h0 h1∧endZ h0 Q e' h1)→W P T ov rd K e h Q
theorem zFT {K:Code} {A:Array Oper} {i:Nat} (hK:K=.region i A true) (ht:zdk A (zds A.toList [])=true):zCz K A:=by
 subst hK
 intro P T ov rd e h0 h Q z hw
 exact zAK (ops:=A.toList) z ht hw
theorem nd {p q:Prop} (h:p) (g:q):p∧q:=⟨h,g⟩
end Go.Am
namespace Go.Am
set_option linter.unusedVariables false
def zag:Code→Nat
 | .seq a b=>zag a+zag b+1
 | .cond _ a b=>zag a+zag b+1
 | .block _ a=>zag a+1
 | .loop a=>zag a+1
 | .scope a=>zag a+1
 | .rangeFunc _ _ a b=>zag a+zag b+1
 |_=>1
def zbg:Code→Nat→Code
 | .seq a b,n=>if n=0 then .seq a b else if n≤zag a then zbg a (n - 1) else zbg b (n - 1 - zag a)
 | .cond o a b,n=>if n=0 then .cond o a b else if n≤zag a then zbg a (n - 1) else zbg b (n - 1 - zag a)
 | .block i a,n=>if n=0 then .block i a else zbg a (n - 1)
 | .loop a,n=>if n=0 then .loop a else zbg a (n - 1)
 | .scope a,n=>if n=0 then .scope a else zbg a (n - 1)
 | .rangeFunc g ps a b,n=>if n=0 then .rangeFunc g ps a b else if n≤zag a then zbg a (n - 1) else zbg b (n - 1 - zag a)
 |c,_=>c
def zan (f:Func):Code:=f.body.getD .skip
def zaz (f:Func):Nat→Code:=zbg (zan f)
theorem zfV (c:Code):zbg c 0=c:=by cases c <;> rfl
def dstL:List Oper→Nat→Option Tmp
 | [],_=>none
 |o::_,0=>o.dst
 |_::l,j+1=>dstL l j
theorem zA0 (l:List Oper) (j:Nat):dstL l j=(l[j]?).bind (·.dst):=by
 induction l generalizing j with
 |nil=>rfl
 |cons o l ih=>cases j with
  |zero=>rfl
  |succ j=>exact ih j
def zaA (L:List Oper) (e:Env):Option (Nat × Bool)→Bool
 |none=>true
 |some (j,g)=>zgQ (e.get ((dstL L j).getD 0)) g
def ziH (L:List Oper) (o:Oper):Bool:=match o.guard with
 |none=>true
 |some (j,_)=>(dstL L j).isSome
theorem zpD {A:Array Oper} {o:Oper} (h:ziH A.toList o=true) (e:Env):zbf A o e=zaA A.toList e o.guard:=by
 unfold ziH at h
 unfold zbf
 cases hg:o.guard with
 |none=>rfl
 |some p =>
  obtain ⟨j,g⟩:=p
  rw [hg] at h
  have e1:A[j]? = A.toList[j]? := by simp
  have h2:(dstL A.toList j).isSome=true:=h
  show _=zgQ (e.get ((dstL A.toList j).getD 0)) g
  simp only [e1,← zA0]
  cases hd:dstL A.toList j with
  |none=>rw [hd] at h2;cases h2
  |some t=>rfl
def zpf:Code→Bool
 | .region _ A true=>zdk A (zds A.toList [])
 |_=>false
theorem zbT {K:Code} (hd:zpf K=true):zCz K (rops K):=by
 unfold zpf at hd
 split at hd
 ·rename_i i A
  exact zFT rfl hd
 ·cases hd
def zc8:Code→Bool
 | .seq a b=>zc8 a && zc8 b
 | .cond _ a b=>zc8 a && zc8 b
 | .block _ a=>zc8 a
 | .loop a=>zc8 a
 | .scope a=>zc8 a
 | .rangeFunc _ _ a b=>zc8 a && zc8 b
 | .region i A d=>A.toList.all (ziH A.toList) && (!d || zpf (.region i A d))
 |_=>true
def opsF (A:Array Oper) (L:List Oper):List Oper→Nat→Prop
 | [],n=>∀ (P:Program) (T:Tab) (ov:Ov) (e:Env) (h:Heap) (Q:Env→Heap→Prop),WOps P T ov A (zeq A n) e h Q=Q e h
 |o::l,n=>(∀ (P:Program) (T:Tab) (ov:Ov) (e:Env) (h:Heap) (Q:Env→Heap→Prop),WOps P T ov A (zeq A n) e h Q=zpH P T ov A o (zeq A (n+1)) o.dst e h Q (zaA L e o.guard))∧opsF A L l (n+1)
def opsX (A:Array Oper) (L:List Oper):List Oper→Nat→Prop
 | [],n=>∀ (P:Program) (T:Tab) (ov:Ov) (b j:Nat) (e:Env) (h:Heap) (Q:Env→Heap→Prop),WOpsX P T ov b A (zeq A n) j e h Q=Q e h
 |o::l,n=>(∀ (P:Program) (T:Tab) (ov:Ov) (b:Nat) (e:Env) (h:Heap) (Q:Env→Heap→Prop),WOpsX P T ov b A (zeq A n) n e h Q=zhY P T ov b A o (zeq A (n+1)) n o.dst e h Q (zaA L e o.guard) (zak o))∧opsX A L l (n+1)
def zaj (N:Nat→Code):Code→Nat→Prop
 | .seq a b,n=>(∀ (P:Program) (T:Tab) (ov:Ov) (rd:Option Nat) (e:Env) (h:Heap) (Q:Ex→Env→Heap→Prop),W P T ov rd (N n) e h Q=W P T ov rd (N (n+1)) e h (zp5 P T ov rd (N (n+1+zag a)) Q))∧zaj N a (n+1)∧zaj N b (n+1+zag a)
 | .cond o a b,n=>(∀ (P:Program) (T:Tab) (ov:Ov) (rd:Option Nat) (e:Env) (h:Heap) (Q:Ex→Env→Heap→Prop),W P T ov rd (N n) e h Q=ziJ P T ov rd (N (n+1)) (N (n+1+zag a)) e h Q (zab e o))∧zaj N a (n+1)∧zaj N b (n+1+zag a)
 | .block i a,n=>(∀ (P:Program) (T:Tab) (ov:Ov) (rd:Option Nat) (e:Env) (h:Heap) (Q:Ex→Env→Heap→Prop),W P T ov rd (N n) e h Q=W P T ov rd (N (n+1)) e h (zhq i Q))∧zaj N a (n+1)
 | .loop a,n=>(∀ (P:Program) (T:Tab) (ov:Ov) (rd:Option Nat) (e:Env) (h:Heap) (Q:Ex→Env→Heap→Prop),W P T ov rd (N n) e h Q=W P T ov rd (.loop (N (n+1))) e h Q)∧zaj N a (n+1)
 | .scope a,n=>(∀ (P:Program) (T:Tab) (ov:Ov) (rd:Option Nat) (e:Env) (h:Heap) (Q:Ex→Env→Heap→Prop),W P T ov rd (N n) e h Q=W P T ov rd (N (n+1)) e h Q)∧zaj N a (n+1)
 | .rangeFunc g ps a b,n=>(∀ (P:Program) (T:Tab) (ov:Ov) (rd:Option Nat) (e:Env) (h:Heap) (Q:Ex→Env→Heap→Prop),W P T ov rd (N n) e h Q=ziB P T ov rd (zab e g) ps.toList (N (n+1)) (N (n+1+zag a)) e h Q)∧zaj N a (n+1)∧zaj N b (n+1+zag a)
 | .region i A false,n=>(∀ (P:Program) (T:Tab) (ov:Ov) (rd:Option Nat) (e:Env) (h:Heap) (Q:Ex→Env→Heap→Prop),W P T ov rd (N n) e h Q=WOps P T ov (rops (N n)) (zeq (rops (N n)) 0) e h (zx4 Q))∧opsF (rops (N n)) A.toList A.toList 0
 | .region i A true,n=>zpf (N n)=true∧opsX (rops (N n)) A.toList A.toList 0
 | .exit i,n=>∀ (P:Program) (T:Tab) (ov:Ov) (rd:Option Nat) (e:Env) (h:Heap) (Q:Ex→Env→Heap→Prop),W P T ov rd (N n) e h Q=Q (.exit i) e h
 | .ret,n=>∀ (P:Program) (T:Tab) (ov:Ov) (rd:Option Nat) (e:Env) (h:Heap) (Q:Ex→Env→Heap→Prop),W P T ov rd (N n) e h Q=Q .ret e h
 | .skip,n=>∀ (P:Program) (T:Tab) (ov:Ov) (rd:Option Nat) (e:Env) (h:Heap) (Q:Ex→Env→Heap→Prop),W P T ov rd (N n) e h Q=Q .normal e h
 | .label _,n=>∀ (P:Program) (T:Tab) (ov:Ov) (rd:Option Nat) (e:Env) (h:Heap) (Q:Ex→Env→Heap→Prop),W P T ov rd (N n) e h Q=Q .normal e h
 |_,_=>True
theorem zpJ (A:Array Oper) (h:∀ o∈A.toList,ziH A.toList o=true):∀ (l:List Oper) (n:Nat),zeq A n=l→(∀ o∈l,o∈A.toList)→opsF A A.toList l n
 | [],n,hl,_=>nilK A n hl
 |o::l,n,hl,hm=>by
  have hl2:zeq A (n+1)=l:=by
   unfold zeq at hl ⊢
   have:=congrArg (List.drop 1) hl
   rw [List.drop_drop] at this
   exact this
  refine ⟨fun P T ov e h' Q=>?_,zpJ A h l (n+1) hl2 (fun x hx=>hm x (List.mem_cons_of_mem _ hx))⟩
  rw [hl,hl2,zqj,zpD (h o (hm o (List.mem_cons_self ..)))]
theorem zpP (A:Array Oper) (h:∀ o∈A.toList,ziH A.toList o=true):∀ (l:List Oper) (n:Nat),zeq A n=l→(∀ o∈l,o∈A.toList)→opsX A A.toList l n
 | [],n,hl,_=>nilX A n hl
 |o::l,n,hl,hm=>by
  have hl2:zeq A (n+1)=l:=by
   unfold zeq at hl ⊢
   have:=congrArg (List.drop 1) hl
   rw [List.drop_drop] at this
   exact this
  refine ⟨fun P T ov b e h' Q=>?_,zpP A h l (n+1) hl2 (fun x hx=>hm x (List.mem_cons_of_mem _ hx))⟩
  rw [hl,hl2,zn1,zpD (h o (hm o (List.mem_cons_self ..)))]
theorem zh6 {N:Nat→Code} {a b x:Code} {n:Nat} (h:∀ k,k < zag a+zag b+1→N (n+k)=zbg x k) (ha:∀ k,0 < k→k≤zag a→zbg x k=zbg a (k - 1)) (hb:∀ k,zag a < k→zbg x k=zbg b (k - 1 - zag a)) (pa:0 < zag a) (pb:0 < zag b) :
 N (n+1)=a∧N (n+1+zag a)=b∧(∀ k,k < zag a→N (n+1+k)=zbg a k)∧∀ k,k < zag b→N (n+1+zag a+k)=zbg b k:=by
 have h1:∀ k,k < zag a→N (n+1+k)=zbg a k:=fun k hk=>by
  rw [show n+1+k=n+(k+1) by omega,h _ (by omega),ha _ (by omega) (by omega),Nat.add_sub_cancel]
 have h2:∀ k,k < zag b→N (n+1+zag a+k)=zbg b k:=fun k hk=>by
  rw [show n+1+zag a+k=n+(k+1+zag a) by omega,h _ (by omega),hb _ (by omega)]
  congr 1
  omega
 have h3:=h1 0 pa
 have h4:=h2 0 pb
 rw [zfV] at h3 h4
 exact ⟨h3,h4,h1,h2⟩
theorem zaS (c:Code):0 < zag c:=by cases c <;> simp [zag]
theorem zkX {N:Nat→Code} {a x:Code} {n:Nat} (h:∀ k,k < zag a+1→N (n+k)=zbg x k) (ha:∀ k,0 < k→zbg x k=zbg a (k - 1)):N (n+1)=a∧∀ k,k < zag a→N (n+1+k)=zbg a k:=by
 have h1:∀ k,k < zag a→N (n+1+k)=zbg a k:=fun k hk=>by
  rw [show n+1+k=n+(k+1) by omega,h _ (by omega),ha _ (by omega),Nat.add_sub_cancel]
 have h3:=h1 0 (zaS a)
 rw [zfV] at h3
 exact ⟨h3,h1⟩
theorem zbR (N:Nat→Code):∀ (c:Code) (n:Nat),zc8 c=true→(∀ k,k < zag c→N (n+k)=zbg c k)→zaj N c n
 | .seq a b,n,hw,h=>by
  have h0:N n=.seq a b:=h 0 (zaS _)
  simp only [zc8,Bool.and_eq_true] at hw
  obtain ⟨e1,e2,f1,f2⟩:=zh6 (a:=a) (b:=b) h (fun k h1 h2=>by simp only [zbg];rw [if_neg (by omega),if_pos h2]) (fun k h1=>by simp only [zbg];rw [if_neg (by omega),if_neg (by omega)]) (zaS _) (zaS _)
  exact ⟨fun P T ov=>by rw [e1,e2];exact seqK _ a b h0 P T ov,zbR N a _ hw.1 f1,zbR N b _ hw.2 f2⟩
 | .cond o a b,n,hw,h=>by
  have h0:N n=.cond o a b:=h 0 (zaS _)
  simp only [zc8,Bool.and_eq_true] at hw
  obtain ⟨e1,e2,f1,f2⟩:=zh6 (a:=a) (b:=b) h (fun k h1 h2=>by simp only [zbg];rw [if_neg (by omega),if_pos h2]) (fun k h1=>by simp only [zbg];rw [if_neg (by omega),if_neg (by omega)]) (zaS _) (zaS _)
  exact ⟨fun P T ov=>by rw [e1,e2];exact zCY _ a b h0 P T ov,zbR N a _ hw.1 f1,zbR N b _ hw.2 f2⟩
 | .rangeFunc g ps a b,n,hw,h=>by
  have h0:N n=.rangeFunc g ps a b:=h 0 (zaS _)
  simp only [zc8,Bool.and_eq_true] at hw
  obtain ⟨e1,e2,f1,f2⟩:=zh6 (a:=a) (b:=b) h (fun k h1 h2=>by simp only [zbg];rw [if_neg (by omega),if_pos h2]) (fun k h1=>by simp only [zbg];rw [if_neg (by omega),if_neg (by omega)]) (zaS _) (zaS _)
  exact ⟨fun P T ov rd e h' Q=>by rw [e1,e2,h0];rfl,zbR N a _ hw.1 f1,zbR N b _ hw.2 f2⟩
 | .block i a,n,hw,h=>by
  have h0:N n=.block i a:=h 0 (zaS _)
  obtain ⟨e1,f1⟩:=zkX (a:=a) h (fun k h1=>by simp only [zbg];rw [if_neg (by omega)])
  exact ⟨fun P T ov=>by rw [e1];exact blkK _ a h0 P T ov,zbR N a _ hw f1⟩
 | .loop a,n,hw,h=>by
  have h0:N n=.loop a:=h 0 (zaS _)
  obtain ⟨e1,f1⟩:=zkX (a:=a) h (fun k h1=>by simp only [zbg];rw [if_neg (by omega)])
  exact ⟨fun P T ov=>by rw [e1];exact zDM _ a h0 P T ov,zbR N a _ hw f1⟩
 | .scope a,n,hw,h=>by
  have h0:N n=.scope a:=h 0 (zaS _)
  obtain ⟨e1,f1⟩:=zkX (a:=a) h (fun k h1=>by simp only [zbg];rw [if_neg (by omega)])
  exact ⟨fun P T ov=>by rw [e1];exact zCi _ a h0 P T ov,zbR N a _ hw f1⟩
 | .region i A false,n,hw,h=>by
  have h0:N n=.region i A false:=h 0 (zaS _)
  have hr:rops (N n)=A:=by rw [h0];rfl
  simp only [zc8,Bool.and_eq_true,List.all_eq_true] at hw
  refine ⟨fun P T ov=>?_,?_⟩
  ·rw [hr]
   exact regK _ A h0 P T ov
  ·rw [hr]
   exact zpJ A hw.1 _ 0 rfl (fun o ho=>ho)
 | .region i A true,n,hw,h=>by
  have h0:N n=.region i A true:=h 0 (zaS _)
  have hr:rops (N n)=A:=by rw [h0];rfl
  simp only [zc8,Bool.and_eq_true,List.all_eq_true,Bool.not_true,Bool.false_or] at hw
  refine ⟨?_,?_⟩
  ·rw [h0]
   exact hw.2
  ·rw [hr]
   exact zpP A hw.1 _ 0 rfl (fun o ho=>ho)
 | .exit i,n,hw,h=>zCK _ (h 0 (zaS _))
 | .ret,n,hw,h=>retK _ (h 0 (zaS _))
 | .skip,n,hw,h=>zDz _ (h 0 (zaS _))
 | .label l,n,hw,h=>zB2 _ (h 0 (zaS _))
 | .goto l,n,hw,h=>trivial
 | .refuse w,n,hw,h=>trivial
theorem zah (N:Nat→Code) (f:Func) (hN:N=zaz f:=by rfl) (hw:zc8 (zan f)=true:=by kernel_rfl):zaj N (zan f) 0 :=
 zbR N _ 0 hw (fun k _=>by rw [hN,Nat.zero_add];rfl)
theorem zaB {f:Func} (N:Nat→Code) (hN:N=zaz f:=by rfl) (h:f.body.isSome=true:=by rfl):f.body=some (N 0):=by
 rw [hN]
 unfold zaz
 rw [zfV]
 unfold zan
 cases hb:f.body with
 |none=>rw [hb] at h;cases h
 |some c=>rfl
end Go.Am

/- What a node of a function's code is to its walk: parts of a code by their places; statements for simp. No condition. -/
import Derived.Test.YtemapihoobmonaaGreatDoorG17
import Derived.KernelRfl
namespace Go.Am
def rops:Code→Array Oper
  | .region _ a _=>a
  | _=>#[]
def zcY (A:Array Oper) (n:Nat):List Oper:=A.toList.drop n
theorem regK (K:Code) (A:Array Oper) {i:Nat} (hK:K=.region i A false:=by rfl) (P:Program) (T:Tab) (ov:Ov):∀ (rd:Option Nat) (e:Env) (h:Heap) (Q:Ex→Env→Heap→Prop),W P T ov rd K e h Q=WOps P T ov A (zcY A 0) e h (zxa Q):=by
  subst hK
  intro rd e h Q
  rfl
theorem nilK (A:Array Oper) (n:Nat) (hn:zcY A n=[]:=by rfl) (P:Program) (T:Tab) (ov:Ov):∀ (e:Env) (h:Heap) (Q:Env→Heap→Prop),WOps P T ov A (zcY A n) e h Q=Q e h:=by
  intro e h Q
  rw [hn]
  rfl
theorem nilX (A:Array Oper) (n:Nat) (hn:zcY A n=[]:=by rfl) (P:Program) (T:Tab) (ov:Ov):∀ (b j:Nat) (e:Env) (h:Heap) (Q:Env→Heap→Prop),WOpsX P T ov b A (zcY A n) j e h Q=Q e h:=by
  intro b j e h Q
  rw [hn]
  rfl
theorem seqK (K A B:Code) (hK:K=.seq A B:=by rfl) (P:Program) (T:Tab) (ov:Ov):∀ (rd:Option Nat) (e:Env) (h:Heap) (Q:Ex→Env→Heap→Prop),W P T ov rd K e h Q=W P T ov rd A e h (zro P T ov rd B Q):=by
  subst hK
  intro rd e h Q
  exact zBw _ _ _ _ _
theorem zBb (K A B:Code) {o:Operand} (hK:K=.cond o A B:=by rfl) (P:Program) (T:Tab) (ov:Ov):∀ (rd:Option Nat) (e:Env) (h:Heap) (Q:Ex→Env→Heap→Prop),W P T ov rd K e h Q=zkd P T ov rd A B e h Q (zab e o):=by
  subst hK
  intro rd e h Q
  rfl
theorem blkK (K A:Code) {i:Nat} (hK:K=.block i A:=by rfl) (P:Program) (T:Tab) (ov:Ov):∀ (rd:Option Nat) (e:Env) (h:Heap) (Q:Ex→Env→Heap→Prop),W P T ov rd K e h Q=W P T ov rd A e h (zfi i Q):=by
  subst hK
  intro rd e h Q
  exact ztr _ _ _ _ _
theorem zBW (K A:Code) (hK:K=.loop A:=by rfl) (P:Program) (T:Tab) (ov:Ov):∀ (rd:Option Nat) (e:Env) (h:Heap) (Q:Ex→Env→Heap→Prop),W P T ov rd K e h Q=W P T ov rd (.loop A) e h Q:=by
  subst hK
  intro rd e h Q
  rfl
theorem zBg (K A:Code) (hK:K=.scope A:=by rfl) (P:Program) (T:Tab) (ov:Ov):∀ (rd:Option Nat) (e:Env) (h:Heap) (Q:Ex→Env→Heap→Prop),W P T ov rd K e h Q=W P T ov rd A e h Q:=by
  subst hK
  intro rd e h Q
  rfl
theorem zAL (K:Code) {i:Nat} (hK:K=.exit i:=by rfl) (P:Program) (T:Tab) (ov:Ov):∀ (rd:Option Nat) (e:Env) (h:Heap) (Q:Ex→Env→Heap→Prop),W P T ov rd K e h Q=Q (.exit i) e h:=by
  subst hK
  intro rd e h Q
  rfl
theorem retK (K:Code) (hK:K=.ret:=by rfl) (P:Program) (T:Tab) (ov:Ov):∀ (rd:Option Nat) (e:Env) (h:Heap) (Q:Ex→Env→Heap→Prop),W P T ov rd K e h Q=Q .ret e h:=by
  subst hK
  intro rd e h Q
  rfl
theorem zCy (K:Code) (hK:K=.skip:=by rfl) (P:Program) (T:Tab) (ov:Ov):∀ (rd:Option Nat) (e:Env) (h:Heap) (Q:Ex→Env→Heap→Prop),W P T ov rd K e h Q=Q .normal e h:=by
  subst hK
  intro rd e h Q
  rfl
theorem zBc (K:Code) {i:Nat} (hK:K=.label i:=by rfl) (P:Program) (T:Tab) (ov:Ov):∀ (rd:Option Nat) (e:Env) (h:Heap) (Q:Ex→Env→Heap→Prop),W P T ov rd K e h Q=Q .normal e h:=by
  subst hK
  intro rd e h Q
  rfl
abbrev zAT (K:Code) (A:Array Oper):Prop:=∀ {P:Program} {T:Tab} {ov:Ov} {rd:Option Nat} {e:Env} {h0 h:Heap} {Q:Ex→Env→Heap→Prop},Ext h0 h→WOpsX P T ov (min h0.low h0.size) A (zcY A 0) 0 e h (fun e' h1=>Grw h0 h1∧endZ h0 Q e' h1)→W P T ov rd K e h Q
theorem zCB {K:Code} {A:Array Oper} {i:Nat} (hK:K=.region i A true) (ht:zdk A (zcZ A.toList [])=true):zAT K A:=by
  subst hK
  intro P T ov rd e h0 h Q z hw
  exact zyZ (ops:=A.toList) z ht hw
theorem nd {p q:Prop} (h:p) (g:q):p∧q:=⟨h,g⟩
end Go.Am
namespace Go.Am
set_option linter.unusedVariables false
def zaf:Code→Nat
  | .seq a b=>zaf a+zaf b+1
  | .cond _ a b=>zaf a+zaf b+1
  | .block _ a=>zaf a+1
  | .loop a=>zaf a+1
  | .scope a=>zaf a+1
  | .rangeFunc _ _ a b=>zaf a+zaf b+1
  | _=>1
def zaU:Code→Nat→Code
  | .seq a b,n=>if n=0 then .seq a b else if n≤zaf a then zaU a (n - 1) else zaU b (n - 1 - zaf a)
  | .cond o a b,n=>if n=0 then .cond o a b else if n≤zaf a then zaU a (n - 1) else zaU b (n - 1 - zaf a)
  | .block i a,n=>if n=0 then .block i a else zaU a (n - 1)
  | .loop a,n=>if n=0 then .loop a else zaU a (n - 1)
  | .scope a,n=>if n=0 then .scope a else zaU a (n - 1)
  | .rangeFunc g ps a b,n=>if n=0 then .rangeFunc g ps a b else if n≤zaf a then zaU a (n - 1) else zaU b (n - 1 - zaf a)
  | c,_=>c
def zao (f:Func):Code:=f.body.getD .skip
def zaz (f:Func):Nat→Code:=zaU (zao f)
theorem zfP (c:Code):zaU c 0=c:=by cases c <;> rfl
def dstL:List Oper→Nat→Option Tmp
  | [],_=>none
  | o::_,0=>o.dst
  | _::l,j+1=>dstL l j
theorem zzL (l:List Oper) (j:Nat):dstL l j=(l[j]?).bind (·.dst):=by
  induction l generalizing j with
  | nil=>rfl
  | cons o l ih=>cases j with
    | zero=>rfl
    | succ j=>exact ih j
def zay (L:List Oper) (e:Env):Option (Nat × Bool)→Bool
  | none=>true
  | some (j,g)=>zf9 (e.get ((dstL L j).getD 0)) g
def zhr (L:List Oper) (o:Oper):Bool:=match o.guard with
  | none=>true
  | some (j,_)=>(dstL L j).isSome
theorem zl2 {A:Array Oper} {o:Oper} (h:zhr A.toList o=true) (e:Env):za6 A o e=zay A.toList e o.guard:=by
  unfold zhr at h
  unfold za6
  cases hg:o.guard with
  | none=>rfl
  | some p =>
    obtain ⟨j,g⟩:=p
    rw [hg] at h
    have e1:A[j]? = A.toList[j]? := by simp
    have h2:(dstL A.toList j).isSome=true:=h
    show _=zf9 (e.get ((dstL A.toList j).getD 0)) g
    simp only [e1,← zzL]
    cases hd:dstL A.toList j with
    | none=>rw [hd] at h2; cases h2
    | some t=>rfl
def zk7:Code→Bool
  | .region _ A true=>zdk A (zcZ A.toList [])
  | _=>false
theorem zb9 {K:Code} (hd:zk7 K=true):zAT K (rops K):=by
  unfold zk7 at hd
  split at hd
  · rename_i i A
    exact zCB rfl hd
  · cases hd
def zcc:Code→Bool
  | .seq a b=>zcc a && zcc b
  | .cond _ a b=>zcc a && zcc b
  | .block _ a=>zcc a
  | .loop a=>zcc a
  | .scope a=>zcc a
  | .rangeFunc _ _ a b=>zcc a && zcc b
  | .region i A d=>A.toList.all (zhr A.toList) && (!d || zk7 (.region i A d))
  | _=>true
def opsF (A:Array Oper) (L:List Oper):List Oper→Nat→Prop
  | [],n=>∀ (P:Program) (T:Tab) (ov:Ov) (e:Env) (h:Heap) (Q:Env→Heap→Prop),WOps P T ov A (zcY A n) e h Q=Q e h
  | o::l,n=>(∀ (P:Program) (T:Tab) (ov:Ov) (e:Env) (h:Heap) (Q:Env→Heap→Prop),WOps P T ov A (zcY A n) e h Q=zq8 P T ov A o (zcY A (n+1)) o.dst e h Q (zay L e o.guard))∧opsF A L l (n+1)
def opsX (A:Array Oper) (L:List Oper):List Oper→Nat→Prop
  | [],n=>∀ (P:Program) (T:Tab) (ov:Ov) (b j:Nat) (e:Env) (h:Heap) (Q:Env→Heap→Prop),WOpsX P T ov b A (zcY A n) j e h Q=Q e h
  | o::l,n=>(∀ (P:Program) (T:Tab) (ov:Ov) (b:Nat) (e:Env) (h:Heap) (Q:Env→Heap→Prop),WOpsX P T ov b A (zcY A n) n e h Q=zjm P T ov b A o (zcY A (n+1)) n o.dst e h Q (zay L e o.guard) (zal o))∧opsX A L l (n+1)
def zam (N:Nat→Code):Code→Nat→Prop
  | .seq a b,n=>(∀ (P:Program) (T:Tab) (ov:Ov) (rd:Option Nat) (e:Env) (h:Heap) (Q:Ex→Env→Heap→Prop),W P T ov rd (N n) e h Q=W P T ov rd (N (n+1)) e h (zro P T ov rd (N (n+1+zaf a)) Q))∧zam N a (n+1)∧zam N b (n+1+zaf a)
  | .cond o a b,n=>(∀ (P:Program) (T:Tab) (ov:Ov) (rd:Option Nat) (e:Env) (h:Heap) (Q:Ex→Env→Heap→Prop),W P T ov rd (N n) e h Q=zkd P T ov rd (N (n+1)) (N (n+1+zaf a)) e h Q (zab e o))∧zam N a (n+1)∧zam N b (n+1+zaf a)
  | .block i a,n=>(∀ (P:Program) (T:Tab) (ov:Ov) (rd:Option Nat) (e:Env) (h:Heap) (Q:Ex→Env→Heap→Prop),W P T ov rd (N n) e h Q=W P T ov rd (N (n+1)) e h (zfi i Q))∧zam N a (n+1)
  | .loop a,n=>(∀ (P:Program) (T:Tab) (ov:Ov) (rd:Option Nat) (e:Env) (h:Heap) (Q:Ex→Env→Heap→Prop),W P T ov rd (N n) e h Q=W P T ov rd (.loop (N (n+1))) e h Q)∧zam N a (n+1)
  | .scope a,n=>(∀ (P:Program) (T:Tab) (ov:Ov) (rd:Option Nat) (e:Env) (h:Heap) (Q:Ex→Env→Heap→Prop),W P T ov rd (N n) e h Q=W P T ov rd (N (n+1)) e h Q)∧zam N a (n+1)
  | .rangeFunc g ps a b,n=>(∀ (P:Program) (T:Tab) (ov:Ov) (rd:Option Nat) (e:Env) (h:Heap) (Q:Ex→Env→Heap→Prop),W P T ov rd (N n) e h Q=zi7 P T ov rd (zab e g) ps.toList (N (n+1)) (N (n+1+zaf a)) e h Q)∧zam N a (n+1)∧zam N b (n+1+zaf a)
  | .region i A false,n=>(∀ (P:Program) (T:Tab) (ov:Ov) (rd:Option Nat) (e:Env) (h:Heap) (Q:Ex→Env→Heap→Prop),W P T ov rd (N n) e h Q=WOps P T ov (rops (N n)) (zcY (rops (N n)) 0) e h (zxa Q))∧opsF (rops (N n)) A.toList A.toList 0
  | .region i A true,n=>zk7 (N n)=true∧opsX (rops (N n)) A.toList A.toList 0
  | .exit i,n=>∀ (P:Program) (T:Tab) (ov:Ov) (rd:Option Nat) (e:Env) (h:Heap) (Q:Ex→Env→Heap→Prop),W P T ov rd (N n) e h Q=Q (.exit i) e h
  | .ret,n=>∀ (P:Program) (T:Tab) (ov:Ov) (rd:Option Nat) (e:Env) (h:Heap) (Q:Ex→Env→Heap→Prop),W P T ov rd (N n) e h Q=Q .ret e h
  | .skip,n=>∀ (P:Program) (T:Tab) (ov:Ov) (rd:Option Nat) (e:Env) (h:Heap) (Q:Ex→Env→Heap→Prop),W P T ov rd (N n) e h Q=Q .normal e h
  | .label _,n=>∀ (P:Program) (T:Tab) (ov:Ov) (rd:Option Nat) (e:Env) (h:Heap) (Q:Ex→Env→Heap→Prop),W P T ov rd (N n) e h Q=Q .normal e h
  | _,_=>True
theorem zqT (A:Array Oper) (h:∀ o∈A.toList,zhr A.toList o=true):∀ (l:List Oper) (n:Nat),zcY A n=l→(∀ o∈l,o∈A.toList)→opsF A A.toList l n
  | [],n,hl,_=>nilK A n hl
  | o::l,n,hl,hm=>by
    have hl2:zcY A (n+1)=l:=by
      unfold zcY at hl ⊢
      have:=congrArg (List.drop 1) hl
      rw [List.drop_drop] at this
      exact this
    refine ⟨fun P T ov e h' Q=>?_,zqT A h l (n+1) hl2 (fun x hx=>hm x (List.mem_cons_of_mem _ hx))⟩
    rw [hl,hl2,zrn,zl2 (h o (hm o (List.mem_cons_self ..)))]
theorem zrh (A:Array Oper) (h:∀ o∈A.toList,zhr A.toList o=true):∀ (l:List Oper) (n:Nat),zcY A n=l→(∀ o∈l,o∈A.toList)→opsX A A.toList l n
  | [],n,hl,_=>nilX A n hl
  | o::l,n,hl,hm=>by
    have hl2:zcY A (n+1)=l:=by
      unfold zcY at hl ⊢
      have:=congrArg (List.drop 1) hl
      rw [List.drop_drop] at this
      exact this
    refine ⟨fun P T ov b e h' Q=>?_,zrh A h l (n+1) hl2 (fun x hx=>hm x (List.mem_cons_of_mem _ hx))⟩
    rw [hl,hl2,zo9,zl2 (h o (hm o (List.mem_cons_self ..)))]
theorem zef {N:Nat→Code} {a b x:Code} {n:Nat} (h:∀ k,k < zaf a+zaf b+1→N (n+k)=zaU x k) (ha:∀ k,0 < k→k≤zaf a→zaU x k=zaU a (k - 1)) (hb:∀ k,zaf a < k→zaU x k=zaU b (k - 1 - zaf a)) (pa:0 < zaf a) (pb:0 < zaf b) :
    N (n+1)=a∧N (n+1+zaf a)=b∧(∀ k,k < zaf a→N (n+1+k)=zaU a k)∧∀ k,k < zaf b→N (n+1+zaf a+k)=zaU b k:=by
  have h1:∀ k,k < zaf a→N (n+1+k)=zaU a k:=fun k hk=>by
    rw [show n+1+k=n+(k+1) by omega,h _ (by omega),ha _ (by omega) (by omega),Nat.add_sub_cancel]
  have h2:∀ k,k < zaf b→N (n+1+zaf a+k)=zaU b k:=fun k hk=>by
    rw [show n+1+zaf a+k=n+(k+1+zaf a) by omega,h _ (by omega),hb _ (by omega)]
    congr 1
    omega
  have h3:=h1 0 pa
  have h4:=h2 0 pb
  rw [zfP] at h3 h4
  exact ⟨h3,h4,h1,h2⟩
theorem zaG (c:Code):0 < zaf c:=by cases c <;> simp [zaf]
theorem zfx {N:Nat→Code} {a x:Code} {n:Nat} (h:∀ k,k < zaf a+1→N (n+k)=zaU x k) (ha:∀ k,0 < k→zaU x k=zaU a (k - 1)):N (n+1)=a∧∀ k,k < zaf a→N (n+1+k)=zaU a k:=by
  have h1:∀ k,k < zaf a→N (n+1+k)=zaU a k:=fun k hk=>by
    rw [show n+1+k=n+(k+1) by omega,h _ (by omega),ha _ (by omega),Nat.add_sub_cancel]
  have h3:=h1 0 (zaG a)
  rw [zfP] at h3
  exact ⟨h3,h1⟩
theorem zbR (N:Nat→Code):∀ (c:Code) (n:Nat),zcc c=true→(∀ k,k < zaf c→N (n+k)=zaU c k)→zam N c n
  | .seq a b,n,hw,h=>by
    have h0:N n=.seq a b:=h 0 (zaG _)
    simp only [zcc,Bool.and_eq_true] at hw
    obtain ⟨e1,e2,f1,f2⟩:=zef (a:=a) (b:=b) h (fun k h1 h2=>by simp only [zaU]; rw [if_neg (by omega),if_pos h2]) (fun k h1=>by simp only [zaU]; rw [if_neg (by omega),if_neg (by omega)]) (zaG _) (zaG _)
    exact ⟨fun P T ov=>by rw [e1,e2]; exact seqK _ a b h0 P T ov,zbR N a _ hw.1 f1,zbR N b _ hw.2 f2⟩
  | .cond o a b,n,hw,h=>by
    have h0:N n=.cond o a b:=h 0 (zaG _)
    simp only [zcc,Bool.and_eq_true] at hw
    obtain ⟨e1,e2,f1,f2⟩:=zef (a:=a) (b:=b) h (fun k h1 h2=>by simp only [zaU]; rw [if_neg (by omega),if_pos h2]) (fun k h1=>by simp only [zaU]; rw [if_neg (by omega),if_neg (by omega)]) (zaG _) (zaG _)
    exact ⟨fun P T ov=>by rw [e1,e2]; exact zBb _ a b h0 P T ov,zbR N a _ hw.1 f1,zbR N b _ hw.2 f2⟩
  | .rangeFunc g ps a b,n,hw,h=>by
    have h0:N n=.rangeFunc g ps a b:=h 0 (zaG _)
    simp only [zcc,Bool.and_eq_true] at hw
    obtain ⟨e1,e2,f1,f2⟩:=zef (a:=a) (b:=b) h (fun k h1 h2=>by simp only [zaU]; rw [if_neg (by omega),if_pos h2]) (fun k h1=>by simp only [zaU]; rw [if_neg (by omega),if_neg (by omega)]) (zaG _) (zaG _)
    exact ⟨fun P T ov rd e h' Q=>by rw [e1,e2,h0]; rfl,zbR N a _ hw.1 f1,zbR N b _ hw.2 f2⟩
  | .block i a,n,hw,h=>by
    have h0:N n=.block i a:=h 0 (zaG _)
    obtain ⟨e1,f1⟩:=zfx (a:=a) h (fun k h1=>by simp only [zaU]; rw [if_neg (by omega)])
    exact ⟨fun P T ov=>by rw [e1]; exact blkK _ a h0 P T ov,zbR N a _ hw f1⟩
  | .loop a,n,hw,h=>by
    have h0:N n=.loop a:=h 0 (zaG _)
    obtain ⟨e1,f1⟩:=zfx (a:=a) h (fun k h1=>by simp only [zaU]; rw [if_neg (by omega)])
    exact ⟨fun P T ov=>by rw [e1]; exact zBW _ a h0 P T ov,zbR N a _ hw f1⟩
  | .scope a,n,hw,h=>by
    have h0:N n=.scope a:=h 0 (zaG _)
    obtain ⟨e1,f1⟩:=zfx (a:=a) h (fun k h1=>by simp only [zaU]; rw [if_neg (by omega)])
    exact ⟨fun P T ov=>by rw [e1]; exact zBg _ a h0 P T ov,zbR N a _ hw f1⟩
  | .region i A false,n,hw,h=>by
    have h0:N n=.region i A false:=h 0 (zaG _)
    have hr:rops (N n)=A:=by rw [h0]; rfl
    simp only [zcc,Bool.and_eq_true,List.all_eq_true] at hw
    refine ⟨fun P T ov=>?_,?_⟩
    · rw [hr]
      exact regK _ A h0 P T ov
    · rw [hr]
      exact zqT A hw.1 _ 0 rfl (fun o ho=>ho)
  | .region i A true,n,hw,h=>by
    have h0:N n=.region i A true:=h 0 (zaG _)
    have hr:rops (N n)=A:=by rw [h0]; rfl
    simp only [zcc,Bool.and_eq_true,List.all_eq_true,Bool.not_true,Bool.false_or] at hw
    refine ⟨?_,?_⟩
    · rw [h0]
      exact hw.2
    · rw [hr]
      exact zrh A hw.1 _ 0 rfl (fun o ho=>ho)
  | .exit i,n,hw,h=>zAL _ (h 0 (zaG _))
  | .ret,n,hw,h=>retK _ (h 0 (zaG _))
  | .skip,n,hw,h=>zCy _ (h 0 (zaG _))
  | .label l,n,hw,h=>zBc _ (h 0 (zaG _))
  | .goto l,n,hw,h=>trivial
  | .refuse w,n,hw,h=>trivial
theorem zai (N:Nat→Code) (f:Func) (hN:N=zaz f:=by rfl) (hw:zcc (zao f)=true:=by kernel_rfl):zam N (zao f) 0 :=
  zbR N _ 0 hw (fun k _=>by rw [hN,Nat.zero_add]; rfl)
theorem zaD {f:Func} (N:Nat→Code) (hN:N=zaz f:=by rfl) (h:f.body.isSome=true:=by rfl):f.body=some (N 0):=by
  rw [hN]
  unfold zaz
  rw [zfP]
  unfold zao
  cases hb:f.body with
  | none=>rw [hb] at h; cases h
  | some c=>rfl
end Go.Am

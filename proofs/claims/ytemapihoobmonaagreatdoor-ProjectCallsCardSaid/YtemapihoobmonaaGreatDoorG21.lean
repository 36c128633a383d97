/- What a node of a function's code is to its walk: parts of a code by their places; statements for simp. No condition. -/
import Derived.Test.YtemapihoobmonaaGreatDoorG17
import Derived.KernelRfl
namespace Go.Am
def rops:Code→Array Oper
  | .region _ a _=>a
  | _=>#[]
def zcW (A:Array Oper) (n:Nat):List Oper:=A.toList.drop n
theorem regK (K:Code) (A:Array Oper) {i:Nat} (hK:K=.region i A false:=by rfl) (P:Program) (T:Tab) (ov:Ov):∀ (rd:Option Nat) (e:Env) (h:Heap) (Q:Ex→Env→Heap→Prop),W P T ov rd K e h Q=WOps P T ov A (zcW A 0) e h (zwA Q):=by
  subst hK
  intro rd e h Q
  rfl
theorem nilK (A:Array Oper) (n:Nat) (hn:zcW A n=[]:=by rfl) (P:Program) (T:Tab) (ov:Ov):∀ (e:Env) (h:Heap) (Q:Env→Heap→Prop),WOps P T ov A (zcW A n) e h Q=Q e h:=by
  intro e h Q
  rw [hn]
  rfl
theorem nilX (A:Array Oper) (n:Nat) (hn:zcW A n=[]:=by rfl) (P:Program) (T:Tab) (ov:Ov):∀ (b j:Nat) (e:Env) (h:Heap) (Q:Env→Heap→Prop),WOpsX P T ov b A (zcW A n) j e h Q=Q e h:=by
  intro b j e h Q
  rw [hn]
  rfl
theorem seqK (K A B:Code) (hK:K=.seq A B:=by rfl) (P:Program) (T:Tab) (ov:Ov):∀ (rd:Option Nat) (e:Env) (h:Heap) (Q:Ex→Env→Heap→Prop),W P T ov rd K e h Q=W P T ov rd A e h (ztb P T ov rd B Q):=by
  subst hK
  intro rd e h Q
  exact zAM _ _ _ _ _
theorem zBv (K A B:Code) {o:Operand} (hK:K=.cond o A B:=by rfl) (P:Program) (T:Tab) (ov:Ov):∀ (rd:Option Nat) (e:Env) (h:Heap) (Q:Ex→Env→Heap→Prop),W P T ov rd K e h Q=ziN P T ov rd A B e h Q (zab e o):=by
  subst hK
  intro rd e h Q
  rfl
theorem blkK (K A:Code) {i:Nat} (hK:K=.block i A:=by rfl) (P:Program) (T:Tab) (ov:Ov):∀ (rd:Option Nat) (e:Env) (h:Heap) (Q:Ex→Env→Heap→Prop),W P T ov rd K e h Q=W P T ov rd A e h (zeX i Q):=by
  subst hK
  intro rd e h Q
  exact ztX _ _ _ _ _
theorem zB4 (K A:Code) (hK:K=.loop A:=by rfl) (P:Program) (T:Tab) (ov:Ov):∀ (rd:Option Nat) (e:Env) (h:Heap) (Q:Ex→Env→Heap→Prop),W P T ov rd K e h Q=W P T ov rd (.loop A) e h Q:=by
  subst hK
  intro rd e h Q
  rfl
theorem zBp (K A:Code) (hK:K=.scope A:=by rfl) (P:Program) (T:Tab) (ov:Ov):∀ (rd:Option Nat) (e:Env) (h:Heap) (Q:Ex→Env→Heap→Prop),W P T ov rd K e h Q=W P T ov rd A e h Q:=by
  subst hK
  intro rd e h Q
  rfl
theorem zBd (K:Code) {i:Nat} (hK:K=.exit i:=by rfl) (P:Program) (T:Tab) (ov:Ov):∀ (rd:Option Nat) (e:Env) (h:Heap) (Q:Ex→Env→Heap→Prop),W P T ov rd K e h Q=Q (.exit i) e h:=by
  subst hK
  intro rd e h Q
  rfl
theorem retK (K:Code) (hK:K=.ret:=by rfl) (P:Program) (T:Tab) (ov:Ov):∀ (rd:Option Nat) (e:Env) (h:Heap) (Q:Ex→Env→Heap→Prop),W P T ov rd K e h Q=Q .ret e h:=by
  subst hK
  intro rd e h Q
  rfl
theorem zBQ (K:Code) (hK:K=.skip:=by rfl) (P:Program) (T:Tab) (ov:Ov):∀ (rd:Option Nat) (e:Env) (h:Heap) (Q:Ex→Env→Heap→Prop),W P T ov rd K e h Q=Q .normal e h:=by
  subst hK
  intro rd e h Q
  rfl
theorem zBf (K:Code) {i:Nat} (hK:K=.label i:=by rfl) (P:Program) (T:Tab) (ov:Ov):∀ (rd:Option Nat) (e:Env) (h:Heap) (Q:Ex→Env→Heap→Prop),W P T ov rd K e h Q=Q .normal e h:=by
  subst hK
  intro rd e h Q
  rfl
abbrev zA2 (K:Code) (A:Array Oper):Prop:=∀ {P:Program} {T:Tab} {ov:Ov} {rd:Option Nat} {e:Env} {h0 h:Heap} {Q:Ex→Env→Heap→Prop},Ext h0 h→WOpsX P T ov (min h0.low h0.size) A (zcW A 0) 0 e h (fun e' h1=>Grw h0 h1∧endZ h0 Q e' h1)→W P T ov rd K e h Q
theorem zB2 {K:Code} {A:Array Oper} {i:Nat} (hK:K=.region i A true) (ht:zdc A (zcU A.toList [])=true):zA2 K A:=by
  subst hK
  intro P T ov rd e h0 h Q z hw
  exact zzb (ops:=A.toList) z ht hw
theorem nd {p q:Prop} (h:p) (g:q):p∧q:=⟨h,g⟩
end Go.Am
namespace Go.Am
set_option linter.unusedVariables false
def zaf:Code→Nat
  | .seq a b=>zaf a+zaf b+1
  | .cond _ a b=>zaf a+zaf b+1
  | .block _ a=>zaf a+1
  | .loop a=>zaf a+1
  | .scope a=>zaf a+1
  | .rangeFunc _ _ a b=>zaf a+zaf b+1
  | _=>1
def zaU:Code→Nat→Code
  | .seq a b,n=>if n=0 then .seq a b else if n≤zaf a then zaU a (n - 1) else zaU b (n - 1 - zaf a)
  | .cond o a b,n=>if n=0 then .cond o a b else if n≤zaf a then zaU a (n - 1) else zaU b (n - 1 - zaf a)
  | .block i a,n=>if n=0 then .block i a else zaU a (n - 1)
  | .loop a,n=>if n=0 then .loop a else zaU a (n - 1)
  | .scope a,n=>if n=0 then .scope a else zaU a (n - 1)
  | .rangeFunc g ps a b,n=>if n=0 then .rangeFunc g ps a b else if n≤zaf a then zaU a (n - 1) else zaU b (n - 1 - zaf a)
  | c,_=>c
def zao (f:Func):Code:=f.body.getD .skip
def zaA (f:Func):Nat→Code:=zaU (zao f)
theorem zfJ (c:Code):zaU c 0=c:=by cases c <;> rfl
def dstL:List Oper→Nat→Option Tmp
  | [],_=>none
  | o::_,0=>o.dst
  | _::l,j+1=>dstL l j
theorem zy6 (l:List Oper) (j:Nat):dstL l j=(l[j]?).bind (·.dst):=by
  induction l generalizing j with
  | nil=>rfl
  | cons o l ih=>cases j with
    | zero=>rfl
    | succ j=>exact ih j
def zax (L:List Oper) (e:Env):Option (Nat × Bool)→Bool
  | none=>true
  | some (j,g)=>zgg (e.get ((dstL L j).getD 0)) g
def zgV (L:List Oper) (o:Oper):Bool:=match o.guard with
  | none=>true
  | some (j,_)=>(dstL L j).isSome
theorem zmj {A:Array Oper} {o:Oper} (h:zgV A.toList o=true) (e:Env):za6 A o e=zax A.toList e o.guard:=by
  unfold zgV at h
  unfold za6
  cases hg:o.guard with
  | none=>rfl
  | some p =>
    obtain ⟨j,g⟩:=p
    rw [hg] at h
    have e1:A[j]? = A.toList[j]? := by simp
    have h2:(dstL A.toList j).isSome=true:=h
    show _=zgg (e.get ((dstL A.toList j).getD 0)) g
    simp only [e1,← zy6]
    cases hd:dstL A.toList j with
    | none=>rw [hd] at h2; cases h2
    | some t=>rfl
def zle:Code→Bool
  | .region _ A true=>zdc A (zcU A.toList [])
  | _=>false
theorem zcb {K:Code} (hd:zle K=true):zA2 K (rops K):=by
  unfold zle at hd
  split at hd
  · rename_i i A
    exact zB2 rfl hd
  · cases hd
def zcc:Code→Bool
  | .seq a b=>zcc a && zcc b
  | .cond _ a b=>zcc a && zcc b
  | .block _ a=>zcc a
  | .loop a=>zcc a
  | .scope a=>zcc a
  | .rangeFunc _ _ a b=>zcc a && zcc b
  | .region i A d=>A.toList.all (zgV A.toList) && (!d || zle (.region i A d))
  | _=>true
def opsF (A:Array Oper) (L:List Oper):List Oper→Nat→Prop
  | [],n=>∀ (P:Program) (T:Tab) (ov:Ov) (e:Env) (h:Heap) (Q:Env→Heap→Prop),WOps P T ov A (zcW A n) e h Q=Q e h
  | o::l,n=>(∀ (P:Program) (T:Tab) (ov:Ov) (e:Env) (h:Heap) (Q:Env→Heap→Prop),WOps P T ov A (zcW A n) e h Q=zqD P T ov A o (zcW A (n+1)) o.dst e h Q (zax L e o.guard))∧opsF A L l (n+1)
def opsX (A:Array Oper) (L:List Oper):List Oper→Nat→Prop
  | [],n=>∀ (P:Program) (T:Tab) (ov:Ov) (b j:Nat) (e:Env) (h:Heap) (Q:Env→Heap→Prop),WOpsX P T ov b A (zcW A n) j e h Q=Q e h
  | o::l,n=>(∀ (P:Program) (T:Tab) (ov:Ov) (b:Nat) (e:Env) (h:Heap) (Q:Env→Heap→Prop),WOpsX P T ov b A (zcW A n) n e h Q=zj3 P T ov b A o (zcW A (n+1)) n o.dst e h Q (zax L e o.guard) (zal o))∧opsX A L l (n+1)
def zam (N:Nat→Code):Code→Nat→Prop
  | .seq a b,n=>(∀ (P:Program) (T:Tab) (ov:Ov) (rd:Option Nat) (e:Env) (h:Heap) (Q:Ex→Env→Heap→Prop),W P T ov rd (N n) e h Q=W P T ov rd (N (n+1)) e h (ztb P T ov rd (N (n+1+zaf a)) Q))∧zam N a (n+1)∧zam N b (n+1+zaf a)
  | .cond o a b,n=>(∀ (P:Program) (T:Tab) (ov:Ov) (rd:Option Nat) (e:Env) (h:Heap) (Q:Ex→Env→Heap→Prop),W P T ov rd (N n) e h Q=ziN P T ov rd (N (n+1)) (N (n+1+zaf a)) e h Q (zab e o))∧zam N a (n+1)∧zam N b (n+1+zaf a)
  | .block i a,n=>(∀ (P:Program) (T:Tab) (ov:Ov) (rd:Option Nat) (e:Env) (h:Heap) (Q:Ex→Env→Heap→Prop),W P T ov rd (N n) e h Q=W P T ov rd (N (n+1)) e h (zeX i Q))∧zam N a (n+1)
  | .loop a,n=>(∀ (P:Program) (T:Tab) (ov:Ov) (rd:Option Nat) (e:Env) (h:Heap) (Q:Ex→Env→Heap→Prop),W P T ov rd (N n) e h Q=W P T ov rd (.loop (N (n+1))) e h Q)∧zam N a (n+1)
  | .scope a,n=>(∀ (P:Program) (T:Tab) (ov:Ov) (rd:Option Nat) (e:Env) (h:Heap) (Q:Ex→Env→Heap→Prop),W P T ov rd (N n) e h Q=W P T ov rd (N (n+1)) e h Q)∧zam N a (n+1)
  | .rangeFunc g ps a b,n=>(∀ (P:Program) (T:Tab) (ov:Ov) (rd:Option Nat) (e:Env) (h:Heap) (Q:Ex→Env→Heap→Prop),W P T ov rd (N n) e h Q=zjC P T ov rd (zab e g) ps.toList (N (n+1)) (N (n+1+zaf a)) e h Q)∧zam N a (n+1)∧zam N b (n+1+zaf a)
  | .region i A false,n=>(∀ (P:Program) (T:Tab) (ov:Ov) (rd:Option Nat) (e:Env) (h:Heap) (Q:Ex→Env→Heap→Prop),W P T ov rd (N n) e h Q=WOps P T ov (rops (N n)) (zcW (rops (N n)) 0) e h (zwA Q))∧opsF (rops (N n)) A.toList A.toList 0
  | .region i A true,n=>zle (N n)=true∧opsX (rops (N n)) A.toList A.toList 0
  | .exit i,n=>∀ (P:Program) (T:Tab) (ov:Ov) (rd:Option Nat) (e:Env) (h:Heap) (Q:Ex→Env→Heap→Prop),W P T ov rd (N n) e h Q=Q (.exit i) e h
  | .ret,n=>∀ (P:Program) (T:Tab) (ov:Ov) (rd:Option Nat) (e:Env) (h:Heap) (Q:Ex→Env→Heap→Prop),W P T ov rd (N n) e h Q=Q .ret e h
  | .skip,n=>∀ (P:Program) (T:Tab) (ov:Ov) (rd:Option Nat) (e:Env) (h:Heap) (Q:Ex→Env→Heap→Prop),W P T ov rd (N n) e h Q=Q .normal e h
  | .label _,n=>∀ (P:Program) (T:Tab) (ov:Ov) (rd:Option Nat) (e:Env) (h:Heap) (Q:Ex→Env→Heap→Prop),W P T ov rd (N n) e h Q=Q .normal e h
  | _,_=>True
theorem zq0 (A:Array Oper) (h:∀ o∈A.toList,zgV A.toList o=true):∀ (l:List Oper) (n:Nat),zcW A n=l→(∀ o∈l,o∈A.toList)→opsF A A.toList l n
  | [],n,hl,_=>nilK A n hl
  | o::l,n,hl,hm=>by
    have hl2:zcW A (n+1)=l:=by
      unfold zcW at hl ⊢
      have:=congrArg (List.drop 1) hl
      rw [List.drop_drop] at this
      exact this
    refine ⟨fun P T ov e h' Q=>?_,zq0 A h l (n+1) hl2 (fun x hx=>hm x (List.mem_cons_of_mem _ hx))⟩
    rw [hl,hl2,zrJ,zmj (h o (hm o (List.mem_cons_self ..)))]
theorem zqS (A:Array Oper) (h:∀ o∈A.toList,zgV A.toList o=true):∀ (l:List Oper) (n:Nat),zcW A n=l→(∀ o∈l,o∈A.toList)→opsX A A.toList l n
  | [],n,hl,_=>nilX A n hl
  | o::l,n,hl,hm=>by
    have hl2:zcW A (n+1)=l:=by
      unfold zcW at hl ⊢
      have:=congrArg (List.drop 1) hl
      rw [List.drop_drop] at this
      exact this
    refine ⟨fun P T ov b e h' Q=>?_,zqS A h l (n+1) hl2 (fun x hx=>hm x (List.mem_cons_of_mem _ hx))⟩
    rw [hl,hl2,zqp,zmj (h o (hm o (List.mem_cons_self ..)))]
theorem zed {N:Nat→Code} {a b x:Code} {n:Nat} (h:∀ k,k < zaf a+zaf b+1→N (n+k)=zaU x k) (ha:∀ k,0 < k→k≤zaf a→zaU x k=zaU a (k - 1)) (hb:∀ k,zaf a < k→zaU x k=zaU b (k - 1 - zaf a)) (pa:0 < zaf a) (pb:0 < zaf b) :
    N (n+1)=a∧N (n+1+zaf a)=b∧(∀ k,k < zaf a→N (n+1+k)=zaU a k)∧∀ k,k < zaf b→N (n+1+zaf a+k)=zaU b k:=by
  have h1:∀ k,k < zaf a→N (n+1+k)=zaU a k:=fun k hk=>by
    rw [show n+1+k=n+(k+1) by omega,h _ (by omega),ha _ (by omega) (by omega),Nat.add_sub_cancel]
  have h2:∀ k,k < zaf b→N (n+1+zaf a+k)=zaU b k:=fun k hk=>by
    rw [show n+1+zaf a+k=n+(k+1+zaf a) by omega,h _ (by omega),hb _ (by omega)]
    congr 1
    omega
  have h3:=h1 0 pa
  have h4:=h2 0 pb
  rw [zfJ] at h3 h4
  exact ⟨h3,h4,h1,h2⟩
theorem zaH (c:Code):0 < zaf c:=by cases c <;> simp [zaf]
theorem zfl {N:Nat→Code} {a x:Code} {n:Nat} (h:∀ k,k < zaf a+1→N (n+k)=zaU x k) (ha:∀ k,0 < k→zaU x k=zaU a (k - 1)):N (n+1)=a∧∀ k,k < zaf a→N (n+1+k)=zaU a k:=by
  have h1:∀ k,k < zaf a→N (n+1+k)=zaU a k:=fun k hk=>by
    rw [show n+1+k=n+(k+1) by omega,h _ (by omega),ha _ (by omega),Nat.add_sub_cancel]
  have h3:=h1 0 (zaH a)
  rw [zfJ] at h3
  exact ⟨h3,h1⟩
theorem zbR (N:Nat→Code):∀ (c:Code) (n:Nat),zcc c=true→(∀ k,k < zaf c→N (n+k)=zaU c k)→zam N c n
  | .seq a b,n,hw,h=>by
    have h0:N n=.seq a b:=h 0 (zaH _)
    simp only [zcc,Bool.and_eq_true] at hw
    obtain ⟨e1,e2,f1,f2⟩:=zed (a:=a) (b:=b) h (fun k h1 h2=>by simp only [zaU]; rw [if_neg (by omega),if_pos h2]) (fun k h1=>by simp only [zaU]; rw [if_neg (by omega),if_neg (by omega)]) (zaH _) (zaH _)
    exact ⟨fun P T ov=>by rw [e1,e2]; exact seqK _ a b h0 P T ov,zbR N a _ hw.1 f1,zbR N b _ hw.2 f2⟩
  | .cond o a b,n,hw,h=>by
    have h0:N n=.cond o a b:=h 0 (zaH _)
    simp only [zcc,Bool.and_eq_true] at hw
    obtain ⟨e1,e2,f1,f2⟩:=zed (a:=a) (b:=b) h (fun k h1 h2=>by simp only [zaU]; rw [if_neg (by omega),if_pos h2]) (fun k h1=>by simp only [zaU]; rw [if_neg (by omega),if_neg (by omega)]) (zaH _) (zaH _)
    exact ⟨fun P T ov=>by rw [e1,e2]; exact zBv _ a b h0 P T ov,zbR N a _ hw.1 f1,zbR N b _ hw.2 f2⟩
  | .rangeFunc g ps a b,n,hw,h=>by
    have h0:N n=.rangeFunc g ps a b:=h 0 (zaH _)
    simp only [zcc,Bool.and_eq_true] at hw
    obtain ⟨e1,e2,f1,f2⟩:=zed (a:=a) (b:=b) h (fun k h1 h2=>by simp only [zaU]; rw [if_neg (by omega),if_pos h2]) (fun k h1=>by simp only [zaU]; rw [if_neg (by omega),if_neg (by omega)]) (zaH _) (zaH _)
    exact ⟨fun P T ov rd e h' Q=>by rw [e1,e2,h0]; rfl,zbR N a _ hw.1 f1,zbR N b _ hw.2 f2⟩
  | .block i a,n,hw,h=>by
    have h0:N n=.block i a:=h 0 (zaH _)
    obtain ⟨e1,f1⟩:=zfl (a:=a) h (fun k h1=>by simp only [zaU]; rw [if_neg (by omega)])
    exact ⟨fun P T ov=>by rw [e1]; exact blkK _ a h0 P T ov,zbR N a _ hw f1⟩
  | .loop a,n,hw,h=>by
    have h0:N n=.loop a:=h 0 (zaH _)
    obtain ⟨e1,f1⟩:=zfl (a:=a) h (fun k h1=>by simp only [zaU]; rw [if_neg (by omega)])
    exact ⟨fun P T ov=>by rw [e1]; exact zB4 _ a h0 P T ov,zbR N a _ hw f1⟩
  | .scope a,n,hw,h=>by
    have h0:N n=.scope a:=h 0 (zaH _)
    obtain ⟨e1,f1⟩:=zfl (a:=a) h (fun k h1=>by simp only [zaU]; rw [if_neg (by omega)])
    exact ⟨fun P T ov=>by rw [e1]; exact zBp _ a h0 P T ov,zbR N a _ hw f1⟩
  | .region i A false,n,hw,h=>by
    have h0:N n=.region i A false:=h 0 (zaH _)
    have hr:rops (N n)=A:=by rw [h0]; rfl
    simp only [zcc,Bool.and_eq_true,List.all_eq_true] at hw
    refine ⟨fun P T ov=>?_,?_⟩
    · rw [hr]
      exact regK _ A h0 P T ov
    · rw [hr]
      exact zq0 A hw.1 _ 0 rfl (fun o ho=>ho)
  | .region i A true,n,hw,h=>by
    have h0:N n=.region i A true:=h 0 (zaH _)
    have hr:rops (N n)=A:=by rw [h0]; rfl
    simp only [zcc,Bool.and_eq_true,List.all_eq_true,Bool.not_true,Bool.false_or] at hw
    refine ⟨?_,?_⟩
    · rw [h0]
      exact hw.2
    · rw [hr]
      exact zqS A hw.1 _ 0 rfl (fun o ho=>ho)
  | .exit i,n,hw,h=>zBd _ (h 0 (zaH _))
  | .ret,n,hw,h=>retK _ (h 0 (zaH _))
  | .skip,n,hw,h=>zBQ _ (h 0 (zaH _))
  | .label l,n,hw,h=>zBf _ (h 0 (zaH _))
  | .goto l,n,hw,h=>trivial
  | .refuse w,n,hw,h=>trivial
theorem zai (N:Nat→Code) (f:Func) (hN:N=zaA f:=by rfl) (hw:zcc (zao f)=true:=by kernel_rfl):zam N (zao f) 0 :=
  zbR N _ 0 hw (fun k _=>by rw [hN,Nat.zero_add]; rfl)
theorem zaD {f:Func} (N:Nat→Code) (hN:N=zaA f:=by rfl) (h:f.body.isSome=true:=by rfl):f.body=some (N 0):=by
  rw [hN]
  unfold zaA
  rw [zfJ]
  unfold zao
  cases hb:f.body with
  | none=>rw [hb] at h; cases h
  | some c=>rfl
end Go.Am

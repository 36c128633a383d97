/- What a node of a function's code is to its walk: parts of a code by their places; statements for simp. No condition. -/
import Derived.Test.YtemapihoobmonaaDoorGSymx
import Derived.KernelRfl
namespace Go.Am
def rops : Code → Array Oper
  | .region _ a _ => a
  | _ => #[]
def kdrop (A : Array Oper) (n : Nat) : List Oper := A.toList.drop n
theorem regK (K : Code) (A : Array Oper) {i : Nat} (hK : K = .region i A false := by rfl) (P : Program) (T : Tab) (ov : Ov) : ∀ (rd : Option Nat) (e : Env) (h : Heap) (Q : Ex → Env → Heap → Prop), W P T ov rd K e h Q = WOps P T ov A (kdrop A 0) e h (normE Q) := by
  subst hK
  intro rd e h Q
  rfl
theorem nilK (A : Array Oper) (n : Nat) (hn : kdrop A n = [] := by rfl) (P : Program) (T : Tab) (ov : Ov) : ∀ (e : Env) (h : Heap) (Q : Env → Heap → Prop), WOps P T ov A (kdrop A n) e h Q = Q e h := by
  intro e h Q
  rw [hn]
  rfl
theorem nilX (A : Array Oper) (n : Nat) (hn : kdrop A n = [] := by rfl) (P : Program) (T : Tab) (ov : Ov) : ∀ (b j : Nat) (e : Env) (h : Heap) (Q : Env → Heap → Prop), WOpsX P T ov b A (kdrop A n) j e h Q = Q e h := by
  intro b j e h Q
  rw [hn]
  rfl
theorem seqK (K A B : Code) (hK : K = .seq A B := by rfl) (P : Program) (T : Tab) (ov : Ov) : ∀ (rd : Option Nat) (e : Env) (h : Heap) (Q : Ex → Env → Heap → Prop), W P T ov rd K e h Q = W P T ov rd A e h (thenE P T ov rd B Q) := by
  subst hK
  intro rd e h Q
  exact W_seq _ _ _ _ _
theorem condK (K A B : Code) {o : Operand} (hK : K = .cond o A B := by rfl) (P : Program) (T : Tab) (ov : Ov) : ∀ (rd : Option Nat) (e : Env) (h : Heap) (Q : Ex → Env → Heap → Prop), W P T ov rd K e h Q = condE' P T ov rd A B e h Q (evalOperand e o) := by
  subst hK
  intro rd e h Q
  rfl
theorem blkK (K A : Code) {i : Nat} (hK : K = .block i A := by rfl) (P : Program) (T : Tab) (ov : Ov) : ∀ (rd : Option Nat) (e : Env) (h : Heap) (Q : Ex → Env → Heap → Prop), W P T ov rd K e h Q = W P T ov rd A e h (blockE i Q) := by
  subst hK
  intro rd e h Q
  exact W_block _ _ _ _ _
theorem loopK (K A : Code) (hK : K = .loop A := by rfl) (P : Program) (T : Tab) (ov : Ov) : ∀ (rd : Option Nat) (e : Env) (h : Heap) (Q : Ex → Env → Heap → Prop), W P T ov rd K e h Q = W P T ov rd (.loop A) e h Q := by
  subst hK
  intro rd e h Q
  rfl
theorem scopeK (K A : Code) (hK : K = .scope A := by rfl) (P : Program) (T : Tab) (ov : Ov) : ∀ (rd : Option Nat) (e : Env) (h : Heap) (Q : Ex → Env → Heap → Prop), W P T ov rd K e h Q = W P T ov rd A e h Q := by
  subst hK
  intro rd e h Q
  rfl
theorem exitK (K : Code) {i : Nat} (hK : K = .exit i := by rfl) (P : Program) (T : Tab) (ov : Ov) : ∀ (rd : Option Nat) (e : Env) (h : Heap) (Q : Ex → Env → Heap → Prop), W P T ov rd K e h Q = Q (.exit i) e h := by
  subst hK
  intro rd e h Q
  rfl
theorem retK (K : Code) (hK : K = .ret := by rfl) (P : Program) (T : Tab) (ov : Ov) : ∀ (rd : Option Nat) (e : Env) (h : Heap) (Q : Ex → Env → Heap → Prop), W P T ov rd K e h Q = Q .ret e h := by
  subst hK
  intro rd e h Q
  rfl
theorem skipK (K : Code) (hK : K = .skip := by rfl) (P : Program) (T : Tab) (ov : Ov) : ∀ (rd : Option Nat) (e : Env) (h : Heap) (Q : Ex → Env → Heap → Prop), W P T ov rd K e h Q = Q .normal e h := by
  subst hK
  intro rd e h Q
  rfl
theorem labelK (K : Code) {i : Nat} (hK : K = .label i := by rfl) (P : Program) (T : Tab) (ov : Ov) : ∀ (rd : Option Nat) (e : Env) (h : Heap) (Q : Ex → Env → Heap → Prop), W P T ov rd K e h Q = Q .normal e h := by
  subst hK
  intro rd e h Q
  rfl
abbrev DrawK (K : Code) (A : Array Oper) : Prop := ∀ {P : Program} {T : Tab} {ov : Ov} {rd : Option Nat} {e : Env} {h0 h : Heap} {Q : Ex → Env → Heap → Prop}, Ext h0 h → WOpsX P T ov (min h0.low h0.size) A (kdrop A 0) 0 e h (fun e' h1 => Grw h0 h1 ∧ endZ h0 Q e' h1) → W P T ov rd K e h Q
theorem drawK {K : Code} {A : Array Oper} {i : Nat} (hK : K = .region i A true) (ht : apartAll A (masks A.toList []) = true) : DrawK K A := by
  subst hK
  intro P T ov rd e h0 h Q z hw
  exact W_draw' (ops := A.toList) z ht hw
theorem nd {p q : Prop} (h : p) (g : q) : p ∧ q := ⟨h, g⟩
end Go.Am
namespace Go.Am
set_option linter.unusedVariables false
def ncount : Code → Nat
  | .seq a b => ncount a + ncount b + 1
  | .cond _ a b => ncount a + ncount b + 1
  | .block _ a => ncount a + 1
  | .loop a => ncount a + 1
  | .scope a => ncount a + 1
  | .rangeFunc _ _ a b => ncount a + ncount b + 1
  | _ => 1
def nodeAt : Code → Nat → Code
  | .seq a b, n => if n = 0 then .seq a b else if n ≤ ncount a then nodeAt a (n - 1) else nodeAt b (n - 1 - ncount a)
  | .cond o a b, n => if n = 0 then .cond o a b else if n ≤ ncount a then nodeAt a (n - 1) else nodeAt b (n - 1 - ncount a)
  | .block i a, n => if n = 0 then .block i a else nodeAt a (n - 1)
  | .loop a, n => if n = 0 then .loop a else nodeAt a (n - 1)
  | .scope a, n => if n = 0 then .scope a else nodeAt a (n - 1)
  | .rangeFunc g ps a b, n => if n = 0 then .rangeFunc g ps a b else if n ≤ ncount a then nodeAt a (n - 1) else nodeAt b (n - 1 - ncount a)
  | c, _ => c
def codeOf (f : Func) : Code := f.body.getD .skip
def nodeF (f : Func) : Nat → Code := nodeAt (codeOf f)
theorem nodeAt_zero (c : Code) : nodeAt c 0 = c := by cases c <;> rfl
def dstL : List Oper → Nat → Option Tmp
  | [], _ => none
  | o :: _, 0 => o.dst
  | _ :: l, j + 1 => dstL l j
theorem dstL_eq (l : List Oper) (j : Nat) : dstL l j = (l[j]?).bind (·.dst) := by
  induction l generalizing j with
  | nil => rfl
  | cons o l ih => cases j with
    | zero => rfl
    | succ j => exact ih j
def wantG (L : List Oper) (e : Env) : Option (Nat × Bool) → Bool
  | none => true
  | some (j, g) => guardE (e.get ((dstL L j).getD 0)) g
def guardOk (L : List Oper) (o : Oper) : Bool := match o.guard with
  | none => true
  | some (j, _) => (dstL L j).isSome
theorem wantG_eq {A : Array Oper} {o : Oper} (h : guardOk A.toList o = true) (e : Env) : wantedA A o e = wantG A.toList e o.guard := by
  unfold guardOk at h
  unfold wantedA
  cases hg : o.guard with
  | none => rfl
  | some p =>
    obtain ⟨j, g⟩ := p
    rw [hg] at h
    have e1 : A[j]? = A.toList[j]? := by simp
    have h2 : (dstL A.toList j).isSome = true := h
    show _ = guardE (e.get ((dstL A.toList j).getD 0)) g
    simp only [e1, ← dstL_eq]
    cases hd : dstL A.toList j with
    | none => rw [hd] at h2; cases h2
    | some t => rfl
def drawOk : Code → Bool
  | .region _ A true => apartAll A (masks A.toList [])
  | _ => false
theorem drawN {K : Code} (hd : drawOk K = true) : DrawK K (rops K) := by
  unfold drawOk at hd
  split at hd
  · rename_i i A
    exact drawK rfl hd
  · cases hd
def walkOk : Code → Bool
  | .seq a b => walkOk a && walkOk b
  | .cond _ a b => walkOk a && walkOk b
  | .block _ a => walkOk a
  | .loop a => walkOk a
  | .scope a => walkOk a
  | .rangeFunc _ _ a b => walkOk a && walkOk b
  | .region i A d => A.toList.all (guardOk A.toList) && (!d || drawOk (.region i A d))
  | _ => true
def opsF (A : Array Oper) (L : List Oper) : List Oper → Nat → Prop
  | [], n => ∀ (P : Program) (T : Tab) (ov : Ov) (e : Env) (h : Heap) (Q : Env → Heap → Prop), WOps P T ov A (kdrop A n) e h Q = Q e h
  | o :: l, n => (∀ (P : Program) (T : Tab) (ov : Ov) (e : Env) (h : Heap) (Q : Env → Heap → Prop), WOps P T ov A (kdrop A n) e h Q = amStep P T ov A o (kdrop A (n + 1)) o.dst e h Q (wantG L e o.guard)) ∧ opsF A L l (n + 1)
def opsX (A : Array Oper) (L : List Oper) : List Oper → Nat → Prop
  | [], n => ∀ (P : Program) (T : Tab) (ov : Ov) (b j : Nat) (e : Env) (h : Heap) (Q : Env → Heap → Prop), WOpsX P T ov b A (kdrop A n) j e h Q = Q e h
  | o :: l, n => (∀ (P : Program) (T : Tab) (ov : Ov) (b : Nat) (e : Env) (h : Heap) (Q : Env → Heap → Prop), WOpsX P T ov b A (kdrop A n) n e h Q = amStepX P T ov b A o (kdrop A (n + 1)) n o.dst e h Q (wantG L e o.guard) (quietS o)) ∧ opsX A L l (n + 1)
def factsF (N : Nat → Code) : Code → Nat → Prop
  | .seq a b, n => (∀ (P : Program) (T : Tab) (ov : Ov) (rd : Option Nat) (e : Env) (h : Heap) (Q : Ex → Env → Heap → Prop), W P T ov rd (N n) e h Q = W P T ov rd (N (n + 1)) e h (thenE P T ov rd (N (n + 1 + ncount a)) Q)) ∧ factsF N a (n + 1) ∧ factsF N b (n + 1 + ncount a)
  | .cond o a b, n => (∀ (P : Program) (T : Tab) (ov : Ov) (rd : Option Nat) (e : Env) (h : Heap) (Q : Ex → Env → Heap → Prop), W P T ov rd (N n) e h Q = condE' P T ov rd (N (n + 1)) (N (n + 1 + ncount a)) e h Q (evalOperand e o)) ∧ factsF N a (n + 1) ∧ factsF N b (n + 1 + ncount a)
  | .block i a, n => (∀ (P : Program) (T : Tab) (ov : Ov) (rd : Option Nat) (e : Env) (h : Heap) (Q : Ex → Env → Heap → Prop), W P T ov rd (N n) e h Q = W P T ov rd (N (n + 1)) e h (blockE i Q)) ∧ factsF N a (n + 1)
  | .loop a, n => (∀ (P : Program) (T : Tab) (ov : Ov) (rd : Option Nat) (e : Env) (h : Heap) (Q : Ex → Env → Heap → Prop), W P T ov rd (N n) e h Q = W P T ov rd (.loop (N (n + 1))) e h Q) ∧ factsF N a (n + 1)
  | .scope a, n => (∀ (P : Program) (T : Tab) (ov : Ov) (rd : Option Nat) (e : Env) (h : Heap) (Q : Ex → Env → Heap → Prop), W P T ov rd (N n) e h Q = W P T ov rd (N (n + 1)) e h Q) ∧ factsF N a (n + 1)
  | .rangeFunc g ps a b, n => (∀ (P : Program) (T : Tab) (ov : Ov) (rd : Option Nat) (e : Env) (h : Heap) (Q : Ex → Env → Heap → Prop), W P T ov rd (N n) e h Q = rangeE P T ov rd (evalOperand e g) ps.toList (N (n + 1)) (N (n + 1 + ncount a)) e h Q) ∧ factsF N a (n + 1) ∧ factsF N b (n + 1 + ncount a)
  | .region i A false, n => (∀ (P : Program) (T : Tab) (ov : Ov) (rd : Option Nat) (e : Env) (h : Heap) (Q : Ex → Env → Heap → Prop), W P T ov rd (N n) e h Q = WOps P T ov (rops (N n)) (kdrop (rops (N n)) 0) e h (normE Q)) ∧ opsF (rops (N n)) A.toList A.toList 0
  | .region i A true, n => drawOk (N n) = true ∧ opsX (rops (N n)) A.toList A.toList 0
  | .exit i, n => ∀ (P : Program) (T : Tab) (ov : Ov) (rd : Option Nat) (e : Env) (h : Heap) (Q : Ex → Env → Heap → Prop), W P T ov rd (N n) e h Q = Q (.exit i) e h
  | .ret, n => ∀ (P : Program) (T : Tab) (ov : Ov) (rd : Option Nat) (e : Env) (h : Heap) (Q : Ex → Env → Heap → Prop), W P T ov rd (N n) e h Q = Q .ret e h
  | .skip, n => ∀ (P : Program) (T : Tab) (ov : Ov) (rd : Option Nat) (e : Env) (h : Heap) (Q : Ex → Env → Heap → Prop), W P T ov rd (N n) e h Q = Q .normal e h
  | .label _, n => ∀ (P : Program) (T : Tab) (ov : Ov) (rd : Option Nat) (e : Env) (h : Heap) (Q : Ex → Env → Heap → Prop), W P T ov rd (N n) e h Q = Q .normal e h
  | _, _ => True
theorem opsF_all (A : Array Oper) (h : ∀ o ∈ A.toList, guardOk A.toList o = true) : ∀ (l : List Oper) (n : Nat), kdrop A n = l → (∀ o ∈ l, o ∈ A.toList) → opsF A A.toList l n
  | [], n, hl, _ => nilK A n hl
  | o :: l, n, hl, hm => by
    have hl2 : kdrop A (n + 1) = l := by
      unfold kdrop at hl ⊢
      have := congrArg (List.drop 1) hl
      rw [List.drop_drop] at this
      exact this
    refine ⟨fun P T ov e h' Q => ?_, opsF_all A h l (n + 1) hl2 (fun x hx => hm x (List.mem_cons_of_mem _ hx))⟩
    rw [hl, hl2, WOps_consG, wantG_eq (h o (hm o (List.mem_cons_self ..)))]
theorem opsX_all (A : Array Oper) (h : ∀ o ∈ A.toList, guardOk A.toList o = true) : ∀ (l : List Oper) (n : Nat), kdrop A n = l → (∀ o ∈ l, o ∈ A.toList) → opsX A A.toList l n
  | [], n, hl, _ => nilX A n hl
  | o :: l, n, hl, hm => by
    have hl2 : kdrop A (n + 1) = l := by
      unfold kdrop at hl ⊢
      have := congrArg (List.drop 1) hl
      rw [List.drop_drop] at this
      exact this
    refine ⟨fun P T ov b e h' Q => ?_, opsX_all A h l (n + 1) hl2 (fun x hx => hm x (List.mem_cons_of_mem _ hx))⟩
    rw [hl, hl2, WOpsX_consG, wantG_eq (h o (hm o (List.mem_cons_self ..)))]
theorem two_parts {N : Nat → Code} {a b x : Code} {n : Nat} (h : ∀ k, k < ncount a + ncount b + 1 → N (n + k) = nodeAt x k) (ha : ∀ k, 0 < k → k ≤ ncount a → nodeAt x k = nodeAt a (k - 1)) (hb : ∀ k, ncount a < k → nodeAt x k = nodeAt b (k - 1 - ncount a)) (pa : 0 < ncount a) (pb : 0 < ncount b) :
    N (n + 1) = a ∧ N (n + 1 + ncount a) = b ∧ (∀ k, k < ncount a → N (n + 1 + k) = nodeAt a k) ∧ ∀ k, k < ncount b → N (n + 1 + ncount a + k) = nodeAt b k := by
  have h1 : ∀ k, k < ncount a → N (n + 1 + k) = nodeAt a k := fun k hk => by
    rw [show n + 1 + k = n + (k + 1) by omega, h _ (by omega), ha _ (by omega) (by omega), Nat.add_sub_cancel]
  have h2 : ∀ k, k < ncount b → N (n + 1 + ncount a + k) = nodeAt b k := fun k hk => by
    rw [show n + 1 + ncount a + k = n + (k + 1 + ncount a) by omega, h _ (by omega), hb _ (by omega)]
    congr 1
    omega
  have h3 := h1 0 pa
  have h4 := h2 0 pb
  rw [nodeAt_zero] at h3 h4
  exact ⟨h3, h4, h1, h2⟩
theorem ncount_pos (c : Code) : 0 < ncount c := by cases c <;> simp [ncount]
theorem one_part {N : Nat → Code} {a x : Code} {n : Nat} (h : ∀ k, k < ncount a + 1 → N (n + k) = nodeAt x k) (ha : ∀ k, 0 < k → nodeAt x k = nodeAt a (k - 1)) : N (n + 1) = a ∧ ∀ k, k < ncount a → N (n + 1 + k) = nodeAt a k := by
  have h1 : ∀ k, k < ncount a → N (n + 1 + k) = nodeAt a k := fun k hk => by
    rw [show n + 1 + k = n + (k + 1) by omega, h _ (by omega), ha _ (by omega), Nat.add_sub_cancel]
  have h3 := h1 0 (ncount_pos a)
  rw [nodeAt_zero] at h3
  exact ⟨h3, h1⟩
theorem factsF_all (N : Nat → Code) : ∀ (c : Code) (n : Nat), walkOk c = true → (∀ k, k < ncount c → N (n + k) = nodeAt c k) → factsF N c n
  | .seq a b, n, hw, h => by
    have h0 : N n = .seq a b := h 0 (ncount_pos _)
    simp only [walkOk, Bool.and_eq_true] at hw
    obtain ⟨e1, e2, f1, f2⟩ := two_parts (a := a) (b := b) h (fun k h1 h2 => by simp only [nodeAt]; rw [if_neg (by omega), if_pos h2]) (fun k h1 => by simp only [nodeAt]; rw [if_neg (by omega), if_neg (by omega)]) (ncount_pos _) (ncount_pos _)
    exact ⟨fun P T ov => by rw [e1, e2]; exact seqK _ a b h0 P T ov, factsF_all N a _ hw.1 f1, factsF_all N b _ hw.2 f2⟩
  | .cond o a b, n, hw, h => by
    have h0 : N n = .cond o a b := h 0 (ncount_pos _)
    simp only [walkOk, Bool.and_eq_true] at hw
    obtain ⟨e1, e2, f1, f2⟩ := two_parts (a := a) (b := b) h (fun k h1 h2 => by simp only [nodeAt]; rw [if_neg (by omega), if_pos h2]) (fun k h1 => by simp only [nodeAt]; rw [if_neg (by omega), if_neg (by omega)]) (ncount_pos _) (ncount_pos _)
    exact ⟨fun P T ov => by rw [e1, e2]; exact condK _ a b h0 P T ov, factsF_all N a _ hw.1 f1, factsF_all N b _ hw.2 f2⟩
  | .rangeFunc g ps a b, n, hw, h => by
    have h0 : N n = .rangeFunc g ps a b := h 0 (ncount_pos _)
    simp only [walkOk, Bool.and_eq_true] at hw
    obtain ⟨e1, e2, f1, f2⟩ := two_parts (a := a) (b := b) h (fun k h1 h2 => by simp only [nodeAt]; rw [if_neg (by omega), if_pos h2]) (fun k h1 => by simp only [nodeAt]; rw [if_neg (by omega), if_neg (by omega)]) (ncount_pos _) (ncount_pos _)
    exact ⟨fun P T ov rd e h' Q => by rw [e1, e2, h0]; rfl, factsF_all N a _ hw.1 f1, factsF_all N b _ hw.2 f2⟩
  | .block i a, n, hw, h => by
    have h0 : N n = .block i a := h 0 (ncount_pos _)
    obtain ⟨e1, f1⟩ := one_part (a := a) h (fun k h1 => by simp only [nodeAt]; rw [if_neg (by omega)])
    exact ⟨fun P T ov => by rw [e1]; exact blkK _ a h0 P T ov, factsF_all N a _ hw f1⟩
  | .loop a, n, hw, h => by
    have h0 : N n = .loop a := h 0 (ncount_pos _)
    obtain ⟨e1, f1⟩ := one_part (a := a) h (fun k h1 => by simp only [nodeAt]; rw [if_neg (by omega)])
    exact ⟨fun P T ov => by rw [e1]; exact loopK _ a h0 P T ov, factsF_all N a _ hw f1⟩
  | .scope a, n, hw, h => by
    have h0 : N n = .scope a := h 0 (ncount_pos _)
    obtain ⟨e1, f1⟩ := one_part (a := a) h (fun k h1 => by simp only [nodeAt]; rw [if_neg (by omega)])
    exact ⟨fun P T ov => by rw [e1]; exact scopeK _ a h0 P T ov, factsF_all N a _ hw f1⟩
  | .region i A false, n, hw, h => by
    have h0 : N n = .region i A false := h 0 (ncount_pos _)
    have hr : rops (N n) = A := by rw [h0]; rfl
    simp only [walkOk, Bool.and_eq_true, List.all_eq_true] at hw
    refine ⟨fun P T ov => ?_, ?_⟩
    · rw [hr]
      exact regK _ A h0 P T ov
    · rw [hr]
      exact opsF_all A hw.1 _ 0 rfl (fun o ho => ho)
  | .region i A true, n, hw, h => by
    have h0 : N n = .region i A true := h 0 (ncount_pos _)
    have hr : rops (N n) = A := by rw [h0]; rfl
    simp only [walkOk, Bool.and_eq_true, List.all_eq_true, Bool.not_true, Bool.false_or] at hw
    refine ⟨?_, ?_⟩
    · rw [h0]
      exact hw.2
    · rw [hr]
      exact opsX_all A hw.1 _ 0 rfl (fun o ho => ho)
  | .exit i, n, hw, h => exitK _ (h 0 (ncount_pos _))
  | .ret, n, hw, h => retK _ (h 0 (ncount_pos _))
  | .skip, n, hw, h => skipK _ (h 0 (ncount_pos _))
  | .label l, n, hw, h => labelK _ (h 0 (ncount_pos _))
  | .goto l, n, hw, h => trivial
  | .refuse w, n, hw, h => trivial
theorem factsOf (N : Nat → Code) (f : Func) (hN : N = nodeF f := by rfl) (hw : walkOk (codeOf f) = true := by kernel_rfl) : factsF N (codeOf f) 0 :=
  factsF_all N _ 0 hw (fun k _ => by rw [hN, Nat.zero_add]; rfl)
theorem bodyF {f : Func} (N : Nat → Code) (hN : N = nodeF f := by rfl) (h : f.body.isSome = true := by rfl) : f.body = some (N 0) := by
  rw [hN]
  unfold nodeF
  rw [nodeAt_zero]
  unfold codeOf
  cases hb : f.body with
  | none => rw [hb] at h; cases h
  | some c => rfl
end Go.Am

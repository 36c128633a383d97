/- What a node of a function's code is to its walk: parts of a code by their places; statements for simp. No condition. -/
import Derived.Test.YtemapihoobmonaaGreatDoorG20
import Derived.KernelRfl
namespace Go.Am
def rops : Code → Array Oper
  | .region _ a _ => a
  | _ => #[]
def zcC (A : Array Oper) (n : Nat) : List Oper := A.toList.drop n
theorem regK (K : Code) (A : Array Oper) {i : Nat} (hK : K = .region i A false := by rfl) (P : Program) (T : Tab) (ov : Ov) : ∀ (rd : Option Nat) (e : Env) (h : Heap) (Q : Ex → Env → Heap → Prop), W P T ov rd K e h Q = WOps P T ov A (zcC A 0) e h (zuK Q) := by
  subst hK
  intro rd e h Q
  rfl
theorem nilK (A : Array Oper) (n : Nat) (hn : zcC A n = [] := by rfl) (P : Program) (T : Tab) (ov : Ov) : ∀ (e : Env) (h : Heap) (Q : Env → Heap → Prop), WOps P T ov A (zcC A n) e h Q = Q e h := by
  intro e h Q
  rw [hn]
  rfl
theorem nilX (A : Array Oper) (n : Nat) (hn : zcC A n = [] := by rfl) (P : Program) (T : Tab) (ov : Ov) : ∀ (b j : Nat) (e : Env) (h : Heap) (Q : Env → Heap → Prop), WOpsX P T ov b A (zcC A n) j e h Q = Q e h := by
  intro b j e h Q
  rw [hn]
  rfl
theorem seqK (K A B : Code) (hK : K = .seq A B := by rfl) (P : Program) (T : Tab) (ov : Ov) : ∀ (rd : Option Nat) (e : Env) (h : Heap) (Q : Ex → Env → Heap → Prop), W P T ov rd K e h Q = W P T ov rd A e h (zq7 P T ov rd B Q) := by
  subst hK
  intro rd e h Q
  exact zyR _ _ _ _ _
theorem zyJ (K A B : Code) {o : Operand} (hK : K = .cond o A B := by rfl) (P : Program) (T : Tab) (ov : Ov) : ∀ (rd : Option Nat) (e : Env) (h : Heap) (Q : Ex → Env → Heap → Prop), W P T ov rd K e h Q = zit P T ov rd A B e h Q (zaa e o) := by
  subst hK
  intro rd e h Q
  rfl
theorem blkK (K A : Code) {i : Nat} (hK : K = .block i A := by rfl) (P : Program) (T : Tab) (ov : Ov) : ∀ (rd : Option Nat) (e : Env) (h : Heap) (Q : Ex → Env → Heap → Prop), W P T ov rd K e h Q = W P T ov rd A e h (zg2 i Q) := by
  subst hK
  intro rd e h Q
  exact ztF _ _ _ _ _
theorem zAc (K A : Code) (hK : K = .loop A := by rfl) (P : Program) (T : Tab) (ov : Ov) : ∀ (rd : Option Nat) (e : Env) (h : Heap) (Q : Ex → Env → Heap → Prop), W P T ov rd K e h Q = W P T ov rd (.loop A) e h Q := by
  subst hK
  intro rd e h Q
  rfl
theorem zzb (K A : Code) (hK : K = .scope A := by rfl) (P : Program) (T : Tab) (ov : Ov) : ∀ (rd : Option Nat) (e : Env) (h : Heap) (Q : Ex → Env → Heap → Prop), W P T ov rd K e h Q = W P T ov rd A e h Q := by
  subst hK
  intro rd e h Q
  rfl
theorem zyv (K : Code) {i : Nat} (hK : K = .exit i := by rfl) (P : Program) (T : Tab) (ov : Ov) : ∀ (rd : Option Nat) (e : Env) (h : Heap) (Q : Ex → Env → Heap → Prop), W P T ov rd K e h Q = Q (.exit i) e h := by
  subst hK
  intro rd e h Q
  rfl
theorem retK (K : Code) (hK : K = .ret := by rfl) (P : Program) (T : Tab) (ov : Ov) : ∀ (rd : Option Nat) (e : Env) (h : Heap) (Q : Ex → Env → Heap → Prop), W P T ov rd K e h Q = Q .ret e h := by
  subst hK
  intro rd e h Q
  rfl
theorem zzE (K : Code) (hK : K = .skip := by rfl) (P : Program) (T : Tab) (ov : Ov) : ∀ (rd : Option Nat) (e : Env) (h : Heap) (Q : Ex → Env → Heap → Prop), W P T ov rd K e h Q = Q .normal e h := by
  subst hK
  intro rd e h Q
  rfl
theorem zyO (K : Code) {i : Nat} (hK : K = .label i := by rfl) (P : Program) (T : Tab) (ov : Ov) : ∀ (rd : Option Nat) (e : Env) (h : Heap) (Q : Ex → Env → Heap → Prop), W P T ov rd K e h Q = Q .normal e h := by
  subst hK
  intro rd e h Q
  rfl
abbrev zyQ (K : Code) (A : Array Oper) : Prop := ∀ {P : Program} {T : Tab} {ov : Ov} {rd : Option Nat} {e : Env} {h0 h : Heap} {Q : Ex → Env → Heap → Prop}, Ext h0 h → WOpsX P T ov (min h0.low h0.size) A (zcC A 0) 0 e h (fun e' h1 => Grw h0 h1 ∧ endZ h0 Q e' h1) → W P T ov rd K e h Q
theorem zAk {K : Code} {A : Array Oper} {i : Nat} (hK : K = .region i A true) (ht : zcX A (zcA A.toList []) = true) : zyQ K A := by
  subst hK
  intro P T ov rd e h0 h Q z hw
  exact zxU (ops := A.toList) z ht hw
theorem nd {p q : Prop} (h : p) (g : q) : p ∧ q := ⟨h, g⟩
end Go.Am
namespace Go.Am
set_option linter.unusedVariables false
def zah : Code → Nat
  | .seq a b => zah a + zah b + 1
  | .cond _ a b => zah a + zah b + 1
  | .block _ a => zah a + 1
  | .loop a => zah a + 1
  | .scope a => zah a + 1
  | .rangeFunc _ _ a b => zah a + zah b + 1
  | _ => 1
def zaJ : Code → Nat → Code
  | .seq a b, n => if n = 0 then .seq a b else if n ≤ zah a then zaJ a (n - 1) else zaJ b (n - 1 - zah a)
  | .cond o a b, n => if n = 0 then .cond o a b else if n ≤ zah a then zaJ a (n - 1) else zaJ b (n - 1 - zah a)
  | .block i a, n => if n = 0 then .block i a else zaJ a (n - 1)
  | .loop a, n => if n = 0 then .loop a else zaJ a (n - 1)
  | .scope a, n => if n = 0 then .scope a else zaJ a (n - 1)
  | .rangeFunc g ps a b, n => if n = 0 then .rangeFunc g ps a b else if n ≤ zah a then zaJ a (n - 1) else zaJ b (n - 1 - zah a)
  | c, _ => c
def zap (f : Func) : Code := f.body.getD .skip
def zaB (f : Func) : Nat → Code := zaJ (zap f)
theorem zfh (c : Code) : zaJ c 0 = c := by cases c <;> rfl
def dstL : List Oper → Nat → Option Tmp
  | [], _ => none
  | o :: _, 0 => o.dst
  | _ :: l, j + 1 => dstL l j
theorem zwY (l : List Oper) (j : Nat) : dstL l j = (l[j]?).bind (·.dst) := by
  induction l generalizing j with
  | nil => rfl
  | cons o l ih => cases j with
    | zero => rfl
    | succ j => exact ih j
def zaA (L : List Oper) (e : Env) : Option (Nat × Bool) → Bool
  | none => true
  | some (j, g) => zfN (e.get ((dstL L j).getD 0)) g
def zf9 (L : List Oper) (o : Oper) : Bool := match o.guard with
  | none => true
  | some (j, _) => (dstL L j).isSome
theorem zko {A : Array Oper} {o : Oper} (h : zf9 A.toList o = true) (e : Env) : zaW A o e = zaA A.toList e o.guard := by
  unfold zf9 at h
  unfold zaW
  cases hg : o.guard with
  | none => rfl
  | some p =>
    obtain ⟨j, g⟩ := p
    rw [hg] at h
    have e1 : A[j]? = A.toList[j]? := by simp
    have h2 : (dstL A.toList j).isSome = true := h
    show _ = zfN (e.get ((dstL A.toList j).getD 0)) g
    simp only [e1, ← zwY]
    cases hd : dstL A.toList j with
    | none => rw [hd] at h2; cases h2
    | some t => rfl
def zjT : Code → Bool
  | .region _ A true => zcX A (zcA A.toList [])
  | _ => false
theorem zdQ {K : Code} (hd : zjT K = true) : zyQ K (rops K) := by
  unfold zjT at hd
  split at hd
  · rename_i i A
    exact zAk rfl hd
  · cases hd
def zb0 : Code → Bool
  | .seq a b => zb0 a && zb0 b
  | .cond _ a b => zb0 a && zb0 b
  | .block _ a => zb0 a
  | .loop a => zb0 a
  | .scope a => zb0 a
  | .rangeFunc _ _ a b => zb0 a && zb0 b
  | .region i A d => A.toList.all (zf9 A.toList) && (!d || zjT (.region i A d))
  | _ => true
def opsF (A : Array Oper) (L : List Oper) : List Oper → Nat → Prop
  | [], n => ∀ (P : Program) (T : Tab) (ov : Ov) (e : Env) (h : Heap) (Q : Env → Heap → Prop), WOps P T ov A (zcC A n) e h Q = Q e h
  | o :: l, n => (∀ (P : Program) (T : Tab) (ov : Ov) (e : Env) (h : Heap) (Q : Env → Heap → Prop), WOps P T ov A (zcC A n) e h Q = zpa P T ov A o (zcC A (n + 1)) o.dst e h Q (zaA L e o.guard)) ∧ opsF A L l (n + 1)
def opsX (A : Array Oper) (L : List Oper) : List Oper → Nat → Prop
  | [], n => ∀ (P : Program) (T : Tab) (ov : Ov) (b j : Nat) (e : Env) (h : Heap) (Q : Env → Heap → Prop), WOpsX P T ov b A (zcC A n) j e h Q = Q e h
  | o :: l, n => (∀ (P : Program) (T : Tab) (ov : Ov) (b : Nat) (e : Env) (h : Heap) (Q : Env → Heap → Prop), WOpsX P T ov b A (zcC A n) n e h Q = zi0 P T ov b A o (zcC A (n + 1)) n o.dst e h Q (zaA L e o.guard) (zam o)) ∧ opsX A L l (n + 1)
def zao (N : Nat → Code) : Code → Nat → Prop
  | .seq a b, n => (∀ (P : Program) (T : Tab) (ov : Ov) (rd : Option Nat) (e : Env) (h : Heap) (Q : Ex → Env → Heap → Prop), W P T ov rd (N n) e h Q = W P T ov rd (N (n + 1)) e h (zq7 P T ov rd (N (n + 1 + zah a)) Q)) ∧ zao N a (n + 1) ∧ zao N b (n + 1 + zah a)
  | .cond o a b, n => (∀ (P : Program) (T : Tab) (ov : Ov) (rd : Option Nat) (e : Env) (h : Heap) (Q : Ex → Env → Heap → Prop), W P T ov rd (N n) e h Q = zit P T ov rd (N (n + 1)) (N (n + 1 + zah a)) e h Q (zaa e o)) ∧ zao N a (n + 1) ∧ zao N b (n + 1 + zah a)
  | .block i a, n => (∀ (P : Program) (T : Tab) (ov : Ov) (rd : Option Nat) (e : Env) (h : Heap) (Q : Ex → Env → Heap → Prop), W P T ov rd (N n) e h Q = W P T ov rd (N (n + 1)) e h (zg2 i Q)) ∧ zao N a (n + 1)
  | .loop a, n => (∀ (P : Program) (T : Tab) (ov : Ov) (rd : Option Nat) (e : Env) (h : Heap) (Q : Ex → Env → Heap → Prop), W P T ov rd (N n) e h Q = W P T ov rd (.loop (N (n + 1))) e h Q) ∧ zao N a (n + 1)
  | .scope a, n => (∀ (P : Program) (T : Tab) (ov : Ov) (rd : Option Nat) (e : Env) (h : Heap) (Q : Ex → Env → Heap → Prop), W P T ov rd (N n) e h Q = W P T ov rd (N (n + 1)) e h Q) ∧ zao N a (n + 1)
  | .rangeFunc g ps a b, n => (∀ (P : Program) (T : Tab) (ov : Ov) (rd : Option Nat) (e : Env) (h : Heap) (Q : Ex → Env → Heap → Prop), W P T ov rd (N n) e h Q = zhS P T ov rd (zaa e g) ps.toList (N (n + 1)) (N (n + 1 + zah a)) e h Q) ∧ zao N a (n + 1) ∧ zao N b (n + 1 + zah a)
  | .region i A false, n => (∀ (P : Program) (T : Tab) (ov : Ov) (rd : Option Nat) (e : Env) (h : Heap) (Q : Ex → Env → Heap → Prop), W P T ov rd (N n) e h Q = WOps P T ov (rops (N n)) (zcC (rops (N n)) 0) e h (zuK Q)) ∧ opsF (rops (N n)) A.toList A.toList 0
  | .region i A true, n => zjT (N n) = true ∧ opsX (rops (N n)) A.toList A.toList 0
  | .exit i, n => ∀ (P : Program) (T : Tab) (ov : Ov) (rd : Option Nat) (e : Env) (h : Heap) (Q : Ex → Env → Heap → Prop), W P T ov rd (N n) e h Q = Q (.exit i) e h
  | .ret, n => ∀ (P : Program) (T : Tab) (ov : Ov) (rd : Option Nat) (e : Env) (h : Heap) (Q : Ex → Env → Heap → Prop), W P T ov rd (N n) e h Q = Q .ret e h
  | .skip, n => ∀ (P : Program) (T : Tab) (ov : Ov) (rd : Option Nat) (e : Env) (h : Heap) (Q : Ex → Env → Heap → Prop), W P T ov rd (N n) e h Q = Q .normal e h
  | .label _, n => ∀ (P : Program) (T : Tab) (ov : Ov) (rd : Option Nat) (e : Env) (h : Heap) (Q : Ex → Env → Heap → Prop), W P T ov rd (N n) e h Q = Q .normal e h
  | _, _ => True
theorem zpD (A : Array Oper) (h : ∀ o ∈ A.toList, zf9 A.toList o = true) : ∀ (l : List Oper) (n : Nat), zcC A n = l → (∀ o ∈ l, o ∈ A.toList) → opsF A A.toList l n
  | [], n, hl, _ => nilK A n hl
  | o :: l, n, hl, hm => by
    have hl2 : zcC A (n + 1) = l := by
      unfold zcC at hl ⊢
      have := congrArg (List.drop 1) hl
      rw [List.drop_drop] at this
      exact this
    refine ⟨fun P T ov e h' Q => ?_, zpD A h l (n + 1) hl2 (fun x hx => hm x (List.mem_cons_of_mem _ hx))⟩
    rw [hl, hl2, zqn, zko (h o (hm o (List.mem_cons_self ..)))]
theorem zpI (A : Array Oper) (h : ∀ o ∈ A.toList, zf9 A.toList o = true) : ∀ (l : List Oper) (n : Nat), zcC A n = l → (∀ o ∈ l, o ∈ A.toList) → opsX A A.toList l n
  | [], n, hl, _ => nilX A n hl
  | o :: l, n, hl, hm => by
    have hl2 : zcC A (n + 1) = l := by
      unfold zcC at hl ⊢
      have := congrArg (List.drop 1) hl
      rw [List.drop_drop] at this
      exact this
    refine ⟨fun P T ov b e h' Q => ?_, zpI A h l (n + 1) hl2 (fun x hx => hm x (List.mem_cons_of_mem _ hx))⟩
    rw [hl, hl2, znK, zko (h o (hm o (List.mem_cons_self ..)))]
theorem zdG {N : Nat → Code} {a b x : Code} {n : Nat} (h : ∀ k, k < zah a + zah b + 1 → N (n + k) = zaJ x k) (ha : ∀ k, 0 < k → k ≤ zah a → zaJ x k = zaJ a (k - 1)) (hb : ∀ k, zah a < k → zaJ x k = zaJ b (k - 1 - zah a)) (pa : 0 < zah a) (pb : 0 < zah b) :
    N (n + 1) = a ∧ N (n + 1 + zah a) = b ∧ (∀ k, k < zah a → N (n + 1 + k) = zaJ a k) ∧ ∀ k, k < zah b → N (n + 1 + zah a + k) = zaJ b k := by
  have h1 : ∀ k, k < zah a → N (n + 1 + k) = zaJ a k := fun k hk => by
    rw [show n + 1 + k = n + (k + 1) by omega, h _ (by omega), ha _ (by omega) (by omega), Nat.add_sub_cancel]
  have h2 : ∀ k, k < zah b → N (n + 1 + zah a + k) = zaJ b k := fun k hk => by
    rw [show n + 1 + zah a + k = n + (k + 1 + zah a) by omega, h _ (by omega), hb _ (by omega)]
    congr 1
    omega
  have h3 := h1 0 pa
  have h4 := h2 0 pb
  rw [zfh] at h3 h4
  exact ⟨h3, h4, h1, h2⟩
theorem zax (c : Code) : 0 < zah c := by cases c <;> simp [zah]
theorem zeK {N : Nat → Code} {a x : Code} {n : Nat} (h : ∀ k, k < zah a + 1 → N (n + k) = zaJ x k) (ha : ∀ k, 0 < k → zaJ x k = zaJ a (k - 1)) : N (n + 1) = a ∧ ∀ k, k < zah a → N (n + 1 + k) = zaJ a k := by
  have h1 : ∀ k, k < zah a → N (n + 1 + k) = zaJ a k := fun k hk => by
    rw [show n + 1 + k = n + (k + 1) by omega, h _ (by omega), ha _ (by omega), Nat.add_sub_cancel]
  have h3 := h1 0 (zax a)
  rw [zfh] at h3
  exact ⟨h3, h1⟩
theorem zbD (N : Nat → Code) : ∀ (c : Code) (n : Nat), zb0 c = true → (∀ k, k < zah c → N (n + k) = zaJ c k) → zao N c n
  | .seq a b, n, hw, h => by
    have h0 : N n = .seq a b := h 0 (zax _)
    simp only [zb0, Bool.and_eq_true] at hw
    obtain ⟨e1, e2, f1, f2⟩ := zdG (a := a) (b := b) h (fun k h1 h2 => by simp only [zaJ]; rw [if_neg (by omega), if_pos h2]) (fun k h1 => by simp only [zaJ]; rw [if_neg (by omega), if_neg (by omega)]) (zax _) (zax _)
    exact ⟨fun P T ov => by rw [e1, e2]; exact seqK _ a b h0 P T ov, zbD N a _ hw.1 f1, zbD N b _ hw.2 f2⟩
  | .cond o a b, n, hw, h => by
    have h0 : N n = .cond o a b := h 0 (zax _)
    simp only [zb0, Bool.and_eq_true] at hw
    obtain ⟨e1, e2, f1, f2⟩ := zdG (a := a) (b := b) h (fun k h1 h2 => by simp only [zaJ]; rw [if_neg (by omega), if_pos h2]) (fun k h1 => by simp only [zaJ]; rw [if_neg (by omega), if_neg (by omega)]) (zax _) (zax _)
    exact ⟨fun P T ov => by rw [e1, e2]; exact zyJ _ a b h0 P T ov, zbD N a _ hw.1 f1, zbD N b _ hw.2 f2⟩
  | .rangeFunc g ps a b, n, hw, h => by
    have h0 : N n = .rangeFunc g ps a b := h 0 (zax _)
    simp only [zb0, Bool.and_eq_true] at hw
    obtain ⟨e1, e2, f1, f2⟩ := zdG (a := a) (b := b) h (fun k h1 h2 => by simp only [zaJ]; rw [if_neg (by omega), if_pos h2]) (fun k h1 => by simp only [zaJ]; rw [if_neg (by omega), if_neg (by omega)]) (zax _) (zax _)
    exact ⟨fun P T ov rd e h' Q => by rw [e1, e2, h0]; rfl, zbD N a _ hw.1 f1, zbD N b _ hw.2 f2⟩
  | .block i a, n, hw, h => by
    have h0 : N n = .block i a := h 0 (zax _)
    obtain ⟨e1, f1⟩ := zeK (a := a) h (fun k h1 => by simp only [zaJ]; rw [if_neg (by omega)])
    exact ⟨fun P T ov => by rw [e1]; exact blkK _ a h0 P T ov, zbD N a _ hw f1⟩
  | .loop a, n, hw, h => by
    have h0 : N n = .loop a := h 0 (zax _)
    obtain ⟨e1, f1⟩ := zeK (a := a) h (fun k h1 => by simp only [zaJ]; rw [if_neg (by omega)])
    exact ⟨fun P T ov => by rw [e1]; exact zAc _ a h0 P T ov, zbD N a _ hw f1⟩
  | .scope a, n, hw, h => by
    have h0 : N n = .scope a := h 0 (zax _)
    obtain ⟨e1, f1⟩ := zeK (a := a) h (fun k h1 => by simp only [zaJ]; rw [if_neg (by omega)])
    exact ⟨fun P T ov => by rw [e1]; exact zzb _ a h0 P T ov, zbD N a _ hw f1⟩
  | .region i A false, n, hw, h => by
    have h0 : N n = .region i A false := h 0 (zax _)
    have hr : rops (N n) = A := by rw [h0]; rfl
    simp only [zb0, Bool.and_eq_true, List.all_eq_true] at hw
    refine ⟨fun P T ov => ?_, ?_⟩
    · rw [hr]
      exact regK _ A h0 P T ov
    · rw [hr]
      exact zpD A hw.1 _ 0 rfl (fun o ho => ho)
  | .region i A true, n, hw, h => by
    have h0 : N n = .region i A true := h 0 (zax _)
    have hr : rops (N n) = A := by rw [h0]; rfl
    simp only [zb0, Bool.and_eq_true, List.all_eq_true, Bool.not_true, Bool.false_or] at hw
    refine ⟨?_, ?_⟩
    · rw [h0]
      exact hw.2
    · rw [hr]
      exact zpI A hw.1 _ 0 rfl (fun o ho => ho)
  | .exit i, n, hw, h => zyv _ (h 0 (zax _))
  | .ret, n, hw, h => retK _ (h 0 (zax _))
  | .skip, n, hw, h => zzE _ (h 0 (zax _))
  | .label l, n, hw, h => zyO _ (h 0 (zax _))
  | .goto l, n, hw, h => trivial
  | .refuse w, n, hw, h => trivial
theorem zak (N : Nat → Code) (f : Func) (hN : N = zaB f := by rfl) (hw : zb0 (zap f) = true := by kernel_rfl) : zao N (zap f) 0 :=
  zbD N _ 0 hw (fun k _ => by rw [hN, Nat.zero_add]; rfl)
theorem zaD {f : Func} (N : Nat → Code) (hN : N = zaB f := by rfl) (h : f.body.isSome = true := by rfl) : f.body = some (N 0) := by
  rw [hN]
  unfold zaB
  rw [zfh]
  unfold zap
  cases hb : f.body with
  | none => rw [hb] at h; cases h
  | some c => rfl
end Go.Am

/- What a node of a function's code is to its walk: parts of a code by their places; statements for simp. No condition. -/
import Derived.Test.YtemapihoobmonaaGreatDoorG19
import Derived.KernelRfl
namespace Go.Am
def rops : Code → Array Oper
  | .region _ a _ => a
  | _ => #[]
def zcM (A : Array Oper) (n : Nat) : List Oper := A.toList.drop n
theorem regK (K : Code) (A : Array Oper) {i : Nat} (hK : K = .region i A false := by rfl) (P : Program) (T : Tab) (ov : Ov) : ∀ (rd : Option Nat) (e : Env) (h : Heap) (Q : Ex → Env → Heap → Prop), W P T ov rd K e h Q = WOps P T ov A (zcM A 0) e h (zuW Q) := by
  subst hK
  intro rd e h Q
  rfl
theorem nilK (A : Array Oper) (n : Nat) (hn : zcM A n = [] := by rfl) (P : Program) (T : Tab) (ov : Ov) : ∀ (e : Env) (h : Heap) (Q : Env → Heap → Prop), WOps P T ov A (zcM A n) e h Q = Q e h := by
  intro e h Q
  rw [hn]
  rfl
theorem nilX (A : Array Oper) (n : Nat) (hn : zcM A n = [] := by rfl) (P : Program) (T : Tab) (ov : Ov) : ∀ (b j : Nat) (e : Env) (h : Heap) (Q : Env → Heap → Prop), WOpsX P T ov b A (zcM A n) j e h Q = Q e h := by
  intro b j e h Q
  rw [hn]
  rfl
theorem seqK (K A B : Code) (hK : K = .seq A B := by rfl) (P : Program) (T : Tab) (ov : Ov) : ∀ (rd : Option Nat) (e : Env) (h : Heap) (Q : Ex → Env → Heap → Prop), W P T ov rd K e h Q = W P T ov rd A e h (zpx P T ov rd B Q) := by
  subst hK
  intro rd e h Q
  exact zxQ _ _ _ _ _
theorem zyH (K A B : Code) {o : Operand} (hK : K = .cond o A B := by rfl) (P : Program) (T : Tab) (ov : Ov) : ∀ (rd : Option Nat) (e : Env) (h : Heap) (Q : Ex → Env → Heap → Prop), W P T ov rd K e h Q = zim P T ov rd A B e h Q (zab e o) := by
  subst hK
  intro rd e h Q
  rfl
theorem blkK (K A : Code) {i : Nat} (hK : K = .block i A := by rfl) (P : Program) (T : Tab) (ov : Ov) : ∀ (rd : Option Nat) (e : Env) (h : Heap) (Q : Ex → Env → Heap → Prop), W P T ov rd K e h Q = W P T ov rd A e h (zen i Q) := by
  subst hK
  intro rd e h Q
  exact zrk _ _ _ _ _
theorem zzj (K A : Code) (hK : K = .loop A := by rfl) (P : Program) (T : Tab) (ov : Ov) : ∀ (rd : Option Nat) (e : Env) (h : Heap) (Q : Ex → Env → Heap → Prop), W P T ov rd K e h Q = W P T ov rd (.loop A) e h Q := by
  subst hK
  intro rd e h Q
  rfl
theorem zx1 (K A : Code) (hK : K = .scope A := by rfl) (P : Program) (T : Tab) (ov : Ov) : ∀ (rd : Option Nat) (e : Env) (h : Heap) (Q : Ex → Env → Heap → Prop), W P T ov rd K e h Q = W P T ov rd A e h Q := by
  subst hK
  intro rd e h Q
  rfl
theorem zzd (K : Code) {i : Nat} (hK : K = .exit i := by rfl) (P : Program) (T : Tab) (ov : Ov) : ∀ (rd : Option Nat) (e : Env) (h : Heap) (Q : Ex → Env → Heap → Prop), W P T ov rd K e h Q = Q (.exit i) e h := by
  subst hK
  intro rd e h Q
  rfl
theorem retK (K : Code) (hK : K = .ret := by rfl) (P : Program) (T : Tab) (ov : Ov) : ∀ (rd : Option Nat) (e : Env) (h : Heap) (Q : Ex → Env → Heap → Prop), W P T ov rd K e h Q = Q .ret e h := by
  subst hK
  intro rd e h Q
  rfl
theorem zyn (K : Code) (hK : K = .skip := by rfl) (P : Program) (T : Tab) (ov : Ov) : ∀ (rd : Option Nat) (e : Env) (h : Heap) (Q : Ex → Env → Heap → Prop), W P T ov rd K e h Q = Q .normal e h := by
  subst hK
  intro rd e h Q
  rfl
theorem zxC (K : Code) {i : Nat} (hK : K = .label i := by rfl) (P : Program) (T : Tab) (ov : Ov) : ∀ (rd : Option Nat) (e : Env) (h : Heap) (Q : Ex → Env → Heap → Prop), W P T ov rd K e h Q = Q .normal e h := by
  subst hK
  intro rd e h Q
  rfl
abbrev zxY (K : Code) (A : Array Oper) : Prop := ∀ {P : Program} {T : Tab} {ov : Ov} {rd : Option Nat} {e : Env} {h0 h : Heap} {Q : Ex → Env → Heap → Prop}, Ext h0 h → WOpsX P T ov (min h0.low h0.size) A (zcM A 0) 0 e h (fun e' h1 => Grw h0 h1 ∧ endZ h0 Q e' h1) → W P T ov rd K e h Q
theorem zyV {K : Code} {A : Array Oper} {i : Nat} (hK : K = .region i A true) (ht : zcX A (zcO A.toList []) = true) : zxY K A := by
  subst hK
  intro P T ov rd e h0 h Q z hw
  exact zwG (ops := A.toList) z ht hw
theorem nd {p q : Prop} (h : p) (g : q) : p ∧ q := ⟨h, g⟩
end Go.Am
namespace Go.Am
set_option linter.unusedVariables false
def zae : Code → Nat
  | .seq a b => zae a + zae b + 1
  | .cond _ a b => zae a + zae b + 1
  | .block _ a => zae a + 1
  | .loop a => zae a + 1
  | .scope a => zae a + 1
  | .rangeFunc _ _ a b => zae a + zae b + 1
  | _ => 1
def zaJ : Code → Nat → Code
  | .seq a b, n => if n = 0 then .seq a b else if n ≤ zae a then zaJ a (n - 1) else zaJ b (n - 1 - zae a)
  | .cond o a b, n => if n = 0 then .cond o a b else if n ≤ zae a then zaJ a (n - 1) else zaJ b (n - 1 - zae a)
  | .block i a, n => if n = 0 then .block i a else zaJ a (n - 1)
  | .loop a, n => if n = 0 then .loop a else zaJ a (n - 1)
  | .scope a, n => if n = 0 then .scope a else zaJ a (n - 1)
  | .rangeFunc g ps a b, n => if n = 0 then .rangeFunc g ps a b else if n ≤ zae a then zaJ a (n - 1) else zaJ b (n - 1 - zae a)
  | c, _ => c
def zaq (f : Func) : Code := f.body.getD .skip
def zaC (f : Func) : Nat → Code := zaJ (zaq f)
theorem zfl (c : Code) : zaJ c 0 = c := by cases c <;> rfl
def dstL : List Oper → Nat → Option Tmp
  | [], _ => none
  | o :: _, 0 => o.dst
  | _ :: l, j + 1 => dstL l j
theorem zwi (l : List Oper) (j : Nat) : dstL l j = (l[j]?).bind (·.dst) := by
  induction l generalizing j with
  | nil => rfl
  | cons o l ih => cases j with
    | zero => rfl
    | succ j => exact ih j
def zaB (L : List Oper) (e : Env) : Option (Nat × Bool) → Bool
  | none => true
  | some (j, g) => zfX (e.get ((dstL L j).getD 0)) g
def zgn (L : List Oper) (o : Oper) : Bool := match o.guard with
  | none => true
  | some (j, _) => (dstL L j).isSome
theorem zkv {A : Array Oper} {o : Oper} (h : zgn A.toList o = true) (e : Env) : zaT A o e = zaB A.toList e o.guard := by
  unfold zgn at h
  unfold zaT
  cases hg : o.guard with
  | none => rfl
  | some p =>
    obtain ⟨j, g⟩ := p
    rw [hg] at h
    have e1 : A[j]? = A.toList[j]? := by simp
    have h2 : (dstL A.toList j).isSome = true := h
    show _ = zfX (e.get ((dstL A.toList j).getD 0)) g
    simp only [e1, ← zwi]
    cases hd : dstL A.toList j with
    | none => rw [hd] at h2; cases h2
    | some t => rfl
def zjE : Code → Bool
  | .region _ A true => zcX A (zcO A.toList [])
  | _ => false
theorem zez {K : Code} (hd : zjE K = true) : zxY K (rops K) := by
  unfold zjE at hd
  split at hd
  · rename_i i A
    exact zyV rfl hd
  · cases hd
def zbR : Code → Bool
  | .seq a b => zbR a && zbR b
  | .cond _ a b => zbR a && zbR b
  | .block _ a => zbR a
  | .loop a => zbR a
  | .scope a => zbR a
  | .rangeFunc _ _ a b => zbR a && zbR b
  | .region i A d => A.toList.all (zgn A.toList) && (!d || zjE (.region i A d))
  | _ => true
def opsF (A : Array Oper) (L : List Oper) : List Oper → Nat → Prop
  | [], n => ∀ (P : Program) (T : Tab) (ov : Ov) (e : Env) (h : Heap) (Q : Env → Heap → Prop), WOps P T ov A (zcM A n) e h Q = Q e h
  | o :: l, n => (∀ (P : Program) (T : Tab) (ov : Ov) (e : Env) (h : Heap) (Q : Env → Heap → Prop), WOps P T ov A (zcM A n) e h Q = zoN P T ov A o (zcM A (n + 1)) o.dst e h Q (zaB L e o.guard)) ∧ opsF A L l (n + 1)
def opsX (A : Array Oper) (L : List Oper) : List Oper → Nat → Prop
  | [], n => ∀ (P : Program) (T : Tab) (ov : Ov) (b j : Nat) (e : Env) (h : Heap) (Q : Env → Heap → Prop), WOpsX P T ov b A (zcM A n) j e h Q = Q e h
  | o :: l, n => (∀ (P : Program) (T : Tab) (ov : Ov) (b : Nat) (e : Env) (h : Heap) (Q : Env → Heap → Prop), WOpsX P T ov b A (zcM A n) n e h Q = zh6 P T ov b A o (zcM A (n + 1)) n o.dst e h Q (zaB L e o.guard) (zan o)) ∧ opsX A L l (n + 1)
def zao (N : Nat → Code) : Code → Nat → Prop
  | .seq a b, n => (∀ (P : Program) (T : Tab) (ov : Ov) (rd : Option Nat) (e : Env) (h : Heap) (Q : Ex → Env → Heap → Prop), W P T ov rd (N n) e h Q = W P T ov rd (N (n + 1)) e h (zpx P T ov rd (N (n + 1 + zae a)) Q)) ∧ zao N a (n + 1) ∧ zao N b (n + 1 + zae a)
  | .cond o a b, n => (∀ (P : Program) (T : Tab) (ov : Ov) (rd : Option Nat) (e : Env) (h : Heap) (Q : Ex → Env → Heap → Prop), W P T ov rd (N n) e h Q = zim P T ov rd (N (n + 1)) (N (n + 1 + zae a)) e h Q (zab e o)) ∧ zao N a (n + 1) ∧ zao N b (n + 1 + zae a)
  | .block i a, n => (∀ (P : Program) (T : Tab) (ov : Ov) (rd : Option Nat) (e : Env) (h : Heap) (Q : Ex → Env → Heap → Prop), W P T ov rd (N n) e h Q = W P T ov rd (N (n + 1)) e h (zen i Q)) ∧ zao N a (n + 1)
  | .loop a, n => (∀ (P : Program) (T : Tab) (ov : Ov) (rd : Option Nat) (e : Env) (h : Heap) (Q : Ex → Env → Heap → Prop), W P T ov rd (N n) e h Q = W P T ov rd (.loop (N (n + 1))) e h Q) ∧ zao N a (n + 1)
  | .scope a, n => (∀ (P : Program) (T : Tab) (ov : Ov) (rd : Option Nat) (e : Env) (h : Heap) (Q : Ex → Env → Heap → Prop), W P T ov rd (N n) e h Q = W P T ov rd (N (n + 1)) e h Q) ∧ zao N a (n + 1)
  | .rangeFunc g ps a b, n => (∀ (P : Program) (T : Tab) (ov : Ov) (rd : Option Nat) (e : Env) (h : Heap) (Q : Ex → Env → Heap → Prop), W P T ov rd (N n) e h Q = ziB P T ov rd (zab e g) ps.toList (N (n + 1)) (N (n + 1 + zae a)) e h Q) ∧ zao N a (n + 1) ∧ zao N b (n + 1 + zae a)
  | .region i A false, n => (∀ (P : Program) (T : Tab) (ov : Ov) (rd : Option Nat) (e : Env) (h : Heap) (Q : Ex → Env → Heap → Prop), W P T ov rd (N n) e h Q = WOps P T ov (rops (N n)) (zcM (rops (N n)) 0) e h (zuW Q)) ∧ opsF (rops (N n)) A.toList A.toList 0
  | .region i A true, n => zjE (N n) = true ∧ opsX (rops (N n)) A.toList A.toList 0
  | .exit i, n => ∀ (P : Program) (T : Tab) (ov : Ov) (rd : Option Nat) (e : Env) (h : Heap) (Q : Ex → Env → Heap → Prop), W P T ov rd (N n) e h Q = Q (.exit i) e h
  | .ret, n => ∀ (P : Program) (T : Tab) (ov : Ov) (rd : Option Nat) (e : Env) (h : Heap) (Q : Ex → Env → Heap → Prop), W P T ov rd (N n) e h Q = Q .ret e h
  | .skip, n => ∀ (P : Program) (T : Tab) (ov : Ov) (rd : Option Nat) (e : Env) (h : Heap) (Q : Ex → Env → Heap → Prop), W P T ov rd (N n) e h Q = Q .normal e h
  | .label _, n => ∀ (P : Program) (T : Tab) (ov : Ov) (rd : Option Nat) (e : Env) (h : Heap) (Q : Ex → Env → Heap → Prop), W P T ov rd (N n) e h Q = Q .normal e h
  | _, _ => True
theorem zoU (A : Array Oper) (h : ∀ o ∈ A.toList, zgn A.toList o = true) : ∀ (l : List Oper) (n : Nat), zcM A n = l → (∀ o ∈ l, o ∈ A.toList) → opsF A A.toList l n
  | [], n, hl, _ => nilK A n hl
  | o :: l, n, hl, hm => by
    have hl2 : zcM A (n + 1) = l := by
      unfold zcM at hl ⊢
      have := congrArg (List.drop 1) hl
      rw [List.drop_drop] at this
      exact this
    refine ⟨fun P T ov e h' Q => ?_, zoU A h l (n + 1) hl2 (fun x hx => hm x (List.mem_cons_of_mem _ hx))⟩
    rw [hl, hl2, zpI, zkv (h o (hm o (List.mem_cons_self ..)))]
theorem zoS (A : Array Oper) (h : ∀ o ∈ A.toList, zgn A.toList o = true) : ∀ (l : List Oper) (n : Nat), zcM A n = l → (∀ o ∈ l, o ∈ A.toList) → opsX A A.toList l n
  | [], n, hl, _ => nilX A n hl
  | o :: l, n, hl, hm => by
    have hl2 : zcM A (n + 1) = l := by
      unfold zcM at hl ⊢
      have := congrArg (List.drop 1) hl
      rw [List.drop_drop] at this
      exact this
    refine ⟨fun P T ov b e h' Q => ?_, zoS A h l (n + 1) hl2 (fun x hx => hm x (List.mem_cons_of_mem _ hx))⟩
    rw [hl, hl2, zoy, zkv (h o (hm o (List.mem_cons_self ..)))]
theorem zdI {N : Nat → Code} {a b x : Code} {n : Nat} (h : ∀ k, k < zae a + zae b + 1 → N (n + k) = zaJ x k) (ha : ∀ k, 0 < k → k ≤ zae a → zaJ x k = zaJ a (k - 1)) (hb : ∀ k, zae a < k → zaJ x k = zaJ b (k - 1 - zae a)) (pa : 0 < zae a) (pb : 0 < zae b) :
    N (n + 1) = a ∧ N (n + 1 + zae a) = b ∧ (∀ k, k < zae a → N (n + 1 + k) = zaJ a k) ∧ ∀ k, k < zae b → N (n + 1 + zae a + k) = zaJ b k := by
  have h1 : ∀ k, k < zae a → N (n + 1 + k) = zaJ a k := fun k hk => by
    rw [show n + 1 + k = n + (k + 1) by omega, h _ (by omega), ha _ (by omega) (by omega), Nat.add_sub_cancel]
  have h2 : ∀ k, k < zae b → N (n + 1 + zae a + k) = zaJ b k := fun k hk => by
    rw [show n + 1 + zae a + k = n + (k + 1 + zae a) by omega, h _ (by omega), hb _ (by omega)]
    congr 1
    omega
  have h3 := h1 0 pa
  have h4 := h2 0 pb
  rw [zfl] at h3 h4
  exact ⟨h3, h4, h1, h2⟩
theorem zaw (c : Code) : 0 < zae c := by cases c <;> simp [zae]
theorem zeN {N : Nat → Code} {a x : Code} {n : Nat} (h : ∀ k, k < zae a + 1 → N (n + k) = zaJ x k) (ha : ∀ k, 0 < k → zaJ x k = zaJ a (k - 1)) : N (n + 1) = a ∧ ∀ k, k < zae a → N (n + 1 + k) = zaJ a k := by
  have h1 : ∀ k, k < zae a → N (n + 1 + k) = zaJ a k := fun k hk => by
    rw [show n + 1 + k = n + (k + 1) by omega, h _ (by omega), ha _ (by omega), Nat.add_sub_cancel]
  have h3 := h1 0 (zaw a)
  rw [zfl] at h3
  exact ⟨h3, h1⟩
theorem zbx (N : Nat → Code) : ∀ (c : Code) (n : Nat), zbR c = true → (∀ k, k < zae c → N (n + k) = zaJ c k) → zao N c n
  | .seq a b, n, hw, h => by
    have h0 : N n = .seq a b := h 0 (zaw _)
    simp only [zbR, Bool.and_eq_true] at hw
    obtain ⟨e1, e2, f1, f2⟩ := zdI (a := a) (b := b) h (fun k h1 h2 => by simp only [zaJ]; rw [if_neg (by omega), if_pos h2]) (fun k h1 => by simp only [zaJ]; rw [if_neg (by omega), if_neg (by omega)]) (zaw _) (zaw _)
    exact ⟨fun P T ov => by rw [e1, e2]; exact seqK _ a b h0 P T ov, zbx N a _ hw.1 f1, zbx N b _ hw.2 f2⟩
  | .cond o a b, n, hw, h => by
    have h0 : N n = .cond o a b := h 0 (zaw _)
    simp only [zbR, Bool.and_eq_true] at hw
    obtain ⟨e1, e2, f1, f2⟩ := zdI (a := a) (b := b) h (fun k h1 h2 => by simp only [zaJ]; rw [if_neg (by omega), if_pos h2]) (fun k h1 => by simp only [zaJ]; rw [if_neg (by omega), if_neg (by omega)]) (zaw _) (zaw _)
    exact ⟨fun P T ov => by rw [e1, e2]; exact zyH _ a b h0 P T ov, zbx N a _ hw.1 f1, zbx N b _ hw.2 f2⟩
  | .rangeFunc g ps a b, n, hw, h => by
    have h0 : N n = .rangeFunc g ps a b := h 0 (zaw _)
    simp only [zbR, Bool.and_eq_true] at hw
    obtain ⟨e1, e2, f1, f2⟩ := zdI (a := a) (b := b) h (fun k h1 h2 => by simp only [zaJ]; rw [if_neg (by omega), if_pos h2]) (fun k h1 => by simp only [zaJ]; rw [if_neg (by omega), if_neg (by omega)]) (zaw _) (zaw _)
    exact ⟨fun P T ov rd e h' Q => by rw [e1, e2, h0]; rfl, zbx N a _ hw.1 f1, zbx N b _ hw.2 f2⟩
  | .block i a, n, hw, h => by
    have h0 : N n = .block i a := h 0 (zaw _)
    obtain ⟨e1, f1⟩ := zeN (a := a) h (fun k h1 => by simp only [zaJ]; rw [if_neg (by omega)])
    exact ⟨fun P T ov => by rw [e1]; exact blkK _ a h0 P T ov, zbx N a _ hw f1⟩
  | .loop a, n, hw, h => by
    have h0 : N n = .loop a := h 0 (zaw _)
    obtain ⟨e1, f1⟩ := zeN (a := a) h (fun k h1 => by simp only [zaJ]; rw [if_neg (by omega)])
    exact ⟨fun P T ov => by rw [e1]; exact zzj _ a h0 P T ov, zbx N a _ hw f1⟩
  | .scope a, n, hw, h => by
    have h0 : N n = .scope a := h 0 (zaw _)
    obtain ⟨e1, f1⟩ := zeN (a := a) h (fun k h1 => by simp only [zaJ]; rw [if_neg (by omega)])
    exact ⟨fun P T ov => by rw [e1]; exact zx1 _ a h0 P T ov, zbx N a _ hw f1⟩
  | .region i A false, n, hw, h => by
    have h0 : N n = .region i A false := h 0 (zaw _)
    have hr : rops (N n) = A := by rw [h0]; rfl
    simp only [zbR, Bool.and_eq_true, List.all_eq_true] at hw
    refine ⟨fun P T ov => ?_, ?_⟩
    · rw [hr]
      exact regK _ A h0 P T ov
    · rw [hr]
      exact zoU A hw.1 _ 0 rfl (fun o ho => ho)
  | .region i A true, n, hw, h => by
    have h0 : N n = .region i A true := h 0 (zaw _)
    have hr : rops (N n) = A := by rw [h0]; rfl
    simp only [zbR, Bool.and_eq_true, List.all_eq_true, Bool.not_true, Bool.false_or] at hw
    refine ⟨?_, ?_⟩
    · rw [h0]
      exact hw.2
    · rw [hr]
      exact zoS A hw.1 _ 0 rfl (fun o ho => ho)
  | .exit i, n, hw, h => zzd _ (h 0 (zaw _))
  | .ret, n, hw, h => retK _ (h 0 (zaw _))
  | .skip, n, hw, h => zyn _ (h 0 (zaw _))
  | .label l, n, hw, h => zxC _ (h 0 (zaw _))
  | .goto l, n, hw, h => trivial
  | .refuse w, n, hw, h => trivial
theorem zai (N : Nat → Code) (f : Func) (hN : N = zaC f := by rfl) (hw : zbR (zaq f) = true := by kernel_rfl) : zao N (zaq f) 0 :=
  zbx N _ 0 hw (fun k _ => by rw [hN, Nat.zero_add]; rfl)
theorem zaG {f : Func} (N : Nat → Code) (hN : N = zaC f := by rfl) (h : f.body.isSome = true := by rfl) : f.body = some (N 0) := by
  rw [hN]
  unfold zaC
  rw [zfl]
  unfold zaq
  cases hb : f.body with
  | none => rw [hb] at h; cases h
  | some c => rfl
end Go.Am

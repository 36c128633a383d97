/- Plain facts on lists; an atom's terms as a slice. No condition. -/
import Derived.Test.YtompindebndddaaGInt
namespace Go.Am
set_option linter.unusedVariables false
def idxP {α : Type} (p : α → Bool) (l : List α) : Int := match l.findIdx? p with
  | some i => i
  | none => -1
theorem idx_found {α : Type} {p : α → Bool} {l : List α} {i : Nat} {x : α} (hx : l[i]? = some x) (hall : ∀ y ∈ l.take i, p y = false) (hp : p x = true) : idxP p l = i := by
  have : l.findIdx? p = some i := by
    induction l generalizing i with
    | nil => simp at hx
    | cons a l ih =>
      rw [List.findIdx?_cons]
      cases i with
      | zero =>
        simp at hx
        subst hx
        simp [hp]
      | succ i =>
        have ha := hall a (by simp)
        rw [ha]
        have := ih (i := i) (by simpa using hx) (fun y hy => hall y (by simp [hy]))
        simp [this]
  unfold idxP
  rw [this]
theorem idx_none {α : Type} {p : α → Bool} {l : List α} (hall : ∀ y ∈ l, p y = false) : idxP p l = -1 := by
  have : l.findIdx? p = none := by rw [List.findIdx?_eq_none_iff]; exact hall
  unfold idxP
  rw [this]
theorem idx_any {α : Type} (p : α → Bool) (l : List α) : decide (idxP p l ≥ 0) = l.any p := by
  unfold idxP
  cases h : l.findIdx? p with
  | none =>
    rw [List.findIdx?_eq_none_iff] at h
    have : l.any p = false := by rw [List.any_eq_false]; intro x hx; rw [h x hx]; decide
    rw [this]
    decide
  | some i =>
    have h2 : ∃ x ∈ l, p x = true := by
      have := List.findIdx?_isSome (xs := l) (p := p)
      rw [h] at this
      simp at this
      exact this
    have : l.any p = true := by rw [List.any_eq_true]; exact h2
    rw [this]
    simp
theorem args_length (a : AtomD) : a.args.length = a.cnt := by
  unfold AtomD.args AtomD.cnt
  rw [List.length_take]
  simp only [List.length_cons, List.length_nil]
  omega
theorem sl_args {H : Heap} {A o : Nat} {a : AtomD} {u : TypeId} {ro : Bool} (q : Holds H A (.row a.cells u ro)) (ho : o = 3) : Sl Rep.term H (.slice (some ⟨A, o, none⟩) a.cnt 4) a.args := by
  subst ho
  have hc : a.cnt ≤ 4 := by unfold AtomD.cnt; omega
  refine .inr ⟨A, 3, 4, a.cells, u, ro, by rw [args_length], by rw [args_length]; unfold maxLen; omega, .inl ⟨by decide, by rw [args_length]; exact hc⟩, q.lt, q.get, fun i x hx => ?_⟩
  have hi : i < a.cnt := by have := (List.getElem?_eq_some_iff.1 hx).1; rw [args_length] at this; exact this
  unfold AtomD.args at hx
  rw [List.getElem?_take_of_lt hi] at hx
  have : i = 0 ∨ i = 1 ∨ i = 2 ∨ i = 3 := by omega
  rcases this with rfl | rfl | rfl | rfl <;> (simp at hx; subst hx; exact ⟨_, rfl, rfl⟩)
theorem cut_atom (a : AtomD) : cut a.cells 0 11 = some a.cells := rfl
theorem agg_atom (a : AtomD) : Value.agg a.cells.toArray = a.val := rfl
theorem cells_atom (a : AtomD) : a.val.cells.toList = a.cells := rfl
theorem valE_atom (a : AtomD) (h : Heap) (K : Value → Heap → Prop) : valE (some a.val) h K = K a.val h := rfl
def AtomD.ground (a : AtomD) : Bool := !a.args.any (·.v)
end Go.Am

/- Walks: maps of atoms. No condition. -/
import Derived.Test.YtemapihoobmonaaDoorG22
namespace Go.Am
set_option linter.unusedVariables false
set_option linter.unusedSimpArgs false
section
variable {P : Program} {T : Tab} {ov : Ov} {d : Option Tmp} {ty : TypeId} {pos : String} {af : Array Edge} {g : Option (Nat × Bool)} {e : Env} {h : Heap} {K : Value → Heap → Prop}
theorem w_makeMap (t : TypeId) : WOp P T ov ⟨d, .makeMap t none, ty, pos, af, g⟩ e h K = K (.map (some h.size)) (h.push (.map [] 0)) := rfl
theorem w_lookup (t : TypeId) (x k : Operand) (ok : Bool) : WOp P T ov ⟨d, .lookup t x k ok, ty, pos, af, g⟩ e h K = valE (lookupA T t (evalOperand e x) (evalOperand e k) ok h) h K := by rw [← optE_map]; rfl
theorem w_mapUpdate (t : TypeId) (m k x : Operand) : WOp P T ov ⟨d, .mapUpdate t m k x, ty, pos, af, g⟩ e h K = memE (updateA T t (evalOperand e m) (evalOperand e k) (evalOperand e x) h) K := by
  show optE ((updateA T t (evalOperand e m) (evalOperand e k) (evalOperand e x) h).map fun h' => (undef, h')) K = _
  cases updateA T t (evalOperand e m) (evalOperand e k) (evalOperand e x) h <;> rfl
end
def MapA (h : Heap) (A : Nat) (met : List AtomD) : Prop := ∃ es clock, ∃ ks : List AtomD, Holds h A (.map es clock) ∧ es.map (fun x : MapEntry => x.key) = ks.map AtomD.val ∧ (∀ a, a ∈ ks ↔ a ∈ met) ∧ ∀ x ∈ es, x.val = .agg ⟨[]⟩
theorem plain_atom (a : AtomD) : plain a.val = true := rfl
section
variable {T : Tab} {t kt et : TypeId} {A : Nat} {met : List AtomD} {a : AtomD} {h1 : Heap} {bs : List Blk} {w : Nat} {K : Value → Heap → Prop} {z : Value}
theorem MapA.over (m : MapA h1 A met) {h2 : Heap} (x : Ext (h1.lay bs w) h2) : MapA h2 A met := by
  obtain ⟨es, cl, ks, m1, m2, m3⟩ := m
  exact ⟨es, cl, ks, m1.over x, m2, m3⟩
theorem MapA.ext (m : MapA h1 A met) {h2 : Heap} (x : Ext h1 h2) : MapA h2 A met := by
  obtain ⟨es, cl, ks, m1, m2, m3⟩ := m
  exact ⟨es, cl, ks, ⟨Nat.lt_of_lt_of_le m1.lt x.size, (x.get A m1.lt).trans m1.get⟩, m2, m3⟩
theorem MapA.top {h2 : Heap} {i : Nat} (x : Ext (h1.lay bs w) h2) (hi : bs[i]? = some (.map [] 0)) : MapA h2 (h1.size + i) [] := ⟨[], 0, [], Holds.top x hi, rfl, fun _ => Iff.rfl, fun _ hx => by simp at hx⟩
end
theorem store_own {T : Tab} {t u : TypeId} {A n : Nat} {cs : List Value} {v : Value} {h1 : Heap} {bs : List Blk} {w : Nat} {K : Value → Heap → Prop} (q : Holds h1 A (.row cs u false)) (hs : sizeA T t = some n) (hv : v.cells.toList.length = n) (hl : cs.length = n) (h1' : v.cells.toList.all one = true)
    (hK : ∀ h', Holds h' A (.row v.cells.toList u false) → Chg A (h1.lay bs w) h' → K undef h') : memE (storeA T t (.pointer (some ⟨A, 0, none⟩)) v (h1.lay bs w)) K := by
  have hg : (h1.lay bs w).get A = some (.row cs u false) := q.lay bs w
  have hA : A < (h1.lay bs w).size := (q.on bs w).lt
  have hsz : v.cells.size = n := by rw [← hv]; simp
  have hw : writeA A 0 v.cells.toList (h1.lay bs w) = some ((h1.lay bs w).set A (.row v.cells.toList u false)) := by
    unfold writeA
    rw [hg]
    simp only
    rw [if_pos (by simp only [Bool.and_eq_true, decide_eq_true_eq]; exact ⟨by omega, h1'⟩)]
    congr 2
    unfold splice
    rw [List.take_zero, List.nil_append, List.drop_of_length_le (by omega), List.append_nil]
  have he : storeA T t (.pointer (some ⟨A, 0, none⟩)) v (h1.lay bs w) = some ((h1.lay bs w).set A (.row v.cells.toList u false)) := by
    unfold storeA
    simp only [hs, Option.bind_some]
    rw [if_pos hsz]
    exact hw
  rw [he]
  refine hK _ ⟨by rw [Heap.size_set]; exact hA, by rw [Heap.get_set _ _ _ _ hA, if_pos rfl]⟩ ⟨by rw [Heap.size_set]; exact Nat.le_refl _, fun B hB hne => by rw [Heap.get_set _ _ _ _ hA, if_neg hne], by rw [Heap.low_set]; omega⟩
theorem sl_cells {α : Type} {r : Rep α} {h : Heap} {v : Value} {l : List α} (f : Sl r h v l) : v.cells.toList = [v] := by
  rcases f with ⟨rfl, _⟩ | ⟨A, o, c, row, u, ro, rfl, _⟩ <;> rfl
theorem valE_any (v : Value) (h : Heap) (K : Value → Heap → Prop) : valE (some v) h K = K v h := rfl
theorem cells_term (t : TermD) : t.val.cells.toList = t.cells := rfl
end Go.Am

/- Walks: maps of atoms. No condition. -/
import Derived.Test.YtompindebndddaaG24
import Derived.Test.YtompindebndddaaG15
namespace Go.Am
set_option linter.unusedVariables false
set_option linter.unusedSimpArgs false
section
variable {P : Program} {T : Tab} {ov : Ov} {d : Option Tmp} {ty : TypeId} {pos : String} {af : Array Edge} {g : Option (Nat × Bool)} {e : Env} {h : Heap} {K : Value → Heap → Prop}
theorem w_makeMap (t : TypeId) : WOp P T ov ⟨d, .makeMap t none, ty, pos, af, g⟩ e h K = K (.map (some h.size)) (h.push (.map [] 0)) := rfl
theorem w_lookup (t : TypeId) (x k : Operand) (ok : Bool) : WOp P T ov ⟨d, .lookup t x k ok, ty, pos, af, g⟩ e h K = valE (lookupA T t (evalOperand e x) (evalOperand e k) ok h) h K := by rw [← optE_map]; rfl
theorem w_mapUpdate (t : TypeId) (m k x : Operand) : WOp P T ov ⟨d, .mapUpdate t m k x, ty, pos, af, g⟩ e h K = memE (updateA T t (evalOperand e m) (evalOperand e k) (evalOperand e x) h) K := by
  show optE ((updateA T t (evalOperand e m) (evalOperand e k) (evalOperand e x) h).map fun h' => (undef, h')) K = _
  cases updateA T t (evalOperand e m) (evalOperand e k) (evalOperand e x) h <;> rfl
end
def MapA (h : Heap) (A : Nat) (met : List AtomD) : Prop := ∃ es clock, ∃ ks : List AtomD, Holds h A (.map es clock) ∧ es.map (fun x : MapEntry => x.key) = ks.map AtomD.val ∧ (∀ a, a ∈ ks ↔ a ∈ met) ∧ ∀ x ∈ es, x.val = .agg ⟨[]⟩
theorem find_key {T : Tab} {kt : TypeId} {a : AtomD} (heq : ∀ x y : AtomD, eqIn T 20 kt x.val y.val = some (decide (x = y))) : ∀ (es : List MapEntry) (ks : List AtomD) (i : Nat), es.map (fun x : MapEntry => x.key) = ks.map AtomD.val →
    (a ∉ ks → findA T kt a.val es i = some none) ∧ (a ∈ ks → ∃ r, findA T kt a.val es i = some (some r) ∧ ∃ x ∈ es, x.val = r.2)
  | [], ks, i, hk => by
    cases ks with
    | nil => exact ⟨fun _ => rfl, fun h => by simp at h⟩
    | cons k ks => simp at hk
  | e :: es, ks, i, hk => by
    cases ks with
    | nil => simp at hk
    | cons k ks =>
      simp only [List.map_cons, List.cons.injEq] at hk
      obtain ⟨h1, h2⟩ := find_key heq es ks (i + 1) hk.2
      unfold findA
      rw [hk.1, heq]
      by_cases hx : a = k
      · subst hx
        simp
      · simp only [decide_eq_false hx, Option.bind_some, Bool.false_eq_true, if_false, List.mem_cons, hx, false_or]
        refine ⟨h1, fun ha => ?_⟩
        obtain ⟨r, g1, x, g2, g3⟩ := h2 ha
        exact ⟨r, g1, x, .inr g2, g3⟩
theorem plain_atom (a : AtomD) : plain a.val = true := rfl
theorem is_key {T : Tab} {kt : TypeId} (a : AtomD) (heq : ∀ x y : AtomD, eqIn T 20 kt x.val y.val = some (decide (x = y))) : isKey T kt a.val = true := by
  unfold isKey
  rw [plain_atom, heq]
  simp
section
variable {T : Tab} {t kt et : TypeId} {A : Nat} {met : List AtomD} {a : AtomD} {h1 : Heap} {bs : List Blk} {w : Nat} {K : Value → Heap → Prop} {z : Value}
theorem MapA.over (m : MapA h1 A met) {h2 : Heap} (x : Ext (h1.lay bs w) h2) : MapA h2 A met := by
  obtain ⟨es, cl, ks, m1, m2, m3⟩ := m
  exact ⟨es, cl, ks, m1.over x, m2, m3⟩
theorem MapA.ext (m : MapA h1 A met) {h2 : Heap} (x : Ext h1 h2) : MapA h2 A met := by
  obtain ⟨es, cl, ks, m1, m2, m3⟩ := m
  exact ⟨es, cl, ks, ⟨Nat.lt_of_lt_of_le m1.lt x.size, (x.get A m1.lt).trans m1.get⟩, m2, m3⟩
theorem MapA.top {h2 : Heap} {i : Nat} (x : Ext (h1.lay bs w) h2) (hi : bs[i]? = some (.map [] 0)) : MapA h2 (h1.size + i) [] := ⟨[], 0, [], Holds.top x hi, rfl, fun _ => Iff.rfl, fun _ hx => by simp at hx⟩
theorem lookup_rule (m : MapA h1 A met) (hd : T.desc t = some (.map kt et)) (heq : ∀ x y : AtomD, eqIn T 20 kt x.val y.val = some (decide (x = y))) (hz : T.zero et = some (.agg ⟨[]⟩))
    (hK : K (.tuple #[.agg ⟨[]⟩, .bool (decide (a ∈ met))]) (h1.lay bs w)) : valE (lookupA T t (.map (some A)) a.val true (h1.lay bs w)) (h1.lay bs w) K := by
  obtain ⟨es, cl, ks, m1, m2, m3, m4⟩ := m
  obtain ⟨f1, f2⟩ := find_key (a := a) heq es ks 0 m2
  have hg : (h1.lay bs w).get A = some (.map es cl) := m1.lay bs w
  unfold lookupA
  simp only [hd, is_key a heq, if_true, mapOf, hg, Option.bind_some]
  by_cases ha : a ∈ ks
  · obtain ⟨r, hr, x, hx, hxr⟩ := f2 ha
    rw [hr]
    have := hK
    rw [decide_eq_true ((m3 a).1 ha)] at this
    have hr2 : r.2 = .agg ⟨[]⟩ := by rw [← hxr]; exact m4 x hx
    simp only [hr2, Option.bind_some, Option.map_some, if_true]
    exact this
  · rw [f1 ha]
    simp only [hz, Option.bind_some, Option.map_some, if_true]
    have := hK
    rw [decide_eq_false (fun hh => ha ((m3 a).2 hh))] at this
    exact this
theorem update_rule {h : Heap} (m : MapA h A met) (hd : T.desc t = some (.map kt et)) (heq : ∀ x y : AtomD, eqIn T 20 kt x.val y.val = some (decide (x = y))) (ha : a ∉ met) :
    ∃ h', updateA T t (.map (some A)) a.val (.agg ⟨[]⟩) h = some h' ∧ MapA h' A (a :: met) ∧ Chg A h h' := by
  obtain ⟨es, cl, ks, m1, m2, m3, m4⟩ := m
  obtain ⟨f1, f2⟩ := find_key (a := a) heq es ks 0 m2
  have hn : a ∉ ks := fun hh => ha ((m3 a).1 hh)
  refine ⟨h.set A (.map (es ++ [{ key := a.val, val := .agg ⟨[]⟩, born := cl }]) (cl + 1)), ?_, ⟨_, _, ks ++ [a], ⟨by rw [Heap.size_set]; exact m1.lt, by rw [Heap.get_set _ _ _ _ m1.lt, if_pos rfl]⟩, by simp [m2], fun b => ?_, fun x hx => ?_⟩, ?_, ?_, ?_⟩
  · unfold updateA
    simp only [hd, m1.get, is_key a heq, if_true, f1 hn, Option.bind_some]
  · simp [m3, Or.comm]
  · rcases List.mem_append.1 hx with hx | hx
    · exact m4 x hx
    · rw [List.mem_singleton.1 hx]
  · rw [Heap.size_set]; exact Nat.le_refl _
  · intro B hB hne
    rw [Heap.get_set _ _ _ _ m1.lt, if_neg hne]
  · rw [Heap.low_set]; omega
end
theorem store_own {T : Tab} {t u : TypeId} {A n : Nat} {cs : List Value} {v : Value} {h1 : Heap} {bs : List Blk} {w : Nat} {K : Value → Heap → Prop} (q : Holds h1 A (.row cs u false)) (hs : sizeA T t = some n) (hv : v.cells.toList.length = n) (hl : cs.length = n) (h1' : v.cells.toList.all one = true)
    (hK : ∀ h', Holds h' A (.row v.cells.toList u false) → Chg A (h1.lay bs w) h' → K undef h') : memE (storeA T t (.pointer (some ⟨A, 0, none⟩)) v (h1.lay bs w)) K := by
  have hg : (h1.lay bs w).get A = some (.row cs u false) := q.lay bs w
  have hA : A < (h1.lay bs w).size := (q.on bs w).lt
  have hsz : v.cells.size = n := by rw [← hv]; simp
  have hw : writeA A 0 v.cells.toList (h1.lay bs w) = some ((h1.lay bs w).set A (.row v.cells.toList u false)) := by
    unfold writeA
    rw [hg]
    simp only
    rw [if_pos (by simp only [Bool.and_eq_true, decide_eq_true_eq]; exact ⟨by omega, h1'⟩)]
    congr 2
    unfold splice
    rw [List.take_zero, List.nil_append, List.drop_of_length_le (by omega), List.append_nil]
  have he : storeA T t (.pointer (some ⟨A, 0, none⟩)) v (h1.lay bs w) = some ((h1.lay bs w).set A (.row v.cells.toList u false)) := by
    unfold storeA
    simp only [hs, Option.bind_some]
    rw [if_pos hsz]
    exact hw
  rw [he]
  refine hK _ ⟨by rw [Heap.size_set]; exact hA, by rw [Heap.get_set _ _ _ _ hA, if_pos rfl]⟩ ⟨by rw [Heap.size_set]; exact Nat.le_refl _, fun B hB hne => by rw [Heap.get_set _ _ _ _ hA, if_neg hne], by rw [Heap.low_set]; omega⟩
theorem sl_cells {α : Type} {r : Rep α} {h : Heap} {v : Value} {l : List α} (f : Sl r h v l) : v.cells.toList = [v] := by
  rcases f with ⟨rfl, _⟩ | ⟨A, o, c, row, u, ro, rfl, _⟩ <;> rfl
theorem valE_any (v : Value) (h : Heap) (K : Value → Heap → Prop) : valE (some v) h K = K v h := rfl
theorem cells_term (t : TermD) : t.val.cells.toList = t.cells := rfl
end Go.Am
namespace Go.Am
set_option linter.unusedVariables false
def saysB : List UInt8 := [32, 115, 97, 121, 115, 32]
def commaB : List UInt8 := [44, 32]
def namesL (a : AtomD) : List (List UInt8) := a.args.map fun t => t.s.data.toList
def textL (a : AtomD) : List UInt8 := a.says.data.toList ++ saysB ++ a.pred.data.toList ++ (if a.args = [] then [] else [40] ++ Lib.join (namesL a) commaB ++ [41])
def cmpD (a b : AtomD) : Int := Lib.compareBytes (textL a) (textL b)
theorem ba_app (a b : ByteArray) : (a ++ b).data.toList = a.data.toList ++ b.data.toList := by
  rw [ByteArray.data_append, Array.toList_append]
theorem bsz2 (x : ByteArray) : x.data.toList.length = x.size := by rw [Array.length_toList]; rfl
theorem ba_mk {s : ByteArray} {l : List UInt8} (h : s.data.toList = l) : s = ⟨l.toArray⟩ := by
  apply ba_ext
  rw [h]
end Go.Am

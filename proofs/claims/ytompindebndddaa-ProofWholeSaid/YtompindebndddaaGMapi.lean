/- Maps from atoms to numbers, in walks. No condition. -/
import Derived.Test.YtompindebndddaaGMapx
namespace Go.Am
set_option linter.unusedVariables false
set_option linter.unusedSimpArgs false
def MapI (h : Heap) (A : Nat) (kv : List (AtomD × Int)) : Prop := ∃ es clock, Holds h A (.map es clock) ∧ es.map (fun x : MapEntry => (x.key, x.val)) = kv.map (fun p => (p.1.val, Value.int .i64 p.2))
def lookI (kv : List (AtomD × Int)) (a : AtomD) : Option Int := (kv.find? (fun p => decide (a = p.1))).map (·.2)
theorem findI {T : Tab} {kt : TypeId} {a : AtomD} (heq : ∀ x y : AtomD, eqIn T 20 kt x.val y.val = some (decide (x = y))) : ∀ (es : List MapEntry) (kv : List (AtomD × Int)) (i : Nat), es.map (fun x : MapEntry => (x.key, x.val)) = kv.map (fun p => (p.1.val, Value.int .i64 p.2)) →
    (lookI kv a = none → findA T kt a.val es i = some none) ∧ ∀ n, lookI kv a = some n → ∃ j, findA T kt a.val es i = some (some (j, .int .i64 n))
  | [], kv, i, hk => by
    cases kv with
    | nil => exact ⟨fun _ => rfl, fun n h => by simp [lookI] at h⟩
    | cons k kv => simp at hk
  | e :: es, kv, i, hk => by
    cases kv with
    | nil => simp at hk
    | cons k kv =>
      simp only [List.map_cons, List.cons.injEq, Prod.mk.injEq] at hk
      obtain ⟨h1, h2⟩ := findI heq es kv (i + 1) hk.2
      unfold findA
      rw [hk.1.1, heq]
      unfold lookI at h1 h2 ⊢
      by_cases hx : a = k.1
      · rw [decide_eq_true hx, List.find?_cons_of_pos (by simpa using hx)]
        simp [hk.1.2]
      · rw [decide_eq_false hx, List.find?_cons_of_neg (by simpa using hx)]
        simp only [Option.bind_some, Bool.false_eq_true, if_false]
        exact ⟨h1, h2⟩
section
variable {T : Tab} {t kt et : TypeId} {A : Nat} {kv : List (AtomD × Int)} {a : AtomD} {h1 : Heap} {bs : List Blk} {w : Nat} {K : Value → Heap → Prop}
theorem MapI.over (m : MapI h1 A kv) {h2 : Heap} (x : Ext (h1.lay bs w) h2) : MapI h2 A kv := by
  obtain ⟨es, cl, m1, m2⟩ := m
  exact ⟨es, cl, m1.over x, m2⟩
theorem MapI.top {h2 : Heap} {i : Nat} (x : Ext (h1.lay bs w) h2) (hi : bs[i]? = some (.map [] 0)) : MapI h2 (h1.size + i) [] := ⟨[], 0, Holds.top x hi, rfl⟩
theorem MapI.step (m : MapI h1 A kv) {B : Nat} {h2 : Heap} (c : Chg B h1 h2) (hB : A ≠ B) : MapI h2 A kv := by
  obtain ⟨es, cl, m1, m2⟩ := m
  exact ⟨es, cl, m1.step c hB, m2⟩
theorem lookI_rule {ok : Bool} (m : MapI h1 A kv) (hd : T.desc t = some (.map kt et)) (heq : ∀ x y : AtomD, eqIn T 20 kt x.val y.val = some (decide (x = y))) (hz : T.zero et = some (.int .i64 0))
    (hK : K (if ok then .tuple #[.int .i64 ((lookI kv a).getD 0), .bool (lookI kv a).isSome] else .int .i64 ((lookI kv a).getD 0)) (h1.lay bs w)) : valE (lookupA T t (.map (some A)) a.val ok (h1.lay bs w)) (h1.lay bs w) K := by
  obtain ⟨es, cl, m1, m2⟩ := m
  obtain ⟨f1, f2⟩ := findI (a := a) heq es kv 0 m2
  have hg : (h1.lay bs w).get A = some (.map es cl) := m1.lay bs w
  unfold lookupA
  simp only [hd, is_key a heq, if_true, mapOf, hg, Option.bind_some]
  cases hl : lookI kv a with
  | none =>
    rw [hl] at hK
    rw [f1 hl]
    simp only [hz, Option.bind_some, Option.map_some]
    exact hK
  | some n =>
    rw [hl] at hK
    obtain ⟨j, hj⟩ := f2 n hl
    rw [hj]
    simp only [Option.bind_some, Option.map_some]
    exact hK
theorem updI_rule {h : Heap} {n : Int} (m : MapI h A kv) (hd : T.desc t = some (.map kt et)) (heq : ∀ x y : AtomD, eqIn T 20 kt x.val y.val = some (decide (x = y))) (ha : lookI kv a = none) :
    ∃ h', updateA T t (.map (some A)) a.val (.int .i64 n) h = some h' ∧ MapI h' A (kv ++ [(a, n)]) ∧ Chg A h h' := by
  obtain ⟨es, cl, m1, m2⟩ := m
  obtain ⟨f1, f2⟩ := findI (a := a) heq es kv 0 m2
  refine ⟨h.set A (.map (es ++ [{ key := a.val, val := .int .i64 n, born := cl }]) (cl + 1)), ?_, ⟨_, _, ⟨by rw [Heap.size_set]; exact m1.lt, by rw [Heap.get_set _ _ _ _ m1.lt, if_pos rfl]⟩, by simp [m2]⟩, ?_, ?_, ?_⟩
  · unfold updateA
    simp only [hd, m1.get, is_key a heq, if_true, f1 ha, Option.bind_some]
  · rw [Heap.size_set]; exact Nat.le_refl _
  · intro B hB hne
    rw [Heap.get_set _ _ _ _ m1.lt, if_neg hne]
  · rw [Heap.low_set]; omega
end
end Go.Am

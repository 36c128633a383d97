/- The document's forms of names, terms, atoms and clauses, exactly. No condition. -/
import Derived.Test.YtompindebndddaaG28
import Derived.Test.YtompindebndddaaG24
import Derived.Test.YtompindebndddaaGSymx
namespace Go.Am
set_option linter.unusedVariables false
def resP (s : ByteArray) : Prop := (⟨#[115, 97, 121, 115]⟩ : ByteArray) = s ∨ (⟨#[105, 102]⟩ : ByteArray) = s ∨ (⟨#[99, 97, 110, 115, 97, 121]⟩ : ByteArray) = s ∨ (⟨#[112, 114, 105, 110, 99, 105, 112, 97, 108]⟩ : ByteArray) = s ∨ (⟨#[112, 114, 101, 100]⟩ : ByteArray) = s ∨ (⟨#[99, 108, 101, 97, 114]⟩ : ByteArray) = s ∨ (⟨#[113, 117, 111, 116, 97]⟩ : ByteArray) = s ∨ (⟨#[98, 117, 100, 103, 101, 116]⟩ : ByteArray) = s
structure lowX (s : ByteArray) : Prop where
  pos : 1 ≤ s.size
  len : s.size ≤ 255
  first : byteAt s 0 ≠ 95
  all : ∀ i, i < s.size → lowCh (byteAt s i)
def constX (s : ByteArray) : Prop := lowX s ∧ ¬ resP s
def prinX (s : ByteArray) : Prop := constX s ∧ (97 ≤ byteAt s 0 ∧ byteAt s 0 ≤ 122)
structure varX (s : ByteArray) : Prop where
  pos : 1 ≤ s.size
  len : s.size ≤ 255
  first : 65 ≤ byteAt s 0 ∧ byteAt s 0 ≤ 90
  all : ∀ i, i < s.size → okCh (byteAt s i)
def termX (t : TermD) : Prop := if t.v = true then varX t.s else constX t.s
structure ValidX (a : AtomD) : Prop where
  says : prinX a.says
  pred : prinX a.pred
  lo : 0 ≤ a.n
  hi : a.n ≤ 4
  terms : ∀ i : Nat, (i : Int) < a.n → termX (a.arg i)
  rest : ∀ i : Nat, a.n ≤ (i : Int) → i < 4 → a.arg i = noTermD
theorem constX.low {s : ByteArray} (h : constX s) : lowName s := ⟨h.1.pos, h.1.all⟩
theorem termX.ok {t : TermD} (h : termX t) : okTermD t := by
  unfold termX at h
  unfold okTermD
  split at h
  · rename_i hv
    rw [hv]
    exact ⟨h.pos, h.first, h.all⟩
  · rename_i hv
    rw [show t.v = false by simpa using hv]
    exact h.low
theorem ValidX.valid {a : AtomD} (h : ValidX a) : ValidD a := ⟨h.says.1.low, h.pred.1.low, h.lo, h.hi, fun i hi => (h.terms i hi).ok, h.rest⟩
def varIn (a : AtomD) (x : ByteArray) : Prop := ∃ i : Nat, i < 4 ∧ (i : Int) < a.n ∧ (a.arg i).v = true ∧ (a.arg i).s = x
structure OneX (c : ClauseD) : Prop where
  head : ValidX c.head
  body : ∀ b ∈ c.body, ValidX b
  ranged : ∀ x, varIn c.head x → ∃ b ∈ c.body, varIn b x
structure FactX (a : AtomD) : Prop where
  valid : ValidX a
  ground : a.ground = true
structure MayX (cl : List ClauseD) (facts : List AtomD) : Prop where
  clauses : ∀ c ∈ cl, OneX c
  facts : ∀ a ∈ facts, FactX a
theorem arg_mem {a : AtomD} {t : TermD} : t ∈ a.args ↔ ∃ i : Nat, i < a.cnt ∧ a.arg i = t := by
  have h4 : a.cnt = 0 ∨ a.cnt = 1 ∨ a.cnt = 2 ∨ a.cnt = 3 ∨ a.cnt = 4 := by unfold AtomD.cnt; omega
  unfold AtomD.args
  have one : ∀ {n : Nat} {P : Nat → Prop}, (∃ i, i < n + 1 ∧ P i) ↔ (∃ i, i < n ∧ P i) ∨ P n := by
    intro n P
    constructor
    · rintro ⟨i, hi, hp⟩
      by_cases e : i = n
      · subst e; exact .inr hp
      · exact .inl ⟨i, by omega, hp⟩
    · rintro (⟨i, hi, hp⟩ | hp)
      · exact ⟨i, by omega, hp⟩
      · exact ⟨n, by omega, hp⟩
  rcases h4 with e | e | e | e | e <;> rw [e] <;> simp [one, AtomD.arg, eq_comm, or_assoc]
theorem ground_iff {a : AtomD} : a.ground = true ↔ ∀ i : Nat, i < a.cnt → (a.arg i).v = false := by
  unfold AtomD.ground
  rw [Bool.not_eq_true', List.any_eq_false]
  constructor
  · intro h i hi
    have := h (a.arg i) (arg_mem.2 ⟨i, hi, rfl⟩)
    simpa using this
  · intro h t ht
    obtain ⟨i, hi, rfl⟩ := arg_mem.1 ht
    simpa using h i hi
theorem cnt_lt {a : AtomD} {i : Nat} : i < a.cnt ↔ i < 4 ∧ (i : Int) < a.n := by
  unfold AtomD.cnt
  omega
theorem varIn_iff {a : AtomD} {x : ByteArray} : varIn a x ↔ ∃ i : Nat, i < a.cnt ∧ (a.arg i).v = true ∧ (a.arg i).s = x := by
  constructor
  · rintro ⟨i, h1, h2, h3, h4⟩
    exact ⟨i, cnt_lt.2 ⟨h1, h2⟩, h3, h4⟩
  · rintro ⟨i, h1, h3, h4⟩
    exact ⟨i, (cnt_lt.1 h1).1, (cnt_lt.1 h1).2, h3, h4⟩
theorem store_lay {T : Tab} {t u : TypeId} {w n i : Nat} {cs vs : List Value} {v : Value} {h1 : Heap} {bs : List Blk} {K : Value → Heap → Prop} (hb : bs[i]? = some (.row cs u false)) (hs : sizeA T t = some n) (hc : cs.length = n) (hv : v.cells.toList = vs) (hl : vs.length = n) (hv1 : vs.all one = true)
    (hK : K undef (h1.lay (bs.set i (.row vs u false)) (min w (h1.size + i)))) : memE (storeA T t (.pointer (some ⟨h1.size + i, 0, none⟩)) v (h1.lay bs w)) K := by
  have hi := (List.getElem?_eq_some_iff.1 hb).1
  have hg : (h1.lay bs w).get (h1.size + i) = some (.row cs u false) := by rw [lay_get]; exact hb
  have hsz : v.cells.size = n := by rw [← Array.length_toList, hv, hl]
  have hsp : splice cs 0 vs = vs := by
    unfold splice
    rw [List.take_zero, List.nil_append, List.drop_eq_nil_of_le (by omega), List.append_nil]
  have he : storeA T t (.pointer (some ⟨h1.size + i, 0, none⟩)) v (h1.lay bs w) = some ((h1.lay bs w).set (h1.size + i) (.row vs u false)) := by
    unfold storeA
    simp only [hs, Option.bind_some]
    rw [if_pos hsz, hv]
    unfold writeA
    rw [hg]
    simp only
    rw [if_pos (by simp only [Bool.and_eq_true, decide_eq_true_eq]; exact ⟨by omega, hv1⟩), hsp]
  rw [he, lay_set _ _ _ _ _ hi]
  exact hK
end Go.Am

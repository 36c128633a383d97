/- Atoms of the document's form, and plain ones: their texts tell them apart; lists of such, merged. No condition. -/
import Derived.Test.YtemapihoobmonaaGreatDoorG25
import Derived.Test.YtemapihoobmonaaGreatDoorG23
import Derived.Test.YtemapihoobmonaaGreatDoorG20
import Derived.Test.YtemapihoobmonaaGreatDoorG16
namespace Go.Am
set_option linter.unusedVariables false
set_option linter.unusedSimpArgs false
def okCh (c : Int) : Prop := (97 ≤ c ∧ c ≤ 122) ∨ (65 ≤ c ∧ c ≤ 90) ∨ (48 ≤ c ∧ c ≤ 57) ∨ c = 95
def zec (c : Int) : Prop := (97 ≤ c ∧ c ≤ 122) ∨ (48 ≤ c ∧ c ≤ 57) ∨ c = 95
def zgq (s : ByteArray) : Prop := 1 ≤ s.size ∧ ∀ i, i < s.size → zec (zbr s i)
def znQ (s : ByteArray) : Prop := 1 ≤ s.size ∧ (65 ≤ zbr s 0 ∧ zbr s 0 ≤ 90) ∧ ∀ i, i < s.size → okCh (zbr s i)
def zkp (t : TermD) : Prop := if t.v then znQ t.s else zgq t.s
structure ValidD (a : AtomD) : Prop where
  says : zgq a.says
  pred : zgq a.pred
  lo : 0 ≤ a.n
  hi : a.n ≤ 4
  terms : ∀ i : Nat, (i : Int) < a.n → zkp (a.arg i)
  rest : ∀ i : Nat, a.n ≤ (i : Int) → i < 4 → a.arg i = noTermD
def zsg (s : ByteArray) : Bool := decide (65 ≤ zbr s 0) && decide (zbr s 0 ≤ 90)
structure PlainD (a : AtomD) : Prop where
  says : Word a.says.data.toList
  pred : Word a.pred.data.toList
  lo : 0 ≤ a.n
  hi : a.n ≤ 4
  terms : ∀ i : Nat, (i : Int) < a.n → Word (a.arg i).s.data.toList ∧ (a.arg i).v = zsg (a.arg i).s
  rest : ∀ i : Nat, a.n ≤ (i : Int) → i < 4 → a.arg i = noTermD
theorem zjv {s : ByteArray} {c : UInt8} (h : c ∈ s.data.toList) : ∃ i, i < s.size ∧ zbr s i = c.toNat := by
  obtain ⟨i, hi, he⟩ := List.getElem_of_mem h
  have hi' : i < s.size := by rw [← bsz2]; exact hi
  refine ⟨i, hi', ?_⟩
  unfold zbr
  have : s[i]? = some s[i] := by simp [hi']
  rw [this]
  simp only [Option.getD_some]
  have h2 : s[i] = c := by rw [← he]; rfl
  rw [h2]
theorem zj4 {s : ByteArray} (h : zgq s) : Word s.data.toList := by
  intro c hc
  obtain ⟨i, hi, he⟩ := zjv hc
  have := h.2 i hi
  unfold zec at this
  unfold zdF
  omega
theorem zuh {s : ByteArray} (h : znQ s) : Word s.data.toList := by
  intro c hc
  obtain ⟨i, hi, he⟩ := zjv hc
  have := h.2.2 i hi
  unfold okCh at this
  unfold zdF
  omega
theorem ValidD.plain {a : AtomD} (w : ValidD a) : PlainD a := by
  refine ⟨zj4 w.says, zj4 w.pred, w.lo, w.hi, fun i hi => ?_, w.rest⟩
  have h := w.terms i hi
  unfold zkp at h
  cases hv : (a.arg i).v
  · rw [hv] at h
    have h : zgq (a.arg i).s := h
    refine ⟨zj4 h, ?_⟩
    have := h.2 0 h.1
    unfold zec at this
    unfold zsg
    rw [eq_comm, Bool.and_eq_false_iff, decide_eq_false_iff_not, decide_eq_false_iff_not]
    omega
  · rw [hv] at h
    have h : znQ (a.arg i).s := h
    refine ⟨zuh h, ?_⟩
    unfold zsg
    rw [decide_eq_true h.2.1.1, decide_eq_true h.2.1.2]
    rfl
theorem zq7 (a : AtomD) : zaK a = zrr a.says.data.toList a.pred.data.toList (za3 a) := by
  unfold zaK zrr zqn za3 zpH commaB
  cases h : a.args with
  | nil => simp
  | cons t r => simp
theorem args_at {a : AtomD} {i : Nat} (h : i < a.cnt) : a.args[i]? = some (a.arg i) := by
  have hc : a.cnt ≤ 4 := Nat.min_le_right _ _
  unfold AtomD.args
  rw [List.getElem?_take, if_pos h]
  have : i = 0 ∨ i = 1 ∨ i = 2 ∨ i = 3 := by omega
  rcases this with rfl | rfl | rfl | rfl <;> rfl
theorem zrn {a b : AtomD} (h0 : a.says = b.says) (h1 : a.pred = b.pred) (h2 : a.n = b.n) (h : ∀ i, i < 4 → a.arg i = b.arg i) : a = b := by
  have e0 := h 0 (by omega)
  have e1 := h 1 (by omega)
  have e2 := h 2 (by omega)
  have e3 := h 3 (by omega)
  obtain ⟨s, p, n, t0, t1, t2, t3⟩ := a
  obtain ⟨s', p', n', u0, u1, u2, u3⟩ := b
  simp only [AtomD.arg] at e0 e1 e2 e3
  simp only at h0 h1 h2
  subst h0 h1 h2 e0 e1 e2 e3
  rfl
theorem zij {a : AtomD} (w : PlainD a) : ∀ x ∈ za3 a, Word x := by
  intro x hx
  obtain ⟨t, ht, rfl⟩ := List.mem_map.1 hx
  obtain ⟨i, hi⟩ := List.getElem?_of_mem ht
  have hlt : i < a.cnt := by
    have h1 := (List.getElem?_eq_some_iff.1 hi).1
    unfold AtomD.args at h1
    rw [List.length_take] at h1
    omega
  rw [args_at hlt] at hi
  cases hi
  have : (i : Int) < a.n := by
    have : a.cnt ≤ a.n.toNat := Nat.min_le_left _ _
    omega
  exact (w.terms i this).1
theorem zhG {a b : AtomD} (wa : PlainD a) (wb : PlainD b) (h : zaK a = zaK b) : a = b := by
  rw [zq7, zq7] at h
  obtain ⟨h1, h2, h3⟩ := zvk wa.says wb.says wa.pred wb.pred (zij wa) (zij wb) h
  have hlen := congrArg List.length h3
  have hca : (a.cnt : Int) = a.n := by
    have := wa.lo; have := wa.hi
    unfold AtomD.cnt
    omega
  have hcb : (b.cnt : Int) = b.n := by
    have := wb.lo; have := wb.hi
    unfold AtomD.cnt
    omega
  have hla : (za3 a).length = a.cnt := by
    have : a.cnt ≤ 4 := Nat.min_le_right _ _
    unfold za3 AtomD.args
    rw [List.length_map, List.length_take]
    simp only [List.length_cons, List.length_nil]
    omega
  have hlb : (za3 b).length = b.cnt := by
    have : b.cnt ≤ 4 := Nat.min_le_right _ _
    unfold za3 AtomD.args
    rw [List.length_map, List.length_take]
    simp only [List.length_cons, List.length_nil]
    omega
  rw [hla, hlb] at hlen
  have hn : a.n = b.n := by omega
  refine zrn (zhN h1) (zhN h2) hn (fun i hi => ?_)
  by_cases hin : (i : Int) < a.n
  · have e1 := args_at (a := a) (i := i) (by omega)
    have e2 := args_at (a := b) (i := i) (by omega)
    have e3 : (za3 a)[i]? = (za3 b)[i]? := by rw [h3]
    unfold za3 at e3
    rw [List.getElem?_map, List.getElem?_map, e1, e2] at e3
    simp only [Option.map_some, Option.some.injEq] at e3
    have es := zhN e3
    have ev := (wa.terms i hin).2
    have ew := (wb.terms i (by omega)).2
    rw [es] at ev
    have : (a.arg i).v = (b.arg i).v := ev.trans ew.symm
    calc a.arg i = ⟨(a.arg i).v, (a.arg i).s⟩ := rfl
      _ = ⟨(b.arg i).v, (b.arg i).s⟩ := by rw [this, es]
      _ = b.arg i := rfl
  · rw [wa.rest i (by omega) hi, wb.rest i (by omega) hi]
theorem zro {a b : AtomD} (wa : PlainD a) (wb : PlainD b) : cmpD a b = 0 ↔ a = b := ⟨fun h => zhG wa wb (cmpD_zero.1 h), fun h => by rw [h]; exact zcX _⟩
def AllP (l : List AtomD) : Prop := ∀ x ∈ l, PlainD x
theorem AllP.sort {l : List AtomD} (h : AllP l) : AllP (zc5 l) := fun x hx => h x ((zct l).mem hx)
theorem zc0 {l : List AtomD} (h : AllP l) {x : AtomD} : x ∈ zc5 l ↔ x ∈ l := by
  refine ⟨fun hx => (zct l).mem hx, fun hx => ?_⟩
  obtain ⟨y, hy, e⟩ := (zct l).cov x hx
  have := zhG (h y ((zct l).mem hy)) (h x hx) e
  subst this
  exact hy
theorem ziq {l m : List AtomD} (h : AllP l) (g : AllP m) (e : ∀ x, x ∈ l ↔ x ∈ m) : zc5 l = zc5 m :=
  zkW (zct l).asc (zct m).asc (fun x => by rw [zc0 h, zc0 g, e])
theorem zuv {l : List AtomD} (h : AllP l) {a : AtomD} (g : PlainD a) : hasA l a = true ↔ a ∈ l := by
  rw [hasA_iff]
  constructor
  · rintro ⟨x, hx, e⟩
    have := zhG (h x hx) g e
    subst this
    exact hx
  · exact fun hx => ⟨a, hx, rfl⟩
theorem zqA {l : List AtomD} (p : AtomD → Bool) (h : AscD l) : AscD (l.filter p) := h.sublist List.filter_sublist
end Go.Am
namespace Go.Am
set_option linter.unusedVariables false
def resP (s : ByteArray) : Prop := (⟨#[115, 97, 121, 115]⟩ : ByteArray) = s ∨ (⟨#[105, 102]⟩ : ByteArray) = s ∨ (⟨#[99, 97, 110, 115, 97, 121]⟩ : ByteArray) = s ∨ (⟨#[112, 114, 105, 110, 99, 105, 112, 97, 108]⟩ : ByteArray) = s ∨ (⟨#[112, 114, 101, 100]⟩ : ByteArray) = s ∨ (⟨#[99, 108, 101, 97, 114]⟩ : ByteArray) = s ∨ (⟨#[113, 117, 111, 116, 97]⟩ : ByteArray) = s ∨ (⟨#[98, 117, 100, 103, 101, 116]⟩ : ByteArray) = s
structure lowX (s : ByteArray) : Prop where
  pos : 1 ≤ s.size
  len : s.size ≤ 255
  first : zbr s 0 ≠ 95
  all : ∀ i, i < s.size → zec (zbr s i)
def constX (s : ByteArray) : Prop := lowX s ∧ ¬ resP s
def zhF (s : ByteArray) : Prop := constX s ∧ (97 ≤ zbr s 0 ∧ zbr s 0 ≤ 122)
structure varX (s : ByteArray) : Prop where
  pos : 1 ≤ s.size
  len : s.size ≤ 255
  first : 65 ≤ zbr s 0 ∧ zbr s 0 ≤ 90
  all : ∀ i, i < s.size → okCh (zbr s i)
def termX (t : TermD) : Prop := if t.v = true then varX t.s else constX t.s
structure ValidX (a : AtomD) : Prop where
  says : zhF a.says
  pred : zhF a.pred
  lo : 0 ≤ a.n
  hi : a.n ≤ 4
  terms : ∀ i : Nat, (i : Int) < a.n → termX (a.arg i)
  rest : ∀ i : Nat, a.n ≤ (i : Int) → i < 4 → a.arg i = noTermD
theorem constX.low {s : ByteArray} (h : constX s) : zgq s := ⟨h.1.pos, h.1.all⟩
theorem termX.ok {t : TermD} (h : termX t) : zkp t := by
  unfold termX at h
  unfold zkp
  split at h
  · rename_i hv
    rw [hv]
    exact ⟨h.pos, h.first, h.all⟩
  · rename_i hv
    rw [show t.v = false by simpa using hv]
    exact h.low
theorem ValidX.valid {a : AtomD} (h : ValidX a) : ValidD a := ⟨h.says.1.low, h.pred.1.low, h.lo, h.hi, fun i hi => (h.terms i hi).ok, h.rest⟩
def zc7 (a : AtomD) (x : ByteArray) : Prop := ∃ i : Nat, i < 4 ∧ (i : Int) < a.n ∧ (a.arg i).v = true ∧ (a.arg i).s = x
structure OneX (c : ClauseD) : Prop where
  head : ValidX c.head
  body : ∀ b ∈ c.body, ValidX b
  ranged : ∀ x, zc7 c.head x → ∃ b ∈ c.body, zc7 b x
structure FactX (a : AtomD) : Prop where
  valid : ValidX a
  ground : a.ground = true
structure MayX (cl : List ClauseD) (facts : List AtomD) : Prop where
  clauses : ∀ c ∈ cl, OneX c
  facts : ∀ a ∈ facts, FactX a
theorem arg_mem {a : AtomD} {t : TermD} : t ∈ a.args ↔ ∃ i : Nat, i < a.cnt ∧ a.arg i = t := by
  have h4 : a.cnt = 0 ∨ a.cnt = 1 ∨ a.cnt = 2 ∨ a.cnt = 3 ∨ a.cnt = 4 := by unfold AtomD.cnt; omega
  unfold AtomD.args
  have one : ∀ {n : Nat} {P : Nat → Prop}, (∃ i, i < n + 1 ∧ P i) ↔ (∃ i, i < n ∧ P i) ∨ P n := by
    intro n P
    constructor
    · rintro ⟨i, hi, hp⟩
      by_cases e : i = n
      · subst e; exact .inr hp
      · exact .inl ⟨i, by omega, hp⟩
    · rintro (⟨i, hi, hp⟩ | hp)
      · exact ⟨i, by omega, hp⟩
      · exact ⟨n, by omega, hp⟩
  rcases h4 with e | e | e | e | e <;> rw [e] <;> simp [one, AtomD.arg, eq_comm, or_assoc]
theorem ground_iff {a : AtomD} : a.ground = true ↔ ∀ i : Nat, i < a.cnt → (a.arg i).v = false := by
  unfold AtomD.ground
  rw [Bool.not_eq_true', List.any_eq_false]
  constructor
  · intro h i hi
    have := h (a.arg i) (arg_mem.2 ⟨i, hi, rfl⟩)
    simpa using this
  · intro h t ht
    obtain ⟨i, hi, rfl⟩ := arg_mem.1 ht
    simpa using h i hi
theorem cnt_lt {a : AtomD} {i : Nat} : i < a.cnt ↔ i < 4 ∧ (i : Int) < a.n := by
  unfold AtomD.cnt
  omega
theorem varIn_iff {a : AtomD} {x : ByteArray} : zc7 a x ↔ ∃ i : Nat, i < a.cnt ∧ (a.arg i).v = true ∧ (a.arg i).s = x := by
  constructor
  · rintro ⟨i, h1, h2, h3, h4⟩
    exact ⟨i, cnt_lt.2 ⟨h1, h2⟩, h3, h4⟩
  · rintro ⟨i, h1, h3, h4⟩
    exact ⟨i, (cnt_lt.1 h1).1, (cnt_lt.1 h1).2, h3, h4⟩
end Go.Am

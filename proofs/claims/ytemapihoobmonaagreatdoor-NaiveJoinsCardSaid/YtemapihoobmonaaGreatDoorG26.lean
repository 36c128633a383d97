/- Atoms of the document's form, and plain ones: their texts tell them apart; lists of such, merged. No condition. -/
import Derived.Test.YtemapihoobmonaaGreatDoorG25
import Derived.Test.YtemapihoobmonaaGreatDoorG23
import Derived.Test.YtemapihoobmonaaGreatDoorG20
import Derived.Test.YtemapihoobmonaaGreatDoorG16
namespace Go.Am
set_option linter.unusedVariables false
set_option linter.unusedSimpArgs false
def okCh (c : Int) : Prop := (97 ≤ c ∧ c ≤ 122) ∨ (65 ≤ c ∧ c ≤ 90) ∨ (48 ≤ c ∧ c ≤ 57) ∨ c = 95
def zen (c : Int) : Prop := (97 ≤ c ∧ c ≤ 122) ∨ (48 ≤ c ∧ c ≤ 57) ∨ c = 95
def zgv (s : ByteArray) : Prop := 1 ≤ s.size ∧ ∀ i, i < s.size → zen (zbw s i)
def znx (s : ByteArray) : Prop := 1 ≤ s.size ∧ (65 ≤ zbw s 0 ∧ zbw s 0 ≤ 90) ∧ ∀ i, i < s.size → okCh (zbw s i)
def zk4 (t : TermD) : Prop := if t.v then znx t.s else zgv t.s
structure ValidD (a : AtomD) : Prop where
  says : zgv a.says
  pred : zgv a.pred
  lo : 0 ≤ a.n
  hi : a.n ≤ 4
  terms : ∀ i : Nat, (i : Int) < a.n → zk4 (a.arg i)
  rest : ∀ i : Nat, a.n ≤ (i : Int) → i < 4 → a.arg i = noTermD
def zrQ (s : ByteArray) : Bool := decide (65 ≤ zbw s 0) && decide (zbw s 0 ≤ 90)
structure PlainD (a : AtomD) : Prop where
  says : Word a.says.data.toList
  pred : Word a.pred.data.toList
  lo : 0 ≤ a.n
  hi : a.n ≤ 4
  terms : ∀ i : Nat, (i : Int) < a.n → Word (a.arg i).s.data.toList ∧ (a.arg i).v = zrQ (a.arg i).s
  rest : ∀ i : Nat, a.n ≤ (i : Int) → i < 4 → a.arg i = noTermD
theorem zjO {s : ByteArray} {c : UInt8} (h : c ∈ s.data.toList) : ∃ i, i < s.size ∧ zbw s i = c.toNat := by
  obtain ⟨i, hi, he⟩ := List.getElem_of_mem h
  have hi' : i < s.size := by rw [← bsz2]; exact hi
  refine ⟨i, hi', ?_⟩
  unfold zbw
  have : s[i]? = some s[i] := by simp [hi']
  rw [this]
  simp only [Option.getD_some]
  have h2 : s[i] = c := by rw [← he]; rfl
  rw [h2]
theorem zj8 {s : ByteArray} (h : zgv s) : Word s.data.toList := by
  intro c hc
  obtain ⟨i, hi, he⟩ := zjO hc
  have := h.2 i hi
  unfold zen at this
  unfold zdU
  omega
theorem zuU {s : ByteArray} (h : znx s) : Word s.data.toList := by
  intro c hc
  obtain ⟨i, hi, he⟩ := zjO hc
  have := h.2.2 i hi
  unfold okCh at this
  unfold zdU
  omega
theorem ValidD.plain {a : AtomD} (w : ValidD a) : PlainD a := by
  refine ⟨zj8 w.says, zj8 w.pred, w.lo, w.hi, fun i hi => ?_, w.rest⟩
  have h := w.terms i hi
  unfold zk4 at h
  cases hv : (a.arg i).v
  · rw [hv] at h
    have h : zgv (a.arg i).s := h
    refine ⟨zj8 h, ?_⟩
    have := h.2 0 h.1
    unfold zen at this
    unfold zrQ
    rw [eq_comm, Bool.and_eq_false_iff, decide_eq_false_iff_not, decide_eq_false_iff_not]
    omega
  · rw [hv] at h
    have h : znx (a.arg i).s := h
    refine ⟨zuU h, ?_⟩
    unfold zrQ
    rw [decide_eq_true h.2.1.1, decide_eq_true h.2.1.2]
    rfl
theorem zte (a : AtomD) : zaR a = zs2 a.says.data.toList a.pred.data.toList (za8 a) := by
  unfold zaR zs2 zqc za8 zqF commaB
  cases h : a.args with
  | nil => simp
  | cons t r => simp
theorem args_at {a : AtomD} {i : Nat} (h : i < a.cnt) : a.args[i]? = some (a.arg i) := by
  have hc : a.cnt ≤ 4 := Nat.min_le_right _ _
  unfold AtomD.args
  rw [List.getElem?_take, if_pos h]
  have : i = 0 ∨ i = 1 ∨ i = 2 ∨ i = 3 := by omega
  rcases this with rfl | rfl | rfl | rfl <;> rfl
theorem ztu {a b : AtomD} (h0 : a.says = b.says) (h1 : a.pred = b.pred) (h2 : a.n = b.n) (h : ∀ i, i < 4 → a.arg i = b.arg i) : a = b := by
  have e0 := h 0 (by omega)
  have e1 := h 1 (by omega)
  have e2 := h 2 (by omega)
  have e3 := h 3 (by omega)
  obtain ⟨s, p, n, t0, t1, t2, t3⟩ := a
  obtain ⟨s', p', n', u0, u1, u2, u3⟩ := b
  simp only [AtomD.arg] at e0 e1 e2 e3
  simp only at h0 h1 h2
  subst h0 h1 h2 e0 e1 e2 e3
  rfl
theorem ziY {a : AtomD} (w : PlainD a) : ∀ x ∈ za8 a, Word x := by
  intro x hx
  obtain ⟨t, ht, rfl⟩ := List.mem_map.1 hx
  obtain ⟨i, hi⟩ := List.getElem?_of_mem ht
  have hlt : i < a.cnt := by
    have h1 := (List.getElem?_eq_some_iff.1 hi).1
    unfold AtomD.args at h1
    rw [List.length_take] at h1
    omega
  rw [args_at hlt] at hi
  cases hi
  have : (i : Int) < a.n := by
    have : a.cnt ≤ a.n.toNat := Nat.min_le_left _ _
    omega
  exact (w.terms i this).1
theorem ziT {a b : AtomD} (wa : PlainD a) (wb : PlainD b) (h : zaR a = zaR b) : a = b := by
  rw [zte, zte] at h
  obtain ⟨h1, h2, h3⟩ := zuW wa.says wb.says wa.pred wb.pred (ziY wa) (ziY wb) h
  have hlen := congrArg List.length h3
  have hca : (a.cnt : Int) = a.n := by
    have := wa.lo; have := wa.hi
    unfold AtomD.cnt
    omega
  have hcb : (b.cnt : Int) = b.n := by
    have := wb.lo; have := wb.hi
    unfold AtomD.cnt
    omega
  have hla : (za8 a).length = a.cnt := by
    have : a.cnt ≤ 4 := Nat.min_le_right _ _
    unfold za8 AtomD.args
    rw [List.length_map, List.length_take]
    simp only [List.length_cons, List.length_nil]
    omega
  have hlb : (za8 b).length = b.cnt := by
    have : b.cnt ≤ 4 := Nat.min_le_right _ _
    unfold za8 AtomD.args
    rw [List.length_map, List.length_take]
    simp only [List.length_cons, List.length_nil]
    omega
  rw [hla, hlb] at hlen
  have hn : a.n = b.n := by omega
  refine ztu (ziB h1) (ziB h2) hn (fun i hi => ?_)
  by_cases hin : (i : Int) < a.n
  · have e1 := args_at (a := a) (i := i) (by omega)
    have e2 := args_at (a := b) (i := i) (by omega)
    have e3 : (za8 a)[i]? = (za8 b)[i]? := by rw [h3]
    unfold za8 at e3
    rw [List.getElem?_map, List.getElem?_map, e1, e2] at e3
    simp only [Option.map_some, Option.some.injEq] at e3
    have es := ziB e3
    have ev := (wa.terms i hin).2
    have ew := (wb.terms i (by omega)).2
    rw [es] at ev
    have : (a.arg i).v = (b.arg i).v := ev.trans ew.symm
    calc a.arg i = ⟨(a.arg i).v, (a.arg i).s⟩ := rfl
      _ = ⟨(b.arg i).v, (b.arg i).s⟩ := by rw [this, es]
      _ = b.arg i := rfl
  · rw [wa.rest i (by omega) hi, wb.rest i (by omega) hi]
theorem zsM {a b : AtomD} (wa : PlainD a) (wb : PlainD b) : cmpD a b = 0 ↔ a = b := ⟨fun h => ziT wa wb (cmpD_zero.1 h), fun h => by rw [h]; exact zdp _⟩
def AllP (l : List AtomD) : Prop := ∀ x ∈ l, PlainD x
theorem AllP.sort {l : List AtomD} (h : AllP l) : AllP (zco l) := fun x hx => h x ((zcF l).mem hx)
theorem zcl {l : List AtomD} (h : AllP l) {x : AtomD} : x ∈ zco l ↔ x ∈ l := by
  refine ⟨fun hx => (zcF l).mem hx, fun hx => ?_⟩
  obtain ⟨y, hy, e⟩ := (zcF l).cov x hx
  have := ziT (h y ((zcF l).mem hy)) (h x hx) e
  subst this
  exact hy
theorem zii {l m : List AtomD} (h : AllP l) (g : AllP m) (e : ∀ x, x ∈ l ↔ x ∈ m) : zco l = zco m :=
  zms (zcF l).asc (zcF m).asc (fun x => by rw [zcl h, zcl g, e])
theorem zwj {l : List AtomD} (h : AllP l) {a : AtomD} (g : PlainD a) : hasA l a = true ↔ a ∈ l := by
  rw [hasA_iff]
  constructor
  · rintro ⟨x, hx, e⟩
    have := ziT (h x hx) g e
    subst this
    exact hx
  · exact fun hx => ⟨a, hx, rfl⟩
theorem zpS {l : List AtomD} (p : AtomD → Bool) (h : AscD l) : AscD (l.filter p) := h.sublist List.filter_sublist
end Go.Am
namespace Go.Am
set_option linter.unusedVariables false
def resP (s : ByteArray) : Prop := (⟨#[115, 97, 121, 115]⟩ : ByteArray) = s ∨ (⟨#[105, 102]⟩ : ByteArray) = s ∨ (⟨#[99, 97, 110, 115, 97, 121]⟩ : ByteArray) = s ∨ (⟨#[112, 114, 105, 110, 99, 105, 112, 97, 108]⟩ : ByteArray) = s ∨ (⟨#[112, 114, 101, 100]⟩ : ByteArray) = s ∨ (⟨#[99, 108, 101, 97, 114]⟩ : ByteArray) = s ∨ (⟨#[113, 117, 111, 116, 97]⟩ : ByteArray) = s ∨ (⟨#[98, 117, 100, 103, 101, 116]⟩ : ByteArray) = s
structure lowX (s : ByteArray) : Prop where
  pos : 1 ≤ s.size
  len : s.size ≤ 255
  first : zbw s 0 ≠ 95
  all : ∀ i, i < s.size → zen (zbw s i)
def constX (s : ByteArray) : Prop := lowX s ∧ ¬ resP s
def zhE (s : ByteArray) : Prop := constX s ∧ (97 ≤ zbw s 0 ∧ zbw s 0 ≤ 122)
structure varX (s : ByteArray) : Prop where
  pos : 1 ≤ s.size
  len : s.size ≤ 255
  first : 65 ≤ zbw s 0 ∧ zbw s 0 ≤ 90
  all : ∀ i, i < s.size → okCh (zbw s i)
def termX (t : TermD) : Prop := if t.v = true then varX t.s else constX t.s
structure ValidX (a : AtomD) : Prop where
  says : zhE a.says
  pred : zhE a.pred
  lo : 0 ≤ a.n
  hi : a.n ≤ 4
  terms : ∀ i : Nat, (i : Int) < a.n → termX (a.arg i)
  rest : ∀ i : Nat, a.n ≤ (i : Int) → i < 4 → a.arg i = noTermD
theorem constX.low {s : ByteArray} (h : constX s) : zgv s := ⟨h.1.pos, h.1.all⟩
theorem termX.ok {t : TermD} (h : termX t) : zk4 t := by
  unfold termX at h
  unfold zk4
  split at h
  · rename_i hv
    rw [hv]
    exact ⟨h.pos, h.first, h.all⟩
  · rename_i hv
    rw [show t.v = false by simpa using hv]
    exact h.low
theorem ValidX.valid {a : AtomD} (h : ValidX a) : ValidD a := ⟨h.says.1.low, h.pred.1.low, h.lo, h.hi, fun i hi => (h.terms i hi).ok, h.rest⟩
def zdb (a : AtomD) (x : ByteArray) : Prop := ∃ i : Nat, i < 4 ∧ (i : Int) < a.n ∧ (a.arg i).v = true ∧ (a.arg i).s = x
structure OneX (c : ClauseD) : Prop where
  head : ValidX c.head
  body : ∀ b ∈ c.body, ValidX b
  ranged : ∀ x, zdb c.head x → ∃ b ∈ c.body, zdb b x
structure FactX (a : AtomD) : Prop where
  valid : ValidX a
  ground : a.ground = true
structure MayX (cl : List ClauseD) (facts : List AtomD) : Prop where
  clauses : ∀ c ∈ cl, OneX c
  facts : ∀ a ∈ facts, FactX a
theorem arg_mem {a : AtomD} {t : TermD} : t ∈ a.args ↔ ∃ i : Nat, i < a.cnt ∧ a.arg i = t := by
  have h4 : a.cnt = 0 ∨ a.cnt = 1 ∨ a.cnt = 2 ∨ a.cnt = 3 ∨ a.cnt = 4 := by unfold AtomD.cnt; omega
  unfold AtomD.args
  have one : ∀ {n : Nat} {P : Nat → Prop}, (∃ i, i < n + 1 ∧ P i) ↔ (∃ i, i < n ∧ P i) ∨ P n := by
    intro n P
    constructor
    · rintro ⟨i, hi, hp⟩
      by_cases e : i = n
      · subst e; exact .inr hp
      · exact .inl ⟨i, by omega, hp⟩
    · rintro (⟨i, hi, hp⟩ | hp)
      · exact ⟨i, by omega, hp⟩
      · exact ⟨n, by omega, hp⟩
  rcases h4 with e | e | e | e | e <;> rw [e] <;> simp [one, AtomD.arg, eq_comm, or_assoc]
theorem ground_iff {a : AtomD} : a.ground = true ↔ ∀ i : Nat, i < a.cnt → (a.arg i).v = false := by
  unfold AtomD.ground
  rw [Bool.not_eq_true', List.any_eq_false]
  constructor
  · intro h i hi
    have := h (a.arg i) (arg_mem.2 ⟨i, hi, rfl⟩)
    simpa using this
  · intro h t ht
    obtain ⟨i, hi, rfl⟩ := arg_mem.1 ht
    simpa using h i hi
theorem cnt_lt {a : AtomD} {i : Nat} : i < a.cnt ↔ i < 4 ∧ (i : Int) < a.n := by
  unfold AtomD.cnt
  omega
theorem varIn_iff {a : AtomD} {x : ByteArray} : zdb a x ↔ ∃ i : Nat, i < a.cnt ∧ (a.arg i).v = true ∧ (a.arg i).s = x := by
  constructor
  · rintro ⟨i, h1, h2, h3, h4⟩
    exact ⟨i, cnt_lt.2 ⟨h1, h2⟩, h3, h4⟩
  · rintro ⟨i, h1, h3, h4⟩
    exact ⟨i, (cnt_lt.1 h1).1, (cnt_lt.1 h1).2, h3, h4⟩
theorem ztg {T : Tab} {t u : TypeId} {w n i : Nat} {cs vs : List Value} {v : Value} {h1 : Heap} {bs : List Blk} {K : Value → Heap → Prop} (hb : bs[i]? = some (.row cs u false)) (hs : zaM T t = some n) (hc : cs.length = n) (hv : v.cells.toList = vs) (hl : vs.length = n) (hv1 : vs.all one = true)
    (hK : K undef (h1.lay (bs.set i (.row vs u false)) (min w (h1.size + i)))) : memE (zaZ T t (.pointer (some ⟨h1.size + i, 0, none⟩)) v (h1.lay bs w)) K := by
  have hi := (List.getElem?_eq_some_iff.1 hb).1
  have hg : (h1.lay bs w).get (h1.size + i) = some (.row cs u false) := by rw [za4]; exact hb
  have hsz : v.cells.size = n := by rw [← Array.length_toList, hv, hl]
  have hsp : splice cs 0 vs = vs := by
    unfold splice
    rw [List.take_zero, List.nil_append, List.drop_eq_nil_of_le (by omega), List.append_nil]
  have he : zaZ T t (.pointer (some ⟨h1.size + i, 0, none⟩)) v (h1.lay bs w) = some ((h1.lay bs w).set (h1.size + i) (.row vs u false)) := by
    unfold zaZ
    simp only [hs, Option.bind_some]
    rw [if_pos hsz, hv]
    unfold zcq
    rw [hg]
    simp only
    rw [if_pos (by simp only [Bool.and_eq_true, decide_eq_true_eq]; exact ⟨by omega, hv1⟩), hsp]
  rw [he, zaF _ _ _ _ _ hi]
  exact hK
end Go.Am

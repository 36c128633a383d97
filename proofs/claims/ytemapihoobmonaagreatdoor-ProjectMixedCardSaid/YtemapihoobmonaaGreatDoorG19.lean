/- What the arguments' cells are: policies, names, steps. Written out by fill2.py. No condition. -/
import Derived.Test.YtemapihoobmonaaGreatDoorG14
import Derived.Test.YtemapihoobmonaaGreatDoorG18
import Derived.Test.YtemapihoobmonaaGreatDoorG17
namespace Go.Proofs.YtemapihoobmonaaGreatDoor
open Go.Am
set_option linter.unusedSimpArgs false
set_option linter.unusedVariables false
set_option maxRecDepth 100000
theorem zl0 : Tryz.prog.cellsOf 110 = 2 := by kernel_rfl
theorem zmR : Tryz.prog.cellsOf 112 = 2 := by kernel_rfl
theorem zmZ : Tryz.prog.cellsOf 113 = 12 := by kernel_rfl
theorem zmg : Tryz.prog.cellsOf 115 = 13 := by kernel_rfl
theorem zqC : Tryz.prog.cellsOf 55 = 7 := by kernel_rfl
theorem zi1 {h : Heap} {n : Nat} {v : Value} (hs : Shp Tryz.prog h (n + 2) 49 [v]) : ∃ l, Sl Rep.str h v l :=
  zgW Tryz.underlying49 zqY (fun cs hc => zbB hc) hs
theorem zqp {h : Heap} {n : Nat} {v : Value} (hs : zeg Tryz.prog h (n + 1) 9 v) : ∃ s : ByteArray, v = .string s := by
  unfold zeg at hs
  rw [Tryz.underlying9] at hs
  obtain ⟨s, hs⟩ := zbB hs
  simp only [List.cons.injEq, and_true] at hs
  exact ⟨s, hs⟩
theorem zpB {cs : List Value} {k : Nat} (h : k < cs.length) : ∃ v, (cs.drop k).take 1 = [v] := by
  rw [List.drop_eq_getElem_cons h]
  exact ⟨_, rfl⟩
theorem zwd {h : Heap} {n : Nat} {cs : List Value} (hs : Shp Tryz.prog h (n + 2) 110 cs) : ∃ x, Rep.pred.R h cs x := by
  unfold Shp at hs
  rw [Tryz.underlying110] at hs
  obtain ⟨hl, hf⟩ := hs
  rw [zl0] at hl
  match cs, hl with
  | [a, b], _ =>
    have h0 : Shp Tryz.prog h (n + 1) 9 (([a, b].drop 0).take 1) := hf 0 _ rfl
    have h1 : Shp Tryz.prog h (n + 1) 3 (([a, b].drop 1).take 1) := hf 1 _ rfl
    obtain ⟨s, e0⟩ := zbB h0
    obtain ⟨i, e1, _⟩ := zie h1
    simp at e0 e1
    subst e0 e1
    exact ⟨⟨s, i⟩, rfl⟩
theorem zs6 {h : Heap} {n : Nat} {cs : List Value} (hs : Shp Tryz.prog h (n + 3) 112 cs) : ∃ x, Rep.clear.R h cs x := by
  unfold Shp at hs
  rw [Tryz.underlying112] at hs
  obtain ⟨hl, hf⟩ := hs
  rw [zmR] at hl
  match cs, hl with
  | [a, b], _ =>
    have h0 : Shp Tryz.prog h (n + 2) 9 (([a, b].drop 0).take 1) := hf 0 _ rfl
    have h1 : Shp Tryz.prog h (n + 2) 49 (([a, b].drop 1).take 1) := hf 1 _ rfl
    obtain ⟨s, e0⟩ := zbB h0
    obtain ⟨l, e1⟩ := zi1 h1
    simp at e0
    subst e0
    exact ⟨⟨s, l⟩, _, rfl, e1⟩
theorem zvw {h : Heap} {n : Nat} {cs : List Value} (hs : Shp Tryz.prog h (n + 6) 113 cs) : ∃ x, Rep.clause.R h cs x := by
  unfold Shp at hs
  rw [Tryz.underlying113] at hs
  obtain ⟨hl, hf⟩ := hs
  rw [zmZ] at hl
  have h0 : Shp Tryz.prog h (n + 5) 26 ((cs.drop 0).take 11) := hf 0 _ rfl
  have h1 : Shp Tryz.prog h (n + 5) 27 ((cs.drop 11).take 1) := hf 1 _ rfl
  obtain ⟨a, ha⟩ := zka (n := n + 1) h0
  obtain ⟨v, hv⟩ := zpB (cs := cs) (k := 11) (by omega)
  rw [hv] at h1
  obtain ⟨l, hl2⟩ := znd h1
  refine ⟨⟨a, l⟩, v, ?_, hl2⟩
  have e1 : cs = cs.take 11 ++ cs.drop 11 := (List.take_append_drop 11 cs).symm
  rw [List.take_of_length_le (by simp; omega)] at hv
  rw [List.drop_zero] at ha
  rw [e1, ha, hv]
theorem zux {h : Heap} {n : Nat} {cs : List Value} (hs : Shp Tryz.prog h (n + 6) 115 cs) : ∃ x, Rep.grant.R h cs x := by
  unfold Shp at hs
  rw [Tryz.underlying115] at hs
  obtain ⟨hl, hf⟩ := hs
  rw [zmg] at hl
  match cs, hl with
  | c0 :: cs, hl =>
    have hl : cs.length = 12 := by simpa using hl
    have h0 : Shp Tryz.prog h (n + 5) 9 (((c0 :: cs).drop 0).take 1) := hf 0 _ rfl
    have h1 : Shp Tryz.prog h (n + 5) 26 ((cs.drop 0).take 11) := hf 1 _ rfl
    have h2 : Shp Tryz.prog h (n + 5) 27 ((cs.drop 11).take 1) := hf 2 _ rfl
    obtain ⟨s, e0⟩ := zbB h0
    obtain ⟨a, ha⟩ := zka (n := n + 1) h1
    obtain ⟨v, hv⟩ := zpB (cs := cs) (k := 11) (by omega)
    rw [hv] at h2
    obtain ⟨l, hl2⟩ := znd h2
    simp at e0
    subst e0
    refine ⟨⟨s, a, l⟩, v, ?_, hl2⟩
    have e1 : cs = cs.take 11 ++ cs.drop 11 := (List.take_append_drop 11 cs).symm
    rw [List.take_of_length_le (by simp; omega)] at hv
    rw [List.drop_zero] at ha
    rw [e1, ha, hv]
theorem zrm {h : Heap} {n : Nat} {v : Value} (hs : zeg Tryz.prog h (n + 8) 55 v) : ∃ d, PolV h v d := by
  unfold zeg at hs
  rw [Tryz.underlying55] at hs
  obtain ⟨cs, rfl, hc⟩ := hs
  unfold Shp at hc
  rw [Tryz.underlying55] at hc
  obtain ⟨hl, hf⟩ := hc
  rw [zqC] at hl
  match cs, hl with
  | [c0, c1, c2, c3, c4, c5, c6], _ =>
    have h0 : Shp Tryz.prog h (n + 7) 49 (([c0, c1, c2, c3, c4, c5, c6].drop 0).take 1) := hf 0 _ rfl
    have h1 : Shp Tryz.prog h (n + 7) 50 (([c0, c1, c2, c3, c4, c5, c6].drop 1).take 1) := hf 1 _ rfl
    have h2 : Shp Tryz.prog h (n + 7) 51 (([c0, c1, c2, c3, c4, c5, c6].drop 2).take 1) := hf 2 _ rfl
    have h3 : Shp Tryz.prog h (n + 7) 3 (([c0, c1, c2, c3, c4, c5, c6].drop 3).take 1) := hf 3 _ rfl
    have h4 : Shp Tryz.prog h (n + 7) 3 (([c0, c1, c2, c3, c4, c5, c6].drop 4).take 1) := hf 4 _ rfl
    have h5 : Shp Tryz.prog h (n + 7) 52 (([c0, c1, c2, c3, c4, c5, c6].drop 5).take 1) := hf 5 _ rfl
    have h6 : Shp Tryz.prog h (n + 7) 53 (([c0, c1, c2, c3, c4, c5, c6].drop 6).take 1) := hf 6 _ rfl
    obtain ⟨l0, g0⟩ := zi1 h0
    obtain ⟨l1, g1⟩ := zgW (n := n + 6) Tryz.underlying50 zl0 (fun cs hc => zwd hc) h1
    obtain ⟨l2, g2⟩ := zgW (n := n + 6) Tryz.underlying51 zmR (fun cs hc => zs6 hc) h2
    obtain ⟨i3, e3, _⟩ := zie h3
    obtain ⟨i4, e4, _⟩ := zie h4
    obtain ⟨l5, g5⟩ := zgW (n := n + 6) Tryz.underlying52 zmZ (fun cs hc => zvw hc) h5
    obtain ⟨l6, g6⟩ := zgW (n := n + 6) Tryz.underlying53 zmg (fun cs hc => zux hc) h6
    simp at e3 e4
    subst e3 e4
    exact ⟨⟨l0, l1, l2, i3, i4, l5, l6⟩, _, _, _, _, _, _, _, rfl, ⟨g0, g1, g2, g5, g6⟩⟩
end Go.Proofs.YtemapihoobmonaaGreatDoor
namespace Go.Am
set_option linter.unusedVariables false
set_option linter.unusedSimpArgs false
def okCh (c : Int) : Prop := (97 ≤ c ∧ c ≤ 122) ∨ (65 ≤ c ∧ c ≤ 90) ∨ (48 ≤ c ∧ c ≤ 57) ∨ c = 95
def zf5 (c : Int) : Prop := (97 ≤ c ∧ c ≤ 122) ∨ (48 ≤ c ∧ c ≤ 57) ∨ c = 95
def zgP (s : ByteArray) : Prop := 1 ≤ s.size ∧ ∀ i, i < s.size → zf5 (zbp s i)
def znC (s : ByteArray) : Prop := 1 ≤ s.size ∧ (65 ≤ zbp s 0 ∧ zbp s 0 ≤ 90) ∧ ∀ i, i < s.size → okCh (zbp s i)
def zks (t : TermD) : Prop := if t.v then znC t.s else zgP t.s
structure ValidD (a : AtomD) : Prop where
  says : zgP a.says
  pred : zgP a.pred
  lo : 0 ≤ a.n
  hi : a.n ≤ 4
  terms : ∀ i : Nat, (i : Int) < a.n → zks (a.arg i)
  rest : ∀ i : Nat, a.n ≤ (i : Int) → i < 4 → a.arg i = zdh
def zsi (s : ByteArray) : Bool := decide (65 ≤ zbp s 0) && decide (zbp s 0 ≤ 90)
structure PlainD (a : AtomD) : Prop where
  says : Word a.says.data.toList
  pred : Word a.pred.data.toList
  lo : 0 ≤ a.n
  hi : a.n ≤ 4
  terms : ∀ i : Nat, (i : Int) < a.n → Word (a.arg i).s.data.toList ∧ (a.arg i).v = zsi (a.arg i).s
  rest : ∀ i : Nat, a.n ≤ (i : Int) → i < 4 → a.arg i = zdh
theorem zjK {s : ByteArray} {c : UInt8} (h : c ∈ s.data.toList) : ∃ i, i < s.size ∧ zbp s i = c.toNat := by
  obtain ⟨i, hi, he⟩ := List.getElem_of_mem h
  have hi' : i < s.size := by rw [← bsz2]; exact hi
  refine ⟨i, hi', ?_⟩
  unfold zbp
  have : s[i]? = some s[i] := by simp [hi']
  rw [this]
  simp only [Option.getD_some]
  have h2 : s[i] = c := by rw [← he]; rfl
  rw [h2]
theorem zkf {s : ByteArray} (h : zgP s) : Word s.data.toList := by
  intro c hc
  obtain ⟨i, hi, he⟩ := zjK hc
  have := h.2 i hi
  unfold zf5 at this
  unfold zdH
  omega
theorem zvq {s : ByteArray} (h : znC s) : Word s.data.toList := by
  intro c hc
  obtain ⟨i, hi, he⟩ := zjK hc
  have := h.2.2 i hi
  unfold okCh at this
  unfold zdH
  omega
theorem ValidD.plain {a : AtomD} (w : ValidD a) : PlainD a := by
  refine ⟨zkf w.says, zkf w.pred, w.lo, w.hi, fun i hi => ?_, w.rest⟩
  have h := w.terms i hi
  unfold zks at h
  cases hv : (a.arg i).v
  · rw [hv] at h
    have h : zgP (a.arg i).s := h
    refine ⟨zkf h, ?_⟩
    have := h.2 0 h.1
    unfold zf5 at this
    unfold zsi
    rw [eq_comm, Bool.and_eq_false_iff, decide_eq_false_iff_not, decide_eq_false_iff_not]
    omega
  · rw [hv] at h
    have h : znC (a.arg i).s := h
    refine ⟨zvq h, ?_⟩
    unfold zsi
    rw [decide_eq_true h.2.1.1, decide_eq_true h.2.1.2]
    rfl
theorem zsU (a : AtomD) : zdI a = zuA a.says.data.toList a.pred.data.toList (zev a) := by
  unfold zdI zuA zqb zev zyo zww
  cases h : a.args with
  | nil => simp
  | cons t r => simp
theorem znk {a : AtomD} {i : Nat} (h : i < a.cnt) : a.args[i]? = some (a.arg i) := by
  have hc : a.cnt ≤ 4 := Nat.min_le_right _ _
  unfold AtomD.args
  rw [List.getElem?_take, if_pos h]
  have : i = 0 ∨ i = 1 ∨ i = 2 ∨ i = 3 := by omega
  rcases this with rfl | rfl | rfl | rfl <;> rfl
theorem zxu {a b : AtomD} (h0 : a.says = b.says) (h1 : a.pred = b.pred) (h2 : a.n = b.n) (h : ∀ i, i < 4 → a.arg i = b.arg i) : a = b := by
  have e0 := h 0 (by omega)
  have e1 := h 1 (by omega)
  have e2 := h 2 (by omega)
  have e3 := h 3 (by omega)
  obtain ⟨s, p, n, t0, t1, t2, t3⟩ := a
  obtain ⟨s', p', n', u0, u1, u2, u3⟩ := b
  simp only [AtomD.arg] at e0 e1 e2 e3
  simp only at h0 h1 h2
  subst h0 h1 h2 e0 e1 e2 e3
  rfl
theorem ziN {a : AtomD} (w : PlainD a) : ∀ x ∈ zev a, Word x := by
  intro x hx
  obtain ⟨t, ht, rfl⟩ := List.mem_map.1 hx
  obtain ⟨i, hi⟩ := List.getElem?_of_mem ht
  have hlt : i < a.cnt := by
    have h1 := (List.getElem?_eq_some_iff.1 hi).1
    unfold AtomD.args at h1
    rw [List.length_take] at h1
    omega
  rw [znk hlt] at hi
  cases hi
  have : (i : Int) < a.n := by
    have : a.cnt ≤ a.n.toNat := Nat.min_le_left _ _
    omega
  exact (w.terms i this).1
theorem zlT {a b : AtomD} (wa : PlainD a) (wb : PlainD b) (h : zdI a = zdI b) : a = b := by
  rw [zsU, zsU] at h
  obtain ⟨h1, h2, h3⟩ := zvJ wa.says wb.says wa.pred wb.pred (ziN wa) (ziN wb) h
  have hlen := congrArg List.length h3
  have hca : (a.cnt : Int) = a.n := by
    have := wa.lo; have := wa.hi
    unfold AtomD.cnt
    omega
  have hcb : (b.cnt : Int) = b.n := by
    have := wb.lo; have := wb.hi
    unfold AtomD.cnt
    omega
  have hla : (zev a).length = a.cnt := by
    have : a.cnt ≤ 4 := Nat.min_le_right _ _
    unfold zev AtomD.args
    rw [List.length_map, List.length_take]
    simp only [List.length_cons, List.length_nil]
    omega
  have hlb : (zev b).length = b.cnt := by
    have : b.cnt ≤ 4 := Nat.min_le_right _ _
    unfold zev AtomD.args
    rw [List.length_map, List.length_take]
    simp only [List.length_cons, List.length_nil]
    omega
  rw [hla, hlb] at hlen
  have hn : a.n = b.n := by omega
  refine zxu (zfv h1) (zfv h2) hn (fun i hi => ?_)
  by_cases hin : (i : Int) < a.n
  · have e1 := znk (a := a) (i := i) (by omega)
    have e2 := znk (a := b) (i := i) (by omega)
    have e3 : (zev a)[i]? = (zev b)[i]? := by rw [h3]
    unfold zev at e3
    rw [List.getElem?_map, List.getElem?_map, e1, e2] at e3
    simp only [Option.map_some, Option.some.injEq] at e3
    have es := zfv e3
    have ev := (wa.terms i hin).2
    have ew := (wb.terms i (by omega)).2
    rw [es] at ev
    have : (a.arg i).v = (b.arg i).v := ev.trans ew.symm
    calc a.arg i = ⟨(a.arg i).v, (a.arg i).s⟩ := rfl
      _ = ⟨(b.arg i).v, (b.arg i).s⟩ := by rw [this, es]
      _ = b.arg i := rfl
  · rw [wa.rest i (by omega) hi, wb.rest i (by omega) hi]
theorem zrW {a b : AtomD} (wa : PlainD a) (wb : PlainD b) : cmpD a b = 0 ↔ a = b := ⟨fun h => zlT wa wb (cmpD_zero.1 h), fun h => by rw [h]; exact zeA _⟩
def AllP (l : List AtomD) : Prop := ∀ x ∈ l, PlainD x
theorem zfF {l : List AtomD} (h : AllP l) {x : AtomD} : x ∈ zig l ↔ x ∈ l := by
  refine ⟨fun hx => (zdu l).mem hx, fun hx => ?_⟩
  obtain ⟨y, hy, e⟩ := (zdu l).cov x hx
  have := zlT (h y ((zdu l).mem hy)) (h x hx) e
  subst this
  exact hy
theorem ztB {l m : List AtomD} (h : AllP l) (g : AllP m) (e : ∀ x, x ∈ l ↔ x ∈ m) : zig l = zig m :=
  zmj (zdu l).asc (zdu m).asc (fun x => by rw [zfF h, zfF g, e])
theorem zqS {l : List AtomD} (p : AtomD → Bool) (h : AscD l) : AscD (l.filter p) := h.sublist List.filter_sublist
end Go.Am

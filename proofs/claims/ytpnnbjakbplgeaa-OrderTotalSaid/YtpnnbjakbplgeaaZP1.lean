/- Plain facts: valid atoms and their texts. No condition. -/
import Derived.Test.YtpnnbjakbplgeaaZW5
namespace Go.Proofs.Ytpnnbjakbplgeaa
open Go.Am
set_option linter.unusedSimpArgs false
theorem ba_ext {a b : ByteArray} (h : a.data.toList = b.data.toList) : a = b := by
  obtain ⟨⟨a⟩⟩ := a
  obtain ⟨⟨b⟩⟩ := b
  simp at h
  rw [h]
theorem byteAt_mem {s : ByteArray} {c : UInt8} (h : c ∈ s.data.toList) : ∃ i, i < s.size ∧ byteAt s i = c.toNat := by
  obtain ⟨i, hi, he⟩ := List.getElem_of_mem h
  have hi' : i < s.size := by rw [← bln]; exact hi
  refine ⟨i, hi', ?_⟩
  unfold byteAt
  have : s[i]? = some s[i] := by simp [hi']
  rw [this]
  simp only [Option.getD_some]
  have h2 : s[i] = c := by rw [← he]; rfl
  rw [h2]
theorem word_low {s : ByteArray} (h : lowName s) : Word s.data.toList := by
  intro c hc
  obtain ⟨i, hi, he⟩ := byteAt_mem hc
  have := h.2 i hi
  unfold lowCh at this
  unfold wordB
  omega
theorem word_var {s : ByteArray} (h : varName s) : Word s.data.toList := by
  intro c hc
  obtain ⟨i, hi, he⟩ := byteAt_mem hc
  have := h.2.2 i hi
  unfold okCh at this
  unfold wordB
  omega
theorem word_term {v : Bool} {s : ByteArray} (h : okTerm v s) : Word s.data.toList := by
  unfold okTerm at h
  cases v
  · exact word_low h
  · exact word_var h
theorem term_sort {v w : Bool} {s : ByteArray} (h : okTerm v s) (k : okTerm w s) : v = w := by
  have key : varName s → lowName s → False := by
    intro h1 h2
    have := h2.2 0 h2.1
    have h3 := h1.2.1
    unfold lowCh at this
    omega
  unfold okTerm at h k
  cases v <;> cases w <;> first | rfl | exact (key h k).elim | exact (key k h).elim
theorem names_word {a : AtomD} (w : a.valid) : ∀ x ∈ namesB a.n a.n0 a.n1 a.n2 a.n3, Word x := by
  obtain ⟨s, p, n, v0, n0, v1, n1, v2, n2, v3, n3⟩ := a
  obtain ⟨h1, h2, h3, h4, t0, t1, t2, t3, _⟩ : validA s p n v0 n0 v1 n1 v2 n2 v3 n3 := w
  have hc : n = 0 ∨ n = 1 ∨ n = 2 ∨ n = 3 ∨ n = 4 := by omega
  rcases hc with rfl | rfl | rfl | rfl | rfl <;> intro x hx <;> simp [namesB] at hx
  · subst hx; exact word_term (t0 (by omega))
  · rcases hx with rfl | rfl
    · exact word_term (t0 (by omega))
    · exact word_term (t1 (by omega))
  · rcases hx with rfl | rfl | rfl
    · exact word_term (t0 (by omega))
    · exact word_term (t1 (by omega))
    · exact word_term (t2 (by omega))
  · rcases hx with rfl | rfl | rfl | rfl
    · exact word_term (t0 (by omega))
    · exact word_term (t1 (by omega))
    · exact word_term (t2 (by omega))
    · exact word_term (t3 (by omega))
theorem no_same {v w : Bool} {s t : ByteArray} (h : noTerm v s) (k : noTerm w t) : v = w ∧ s = t := ⟨h.1.trans k.1.symm, ba_ext (h.2.trans k.2.symm)⟩
theorem text_same {a b : AtomD} (wa : a.valid) (wb : b.valid) (h : a.text = b.text) : a = b := by
  obtain ⟨h1, h2, h3⟩ := text_inj (word_low wa.1) (word_low wb.1) (word_low wa.2.1) (word_low wb.2.1) (names_word wa) (names_word wb) h
  obtain ⟨s, p, n, v0, n0, v1, n1, v2, n2, v3, n3⟩ := a
  obtain ⟨s', p', n', v0', n0', v1', n1', v2', n2', v3', n3'⟩ := b
  obtain ⟨_, _, a3, a4, t0, t1, t2, t3, z0, z1, z2, z3⟩ : validA s p n v0 n0 v1 n1 v2 n2 v3 n3 := wa
  obtain ⟨_, _, b3, b4, u0, u1, u2, u3, y0, y1, y2, y3⟩ : validA s' p' n' v0' n0' v1' n1' v2' n2' v3' n3' := wb
  have e1 := ba_ext h1
  have e2 := ba_ext h2
  simp only at e1 e2 h3
  have hc : n = 0 ∨ n = 1 ∨ n = 2 ∨ n = 3 ∨ n = 4 := by omega
  have hn : n = n' := by
    have := congrArg List.length h3
    simp [namesB] at this
    omega
  subst e1 e2 hn
  have q0 : 0 < n → n0 = n0' ∧ v0 = v0' := by
    intro hh
    have e : n0 = n0' := by
      rcases hc with rfl | rfl | rfl | rfl | rfl <;> first | (exfalso; omega) | (simp [namesB] at h3; first | exact ba_ext (by simpa using h3) | exact ba_ext (by simpa using h3.1))
    subst e
    exact ⟨rfl, term_sort (t0 hh) (u0 hh)⟩
  have q1 : 1 < n → n1 = n1' ∧ v1 = v1' := by
    intro hh
    have e : n1 = n1' := by
      rcases hc with rfl | rfl | rfl | rfl | rfl <;> first | (exfalso; omega) | (simp [namesB] at h3; first | exact ba_ext (by simpa using h3.2) | exact ba_ext (by simpa using h3.2.1))
    subst e
    exact ⟨rfl, term_sort (t1 hh) (u1 hh)⟩
  have q2 : 2 < n → n2 = n2' ∧ v2 = v2' := by
    intro hh
    have e : n2 = n2' := by
      rcases hc with rfl | rfl | rfl | rfl | rfl <;> first | (exfalso; omega) | (simp [namesB] at h3; first | exact ba_ext (by simpa using h3.2.2) | exact ba_ext (by simpa using h3.2.2.1))
    subst e
    exact ⟨rfl, term_sort (t2 hh) (u2 hh)⟩
  have q3 : 3 < n → n3 = n3' ∧ v3 = v3' := by
    intro hh
    have e : n3 = n3' := by
      rcases hc with rfl | rfl | rfl | rfl | rfl <;> first | (exfalso; omega) | (simp [namesB] at h3; exact ba_ext (by simpa using h3.2.2.2))
    subst e
    exact ⟨rfl, term_sort (t3 hh) (u3 hh)⟩
  have r0 : n0 = n0' ∧ v0 = v0' := by
    by_cases hh : 0 < n
    · exact q0 hh
    · have := no_same (z0 (by omega)) (y0 (by omega)); exact ⟨this.2, this.1⟩
  have r1 : n1 = n1' ∧ v1 = v1' := by
    by_cases hh : 1 < n
    · exact q1 hh
    · have := no_same (z1 (by omega)) (y1 (by omega)); exact ⟨this.2, this.1⟩
  have r2 : n2 = n2' ∧ v2 = v2' := by
    by_cases hh : 2 < n
    · exact q2 hh
    · have := no_same (z2 (by omega)) (y2 (by omega)); exact ⟨this.2, this.1⟩
  have r3 : n3 = n3' ∧ v3 = v3' := by
    by_cases hh : 3 < n
    · exact q3 hh
    · have := no_same (z3 (by omega)) (y3 (by omega)); exact ⟨this.2, this.1⟩
  rw [r0.1, r0.2, r1.1, r1.2, r2.1, r2.2, r3.1, r3.2]
theorem cmp_same {a b : AtomD} (wa : a.valid) (wb : b.valid) : Lib.compareBytes a.text b.text = 0 ↔ a = b :=
  ⟨fun h => text_same wa wb (cmp_zero h), fun h => by rw [h]; exact cmp_self _⟩
theorem cmp_neg (x y : Bs) : IntKind.i64.wrap (0 - Lib.compareBytes x y) = Lib.compareBytes y x := by
  rw [cmp_anti y x]
  rcases cmp_range x y with h | h | h <;> rw [h] <;> decide
theorem less_cmp : ∀ a b : Bs, Op.bytesLess a b = decide (Lib.compareBytes a b < 0)
  | [], [] => by simp [Op.bytesLess, Lib.compareBytes]
  | [], _ :: _ => by simp [Op.bytesLess, Lib.compareBytes]
  | _ :: _, [] => by simp [Op.bytesLess, Lib.compareBytes]
  | a :: xs, b :: ys => by
    rw [Lib.compareBytes]
    unfold Op.bytesLess
    rw [less_cmp xs ys]
    by_cases h1 : a < b
    · simp [h1]
    · by_cases h2 : b < a
      · have h3 : a ≠ b := fun e => by subst e; exact u8_lt_irrefl a h2
        simp [h1, h2, h3]
      · have h3 := u8_eq_of h1 h2
        simp [h1, h2, h3]
theorem take_extract (s : ByteArray) (k : Nat) : (s.extract 0 k).data.toList = s.data.toList.take k := by
  simp [ByteArray.data_extract]
def eqT (v w : Bool) (s t : ByteArray) : Option Bool := andO (v == w) (andO (s.data.toList == t.data.toList) (some true))
theorem eqT_some (v w : Bool) (s t : ByteArray) : eqT v w s t = some (v == w && s.data.toList == t.data.toList) := by unfold eqT; rw [andO_some, andO_some, Bool.and_true]
def sameD (a b : AtomD) : Bool := a.s.data.toList == b.s.data.toList && (a.p.data.toList == b.p.data.toList && (a.n == b.n && ((a.v0 == b.v0 && a.n0.data.toList == b.n0.data.toList) && ((a.v1 == b.v1 && a.n1.data.toList == b.n1.data.toList) && ((a.v2 == b.v2 && a.n2.data.toList == b.n2.data.toList) && (a.v3 == b.v3 && a.n3.data.toList == b.n3.data.toList))))))
theorem ite_some2 (c : Bool) : (if c = true then some true else some false) = some c := by cases c <;> rfl
theorem ite_some3 (c d : Bool) : (if c = true then some d else some false) = some (c && d) := by cases c <;> rfl
theorem bin26 (s p : ByteArray) (n : Int) (v0 : Bool) (n0 : ByteArray) (v1 : Bool) (n1 : ByteArray) (v2 : Bool) (n2 : ByteArray) (v3 : Bool) (n3 : ByteArray) (s' p' : ByteArray) (n' : Int) (v0' : Bool) (n0' : ByteArray) (v1' : Bool) (n1' : ByteArray) (v2' : Bool) (n2' : ByteArray) (v3' : Bool) (n3' : ByteArray) : binA Try.prog tab .eql 26 (.agg ⟨[.string s, .string p, .int .i64 n, .bool v0, .string n0, .bool v1, .string n1, .bool v2, .string n2, .bool v3, .string n3]⟩) (.agg ⟨[.string s', .string p', .int .i64 n', .bool v0', .string n0', .bool v1', .string n1', .bool v2', .string n2', .bool v3', .string n3']⟩) = some (.bool (sameD ⟨s, p, n, v0, n0, v1, n1, v2, n2, v3, n3⟩ ⟨s', p', n', v0', n0', v1', n1', v2', n2', v3', n3'⟩)) := by
  have h1 : binA Try.prog tab .eql 26 (.agg ⟨[.string s, .string p, .int .i64 n, .bool v0, .string n0, .bool v1, .string n1, .bool v2, .string n2, .bool v3, .string n3]⟩) (.agg ⟨[.string s', .string p', .int .i64 n', .bool v0', .string n0', .bool v1', .string n1', .bool v2', .string n2', .bool v3', .string n3']⟩) = (andO (s.data.toList == s'.data.toList) (andO (p.data.toList == p'.data.toList) (andO (n == n')
      (((eqT v0 v0' n0 n0').bind fun c => if c = true then ((eqT v1 v1' n1 n1').bind fun c => if c = true then ((eqT v2 v2' n2 n2').bind fun c => if c = true then ((eqT v3 v3' n3 n3').bind fun c => if c = true then some true else some false) else some false) else some false) else some false).bind fun c => if c = true then some true else some false)))).map fun b => .bool b := by kernel_rfl
  rw [h1]
  simp only [eqT_some, Option.bind_some, ite_some2, ite_some3, andO_some, Option.map_some, Bool.and_true]
  rfl
theorem sameD_iff (a b : AtomD) : sameD a b = true ↔ a = b := by
  obtain ⟨s, p, n, v0, n0, v1, n1, v2, n2, v3, n3⟩ := a
  obtain ⟨s', p', n', v0', n0', v1', n1', v2', n2', v3', n3'⟩ := b
  unfold sameD
  simp only [Bool.and_eq_true, beq_iff_eq, AtomD.mk.injEq]
  constructor
  · rintro ⟨h1, h2, h3, ⟨h4, h5⟩, ⟨h6, h7⟩, ⟨h8, h9⟩, h10, h11⟩
    exact ⟨ba_ext h1, ba_ext h2, h3, h4, ba_ext h5, h6, ba_ext h7, h8, ba_ext h9, h10, ba_ext h11⟩
  · rintro ⟨rfl, rfl, rfl, rfl, rfl, rfl, rfl, rfl, rfl, rfl, rfl⟩
    exact ⟨rfl, rfl, rfl, ⟨rfl, rfl⟩, ⟨rfl, rfl⟩, ⟨rfl, rfl⟩, rfl, rfl⟩
theorem bool_neq (p q : Bool) : binA Try.prog tab .neq 4 (.bool p) (.bool q) = some (.bool (p != q)) := by cases p <;> cases q <;> kernel_rfl
theorem bool_eql (p q : Bool) : binA Try.prog tab .eql 4 (.bool p) (.bool q) = some (.bool (p == q)) := by cases p <;> cases q <;> kernel_rfl
theorem sl9 (s : ByteArray) (k : Int) (h0 : 0 ≤ k) (h1 : k ≤ s.size) : sliceA tab 9 (.string s) none (some (.int .i64 k)) none = some (.string (s.extract 0 k.toNat)) := by
  have hd : tab.desc 9 = some .string := by kernel_rfl
  simp only [sliceA, hd, boundsA, bound, Option.bind_some, Option.isSome_none, Bool.false_eq_true, if_false, h0, h1, and_self, if_true, Option.map_some]
/-- The names at the first place where they differ, neither beginning the other: they decide. -/
theorem apart_at {a b : AtomD} (hs : a.s = b.s) (hp : a.p = b.p) {pre : List Bs} {x y : ByteArray} {r1 r2 : List Bs} (ha : namesB a.n a.n0 a.n1 a.n2 a.n3 = pre ++ x.data.toList :: r1) (hb : namesB b.n b.n0 b.n1 b.n2 b.n3 = pre ++ y.data.toList :: r2)
    {k : Nat} (hk : k = min x.size y.size) (hne : ¬ x.extract 0 k = y.extract 0 k) : Lib.compareBytes a.text b.text = Lib.compareBytes x.data.toList y.data.toList := by
  unfold AtomD.text
  rw [hs, hp, ha, hb]
  refine text_apart pre fun h => hne (ba_ext ?_)
  rw [take_extract, take_extract, hk, ← bln, ← bln]
  exact h
theorem bnTT : binA Try.prog tab .neq 4 (.bool true) (.bool true) = some (.bool false) := by kernel_rfl
theorem bnTF : binA Try.prog tab .neq 4 (.bool true) (.bool false) = some (.bool true) := by kernel_rfl
theorem bnFT : binA Try.prog tab .neq 4 (.bool false) (.bool true) = some (.bool true) := by kernel_rfl
theorem bnFF : binA Try.prog tab .neq 4 (.bool false) (.bool false) = some (.bool false) := by kernel_rfl
theorem beTT : binA Try.prog tab .eql 4 (.bool true) (.bool true) = some (.bool true) := by kernel_rfl
theorem beTF : binA Try.prog tab .eql 4 (.bool true) (.bool false) = some (.bool false) := by kernel_rfl
theorem beFT : binA Try.prog tab .eql 4 (.bool false) (.bool true) = some (.bool false) := by kernel_rfl
theorem beFF : binA Try.prog tab .eql 4 (.bool false) (.bool false) = some (.bool true) := by kernel_rfl
theorem sl9_rule {s : ByteArray} {k : Int} {h : Heap} {K : Value → Heap → Prop} (h0 : 0 ≤ k) (h1 : k ≤ s.size) (hk : K (.string (s.extract 0 k.toNat)) h) : valE (sliceA tab 9 (.string s) none (some (.int .i64 k)) none) h K := by
  rw [sl9 s k h0 h1]; exact hk
theorem slt_rule {a b : ByteArray} {h : Heap} {K : Value → Heap → Prop} (h1 : Lib.compareBytes a.data.toList b.data.toList < 0 → K (.bool true) h) (h2 : ¬ Lib.compareBytes a.data.toList b.data.toList < 0 → K (.bool false) h) : valE (binA Try.prog tab .lss 9 (.string a) (.string b)) h K := by
  rw [bin_slt, less_cmp, valE_bool]; exact forkD h1 h2
theorem last_same {a b : AtomD} (hs : a.s = b.s) (hp : a.p = b.p) (hn : namesB a.n a.n0 a.n1 a.n2 a.n3 = namesB b.n b.n0 b.n1 b.n2 b.n3) : Lib.compareBytes a.text b.text = 0 := by
  unfold AtomD.text
  rw [hs, hp, hn]
  exact cmp_self _
theorem names_eq {n : Int} {x0 x1 x2 x3 y0 y1 y2 y3 : ByteArray} (h0 : 0 ≤ n) (h4 : n ≤ 4) (m0 : 0 < n → x0 = y0) (m1 : 1 < n → x1 = y1) (m2 : 2 < n → x2 = y2) (m3 : 3 < n → x3 = y3) : namesB n x0 x1 x2 x3 = namesB n y0 y1 y2 y3 := by
  have hc : n = 0 ∨ n = 1 ∨ n = 2 ∨ n = 3 ∨ n = 4 := by omega
  rcases hc with rfl | rfl | rfl | rfl | rfl
  · rfl
  · rw [m0 (by omega)]; rfl
  · rw [m0 (by omega), m1 (by omega)]; rfl
  · rw [m0 (by omega), m1 (by omega), m2 (by omega)]; rfl
  · rw [m0 (by omega), m1 (by omega), m2 (by omega), m3 (by omega)]
theorem nm0 {n : Int} (a b c d : ByteArray) (h : 0 < n) : namesB n a b c d = [] ++ a.data.toList :: [b.data.toList, c.data.toList, d.data.toList].take (n.toNat - 1) := by
  unfold namesB
  rw [show n.toNat = (n.toNat - 1) + 1 by omega]
  simp
theorem nm1 {n : Int} (a b c d : ByteArray) (h : 1 < n) : namesB n a b c d = [a.data.toList] ++ b.data.toList :: [c.data.toList, d.data.toList].take (n.toNat - 2) := by
  unfold namesB
  rw [show n.toNat = (n.toNat - 2) + 1 + 1 by omega]
  simp
theorem nm2 {n : Int} (a b c d : ByteArray) (h : 2 < n) : namesB n a b c d = [a.data.toList, b.data.toList] ++ c.data.toList :: [d.data.toList].take (n.toNat - 3) := by
  unfold namesB
  rw [show n.toNat = (n.toNat - 3) + 1 + 1 + 1 by omega]
  simp
theorem nm3 {n : Int} (a b c d : ByteArray) (h : 3 < n) : namesB n a b c d = [a.data.toList, b.data.toList, c.data.toList] ++ d.data.toList :: [].take (n.toNat - 4) := by
  unfold namesB
  rw [show n.toNat = (n.toNat - 4) + 1 + 1 + 1 + 1 by omega]
  simp
theorem apart0 {a b : AtomD} (e1 : a.s = b.s) (e2 : a.p = b.p) (e3 : a.n = b.n) (hh : 0 < a.n) {k : Nat} (hk : k = min a.n0.size b.n0.size) (hne : ¬ a.n0.extract 0 k = b.n0.extract 0 k) : Lib.compareBytes a.text b.text = Lib.compareBytes a.n0.data.toList b.n0.data.toList :=
  apart_at e1 e2 (nm0 _ _ _ _ hh) (nm0 _ _ _ _ (e3 ▸ hh)) hk hne
theorem apart1 {a b : AtomD} (e1 : a.s = b.s) (e2 : a.p = b.p) (e3 : a.n = b.n) (f0 : a.n0 = b.n0) (hh : 1 < a.n) {k : Nat} (hk : k = min a.n1.size b.n1.size) (hne : ¬ a.n1.extract 0 k = b.n1.extract 0 k) : Lib.compareBytes a.text b.text = Lib.compareBytes a.n1.data.toList b.n1.data.toList :=
  apart_at (r2 := [b.n2.data.toList, b.n3.data.toList].take (b.n.toNat - 2)) e1 e2 (nm1 _ _ _ _ hh) (by rw [f0]; exact nm1 _ _ _ _ (e3 ▸ hh)) hk hne
theorem apart2 {a b : AtomD} (e1 : a.s = b.s) (e2 : a.p = b.p) (e3 : a.n = b.n) (f0 : a.n0 = b.n0) (f1 : a.n1 = b.n1) (hh : 2 < a.n) {k : Nat} (hk : k = min a.n2.size b.n2.size) (hne : ¬ a.n2.extract 0 k = b.n2.extract 0 k) : Lib.compareBytes a.text b.text = Lib.compareBytes a.n2.data.toList b.n2.data.toList :=
  apart_at (r2 := [b.n3.data.toList].take (b.n.toNat - 3)) e1 e2 (nm2 _ _ _ _ hh) (by rw [f0, f1]; exact nm2 _ _ _ _ (e3 ▸ hh)) hk hne
theorem apart3 {a b : AtomD} (e1 : a.s = b.s) (e2 : a.p = b.p) (e3 : a.n = b.n) (f0 : a.n0 = b.n0) (f1 : a.n1 = b.n1) (f2 : a.n2 = b.n2) (hh : 3 < a.n) {k : Nat} (hk : k = min a.n3.size b.n3.size) (hne : ¬ a.n3.extract 0 k = b.n3.extract 0 k) : Lib.compareBytes a.text b.text = Lib.compareBytes a.n3.data.toList b.n3.data.toList :=
  apart_at (r2 := [].take (b.n.toNat - 4)) e1 e2 (nm3 _ _ _ _ hh) (by rw [f0, f1, f2]; exact nm3 _ _ _ _ (e3 ▸ hh)) hk hne
end Go.Proofs.Ytpnnbjakbplgeaa

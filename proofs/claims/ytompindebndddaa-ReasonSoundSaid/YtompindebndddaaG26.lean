/- Strings in order, and the texts of atoms: plain facts about lists of bytes. No condition. -/
import Derived.Lib.Bytealg
import Derived.Lib.Join
import Derived.Test.YtompindebndddaaG25
namespace Go.Am
open Go.Lib
abbrev Bs := List UInt8
theorem u8_lt_irrefl (a : UInt8) : ¬ a < a := by rw [UInt8.lt_iff_toNat_lt]; omega
theorem u8_eq_of {a b : UInt8} (h1 : ¬ a < b) (h2 : ¬ b < a) : a = b := by
  rw [UInt8.lt_iff_toNat_lt] at h1 h2
  exact UInt8.toNat_inj.1 (by omega)
theorem cmp_self : ∀ a : Bs, compareBytes a a = 0
  | [] => rfl
  | a :: al => by rw [compareBytes, if_neg (u8_lt_irrefl a), if_neg (u8_lt_irrefl a)]; exact cmp_self al
theorem cmp_zero : ∀ {a b : Bs}, compareBytes a b = 0 → a = b
  | [], [], _ => rfl
  | [], _ :: _, h => by simp [compareBytes] at h
  | _ :: _, [], h => by simp [compareBytes] at h
  | a :: al, b :: bs, h => by
    rw [compareBytes] at h
    split at h
    · simp at h
    · rename_i h1
      split at h
      · simp at h
      · rename_i h2
        rw [u8_eq_of h1 h2, cmp_zero h]
theorem cmp_anti : ∀ a b : Bs, compareBytes a b = - compareBytes b a
  | [], [] => rfl
  | [], _ :: _ => rfl
  | _ :: _, [] => rfl
  | a :: al, b :: bs => by
    rw [compareBytes, compareBytes]
    by_cases h1 : a < b
    · have h2 : ¬ b < a := by rw [UInt8.lt_iff_toNat_lt] at h1 ⊢; omega
      rw [if_pos h1, if_neg h2, if_pos h1]
    · rw [if_neg h1]
      by_cases h2 : b < a
      · rw [if_pos h2, if_pos h2]; rfl
      · rw [if_neg h2, if_neg h2, if_neg h1]; exact cmp_anti al bs
theorem cmp_range : ∀ a b : Bs, compareBytes a b = -1 ∨ compareBytes a b = 0 ∨ compareBytes a b = 1
  | [], [] => .inr (.inl rfl)
  | [], _ :: _ => .inl rfl
  | _ :: _, [] => .inr (.inr rfl)
  | a :: al, b :: bs => by
    rw [compareBytes]
    split
    · exact .inl rfl
    · split
      · exact .inr (.inr rfl)
      · exact cmp_range al bs
theorem cmp_trans : ∀ {a b c : Bs}, compareBytes a b < 0 → compareBytes b c < 0 → compareBytes a c < 0
  | [], [], _, h, _ => by simp [compareBytes] at h
  | [], _ :: _, [], _, h => by simp [compareBytes] at h
  | [], _ :: _, _ :: _, _, _ => by simp [compareBytes]
  | _ :: _, [], _, h, _ => by simp [compareBytes] at h
  | _ :: _, _ :: _, [], _, h => by simp [compareBytes] at h
  | a :: al, b :: bs, c :: cs, h, k => by
    rw [compareBytes] at h k ⊢
    simp only [UInt8.lt_iff_toNat_lt] at h k ⊢
    by_cases h1 : a.toNat < b.toNat
    · by_cases h2 : b.toNat < c.toNat
      · rw [if_pos (by omega)]; decide
      · rw [if_neg h2] at k
        split at k
        · simp at k
        · rw [if_pos (by omega)]; decide
    · rw [if_neg h1] at h
      split at h
      · simp at h
      · by_cases h2 : b.toNat < c.toNat
        · rw [if_pos (by omega)]; decide
        · rw [if_neg h2] at k
          split at k
          · simp at k
          · rw [if_neg (by omega), if_neg (by omega)]
            exact cmp_trans h k

/-! ### Words and marks -/
def wordB (c : UInt8) : Prop := c.toNat ≠ 32 ∧ c.toNat ≠ 40 ∧ c.toNat ≠ 41 ∧ c.toNat ≠ 44
def Word (s : Bs) : Prop := ∀ c ∈ s, wordB c
theorem word_split : ∀ {s t x y : Bs} {c d : UInt8}, Word s → Word t → ¬ wordB c → ¬ wordB d → s ++ c :: x = t ++ d :: y → s = t ∧ c = d ∧ x = y
  | [], [], x, y, c, d, _, _, _, _, h => by simp at h; exact ⟨rfl, h.1, h.2⟩
  | [], b :: t, x, y, c, d, _, ht, hc, _, h => by
    simp at h
    exact (hc (by rw [h.1]; exact ht b (by simp))).elim
  | a :: s, [], x, y, c, d, hs, _, _, hd, h => by
    simp at h
    exact (hd (by rw [← h.1]; exact hs a (by simp))).elim
  | a :: s, b :: t, x, y, c, d, hs, ht, hc, hd, h => by
    simp at h
    obtain ⟨h1, h2, h3⟩ := word_split (fun q hq => hs q (by simp [hq])) (fun q hq => ht q (by simp [hq])) hc hd h.2
    exact ⟨by rw [h.1, h1], h2, h3⟩
theorem word_end : ∀ {s t y : Bs} {d : UInt8}, Word s → ¬ wordB d → s ≠ t ++ d :: y
  | [], t, y, d, _, _, h => by cases t <;> simp at h
  | a :: s, [], y, d, hs, hd, h => by
    simp at h
    exact hd (by rw [← h.1]; exact hs a (by simp))
  | a :: s, b :: t, y, d, hs, hd, h => by
    simp at h
    exact word_end (fun q hq => hs q (by simp [hq])) hd h.2
def tailB (names : List Bs) : Bs := match names with
  | [] => []
  | n :: ns => 40 :: (join (n :: ns) [44, 32] ++ [41])
def textB (says pred : Bs) (names : List Bs) : Bs := says ++ [32, 115, 97, 121, 115, 32] ++ pred ++ tailB names
theorem join_cons2 (n m : Bs) (ns : List Bs) : join (n :: m :: ns) [44, 32] = n ++ (44 :: 32 :: join (m :: ns) [44, 32]) := by
  simp [join, List.intercalate]
theorem join_inj : ∀ {l m : List Bs}, (∀ n ∈ l, Word n) → (∀ n ∈ m, Word n) → l ≠ [] → m ≠ [] → join l [44, 32] ++ [41] = join m [44, 32] ++ [41] → l = m
  | [], _, _, _, h, _, _ => (h rfl).elim
  | _ :: _, [], _, _, _, h, _ => (h rfl).elim
  | [a], [b], ha, hb, _, _, h => by
    rw [join_one, join_one] at h
    rw [(word_split (ha a (by simp)) (hb b (by simp)) (by simp [wordB]) (by simp [wordB]) h).1]
  | [a], b :: c :: m, ha, hb, _, _, h => by
    rw [join_one, join_cons2] at h
    simp only [List.append_assoc, List.cons_append] at h
    have := (word_split (ha a (by simp)) (hb b (by simp)) (by simp [wordB]) (by simp [wordB]) h).2.1
    simp at this
  | a :: c :: l, [b], ha, hb, _, _, h => by
    rw [join_one, join_cons2] at h
    simp only [List.append_assoc, List.cons_append] at h
    have := (word_split (ha a (by simp)) (hb b (by simp)) (by simp [wordB]) (by simp [wordB]) h).2.1
    simp at this
  | a :: c :: l, b :: d :: m, ha, hb, _, _, h => by
    rw [join_cons2, join_cons2] at h
    simp only [List.append_assoc, List.cons_append] at h
    obtain ⟨h1, _, h3⟩ := word_split (ha a (by simp)) (hb b (by simp)) (by simp [wordB]) (by simp [wordB]) h
    simp only [List.cons.injEq, true_and] at h3
    have := join_inj (fun n hn => ha n (by simp at hn ⊢; exact .inr hn)) (fun n hn => hb n (by simp at hn ⊢; exact .inr hn)) (by simp) (by simp) h3
    rw [h1, this]
theorem text_inj {s s' p p' : Bs} {l l' : List Bs} (hs : Word s) (hs' : Word s') (hp : Word p) (hp' : Word p') (hl : ∀ n ∈ l, Word n) (hl' : ∀ n ∈ l', Word n) (h : textB s p l = textB s' p' l') : s = s' ∧ p = p' ∧ l = l' := by
  unfold textB at h
  simp only [List.append_assoc, List.cons_append, List.nil_append] at h
  obtain ⟨h1, _, h2⟩ := word_split hs hs' (by simp [wordB]) (by simp [wordB]) h
  simp only [List.cons.injEq, true_and] at h2
  cases l with
  | nil =>
    cases l' with
    | nil => simp only [tailB, List.append_nil] at h2; exact ⟨h1, h2, rfl⟩
    | cons n' ns' =>
      simp only [tailB, List.append_nil] at h2
      exact (word_end hp (by simp [wordB]) h2).elim
  | cons n ns =>
    cases l' with
    | nil =>
      simp only [tailB, List.append_nil] at h2
      exact (word_end hp' (by simp [wordB]) h2.symm).elim
    | cons n' ns' =>
      simp only [tailB] at h2
      obtain ⟨h3, _, h4⟩ := word_split hp hp' (by simp [wordB]) (by simp [wordB]) h2
      exact ⟨h1, h3, join_inj hl hl' (by simp) (by simp) h4⟩
end Go.Am
namespace Go.Am
set_option linter.unusedVariables false
set_option linter.unusedSimpArgs false
def rowA (l : List AtomD) : List Value := l.flatMap AtomD.cells
theorem rowA_length (l : List AtomD) : (rowA l).length = l.length * 11 := by
  unfold rowA
  induction l with
  | nil => rfl
  | cons x l ih => rw [List.flatMap_cons, List.length_append, ih, List.length_cons]; show 11 + _ = _; omega
theorem rowA_cut {l : List AtomD} {i : Nat} {x : AtomD} (h : l[i]? = some x) : cut (rowA l) (i * 11) 11 = some x.cells := by
  have hi := (List.getElem?_eq_some_iff.1 h).1
  unfold cut
  rw [if_pos (by rw [rowA_length]; omega)]
  congr 1
  unfold rowA
  induction l generalizing i with
  | nil => simp at h
  | cons y l ih =>
    cases i with
    | zero =>
      simp at h
      subst h
      rfl
    | succ i =>
      rw [List.flatMap_cons, show (i + 1) * 11 = y.cells.length + i * 11 by show _ = 11 + _; omega, List.drop_append]
      have h2 : y.cells.drop (y.cells.length + i * 11) = [] := List.drop_of_length_le (by omega)
      rw [h2, List.nil_append, Nat.add_sub_cancel_left]
      exact ih (by simpa using h) (by simpa using hi)
/-! ### Swaps, order -/
def swapL (l : List AtomD) (i j : Nat) : List AtomD := (l.set i (l.getD j noAtomD)).set j (l.getD i noAtomD)
theorem getD_at {l : List AtomD} {i : Nat} (h : i < l.length) : l[i]? = some (l.getD i noAtomD) := by
  rw [List.getD_eq_getElem?_getD, List.getElem?_eq_getElem h]
  rfl
theorem swapL_get {l : List AtomD} {i j : Nat} (hi : i < l.length) (hj : j < l.length) (k : Nat) : (swapL l i j).getD k noAtomD = if k = j then l.getD i noAtomD else if k = i then l.getD j noAtomD else l.getD k noAtomD := by
  unfold swapL
  rw [List.getD_eq_getElem?_getD, List.getElem?_set, List.length_set]
  by_cases h1 : j = k
  · subst h1
    rw [if_pos rfl, if_pos hj, if_pos rfl]
    rfl
  · rw [if_neg h1, if_neg (fun e => h1 e.symm), List.getElem?_set]
    by_cases h2 : i = k
    · subst h2
      rw [if_pos rfl, if_pos hi, if_pos rfl]
      rfl
    · rw [if_neg h2, if_neg (fun e => h2 e.symm), List.getD_eq_getElem?_getD]
theorem swapL_perm {l : List AtomD} {i j : Nat} (hi : i < l.length) (hj : j < l.length) : (swapL l i j).Perm l := by
  unfold swapL
  have e1 : l.getD i noAtomD = l[i] := by rw [List.getD_eq_getElem?_getD, List.getElem?_eq_getElem hi]; rfl
  have e2 : l.getD j noAtomD = l[j] := by rw [List.getD_eq_getElem?_getD, List.getElem?_eq_getElem hj]; rfl
  rw [e1, e2]
  exact List.set_set_perm hi hj
theorem cmpD_anti (a b : AtomD) : cmpD a b = - cmpD b a := cmp_anti _ _
theorem cmpD_le {a b : AtomD} (h : ¬ cmpD a b < 0) : cmpD b a ≤ 0 := by
  rw [cmpD_anti b a]
  omega
theorem cmpD_trans {a b c : AtomD} (h1 : cmpD a b ≤ 0) (h2 : cmpD b c ≤ 0) : cmpD a c ≤ 0 := by
  by_cases e1 : cmpD a b = 0
  · have := cmp_zero e1
    unfold cmpD at *
    rw [this]
    exact h2
  · by_cases e2 : cmpD b c = 0
    · have := cmp_zero e2
      unfold cmpD at *
      rw [← this]
      exact h1
    · have h3 : cmpD a b < 0 := by omega
      have h4 : cmpD b c < 0 := by omega
      exact Int.le_of_lt (cmp_trans h3 h4)
def SortedR (l : List AtomD) (a b : Nat) : Prop := ∀ k, a < k → k < b → cmpD (l.getD (k - 1) noAtomD) (l.getD k noAtomD) ≤ 0
def SameOut (l l' : List AtomD) (a b : Nat) : Prop := ∀ k, k < a ∨ b ≤ k → l'.getD k noAtomD = l.getD k noAtomD
/-! ### Equal texts keep their order -/
def Stab (l l' : List AtomD) : Prop := ∀ t : List UInt8, l'.filter (fun x => textL x == t) = l.filter (fun x => textL x == t)
theorem Stab.refl (l : List AtomD) : Stab l l := fun _ => rfl
theorem Stab.trans {l l1 l2 : List AtomD} (x : Stab l l1) (y : Stab l1 l2) : Stab l l2 := fun t => (y t).trans (x t)
theorem textL_ne {a b : AtomD} (h : cmpD a b < 0) : textL a ≠ textL b := by
  intro e
  unfold cmpD at h
  rw [e, cmp_self] at h
  omega
end Go.Am
namespace Go.Am
set_option linter.unusedVariables false
set_option linter.unusedSimpArgs false
theorem cmpD_self (a : AtomD) : cmpD a a = 0 := cmp_self _
theorem cmpD_lt_le {a b c : AtomD} (h1 : cmpD a b < 0) (h2 : cmpD b c ≤ 0) : cmpD a c < 0 := by
  by_cases h : cmpD a c < 0
  · exact h
  · have h3 := cmpD_trans h2 (cmpD_le h)
    have h4 := cmpD_anti a b
    omega
structure Mv (l l' : List AtomD) (a b : Nat) : Prop where
  perm : l'.Perm l
  out : SameOut l l' a b
  wit : ∀ i, a ≤ i → i < b → ∃ j, a ≤ j ∧ j < b ∧ l'.getD i noAtomD = l.getD j noAtomD
  stab : Stab l l'
theorem Mv.refl (l : List AtomD) (a b : Nat) : Mv l l a b := ⟨List.Perm.refl _, fun _ _ => rfl, fun i h1 h2 => ⟨i, h1, h2, rfl⟩, Stab.refl l⟩
theorem Mv.trans {l l1 l2 : List AtomD} {a b : Nat} (x : Mv l l1 a b) (y : Mv l1 l2 a b) : Mv l l2 a b := ⟨y.perm.trans x.perm, fun k hk => (y.out k hk).trans (x.out k hk), fun i h1 h2 => by
  obtain ⟨j, g1, g2, g3⟩ := y.wit i h1 h2
  obtain ⟨k, f1, f2, f3⟩ := x.wit j g1 g2
  exact ⟨k, f1, f2, g3.trans f3⟩, x.stab.trans y.stab⟩
theorem Mv.swap {l : List AtomD} {a b i j : Nat} (hi : a ≤ i ∧ i < b) (hj : a ≤ j ∧ j < b) (hb : b ≤ l.length) (hs : Stab l (swapL l i j)) : Mv l (swapL l i j) a b := by
  have g := fun k => swapL_get (l := l) (i := i) (j := j) (by omega) (by omega) k
  refine ⟨swapL_perm (by omega) (by omega), fun k hk => ?_, fun k h1 h2 => ?_, hs⟩
  · rw [g, if_neg (by omega), if_neg (by omega)]
  · rw [g]
    split
    · exact ⟨i, by omega, by omega, rfl⟩
    · split
      · exact ⟨j, by omega, by omega, rfl⟩
      · exact ⟨k, h1, h2, rfl⟩
structure SplitS (l : List AtomD) (a m b mid s : Nat) : Prop where
  lo : a ≤ s
  hi : s ≤ m
  him : s ≤ mid
  ge : m ≤ mid + m - s
  le : mid + m - s ≤ b
  cl : s = a ∨ mid + m - s = b ∨ cmpD (l.getD (s - 1) noAtomD) (l.getD (mid + m - s) noAtomD) ≤ 0
  cr : s = m ∨ s = mid ∨ cmpD (l.getD (mid + m - 1 - s) noAtomD) (l.getD s noAtomD) < 0
structure SymInv (l : List AtomD) (a m b mid s r : Nat) : Prop where
  sr : s ≤ r
  le1 : m ≤ mid → a ≤ s ∧ r ≤ m
  le2 : mid < m → mid + m - b ≤ s ∧ r ≤ mid
  cl : (s = a ∧ m ≤ mid) ∨ (mid < m ∧ s = mid + m - b) ∨ cmpD (l.getD (s - 1) noAtomD) (l.getD (mid + m - s) noAtomD) ≤ 0
  cr : (r = m ∧ m ≤ mid) ∨ (mid < m ∧ r = mid) ∨ cmpD (l.getD (mid + m - 1 - r) noAtomD) (l.getD r noAtomD) < 0
end Go.Am
namespace Go.Am
set_option linter.unusedVariables false
set_option linter.unusedSimpArgs false
def Bl (l : List AtomD) (w n a : Nat) : Prop := ∀ s, s % w = 0 → s < a → SortedR l s (min (s + w) n)
structure Dbl (l : List AtomD) (w n a : Nat) : Prop where
  lo : Bl l (2 * w) n a
  hi : ∀ s, s % w = 0 → a ≤ s → s < n → SortedR l s (min (s + w) n)
end Go.Am

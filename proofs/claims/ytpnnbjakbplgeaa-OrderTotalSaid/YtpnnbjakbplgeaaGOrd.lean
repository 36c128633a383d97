/- Strings in order, and the texts of atoms: plain facts about lists of bytes. No condition. -/
import Derived.Lib.Bytealg
import Derived.Lib.Join
namespace Go.Am
open Go.Lib
abbrev Bs := List UInt8
theorem u8_lt_irrefl (a : UInt8) : ¬ a < a := by rw [UInt8.lt_iff_toNat_lt]; omega
theorem u8_eq_of {a b : UInt8} (h1 : ¬ a < b) (h2 : ¬ b < a) : a = b := by
  rw [UInt8.lt_iff_toNat_lt] at h1 h2
  exact UInt8.toNat_inj.1 (by omega)
theorem cmp_self : ∀ a : Bs, compareBytes a a = 0
  | [] => rfl
  | a :: as => by rw [compareBytes, if_neg (u8_lt_irrefl a), if_neg (u8_lt_irrefl a)]; exact cmp_self as
theorem cmp_zero : ∀ {a b : Bs}, compareBytes a b = 0 → a = b
  | [], [], _ => rfl
  | [], _ :: _, h => by simp [compareBytes] at h
  | _ :: _, [], h => by simp [compareBytes] at h
  | a :: as, b :: bs, h => by
    rw [compareBytes] at h
    split at h
    · simp at h
    · rename_i h1
      split at h
      · simp at h
      · rename_i h2
        rw [u8_eq_of h1 h2, cmp_zero h]
theorem cmp_anti : ∀ a b : Bs, compareBytes a b = - compareBytes b a
  | [], [] => rfl
  | [], _ :: _ => rfl
  | _ :: _, [] => rfl
  | a :: as, b :: bs => by
    rw [compareBytes, compareBytes]
    by_cases h1 : a < b
    · have h2 : ¬ b < a := by rw [UInt8.lt_iff_toNat_lt] at h1 ⊢; omega
      rw [if_pos h1, if_neg h2, if_pos h1]
    · rw [if_neg h1]
      by_cases h2 : b < a
      · rw [if_pos h2, if_pos h2]; rfl
      · rw [if_neg h2, if_neg h2, if_neg h1]; exact cmp_anti as bs
theorem cmp_range : ∀ a b : Bs, compareBytes a b = -1 ∨ compareBytes a b = 0 ∨ compareBytes a b = 1
  | [], [] => .inr (.inl rfl)
  | [], _ :: _ => .inl rfl
  | _ :: _, [] => .inr (.inr rfl)
  | a :: as, b :: bs => by
    rw [compareBytes]
    split
    · exact .inl rfl
    · split
      · exact .inr (.inr rfl)
      · exact cmp_range as bs
theorem cmp_trans : ∀ {a b c : Bs}, compareBytes a b < 0 → compareBytes b c < 0 → compareBytes a c < 0
  | [], [], _, h, _ => by simp [compareBytes] at h
  | [], _ :: _, [], _, h => by simp [compareBytes] at h
  | [], _ :: _, _ :: _, _, _ => by simp [compareBytes]
  | _ :: _, [], _, h, _ => by simp [compareBytes] at h
  | _ :: _, _ :: _, [], _, h => by simp [compareBytes] at h
  | a :: as, b :: bs, c :: cs, h, k => by
    rw [compareBytes] at h k ⊢
    simp only [UInt8.lt_iff_toNat_lt] at h k ⊢
    by_cases h1 : a.toNat < b.toNat
    · by_cases h2 : b.toNat < c.toNat
      · rw [if_pos (by omega)]; decide
      · rw [if_neg h2] at k
        split at k
        · simp at k
        · rw [if_pos (by omega)]; decide
    · rw [if_neg h1] at h
      split at h
      · simp at h
      · by_cases h2 : b.toNat < c.toNat
        · rw [if_pos (by omega)]; decide
        · rw [if_neg h2] at k
          split at k
          · simp at k
          · rw [if_neg (by omega), if_neg (by omega)]
            exact cmp_trans h k
theorem cmp_left : ∀ (p a b : Bs), compareBytes (p ++ a) (p ++ b) = compareBytes a b
  | [], _, _ => rfl
  | x :: p, a, b => by rw [List.cons_append, List.cons_append, compareBytes, if_neg (u8_lt_irrefl x), if_neg (u8_lt_irrefl x)]; exact cmp_left p a b
/-- Neither begins the other. -/
theorem cmp_apart : ∀ {s t : Bs} (x y : Bs), s.take (min s.length t.length) ≠ t.take (min s.length t.length) → compareBytes (s ++ x) (t ++ y) = compareBytes s t
  | [], t, x, y, h => by simp at h
  | a :: s, [], x, y, h => by simp at h
  | a :: s, b :: t, x, y, h => by
    rw [List.cons_append, List.cons_append, compareBytes, compareBytes]
    split
    · rfl
    · rename_i h1
      split
      · rfl
      · rename_i h2
        have e := u8_eq_of h1 h2
        subst e
        refine cmp_apart x y fun h3 => h ?_
        simp only [List.length_cons, Nat.add_min_add_right, List.take_succ_cons]
        rw [h3]

/-! ### Words and marks -/
/-- A byte of a name. -/
def wordB (c : UInt8) : Prop := (97 ≤ c.toNat ∧ c.toNat ≤ 122) ∨ (65 ≤ c.toNat ∧ c.toNat ≤ 90) ∨ (48 ≤ c.toNat ∧ c.toNat ≤ 57) ∨ c.toNat = 95
def Word (s : Bs) : Prop := ∀ c ∈ s, wordB c
theorem word_split : ∀ {s t x y : Bs} {c d : UInt8}, Word s → Word t → ¬ wordB c → ¬ wordB d → s ++ c :: x = t ++ d :: y → s = t ∧ c = d ∧ x = y
  | [], [], x, y, c, d, _, _, _, _, h => by simp at h; exact ⟨rfl, h.1, h.2⟩
  | [], b :: t, x, y, c, d, _, ht, hc, _, h => by
    simp at h
    exact (hc (by rw [h.1]; exact ht b (by simp))).elim
  | a :: s, [], x, y, c, d, hs, _, _, hd, h => by
    simp at h
    exact (hd (by rw [← h.1]; exact hs a (by simp))).elim
  | a :: s, b :: t, x, y, c, d, hs, ht, hc, hd, h => by
    simp at h
    obtain ⟨h1, h2, h3⟩ := word_split (fun q hq => hs q (by simp [hq])) (fun q hq => ht q (by simp [hq])) hc hd h.2
    exact ⟨by rw [h.1, h1], h2, h3⟩
theorem word_end : ∀ {s t y : Bs} {d : UInt8}, Word s → ¬ wordB d → s ≠ t ++ d :: y
  | [], t, y, d, _, _, h => by cases t <;> simp at h
  | a :: s, [], y, d, hs, hd, h => by
    simp at h
    exact hd (by rw [← h.1]; exact hs a (by simp))
  | a :: s, b :: t, y, d, hs, hd, h => by
    simp at h
    exact word_end (fun q hq => hs q (by simp [hq])) hd h.2
/-- What stands behind the predicate. -/
def tailB (names : List Bs) : Bs := match names with
  | [] => []
  | n :: ns => 40 :: (join (n :: ns) [44, 32] ++ [41])
def textB (says pred : Bs) (names : List Bs) : Bs := says ++ [32, 115, 97, 121, 115, 32] ++ pred ++ tailB names
theorem join_cons2 (n m : Bs) (ns : List Bs) : join (n :: m :: ns) [44, 32] = n ++ (44 :: 32 :: join (m :: ns) [44, 32]) := by
  simp [join, List.intercalate]
theorem join_inj : ∀ {l m : List Bs}, (∀ n ∈ l, Word n) → (∀ n ∈ m, Word n) → l ≠ [] → m ≠ [] → join l [44, 32] ++ [41] = join m [44, 32] ++ [41] → l = m
  | [], _, _, _, h, _, _ => (h rfl).elim
  | _ :: _, [], _, _, _, h, _ => (h rfl).elim
  | [a], [b], ha, hb, _, _, h => by
    rw [join_one, join_one] at h
    rw [(word_split (ha a (by simp)) (hb b (by simp)) (by simp [wordB]) (by simp [wordB]) h).1]
  | [a], b :: c :: m, ha, hb, _, _, h => by
    rw [join_one, join_cons2] at h
    simp only [List.append_assoc, List.cons_append] at h
    have := (word_split (ha a (by simp)) (hb b (by simp)) (by simp [wordB]) (by simp [wordB]) h).2.1
    simp at this
  | a :: c :: l, [b], ha, hb, _, _, h => by
    rw [join_one, join_cons2] at h
    simp only [List.append_assoc, List.cons_append] at h
    have := (word_split (ha a (by simp)) (hb b (by simp)) (by simp [wordB]) (by simp [wordB]) h).2.1
    simp at this
  | a :: c :: l, b :: d :: m, ha, hb, _, _, h => by
    rw [join_cons2, join_cons2] at h
    simp only [List.append_assoc, List.cons_append] at h
    obtain ⟨h1, _, h3⟩ := word_split (ha a (by simp)) (hb b (by simp)) (by simp [wordB]) (by simp [wordB]) h
    simp only [List.cons.injEq, true_and] at h3
    have := join_inj (fun n hn => ha n (by simp at hn ⊢; exact .inr hn)) (fun n hn => hb n (by simp at hn ⊢; exact .inr hn)) (by simp) (by simp) h3
    rw [h1, this]
theorem text_inj {s s' p p' : Bs} {l l' : List Bs} (hs : Word s) (hs' : Word s') (hp : Word p) (hp' : Word p') (hl : ∀ n ∈ l, Word n) (hl' : ∀ n ∈ l', Word n) (h : textB s p l = textB s' p' l') : s = s' ∧ p = p' ∧ l = l' := by
  unfold textB at h
  simp only [List.append_assoc, List.cons_append, List.nil_append] at h
  obtain ⟨h1, _, h2⟩ := word_split hs hs' (by simp [wordB]) (by simp [wordB]) h
  simp only [List.cons.injEq, true_and] at h2
  cases l with
  | nil =>
    cases l' with
    | nil => simp only [tailB, List.append_nil] at h2; exact ⟨h1, h2, rfl⟩
    | cons n' ns' =>
      simp only [tailB, List.append_nil] at h2
      exact (word_end hp (by simp [wordB]) h2).elim
  | cons n ns =>
    cases l' with
    | nil =>
      simp only [tailB, List.append_nil] at h2
      exact (word_end hp' (by simp [wordB]) h2.symm).elim
    | cons n' ns' =>
      simp only [tailB] at h2
      obtain ⟨h3, _, h4⟩ := word_split hp hp' (by simp [wordB]) (by simp [wordB]) h2
      exact ⟨h1, h3, join_inj hl hl' (by simp) (by simp) h4⟩
/-- Behind equal names: what is left decides. -/
theorem join_after (pre : List Bs) (a b : Bs) (x y : List Bs) : ∃ r1 r2 q : Bs, join (pre ++ a :: x) [44, 32] ++ [41] = q ++ (a ++ r1) ∧ join (pre ++ b :: y) [44, 32] ++ [41] = q ++ (b ++ r2) := by
  induction pre with
  | nil =>
    have one : ∀ (c : Bs) (z : List Bs), ∃ r, join (c :: z) [44, 32] ++ [41] = c ++ r := by
      intro c z
      cases z with
      | nil => exact ⟨[41], by rw [join_one]⟩
      | cons d z => exact ⟨44 :: 32 :: (join (d :: z) [44, 32] ++ [41]), by rw [join_cons2]; simp⟩
    obtain ⟨r1, h1⟩ := one a x
    obtain ⟨r2, h2⟩ := one b y
    exact ⟨r1, r2, [], h1, h2⟩
  | cons n pre ih =>
    obtain ⟨r1, r2, q, h1, h2⟩ := ih
    refine ⟨r1, r2, n ++ (44 :: 32 :: q), ?_, ?_⟩
    · cases pre with
      | nil => simp only [List.nil_append, List.cons_append] at h1 ⊢; rw [join_cons2, List.append_assoc, List.cons_append, List.cons_append, h1]; simp
      | cons m pre => simp only [List.cons_append] at h1 ⊢; rw [join_cons2, List.append_assoc, List.cons_append, List.cons_append, h1]; simp
    · cases pre with
      | nil => simp only [List.nil_append, List.cons_append] at h2 ⊢; rw [join_cons2, List.append_assoc, List.cons_append, List.cons_append, h2]; simp
      | cons m pre => simp only [List.cons_append] at h2 ⊢; rw [join_cons2, List.append_assoc, List.cons_append, List.cons_append, h2]; simp
theorem text_apart {s p : Bs} (pre : List Bs) {a b : Bs} {x y : List Bs} (h : a.take (min a.length b.length) ≠ b.take (min a.length b.length)) : compareBytes (textB s p (pre ++ a :: x)) (textB s p (pre ++ b :: y)) = compareBytes a b := by
  obtain ⟨r1, r2, q, h1, h2⟩ := join_after pre a b x y
  have ht : ∀ (c : Bs) (z : List Bs), tailB (pre ++ c :: z) = 40 :: (join (pre ++ c :: z) [44, 32] ++ [41]) := by
    intro c z
    cases pre <;> rfl
  unfold textB
  rw [cmp_left, ht, ht, h1, h2, ← List.cons_append, ← List.cons_append, cmp_left]
  exact cmp_apart r1 r2 h
#print axioms text_apart
#print axioms text_inj
end Go.Am

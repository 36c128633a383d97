/- Parts of slices; appending to a part that has no room. No condition. -/
import Derived.Test.YtompindebndddaaG15
namespace Go.Am
set_option linter.unusedVariables false
section
variable {α : Type} {r : Rep α} {h0 h h1 : Heap} {v : Value} {l : List α} {t e : TypeId} {T : Tab} {bs : List Blk} {w : Nat} {K : Value → Heap → Prop}
def BndIs (x : Option Value) (d n : Nat) : Prop := (x = none ∧ n = d) ∨ ∃ kd, x = some (.int kd n)
theorem BndIs.no (n : Nat) : BndIs none n n := .inl ⟨rfl, rfl⟩
theorem BndIs.num (kd : IntKind) (d n : Nat) : BndIs (some (.int kd n)) d n := .inr ⟨kd, rfl⟩
theorem bound_nat {kd : IntKind} {n hi : Nat} (hn : n ≤ hi) : bound (.int kd n) hi = some n := by
  have : (0 : Int) ≤ n ∧ (n : Int) ≤ hi := by omega
  simp only [bound, this, and_self, if_true, Int.toNat_natCast]
theorem boundsA_of {n c a b : Nat} {lo hi : Option Value} (hlo : BndIs lo 0 a) (hhi : BndIs hi n b) (hab : a ≤ b) (hbc : b ≤ c) : boundsA n c lo hi none = some (a, b, c) := by
  unfold boundsA
  rcases hlo with ⟨rfl, rfl⟩ | ⟨kd, rfl⟩ <;> rcases hhi with ⟨rfl, rfl⟩ | ⟨kd2, rfl⟩ <;> simp [bound_nat, hab, hbc]
theorem boundsA_full {n c i : Nat} {kd kd2 : IntKind} (hi : i ≤ c) : boundsA n c none (some (.int kd i)) (some (.int kd2 i)) = some (0, i, i) := by
  unfold boundsA
  simp [bound_nat, hi]
theorem G_pos : 0 < G := by unfold G; omega
theorem openCap2 {k q : Nat} (hk : 0 < k) (hq : q < G) : G ≤ G * k + q ∧ (G * k + q) / G = k ∧ (G * k + q) % G = q := by
  obtain ⟨c1, c2, c3⟩ := openCap (k := k) (q := q) hk hq
  exact ⟨by omega, c3, c2⟩
theorem Sl.sub (f : Sl r h v l) (hk : 0 < r.k) (hd : T.desc t = some (.slice e)) (hs : sizeA T e = some r.k) {a b : Nat} {lo hi : Option Value} (hlo : BndIs lo 0 a) (hhi : BndIs hi l.length b) (hab : a ≤ b) (hb : b ≤ l.length) :
    ∃ v', sliceA T t v lo hi none = some v' ∧ Sl r h v' ((l.take b).drop a) := by
  have hlen : ((l.take b).drop a).length = b - a := by simp; omega
  have hel : ∀ (i : Nat) (x : α), ((l.take b).drop a)[i]? = some x → l[a + i]? = some x ∧ i < b - a := by
    intro i x hx
    have := (List.getElem?_eq_some_iff.1 hx).1
    rw [hlen] at this
    rw [List.getElem?_drop, List.getElem?_take_of_lt (by omega)] at hx
    exact ⟨hx, this⟩
  rcases f with ⟨rfl, rfl⟩ | ⟨A, o, c, row, u, ro, rfl, e2, e3, e4, e5, e6⟩
  · have hb0 : b = 0 := by simpa using hb
    subst hb0
    have ha0 : a = 0 := by omega
    subst ha0
    refine ⟨.slice none 0 0, ?_, by simpa using Sl.nil⟩
    unfold sliceA
    simp only [hd, hs, Option.bind_some, if_pos G_pos]
    have := boundsA_of (n := 0) (c := 0) hlo (by simpa using hhi) (Nat.le_refl 0) (Nat.le_refl 0)
    rw [this]
    rfl
  · rcases e3 with ⟨c1, c2⟩ | ⟨c1, c2, c3⟩
    · refine ⟨.slice (some ⟨A, if c = a then o else o + a * r.k, none⟩) (b - a) (c - a), ?_, ?_⟩
      · unfold sliceA
        simp only [hd, hs, Option.bind_some, if_pos c1]
        rw [boundsA_of hlo hhi hab (by omega)]
        rfl
      · refine .inr ⟨A, _, c - a, row, u, ro, by rw [hlen], by rw [hlen]; omega, .inl ⟨by omega, by rw [hlen]; omega⟩, e4, e5, fun i x hx => ?_⟩
        obtain ⟨hx, hi⟩ := hel i x hx
        obtain ⟨cs, g1, g2⟩ := e6 _ _ hx
        refine ⟨cs, ?_, g2⟩
        rw [if_neg (by omega), Nat.add_assoc, ← Nat.add_mul]
        exact g1
    · refine ⟨.slice (some ⟨A, o + a * r.k, none⟩) (b - a) (G * r.k + (c % G - a)), ?_, ?_⟩
      · unfold sliceA
        simp only [hd, hs, Option.bind_some, if_neg (show ¬ c < G by omega), if_pos c2]
        rw [boundsA_of hlo hhi hab (by omega)]
        rfl
      · have hm := Nat.mod_lt c G_pos
        obtain ⟨d1, d2, d3⟩ := openCap2 (k := r.k) (q := c % G - a) hk (by omega)
        refine .inr ⟨A, _, _, row, u, ro, by rw [hlen], by rw [hlen]; omega, .inr ⟨d1, d2, by rw [hlen, d3]; omega⟩, e4, e5, fun i x hx => ?_⟩
        obtain ⟨hx, hi⟩ := hel i x hx
        obtain ⟨cs, g1, g2⟩ := e6 _ _ hx
        refine ⟨cs, ?_, g2⟩
        rw [Nat.add_assoc, ← Nat.add_mul]
        exact g1
theorem Sl.full (f : Sl r h v l) (hd : T.desc t = some (.slice e)) (hs : sizeA T e = some r.k) {i : Nat} {kd kd2 : IntKind} (hi : i ≤ l.length) :
    ∃ base, sliceA T t v none (some (.int kd i)) (some (.int kd2 i)) = some (.slice base i i) ∧ Sl r h (.slice base i i) (l.take i) := by
  have hlen : (l.take i).length = i := by simp; omega
  rcases f with ⟨rfl, rfl⟩ | ⟨A, o, c, row, u, ro, rfl, e2, e3, e4, e5, e6⟩
  · have hb0 : i = 0 := by simpa using hi
    subst hb0
    refine ⟨none, ?_, by simpa using Sl.nil⟩
    unfold sliceA
    simp only [hd, hs, Option.bind_some, if_pos G_pos]
    rw [boundsA_full (Nat.le_refl 0)]
    rfl
  · have hG : maxLen < G := by decide
    have hel : Sl r h (.slice (some ⟨A, o, none⟩) i i) (l.take i) := by
      refine .inr ⟨A, o, i, row, u, ro, by rw [hlen], by rw [hlen]; omega, .inl ⟨by omega, by rw [hlen]; omega⟩, e4, e5, fun j x hx => ?_⟩
      have hj := (List.getElem?_eq_some_iff.1 hx).1
      rw [hlen] at hj
      rw [List.getElem?_take_of_lt hj] at hx
      exact e6 _ _ hx
    refine ⟨some ⟨A, o, none⟩, ?_, hel⟩
    rcases e3 with ⟨c1, c2⟩ | ⟨c1, c2, c3⟩
    · unfold sliceA
      simp only [hd, hs, Option.bind_some, if_pos c1]
      rw [boundsA_full (by omega)]
      simp
    · unfold sliceA
      simp only [hd, hs, Option.bind_some, if_neg (show ¬ c < G by omega), if_pos c2]
      rw [boundsA_full (by omega)]
      simp
theorem sub_rule (f : Sl r h1 v l) (hk : 0 < r.k) (hd : T.desc t = some (.slice e)) (hs : sizeA T e = some r.k) {a b : Nat} {lo hi : Option Value} (hlo : BndIs lo 0 a) (hhi : BndIs hi l.length b) (hab : a ≤ b) (hb : b ≤ l.length)
    (hK : ∀ v', Sl r h1 v' ((l.take b).drop a) → K v' (h1.lay bs w)) : valE (sliceA T t v lo hi none) (h1.lay bs w) K := by
  obtain ⟨v', g1, g2⟩ := f.sub hk hd hs hlo hhi hab hb
  rw [g1]
  exact hK v' g2
theorem to_rule (f : Sl r h1 v l) (hk : 0 < r.k) (hd : T.desc t = some (.slice e)) (hs : sizeA T e = some r.k) {b : Nat} {kd : IntKind} (hb : b ≤ l.length)
    (hK : ∀ v', Sl r h1 v' (l.take b) → K v' (h1.lay bs w)) : valE (sliceA T t v none (some (.int kd b)) none) (h1.lay bs w) K :=
  sub_rule f hk hd hs (BndIs.no 0) (BndIs.num kd _ b) (Nat.zero_le _) hb (fun v' h => hK v' (by simpa using h))
theorem from_rule (f : Sl r h1 v l) (hk : 0 < r.k) (hd : T.desc t = some (.slice e)) (hs : sizeA T e = some r.k) {a : Nat} {kd : IntKind} (ha : a ≤ l.length)
    (hK : ∀ v', Sl r h1 v' (l.drop a) → K v' (h1.lay bs w)) : valE (sliceA T t v (some (.int kd a)) none none) (h1.lay bs w) K :=
  sub_rule f hk hd hs (BndIs.num kd _ a) (BndIs.no _) ha (Nat.le_refl _) (fun v' h => hK v' (by rw [List.take_length] at h; exact h))
end
end Go.Am

/- Sorting by blocks: plain facts. No condition. -/
import Derived.Test.YtemapihoobmonaaDoorGSort2
namespace Go.Am
set_option linter.unusedVariables false
set_option linter.unusedSimpArgs false
theorem bin_mul {P : Program} {T : Tab} {t : TypeId} {k : IntKind} {a b : Int} : binA P T .mul t (.int k a) (.int k b) = some (.int k (k.wrap (a * b))) := by
  have h1 : ((T.desc t).bind fun d => eqNil d (.int k a) (.int k b)) = none := by
    cases T.desc t with
    | none => rfl
    | some d => cases d <;> rfl
  have h2 : pureRun P (binOp .mul t (.int k a) (.int k b)) = some (.int k (k.wrap (a * b))) := by
    simp [binOp, Op.intArith, pr_pure]
  unfold binA
  have hf : binFast .mul (.int k a) (.int k b) = none := rfl
  rw [hf]
  simp [h1, h2]
  exact ⟨⟨rfl, rfl⟩, rfl⟩
theorem mod_gap {w s a : Nat} (h1 : s % w = 0) (h2 : a % w = 0) (h : s < a) : s + w ≤ a := by
  obtain ⟨i, rfl⟩ := Nat.dvd_of_mod_eq_zero h1
  obtain ⟨j, rfl⟩ := Nat.dvd_of_mod_eq_zero h2
  have hij : i < j := Nat.lt_of_mul_lt_mul_left h
  rw [show w * i + w = w * (i + 1) from (Nat.mul_succ w i).symm]
  exact Nat.mul_le_mul_left w hij
def Bl (l : List AtomD) (w n a : Nat) : Prop := ∀ s, s % w = 0 → s < a → SortedR l s (min (s + w) n)
theorem bl_step {l l' : List AtomD} {w n a : Nat} (h : Bl l w n a) (ha : a % w = 0) (hs : SortedR l' a (min (a + w) n)) (ho : SameOut l l' a (min (a + w) n)) (b : Nat) (hb : b ≤ a + w) : Bl l' w n b := by
  intro s h1 h2
  rcases Nat.lt_trichotomy s a with g | g | g
  · have := mod_gap h1 ha g
    exact sortedR_same (h s h1 g) (fun k _ _ => ho k (.inl (by omega)))
  · subst g
    exact hs
  · have := mod_gap ha h1 g
    omega
theorem bl_end {l : List AtomD} {w n : Nat} (h : Bl l w n n) (hw : n ≤ w) : SortedR l 0 n := by
  intro k h1 h2
  exact h 0 (Nat.zero_mod _) (by omega) k h1 (by omega)
structure Dbl (l : List AtomD) (w n a : Nat) : Prop where
  lo : Bl l (2 * w) n a
  hi : ∀ s, s % w = 0 → a ≤ s → s < n → SortedR l s (min (s + w) n)
theorem dbl_start {l : List AtomD} {w n : Nat} (h : Bl l w n n) : Dbl l w n 0 := ⟨fun s _ g => absurd g (by omega), fun s h1 _ h2 => h s h1 h2⟩
theorem mod_two {w a : Nat} (h : a % (2 * w) = 0) : a % w = 0 ∧ (a + w) % w = 0 := by
  obtain ⟨i, rfl⟩ := Nat.dvd_of_mod_eq_zero h
  have h1 : 2 * w * i % w = 0 := by rw [show 2 * w * i = w * (2 * i) by rw [Nat.mul_comm 2 w, Nat.mul_assoc]]; exact Nat.mul_mod_right _ _
  exact ⟨h1, by rw [Nat.add_mod_right]; exact h1⟩
theorem dbl_parts {l : List AtomD} {w n a : Nat} (h : Dbl l w n a) (hw : 0 < w) (ha : a % (2 * w) = 0) (hn : a + w < n) : SortedR l a (a + w) ∧ SortedR l (a + w) (min (a + 2 * w) n) := by
  have := mod_two ha
  have g1 := h.hi a this.1 (by omega) (by omega)
  have g2 := h.hi (a + w) this.2 (by omega) hn
  rw [show min (a + w) n = a + w by omega] at g1
  rw [show min (a + w + w) n = min (a + 2 * w) n by omega] at g2
  exact ⟨g1, g2⟩
theorem dbl_step {l l' : List AtomD} {w n a : Nat} (h : Dbl l w n a) (hw : 0 < w) (ha : a % (2 * w) = 0) (hs : SortedR l' a (min (a + 2 * w) n)) (hm : Mv l l' a (min (a + 2 * w) n)) : Dbl l' w n (min (a + 2 * w) n) := by
  refine ⟨bl_step h.lo ha hs hm.out _ (by omega), fun s h1 h2 h3 => ?_⟩
  exact sortedR_same (h.hi s h1 (by omega) h3) (fun k _ _ => hm.out k (.inr (by omega)))
theorem dbl_end {l : List AtomD} {w n a : Nat} (h : Dbl l w n a) (hw : 0 < w) (ha : a % (2 * w) = 0) (hn : n ≤ a + w) : Bl l (2 * w) n n := by
  intro s h1 h2
  rcases Nat.lt_trichotomy s a with g | g | g
  · exact h.lo s h1 g
  · subst g
    have := h.hi s (mod_two ha).1 (by omega) h2
    rw [show min (s + w) n = min (s + 2 * w) n by omega] at this
    exact this
  · have := mod_gap ha h1 g
    omega
theorem dbl_all {l : List AtomD} {w n a : Nat} (h : Dbl l w n a) (hn : n ≤ a) : Bl l (2 * w) n n := fun s h1 h2 => h.lo s h1 (by omega)
end Go.Am

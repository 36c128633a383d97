/- Inserting into a list of one's own, in plain terms. No condition. -/
import Derived.Test.YtompindebndddaaGIns
import Derived.Test.YtompindebndddaaG27
namespace Go.Am
set_option linter.unusedVariables false
set_option linter.unusedSimpArgs false
theorem Inc.over {a h1 h2 : Heap} {l : List Blk} {w : Nat} (i : Inc a h1) (x : Ext (h1.lay l w) h2) : Inc a h2 := (i.trans (Inc.lay _ _ _)).trans x.inc
theorem ownX_down {h0 h1 h : Heap} {u : TypeId} {v : Value} {s : List AtomD} (f : OwnX h1 h u v s) (i : h0.size ≤ h1.size) : OwnX h0 h u v s := by
  rcases f with f | ⟨A, e1, e2, e3, e4⟩
  · exact .inl f
  · exact .inr ⟨A, e1, e2, by omega, e4⟩
theorem ow_down {α : Type} {r : Rep α} {h0 h1 h : Heap} {e A : Nat} {v : Value} {l : List α} (f : Ow r h1 h e A v l) (i : h0.size ≤ h1.size) : Ow r h0 h e A v l := by
  rcases f with ⟨f1, f2, f3⟩ | ⟨row, e1, e2, e3, e4⟩
  · refine .inl ⟨by omega, f2, f3.imp id ?_⟩
    rintro ⟨B, o, g1, g2, g3⟩
    exact ⟨B, o, g1, by omega, g3⟩
  · exact .inr ⟨row, e1, e2, by omega, e4⟩
def mergeA : List AtomD → List AtomD → List AtomD
  | [], ys => ys
  | x :: xs, [] => x :: xs
  | x :: xs, y :: ys => if cmpD x y < 0 then x :: mergeA xs (y :: ys) else if 0 < cmpD x y then y :: mergeA (x :: xs) ys else mergeA (x :: xs) ys
termination_by l m => l.length + m.length
theorem mergeA_nil_left (ys : List AtomD) : mergeA [] ys = ys := by unfold mergeA; rfl
theorem mergeA_nil_right (xs : List AtomD) : mergeA xs [] = xs := by
  cases xs with
  | nil => unfold mergeA; rfl
  | cons x xs => unfold mergeA; rfl
theorem mergeA_lt {x y : AtomD} {xs ys : List AtomD} (h : cmpD x y < 0) : mergeA (x :: xs) (y :: ys) = x :: mergeA xs (y :: ys) := by
  rw [mergeA, if_pos h]
theorem mergeA_gt {x y : AtomD} {xs ys : List AtomD} (h : 0 < cmpD x y) : mergeA (x :: xs) (y :: ys) = y :: mergeA (x :: xs) ys := by
  rw [mergeA, if_neg (by omega), if_pos h]
theorem mergeA_eq {x y : AtomD} {xs ys : List AtomD} (h : cmpD x y = 0) : mergeA (x :: xs) (y :: ys) = mergeA (x :: xs) ys := by
  rw [mergeA, if_neg (by omega), if_neg (by omega)]
theorem mem_mergeA : ∀ (n : Nat) (xs ys : List AtomD), xs.length + ys.length ≤ n → AscD xs → AscD ys → ∀ z, z ∈ mergeA xs ys ↔ z ∈ xs ∨ (z ∈ ys ∧ ∀ x ∈ xs, cmpD x z ≠ 0)
  | n, [], ys, _, _, _, z => by rw [mergeA_nil_left]; simp
  | n, x :: xs, [], _, _, _, z => by rw [mergeA_nil_right]; simp
  | 0, x :: xs, y :: ys, hn, _, _, z => by simp at hn
  | n + 1, x :: xs, y :: ys, hn, hx, hy, z => by
    have gx := List.pairwise_cons.1 hx
    have gy := List.pairwise_cons.1 hy
    simp only [List.length_cons] at hn
    by_cases h1 : cmpD x y < 0
    · rw [mergeA_lt h1, List.mem_cons, mem_mergeA n xs (y :: ys) (by simp only [List.length_cons]; omega) gx.2 hy z]
      constructor
      · rintro (rfl | h | ⟨h, h2⟩)
        · exact .inl (List.mem_cons_self ..)
        · exact .inl (List.mem_cons_of_mem _ h)
        · refine .inr ⟨h, fun w hw => ?_⟩
          rcases List.mem_cons.1 hw with rfl | hw
          · have : cmpD w z < 0 := by
              rcases List.mem_cons.1 h with rfl | h
              · exact h1
              · exact cmpD_lt_trans h1 (gy.1 z h)
            omega
          · exact h2 w hw
      · rintro (h | ⟨h, h2⟩)
        · rcases List.mem_cons.1 h with rfl | h
          · exact .inl rfl
          · exact .inr (.inl h)
        · exact .inr (.inr ⟨h, fun w hw => h2 w (List.mem_cons_of_mem _ hw)⟩)
    · by_cases h2 : 0 < cmpD x y
      · rw [mergeA_gt h2, List.mem_cons, mem_mergeA n (x :: xs) ys (by simp only [List.length_cons]; omega) hx gy.2 z]
        have hyx : cmpD y x < 0 := by
          have := cmpD_anti x y
          omega
        constructor
        · rintro (rfl | h | ⟨h, h3⟩)
          · refine .inr ⟨List.mem_cons_self .., fun w hw => ?_⟩
            have : cmpD z w < 0 := by
              rcases List.mem_cons.1 hw with rfl | hw
              · exact hyx
              · exact cmpD_lt_trans hyx (gx.1 w hw)
            have := cmpD_anti w z
            omega
          · exact .inl h
          · exact .inr ⟨List.mem_cons_of_mem _ h, h3⟩
        · rintro (h | ⟨h, h3⟩)
          · exact .inr (.inl h)
          · rcases List.mem_cons.1 h with rfl | h
            · exact .inl rfl
            · exact .inr (.inr ⟨h, h3⟩)
      · have h3 : cmpD x y = 0 := by omega
        rw [mergeA_eq h3, mem_mergeA n (x :: xs) ys (by simp only [List.length_cons]; omega) hx gy.2 z]
        constructor
        · rintro (h | ⟨h, h4⟩)
          · exact .inl h
          · exact .inr ⟨List.mem_cons_of_mem _ h, h4⟩
        · rintro (h | ⟨h, h4⟩)
          · exact .inl h
          · rcases List.mem_cons.1 h with rfl | h
            · exact absurd h3 (h4 x (List.mem_cons_self ..))
            · exact .inr ⟨h, h4⟩
theorem asc_mergeA : ∀ (n : Nat) (xs ys : List AtomD), xs.length + ys.length ≤ n → AscD xs → AscD ys → AscD (mergeA xs ys)
  | n, [], ys, _, _, hy => by rw [mergeA_nil_left]; exact hy
  | n, x :: xs, [], _, hx, _ => by rw [mergeA_nil_right]; exact hx
  | 0, x :: xs, y :: ys, hn, _, _ => by simp at hn
  | n + 1, x :: xs, y :: ys, hn, hx, hy => by
    have gx := List.pairwise_cons.1 hx
    have gy := List.pairwise_cons.1 hy
    simp only [List.length_cons] at hn
    by_cases h1 : cmpD x y < 0
    · rw [mergeA_lt h1]
      refine List.pairwise_cons.2 ⟨fun z hz => ?_, asc_mergeA n xs (y :: ys) (by simp only [List.length_cons]; omega) gx.2 hy⟩
      rcases (mem_mergeA _ xs (y :: ys) (Nat.le_refl _) gx.2 hy z).1 hz with h | ⟨h, _⟩
      · exact gx.1 z h
      · rcases List.mem_cons.1 h with rfl | h
        · exact h1
        · exact cmpD_lt_trans h1 (gy.1 z h)
    · by_cases h2 : 0 < cmpD x y
      · rw [mergeA_gt h2]
        have hyx : cmpD y x < 0 := by
          have := cmpD_anti x y
          omega
        refine List.pairwise_cons.2 ⟨fun z hz => ?_, asc_mergeA n (x :: xs) ys (by simp only [List.length_cons]; omega) hx gy.2⟩
        rcases (mem_mergeA _ (x :: xs) ys (Nat.le_refl _) hx gy.2 z).1 hz with h | ⟨h, _⟩
        · rcases List.mem_cons.1 h with rfl | h
          · exact hyx
          · exact cmpD_lt_trans hyx (gx.1 z h)
        · exact gy.1 z h
      · rw [mergeA_eq (by omega)]
        exact asc_mergeA n (x :: xs) ys (by simp only [List.length_cons]; omega) hx gy.2
theorem sorted_merge {l1 l2 s1 s2 : List AtomD} (f : SortedOf l1 s1) (g : SortedOf l2 s2) : SortedOf (l1 ++ l2) (mergeA s1 s2) := by
  have hm := mem_mergeA _ s1 s2 (Nat.le_refl _) f.asc g.asc
  refine ⟨asc_mergeA _ s1 s2 (Nat.le_refl _) f.asc g.asc, fun y hy => ?_, fun x hx => ?_⟩
  · rw [List.filter_append, List.head?_append]
    rcases (hm y).1 hy with h | ⟨h, h2⟩
    · rw [f.first y h]
      rfl
    · have e : l1.filter (fun x => textL x == textL y) = [] := by
        rw [List.filter_eq_nil_iff]
        intro x hx hxy
        have hxy : textL x = textL y := by simpa using hxy
        obtain ⟨w, hw, e⟩ := f.cov x hx
        exact h2 w hw (cmpD_zero.2 (e.trans hxy))
      rw [e, g.first y h]
      rfl
  · rcases List.mem_append.1 hx with hx | hx
    · obtain ⟨y, hy, e⟩ := f.cov x hx
      exact ⟨y, (hm y).2 (.inl hy), e⟩
    · obtain ⟨y, hy, e⟩ := g.cov x hx
      by_cases h : ∃ w ∈ s1, cmpD w y = 0
      · obtain ⟨w, hw, e2⟩ := h
        exact ⟨w, (hm w).2 (.inl hw), (cmpD_zero.1 e2).trans e⟩
      · exact ⟨y, (hm y).2 (.inr ⟨hy, fun w hw e2 => h ⟨w, hw, e2⟩⟩), e⟩
theorem sortA_app (l1 l2 : List AtomD) : mergeA (sortA l1) (sortA l2) = sortA (l1 ++ l2) := (sorted_merge (sortA_of l1) (sortA_of l2)).is
theorem sortA_one {l : List AtomD} (h : l.length < 2) : sortA l = l := by
  refine sortA_asc ?_
  match l, h with
  | [], _ => exact List.Pairwise.nil
  | [x], _ => exact List.pairwise_singleton ..
end Go.Am

/- Sorting by halves, each text once: the first stays. No condition. -/
import Derived.Test.YtompindebndddaaG35
import Derived.Test.YtompindebndddaaG32
import Derived.Test.YtompindebndddaaG34
namespace Go.Am
set_option linter.unusedVariables false
set_option linter.unusedSimpArgs false
theorem Inc.over {a h1 h2 : Heap} {l : List Blk} {w : Nat} (i : Inc a h1) (x : Ext (h1.lay l w) h2) : Inc a h2 := (i.trans (Inc.lay _ _ _)).trans x.inc
theorem ownX_down {h0 h1 h : Heap} {u : TypeId} {v : Value} {s : List AtomD} (f : OwnX h1 h u v s) (i : h0.size ≤ h1.size) : OwnX h0 h u v s := by
  rcases f with f | ⟨A, e1, e2, e3, e4⟩
  · exact .inl f
  · exact .inr ⟨A, e1, e2, by omega, e4⟩
theorem ownX_mono {h0 h h' : Heap} {u : TypeId} {v : Value} {s : List AtomD} (f : OwnX h0 h u v s) (i : Inc h h') : OwnX h0 h' u v s := by
  rcases f with ⟨e, f⟩ | ⟨A, e1, e2, e3, e4⟩
  · exact .inl ⟨e, f.mono i⟩
  · exact .inr ⟨A, e1, e2.mono i, e3, e4⟩
theorem ow_down {α : Type} {r : Rep α} {h0 h1 h : Heap} {e A : Nat} {v : Value} {l : List α} (f : Ow r h1 h e A v l) (i : h0.size ≤ h1.size) : Ow r h0 h e A v l := by
  rcases f with ⟨f1, f2, f3⟩ | ⟨row, e1, e2, e3, e4⟩
  · refine .inl ⟨by omega, f2, f3.imp id ?_⟩
    rintro ⟨B, o, g1, g2, g3⟩
    exact ⟨B, o, g1, by omega, g3⟩
  · exact .inr ⟨row, e1, e2, by omega, e4⟩
def mergeA : List AtomD → List AtomD → List AtomD
  | [], ys => ys
  | x :: xs, [] => x :: xs
  | x :: xs, y :: ys => if cmpD x y < 0 then x :: mergeA xs (y :: ys) else if 0 < cmpD x y then y :: mergeA (x :: xs) ys else mergeA (x :: xs) ys
termination_by l m => l.length + m.length
theorem mergeA_nil_left (ys : List AtomD) : mergeA [] ys = ys := by unfold mergeA; rfl
theorem mergeA_nil_right (xs : List AtomD) : mergeA xs [] = xs := by
  cases xs with
  | nil => unfold mergeA; rfl
  | cons x xs => unfold mergeA; rfl
theorem mergeA_lt {x y : AtomD} {xs ys : List AtomD} (h : cmpD x y < 0) : mergeA (x :: xs) (y :: ys) = x :: mergeA xs (y :: ys) := by
  rw [mergeA, if_pos h]
theorem mergeA_gt {x y : AtomD} {xs ys : List AtomD} (h : 0 < cmpD x y) : mergeA (x :: xs) (y :: ys) = y :: mergeA (x :: xs) ys := by
  rw [mergeA, if_neg (by omega), if_pos h]
theorem mergeA_eq {x y : AtomD} {xs ys : List AtomD} (h : cmpD x y = 0) : mergeA (x :: xs) (y :: ys) = mergeA (x :: xs) ys := by
  rw [mergeA, if_neg (by omega), if_neg (by omega)]
theorem mem_mergeA : ∀ (n : Nat) (xs ys : List AtomD), xs.length + ys.length ≤ n → AscD xs → AscD ys → ∀ z, z ∈ mergeA xs ys ↔ z ∈ xs ∨ (z ∈ ys ∧ ∀ x ∈ xs, cmpD x z ≠ 0)
  | n, [], ys, _, _, _, z => by rw [mergeA_nil_left]; simp
  | n, x :: xs, [], _, _, _, z => by rw [mergeA_nil_right]; simp
  | 0, x :: xs, y :: ys, hn, _, _, z => by simp at hn
  | n + 1, x :: xs, y :: ys, hn, hx, hy, z => by
    have gx := List.pairwise_cons.1 hx
    have gy := List.pairwise_cons.1 hy
    simp only [List.length_cons] at hn
    by_cases h1 : cmpD x y < 0
    · rw [mergeA_lt h1, List.mem_cons, mem_mergeA n xs (y :: ys) (by simp only [List.length_cons]; omega) gx.2 hy z]
      constructor
      · rintro (rfl | h | ⟨h, h2⟩)
        · exact .inl (List.mem_cons_self ..)
        · exact .inl (List.mem_cons_of_mem _ h)
        · refine .inr ⟨h, fun w hw => ?_⟩
          rcases List.mem_cons.1 hw with rfl | hw
          · have : cmpD w z < 0 := by
              rcases List.mem_cons.1 h with rfl | h
              · exact h1
              · exact cmpD_lt_trans h1 (gy.1 z h)
            omega
          · exact h2 w hw
      · rintro (h | ⟨h, h2⟩)
        · rcases List.mem_cons.1 h with rfl | h
          · exact .inl rfl
          · exact .inr (.inl h)
        · exact .inr (.inr ⟨h, fun w hw => h2 w (List.mem_cons_of_mem _ hw)⟩)
    · by_cases h2 : 0 < cmpD x y
      · rw [mergeA_gt h2, List.mem_cons, mem_mergeA n (x :: xs) ys (by simp only [List.length_cons]; omega) hx gy.2 z]
        have hyx : cmpD y x < 0 := by
          have := cmpD_anti x y
          omega
        constructor
        · rintro (rfl | h | ⟨h, h3⟩)
          · refine .inr ⟨List.mem_cons_self .., fun w hw => ?_⟩
            have : cmpD z w < 0 := by
              rcases List.mem_cons.1 hw with rfl | hw
              · exact hyx
              · exact cmpD_lt_trans hyx (gx.1 w hw)
            have := cmpD_anti w z
            omega
          · exact .inl h
          · exact .inr ⟨List.mem_cons_of_mem _ h, h3⟩
        · rintro (h | ⟨h, h3⟩)
          · exact .inr (.inl h)
          · rcases List.mem_cons.1 h with rfl | h
            · exact .inl rfl
            · exact .inr (.inr ⟨h, h3⟩)
      · have h3 : cmpD x y = 0 := by omega
        rw [mergeA_eq h3, mem_mergeA n (x :: xs) ys (by simp only [List.length_cons]; omega) hx gy.2 z]
        constructor
        · rintro (h | ⟨h, h4⟩)
          · exact .inl h
          · exact .inr ⟨List.mem_cons_of_mem _ h, h4⟩
        · rintro (h | ⟨h, h4⟩)
          · exact .inl h
          · rcases List.mem_cons.1 h with rfl | h
            · exact absurd h3 (h4 x (List.mem_cons_self ..))
            · exact .inr ⟨h, h4⟩
theorem asc_mergeA : ∀ (n : Nat) (xs ys : List AtomD), xs.length + ys.length ≤ n → AscD xs → AscD ys → AscD (mergeA xs ys)
  | n, [], ys, _, _, hy => by rw [mergeA_nil_left]; exact hy
  | n, x :: xs, [], _, hx, _ => by rw [mergeA_nil_right]; exact hx
  | 0, x :: xs, y :: ys, hn, _, _ => by simp at hn
  | n + 1, x :: xs, y :: ys, hn, hx, hy => by
    have gx := List.pairwise_cons.1 hx
    have gy := List.pairwise_cons.1 hy
    simp only [List.length_cons] at hn
    by_cases h1 : cmpD x y < 0
    · rw [mergeA_lt h1]
      refine List.pairwise_cons.2 ⟨fun z hz => ?_, asc_mergeA n xs (y :: ys) (by simp only [List.length_cons]; omega) gx.2 hy⟩
      rcases (mem_mergeA _ xs (y :: ys) (Nat.le_refl _) gx.2 hy z).1 hz with h | ⟨h, _⟩
      · exact gx.1 z h
      · rcases List.mem_cons.1 h with rfl | h
        · exact h1
        · exact cmpD_lt_trans h1 (gy.1 z h)
    · by_cases h2 : 0 < cmpD x y
      · rw [mergeA_gt h2]
        have hyx : cmpD y x < 0 := by
          have := cmpD_anti x y
          omega
        refine List.pairwise_cons.2 ⟨fun z hz => ?_, asc_mergeA n (x :: xs) ys (by simp only [List.length_cons]; omega) hx gy.2⟩
        rcases (mem_mergeA _ (x :: xs) ys (Nat.le_refl _) hx gy.2 z).1 hz with h | ⟨h, _⟩
        · rcases List.mem_cons.1 h with rfl | h
          · exact hyx
          · exact cmpD_lt_trans hyx (gx.1 z h)
        · exact gy.1 z h
      · rw [mergeA_eq (by omega)]
        exact asc_mergeA n (x :: xs) ys (by simp only [List.length_cons]; omega) hx gy.2
theorem sorted_merge {l1 l2 s1 s2 : List AtomD} (f : SortedOf l1 s1) (g : SortedOf l2 s2) : SortedOf (l1 ++ l2) (mergeA s1 s2) := by
  have hm := mem_mergeA _ s1 s2 (Nat.le_refl _) f.asc g.asc
  refine ⟨asc_mergeA _ s1 s2 (Nat.le_refl _) f.asc g.asc, fun y hy => ?_, fun x hx => ?_⟩
  · rw [List.filter_append, List.head?_append]
    rcases (hm y).1 hy with h | ⟨h, h2⟩
    · rw [f.first y h]
      rfl
    · have e : l1.filter (fun x => textL x == textL y) = [] := by
        rw [List.filter_eq_nil_iff]
        intro x hx hxy
        have hxy : textL x = textL y := by simpa using hxy
        obtain ⟨w, hw, e⟩ := f.cov x hx
        exact h2 w hw (cmpD_zero.2 (e.trans hxy))
      rw [e, g.first y h]
      rfl
  · rcases List.mem_append.1 hx with hx | hx
    · obtain ⟨y, hy, e⟩ := f.cov x hx
      exact ⟨y, (hm y).2 (.inl hy), e⟩
    · obtain ⟨y, hy, e⟩ := g.cov x hx
      by_cases h : ∃ w ∈ s1, cmpD w y = 0
      · obtain ⟨w, hw, e2⟩ := h
        exact ⟨w, (hm w).2 (.inl hw), (cmpD_zero.1 e2).trans e⟩
      · exact ⟨y, (hm y).2 (.inr ⟨hy, fun w hw e2 => h ⟨w, hw, e2⟩⟩), e⟩
theorem sortA_app (l1 l2 : List AtomD) : mergeA (sortA l1) (sortA l2) = sortA (l1 ++ l2) := (sorted_merge (sortA_of l1) (sortA_of l2)).is
theorem sortA_one {l : List AtomD} (h : l.length < 2) : sortA l = l := by
  refine sortA_asc ?_
  match l, h with
  | [], _ => exact List.Pairwise.nil
  | [x], _ => exact List.pairwise_singleton ..
theorem app_one {T : Tab} {t u : TypeId} {bytes : Nat} {z : List Value} (hd : T.desc t = some (.slice u)) (hi : T.info u = some (11, bytes, z)) (hu : u ≠ byteT) (hby : bytes ≤ 1000) {h0 h1 : Heap} {w : Value} {s : List AtomD} {a : AtomD} {lw : Nat}
    (hz : h0.size ≤ h1.size) (ho : OwnA h0 h1 u w s) (hn : s.length ≤ 10000) :
    ∃ w' H', appendA T t w (.slice (some ⟨h1.size + 0, 0, none⟩) 1 1) (h1.lay [.row a.cells u false] lw) = some (w', H') ∧ OwnA h0 H' u w' (s ++ [a]) ∧ ∃ A, h0.size ≤ A ∧ Chg A (h1.lay [.row a.cells u false] lw) H' := by
  obtain ⟨w', H', e, o, c⟩ := ins_own (a := a) (i := s.length) (lw := lw) hd hi hu hby hz ho hn (Nat.le_refl _)
  have hfin : s.take s.length ++ a :: s.drop s.length = s ++ [a] := by rw [List.take_length, List.drop_length]
  rw [hfin] at o
  refine ⟨w', H', ?_, o, c⟩
  rcases ho with ⟨rfl, hemp⟩ | ⟨A, tl, rfl, hq, hA, hle⟩
  · rcases hemp.no with rfl | ⟨B, o, rfl⟩
    · simpa [insertA, hd] using e
    · simpa [insertA, hd] using e
  · unfold insertA at e
    simp only [hd] at e
    rw [if_pos trivial] at e
    exact e
theorem sortA_put (l : List AtomD) (a : AtomD) : sortA (sortA l ++ [a]) = putA a (sortA l) := by rw [sortA_snoc, sortA_asc (sortA_of l).asc]
theorem del_minus (s : List AtomD) (a : AtomD) : s.filter (fun x => !hasA [a] x) = delA a s := by
  unfold delA
  congr 1
  funext x
  show (!(textL a == textL x || false)) = !(textL x == textL a)
  rw [Bool.or_false, BEq.comm]
end Go.Am
namespace Go.Proofs.Ytompindebndddaa
open Go.Am
set_option linter.unusedSimpArgs false
set_option linter.unusedVariables false
set_option maxRecDepth 100000
set_option maxHeartbeats 0
theorem ok_hasR (l : List AtomD) (a : AtomD) (v : Value) (h : Heap) (hl : Sl Rep.atom h v l) (hn : l.length ≤ 100000) (hlt : ∀ x ∈ l, x.light = true) (ha : a.light = true) (K : Value → Heap → Prop)
    (hk : ∀ h', Ext h h' → K (.bool (hasA l a)) h') : Ok Try.prog tab ov 20 [v, a.val] h K := by
  rw [lay_nil h]
  have z := Ext.refl h
  have hva : ∀ (h : Heap) (K : Value → Heap → Prop), valE (some v) h K = K v h := fun _ _ => rfl
  have hln := fun (hh : Heap) => hl.lenA ds23 hh
  refine Ok.into rfl tab_fn20 body20 rfl (m := 17) rfl ?_
  simp -implicitDefEqProofs only [syms, symx, Nat.reduceAdd, Nat.reduceMul, Int.reduceLT, Int.reduceLE, Int.reduceAdd, Int.reduceSub, Int.reduceToNat, Int.reduceNeg, reduceIte, Nat.reduceGT, Nat.reduceLT, Nat.reduceLeDiff, code20_0, code20_1, ty20, cells_atom, hva]
  refine W_fold (fun h' x hq => ?_)
  have q0 := hq 0 _ rfl
  clear hq
  (replace z := z.overW x (by (try simp only [lsz]); omega); rw [lay_nil h'])
  obtain ⟨I1, hI1⟩ : ∃ I : Nat → Env → Heap → Prop, I = (fun n e h' => ∃ (i : Nat) (h1 : Heap), h' = h1.lay [] h1.low ∧ Ext h h1 ∧ (n = l.length - i ∧ i ≤ l.length ∧ (∀ x ∈ l.take i, ¬ textL x = textL a) ∧ Holds h1 (h.size + 0) (.row a.cells 39 false)) ∧ ∃ J : Nat → Value, e = (v :: J 1 :: J 2 :: .pointer (some ⟨h.size + 0, 0, none⟩) :: J 4 :: .int .i64 i :: J 6 :: J 7 :: J 8 :: J 9 :: J 10 :: J 11 :: J 12 :: J 13 :: J 14 :: J 15 :: J 16 :: J 17 :: J 18 :: [])) := ⟨_, rfl⟩
  refine W_loopN I1 _ (by rw [hI1]; exact ⟨0, _, rfl, z, ⟨rfl, by omega, by simp, q0⟩, junk (by kernel_rfl)⟩) ?_
  intro n e h' hin
  rw [hI1] at hin
  obtain ⟨i, h1', rfl, z, hinv, J, rfl⟩ := hin
  clear q0
  obtain ⟨rfl, hi, hno, q0⟩ := hinv
  have hwi : IntKind.i64.wrap ((i : Int) + 1) = ((i + 1 : Nat) : Int) := by rw [wrap_i64 (by omega) (by omega)]; omega
  simp -implicitDefEqProofs only [syms, symx, Nat.reduceAdd, Nat.reduceMul, Int.reduceLT, Int.reduceLE, Int.reduceAdd, Int.reduceSub, Int.reduceToNat, Int.reduceNeg, reduceIte, Nat.reduceGT, Nat.reduceLT, Nat.reduceLeDiff, code20_0, code20_1, ty20, hva, hln]
  refine forkD (fun hlt1 => ?_) (fun hlt1 => ?_)
  rotate_left
  · rw [List.take_of_length_le (by omega)] at hno
    have e : hasA l a = false := by
      cases e : hasA l a
      · rfl
      · obtain ⟨x, hx, e2⟩ := hasA_iff.1 e
        exact absurd e2 (hno x hx)
    rw [e] at hk
    repeat' (first
      | simp -implicitDefEqProofs only [syms, symx, Nat.reduceAdd, Nat.reduceMul, Int.reduceLT, Int.reduceLE, Int.reduceAdd, Int.reduceSub, Int.reduceToNat, Int.reduceNeg, reduceIte, Nat.reduceGT, Nat.reduceLT, Nat.reduceLeDiff, code20_0, code20_1, ty20, hva]
      | ((with_reducible first | apply forkD | apply forkB | apply forkN | apply forkNP | apply forkNot) <;> intro _)
      | ((with_reducible_and_instances apply unop_not); (· rfl))
      | ((with_reducible refine ⟨z.grw.lay _ _, ?_⟩); (intro _ h' zz x _); (try simp only [lay_lay, List.append_nil] at x); (try replace q0 := q0.over x); (replace z := zz); (clear zz); rw [lay_nil h']))
    exact hk _ (z.upW _ _ (by omega))
  have hr : l[(i : Int).toNat]? = some (l.getD i noAtomD) := getD_at (by omega)
  have hmem : l.getD i noAtomD ∈ l := List.mem_of_getElem? hr
  simp -implicitDefEqProofs only [syms, symx, Nat.reduceAdd, Nat.reduceMul, Int.reduceLT, Int.reduceLE, Int.reduceAdd, Int.reduceSub, Int.reduceToNat, Int.reduceNeg, reduceIte, Nat.reduceGT, Nat.reduceLT, Nat.reduceLeDiff, code20_0, code20_1, ty20, hva]
  with_reducible first | refine D20_16 (z.upW _ _ (by omega)) ?_
  simp -implicitDefEqProofs only [syms, symx, Nat.reduceAdd, Nat.reduceMul, Int.reduceLT, Int.reduceLE, Int.reduceAdd, Int.reduceSub, Int.reduceToNat, Int.reduceNeg, reduceIte, Nat.reduceGT, Nat.reduceLT, Nat.reduceLeDiff, code20_0, code20_1, ty20, hva]
  repeat' ((first
    | ((with_reducible first | apply forkD | apply forkB | apply forkN | apply forkNP | apply forkNot) <;> intro _)
    | with_reducible_and_instances refine ixa_at (hl.mono z.inc) ds23 sz39 (by omega) hr (fun p hp => ?_)
    | with_reducible_and_instances refine lda hp ag39 sz39 ?_
    | ((with_reducible_and_instances apply unop_not); (· rfl))
    | ((with_reducible refine ⟨z.grw.lay _ _, ?_⟩); (intro _ h' zz x _); (try simp only [lay_lay, List.append_nil] at x); (try replace q0 := q0.over x); (replace z := zz); (clear zz); rw [lay_nil h'])) <;> simp -implicitDefEqProofs only [syms, symx, Nat.reduceAdd, Nat.reduceMul, Int.reduceLT, Int.reduceLE, Int.reduceAdd, Int.reduceSub, Int.reduceToNat, Int.reduceNeg, reduceIte, Nat.reduceGT, Nat.reduceLT, Nat.reduceLeDiff, code20_0, code20_1, ty20, hva, q0.lay, cells_atom, ↓cut_atom, agg_atom, valE_atom])
  refine ok_cmpR _ a (hlt _ hmem) ha _ _ (fun h' x => ?_)
  ((first | ((with_reducible refine KOpsX_call ?_ ?_ ?_); (· exact (by (try simp only [lsz]); have := z.size; omega)); (· first | exact x | simpa only [lla] using x)) | skip); replace z := z.overW x (by (try simp only [lsz]); omega); (try replace q0 := q0.over x); rw [lay_nil h'])
  simp -implicitDefEqProofs only [syms, symx, Nat.reduceAdd, Nat.reduceMul, Int.reduceLT, Int.reduceLE, Int.reduceAdd, Int.reduceSub, Int.reduceToNat, Int.reduceNeg, reduceIte, Nat.reduceGT, Nat.reduceLT, Nat.reduceLeDiff, code20_0, code20_1, ty20]
  refine forkB (fun hc => ?_) (fun hc => ?_)
  · have e : hasA l a = true := hasA_iff.2 ⟨_, hmem, cmpD_zero.1 hc⟩
    rw [e] at hk
    repeat' (first
      | simp -implicitDefEqProofs only [syms, symx, Nat.reduceAdd, Nat.reduceMul, Int.reduceLT, Int.reduceLE, Int.reduceAdd, Int.reduceSub, Int.reduceToNat, Int.reduceNeg, reduceIte, Nat.reduceGT, Nat.reduceLT, Nat.reduceLeDiff, code20_0, code20_1, ty20]
      | ((with_reducible first | apply forkD | apply forkB | apply forkN | apply forkNP | apply forkNot) <;> intro _)
      | with_reducible_and_instances refine ixa_at (hl.mono z.inc) ds23 sz39 (by omega) hr (fun p hp => ?_)
      | with_reducible_and_instances refine lda hp ag39 sz39 ?_
      | ((with_reducible_and_instances apply unop_not); (· rfl))
      | ((with_reducible refine ⟨z.grw.lay _ _, ?_⟩); (intro _ h' zz x _); (try simp only [lay_lay, List.append_nil] at x); (try replace q0 := q0.over x); (replace z := zz); (clear zz); rw [lay_nil h']))
    exact hk _ (z.upW _ _ (by omega))
  · have hc2 : ¬ textL (l.getD i noAtomD) = textL a := fun e => absurd (cmpD_zero.2 e) hc
    have hno2 := take_all (i := i) (P := fun x : AtomD => ¬ textL x = textL a) (getD_at (l := l) (i := i) (by omega)) hno hc2
    repeat' (first
      | simp -implicitDefEqProofs only [syms, symx, Nat.reduceAdd, Nat.reduceMul, Int.reduceLT, Int.reduceLE, Int.reduceAdd, Int.reduceSub, Int.reduceToNat, Int.reduceNeg, reduceIte, Nat.reduceGT, Nat.reduceLT, Nat.reduceLeDiff, code20_0, code20_1, ty20]
      | ((with_reducible first | apply forkD | apply forkB | apply forkN | apply forkNP | apply forkNot) <;> intro _)
      | with_reducible_and_instances refine ixa_at (hl.mono z.inc) ds23 sz39 (by omega) hr (fun p hp => ?_)
      | with_reducible_and_instances refine lda hp ag39 sz39 ?_
      | ((with_reducible_and_instances apply unop_not); (· rfl))
      | ((with_reducible refine ⟨z.grw.lay _ _, ?_⟩); (intro _ h' zz x _); (try simp only [lay_lay, List.append_nil] at x); (try replace q0 := q0.over x); (replace z := zz); (clear zz); rw [lay_nil h']))
    rw [hwi]
    (rw [hI1]; with_reducible refine loopN_normal (m := _) ?_ ⟨i + 1, _, rfl, z, ⟨rfl, by omega, hno2, q0⟩, junk (by kernel_rfl)⟩; omega)
theorem ok_isR (l : List AtomD) (v : Value) (h : Heap) (hl : Sl Rep.atom h v l) (hn : l.length ≤ 100000) (hlt : ∀ x ∈ l, x.light = true) (K : Value → Heap → Prop)
    (hk : ∀ h', Ext h h' → K (.bool (isA l)) h') : Ok Try.prog tab ov 48 [v] h K := by
  rw [lay_nil h]
  have z := Ext.refl h
  have hva : ∀ (h : Heap) (K : Value → Heap → Prop), valE (some v) h K = K v h := fun _ _ => rfl
  have hln := fun (hh : Heap) => hl.lenA ds23 hh
  refine Ok.into rfl tab_fn48 body48 rfl (m := 20) rfl ?_
  repeat' (first
    | simp -implicitDefEqProofs only [syms, symx, Nat.reduceAdd, Nat.reduceMul, Int.reduceLT, Int.reduceLE, Int.reduceAdd, Int.reduceSub, Int.reduceToNat, Int.reduceNeg, reduceIte, Nat.reduceGT, Nat.reduceLT, Nat.reduceLeDiff, code48_0, code48_1, ty48, hva]
    | ((with_reducible first | apply forkD | apply forkB | apply forkN | apply forkNP | apply forkNot) <;> intro _)
    | with_reducible_and_instances refine ixa_at (hl.mono z.inc) ds23 sz39 (by omega) hr (fun p hp => ?_)
    | with_reducible_and_instances refine lda hp ag39 sz39 ?_
    | ((with_reducible_and_instances apply unop_not); (· rfl))
    | ((with_reducible refine ⟨z.grw.lay _ _, ?_⟩); (intro _ h' zz x _); (try simp only [lay_lay, List.append_nil] at x); (try replace q0 := q0.over x); (replace z := zz); (clear zz); rw [lay_nil h']))
  obtain ⟨I1, hI1⟩ : ∃ I : Nat → Env → Heap → Prop, I = (fun n e h' => ∃ (i : Nat) (h1 : Heap), h' = h1.lay [] h1.low ∧ Ext h h1 ∧ (n = l.length + 1 - i ∧ 1 ≤ i ∧ (∀ k, 0 < k → k < i → k < l.length → cmpD (l.getD (k - 1) noAtomD) (l.getD k noAtomD) < 0)) ∧ ∃ J : Nat → Value, e = (v :: J 1 :: J 2 :: .int .i64 i :: J 4 :: J 5 :: J 6 :: J 7 :: J 8 :: J 9 :: J 10 :: J 11 :: J 12 :: J 13 :: J 14 :: J 15 :: J 16 :: J 17 :: J 18 :: J 19 :: J 20 :: [])) := ⟨_, rfl⟩
  refine W_loopN I1 _ (by rw [hI1]; exact ⟨1, _, rfl, z, ⟨rfl, by omega, fun k g1 g2 => by omega⟩, junk (by kernel_rfl)⟩) ?_
  intro n e h' hin
  rw [hI1] at hin
  obtain ⟨i, h1', rfl, z, hinv, J, rfl⟩ := hin
  obtain ⟨rfl, hi, hup⟩ := hinv
  simp -implicitDefEqProofs only [syms, symx, Nat.reduceAdd, Nat.reduceMul, Int.reduceLT, Int.reduceLE, Int.reduceAdd, Int.reduceSub, Int.reduceToNat, Int.reduceNeg, reduceIte, Nat.reduceGT, Nat.reduceLT, Nat.reduceLeDiff, code48_0, code48_1, ty48, hva, hln]
  refine forkD (fun hlt1 => ?_) (fun hlt1 => ?_)
  rotate_left
  · rw [isA_iff.2 (asc_iff.2 (fun k g1 g2 => hup k g1 (by omega) g2))] at hk
    repeat' (first
      | simp -implicitDefEqProofs only [syms, symx, Nat.reduceAdd, Nat.reduceMul, Int.reduceLT, Int.reduceLE, Int.reduceAdd, Int.reduceSub, Int.reduceToNat, Int.reduceNeg, reduceIte, Nat.reduceGT, Nat.reduceLT, Nat.reduceLeDiff, code48_0, code48_1, ty48, hva]
      | ((with_reducible first | apply forkD | apply forkB | apply forkN | apply forkNP | apply forkNot) <;> intro _)
      | with_reducible_and_instances refine ixa_at (hl.mono z.inc) ds23 sz39 (by omega) hr (fun p hp => ?_)
      | with_reducible_and_instances refine lda hp ag39 sz39 ?_
      | ((with_reducible_and_instances apply unop_not); (· rfl))
      | ((with_reducible refine ⟨z.grw.lay _ _, ?_⟩); (intro _ h' zz x _); (try simp only [lay_lay, List.append_nil] at x); (try replace q0 := q0.over x); (replace z := zz); (clear zz); rw [lay_nil h']))
    exact hk _ (z.upW _ _ (by omega))
  have hwi : IntKind.i64.wrap ((i : Int) + 1) = ((i + 1 : Nat) : Int) := by rw [wrap_i64 (by omega) (by omega)]; omega
  have hwi1 : IntKind.i64.wrap ((i : Int) - 1) = ((i - 1 : Nat) : Int) := by rw [wrap_i64 (by omega) (by omega)]; omega
  have hr : l[(i : Int).toNat]? = some (l.getD i noAtomD) := getD_at (by omega)
  have hr1 : l[((i - 1 : Nat) : Int).toNat]? = some (l.getD (i - 1) noAtomD) := getD_at (by omega)
  simp -implicitDefEqProofs only [syms, symx, Nat.reduceAdd, Nat.reduceMul, Int.reduceLT, Int.reduceLE, Int.reduceAdd, Int.reduceSub, Int.reduceToNat, Int.reduceNeg, reduceIte, Nat.reduceGT, Nat.reduceLT, Nat.reduceLeDiff, code48_0, code48_1, ty48, hva]
  with_reducible first | refine D48_16 (z.upW _ _ (by omega)) ?_
  simp -implicitDefEqProofs only [syms, symx, Nat.reduceAdd, Nat.reduceMul, Int.reduceLT, Int.reduceLE, Int.reduceAdd, Int.reduceSub, Int.reduceToNat, Int.reduceNeg, reduceIte, Nat.reduceGT, Nat.reduceLT, Nat.reduceLeDiff, code48_0, code48_1, ty48, hva, hwi1]
  repeat' ((first
    | ((with_reducible first | apply forkD | apply forkB | apply forkN | apply forkNP | apply forkNot) <;> intro _)
    | with_reducible_and_instances refine ixa_at (hl.mono z.inc) ds23 sz39 (by omega) hr1 (fun p hp => ?_)
    | with_reducible_and_instances refine ixa_at (hl.mono z.inc) ds23 sz39 (by omega) hr (fun p hp => ?_)
    | with_reducible_and_instances refine lda hp ag39 sz39 ?_
    | ((with_reducible_and_instances apply unop_not); (· rfl))
    | ((with_reducible refine ⟨z.grw.lay _ _, ?_⟩); (intro _ h' zz x _); (try simp only [lay_lay, List.append_nil] at x); (replace z := zz); (clear zz); rw [lay_nil h'])) <;> simp -implicitDefEqProofs only [syms, symx, Nat.reduceAdd, Nat.reduceMul, Int.reduceLT, Int.reduceLE, Int.reduceAdd, Int.reduceSub, Int.reduceToNat, Int.reduceNeg, reduceIte, Nat.reduceGT, Nat.reduceLT, Nat.reduceLeDiff, code48_0, code48_1, ty48, hva, hwi1])
  refine ok_cmpR _ _ (light_getD hlt (by omega)) (light_getD hlt (by omega)) _ _ (fun h' x => ?_)
  ((first | ((with_reducible refine KOpsX_call ?_ ?_ ?_); (· exact (by (try simp only [lsz]); have := z.size; omega)); (· first | exact x | simpa only [lla] using x)) | skip); replace z := z.overW x (by (try simp only [lsz]); omega); rw [lay_nil h'])
  simp -implicitDefEqProofs only [syms, symx, Nat.reduceAdd, Nat.reduceMul, Int.reduceLT, Int.reduceLE, Int.reduceAdd, Int.reduceSub, Int.reduceToNat, Int.reduceNeg, reduceIte, Nat.reduceGT, Nat.reduceLT, Nat.reduceLeDiff, code48_0, code48_1, ty48]
  refine forkD (fun hc => ?_) (fun hc => ?_)
  · rw [isA_no (fun g => by have := asc_iff.1 g i (by omega) (by omega); omega)] at hk
    repeat' (first
      | simp -implicitDefEqProofs only [syms, symx, Nat.reduceAdd, Nat.reduceMul, Int.reduceLT, Int.reduceLE, Int.reduceAdd, Int.reduceSub, Int.reduceToNat, Int.reduceNeg, reduceIte, Nat.reduceGT, Nat.reduceLT, Nat.reduceLeDiff, code48_0, code48_1, ty48]
      | ((with_reducible first | apply forkD | apply forkB | apply forkN | apply forkNP | apply forkNot) <;> intro _)
      | with_reducible_and_instances refine ixa_at (hl.mono z.inc) ds23 sz39 (by omega) hr1 (fun p hp => ?_)
      | with_reducible_and_instances refine ixa_at (hl.mono z.inc) ds23 sz39 (by omega) hr (fun p hp => ?_)
      | with_reducible_and_instances refine lda hp ag39 sz39 ?_
      | ((with_reducible_and_instances apply unop_not); (· rfl))
      | ((with_reducible refine ⟨z.grw.lay _ _, ?_⟩); (intro _ h' zz x _); (try simp only [lay_lay, List.append_nil] at x); (replace z := zz); (clear zz); rw [lay_nil h']))
    exact hk _ (z.upW _ _ (by omega))
  · repeat' (first
      | simp -implicitDefEqProofs only [syms, symx, Nat.reduceAdd, Nat.reduceMul, Int.reduceLT, Int.reduceLE, Int.reduceAdd, Int.reduceSub, Int.reduceToNat, Int.reduceNeg, reduceIte, Nat.reduceGT, Nat.reduceLT, Nat.reduceLeDiff, code48_0, code48_1, ty48]
      | ((with_reducible first | apply forkD | apply forkB | apply forkN | apply forkNP | apply forkNot) <;> intro _)
      | with_reducible_and_instances refine ixa_at (hl.mono z.inc) ds23 sz39 (by omega) hr1 (fun p hp => ?_)
      | with_reducible_and_instances refine ixa_at (hl.mono z.inc) ds23 sz39 (by omega) hr (fun p hp => ?_)
      | with_reducible_and_instances refine lda hp ag39 sz39 ?_
      | ((with_reducible_and_instances apply unop_not); (· rfl))
      | ((with_reducible refine ⟨z.grw.lay _ _, ?_⟩); (intro _ h' zz x _); (try simp only [lay_lay, List.append_nil] at x); (replace z := zz); (clear zz); rw [lay_nil h']))
    rw [hwi]
    (rw [hI1]; with_reducible refine loopN_normal (m := _) ?_ ⟨i + 1, _, rfl, z, ⟨rfl, by omega, fun k g1 g2 g3 => by
      rcases Nat.lt_or_ge k i with e | e
      · exact hup k g1 e g3
      · have e : k = i := by omega
        subst e
        omega⟩, junk (by kernel_rfl)⟩; omega)
theorem amInc_chg {a b d : Heap} {A : Nat} (i : Inc a b) (c : Chg A b d) (hA : a.size ≤ A) : Inc a d := ⟨Nat.le_trans i.size c.size, fun B hB hd => (c.get B (Nat.lt_of_lt_of_le hB i.size) (by omega)).trans (i.get B hB hd)⟩
theorem half_lo {n : Nat} (h : 2 ≤ n) : n / 2 < n ∧ 0 < n / 2 ∧ n - n / 2 < n := by omega
theorem ok_sortedR : ∀ (k : Nat) (l : List AtomD) (v : Value) (h : Heap), l.length ≤ k → Sl Rep.atom h v l → l.length ≤ 2000 → (∀ x ∈ l, x.light = true) → ∀ (K : Value → Heap → Prop),
    (∀ h' w, Ext h h' → OwnX h h' 39 w (sortA l) → K w h') → Ok Try.prog tab ov 50 [v] h K
  | k, l, v, h, hkl, hl, hn, hlt, K, hk => by
    rw [lay_nil h]
    have z := Ext.refl h
    have hva : ∀ (h : Heap) (K : Value → Heap → Prop), valE (some v) h K = K v h := fun _ _ => rfl
    have hln := fun (hh : Heap) => hl.lenA ds23 hh
    refine Ok.into rfl tab_fn50 body50 rfl (m := 68) rfl ?_
    simp -implicitDefEqProofs only [syms, symx, Nat.reduceAdd, Nat.reduceMul, Int.reduceLT, Int.reduceLE, Int.reduceAdd, Int.reduceSub, Int.reduceToNat, Int.reduceNeg, reduceIte, Nat.reduceGT, Nat.reduceLT, Nat.reduceLeDiff, code50_0, code50_1, code50_2, code50_3, ty50, hva, hln]
    refine forkD (fun hlt2 => ?_) (fun hlt2 => ?_)
    · repeat' (first
        | simp -implicitDefEqProofs only [syms, symx, Nat.reduceAdd, Nat.reduceMul, Int.reduceLT, Int.reduceLE, Int.reduceAdd, Int.reduceSub, Int.reduceToNat, Int.reduceNeg, reduceIte, Nat.reduceGT, Nat.reduceLT, Nat.reduceLeDiff, code50_0, code50_1, code50_2, code50_3, ty50, hva]
        | ((with_reducible first | apply forkD | apply forkB | apply forkN | apply forkNP | apply forkNot) <;> intro _)
        | with_reducible_and_instances refine ixa_at (hl.mono z.inc) ds23 sz39 (by omega) hr1 (fun p hp => ?_)
        | with_reducible_and_instances refine ixa_at (hl.mono z.inc) ds23 sz39 (by omega) hr (fun p hp => ?_)
        | with_reducible_and_instances refine lda hp ag39 sz39 ?_
        | ((with_reducible_and_instances apply unop_not); (· rfl))
        | ((with_reducible refine ⟨z.grw.lay _ _, ?_⟩); (intro _ h' zz x _); (try simp only [lay_lay, List.append_nil] at x); (replace z := zz); (clear zz); rw [lay_nil h']))
      simp -implicitDefEqProofs only [syms, symx, Nat.reduceAdd, Nat.reduceMul, Int.reduceLT, Int.reduceLE, Int.reduceAdd, Int.reduceSub, Int.reduceToNat, Int.reduceNeg, reduceIte, Nat.reduceGT, Nat.reduceLT, Nat.reduceLeDiff, code50_0, code50_1, code50_2, code50_3, ty50, w_append, sty23]
      obtain ⟨news, hs, hsr⟩ := src_sl (A := h.size + 1) (r := Rep.atom) (by decide) (hl.lay [.row [] 39 false] h.low) (fun cs y hr => hr)
      have f : Ow Rep.atom h (h.lay [.row [] 39 false] h.low) 39 (h.size + 1) (.slice (some ⟨h.size + 0, 0, none⟩) 0 0) [] :=
        .inl ⟨by omega, rfl, .inr ⟨h.size + 0, 0, rfl, by omega, by rw [lay_size]; simp, [], 39, false, by rw [lay_get]; rfl⟩⟩
      obtain ⟨w, h', A', e1, e2, e3, e4, e5⟩ := app_ow (t := 23) ds23 tab_info39 rfl (by decide) (by rw [lay_size]; omega) f hs hsr (by simp only [List.length_nil]; omega) (by simp only [List.length_nil]; omega)
      rw [e1]
      have hvw : ∀ (h : Heap) (K : Value → Heap → Prop), valE (some w) h K = K w h := fun _ _ => rfl
      replace z := (Ext.refl h).stepW e3 (by omega) (by omega)
      rw [lay_nil h']
      repeat' (first
        | simp -implicitDefEqProofs only [syms, symx, Nat.reduceAdd, Nat.reduceMul, Int.reduceLT, Int.reduceLE, Int.reduceAdd, Int.reduceSub, Int.reduceToNat, Int.reduceNeg, reduceIte, Nat.reduceGT, Nat.reduceLT, Nat.reduceLeDiff, code50_0, code50_1, code50_2, code50_3, ty50, hvw]
        | ((with_reducible first | apply forkD | apply forkB | apply forkN | apply forkNP | apply forkNot) <;> intro _)
        | with_reducible_and_instances refine ixa_at (hl.mono z.inc) ds23 sz39 (by omega) hr1 (fun p hp => ?_)
        | with_reducible_and_instances refine ixa_at (hl.mono z.inc) ds23 sz39 (by omega) hr (fun p hp => ?_)
        | with_reducible_and_instances refine lda hp ag39 sz39 ?_
        | ((with_reducible_and_instances apply unop_not); (· rfl))
        | ((with_reducible refine ⟨z.grw.lay _ _, ?_⟩); (intro _ h' zz x _); (try simp only [lay_lay, List.append_nil] at x); (replace z := zz); (clear zz); rw [lay_nil h']))
      rw [sortA_one (by omega)] at hk
      exact hk _ _ (z.upW _ _ (by omega)) (own_of_ow ((by simpa using e2 : Ow Rep.atom h h' 39 A' w l).mono (Inc.lay _ _ _)))
    match k, hkl with
    | 0, hkl => exact absurd hkl (by omega)
    | k + 1, hkl =>
      have hq : IntKind.i64.wrap (((l.length : Nat) : Int).tdiv 2) = ((l.length / 2 : Nat) : Int) := by
        rw [Int.tdiv_eq_ediv_of_nonneg (by omega), wrap_i64 (by omega) (by omega)]
        omega
      obtain ⟨g1, g2, g3⟩ := half_lo (n := l.length) (by omega)
      simp -implicitDefEqProofs only [syms, symx, Nat.reduceAdd, Nat.reduceMul, Int.reduceLT, Int.reduceLE, Int.reduceAdd, Int.reduceSub, Int.reduceToNat, Int.reduceNeg, reduceIte, Nat.reduceGT, Nat.reduceLT, Nat.reduceLeDiff, code50_0, code50_1, code50_2, code50_3, ty50, hva, hln]
      rw [bin_quo (by decide), hq]
      repeat' (first
        | simp -implicitDefEqProofs only [syms, symx, Nat.reduceAdd, Nat.reduceMul, Int.reduceLT, Int.reduceLE, Int.reduceAdd, Int.reduceSub, Int.reduceToNat, Int.reduceNeg, reduceIte, Nat.reduceGT, Nat.reduceLT, Nat.reduceLeDiff, code50_0, code50_1, code50_2, code50_3, ty50, hva]
        | ((with_reducible first | apply forkD | apply forkB | apply forkN | apply forkNP | apply forkNot) <;> intro _)
        | with_reducible_and_instances refine ixa_at (hl.mono z.inc) ds23 sz39 (by omega) hr1 (fun p hp => ?_)
        | with_reducible_and_instances refine ixa_at (hl.mono z.inc) ds23 sz39 (by omega) hr (fun p hp => ?_)
        | with_reducible_and_instances refine lda hp ag39 sz39 ?_
        | ((with_reducible_and_instances apply unop_not); (· rfl))
        | ((with_reducible refine ⟨z.grw.lay _ _, ?_⟩); (intro _ h' zz x _); (try simp only [lay_lay, List.append_nil] at x); (replace z := zz); (clear zz); rw [lay_nil h']))
      with_reducible first | refine D50_13 (z.upW _ _ (by omega)) ?_ | refine D50_27 (z.upW _ _ (by omega)) ?_ | refine D50_32 (z.upW _ _ (by omega)) ?_ | refine D50_36 (z.upW _ _ (by omega)) ?_
      simp -implicitDefEqProofs only [syms, symx, Nat.reduceAdd, Nat.reduceMul, Int.reduceLT, Int.reduceLE, Int.reduceAdd, Int.reduceSub, Int.reduceToNat, Int.reduceNeg, reduceIte, Nat.reduceGT, Nat.reduceLT, Nat.reduceLeDiff, code50_0, code50_1, code50_2, code50_3, ty50, hva]
      repeat' ((first
        | ((with_reducible first | apply forkD | apply forkB | apply forkN | apply forkNP | apply forkNot) <;> intro _)
        | with_reducible_and_instances refine to_rule (hl.mono z.inc) (by decide) ds23 sz39 (show l.length / 2 ≤ l.length by omega) (fun v1 hv1 => ?_)
        | with_reducible_and_instances refine from_rule (hl.mono z.inc) (by decide) ds23 sz39 (show l.length / 2 ≤ l.length by omega) (fun v2 hv2 => ?_)
        | ((with_reducible_and_instances apply unop_not); (· rfl))
        | ((with_reducible refine ⟨z.grw.lay _ _, ?_⟩); (intro _ h' zz x _); (try simp only [lay_lay, List.append_nil] at x); (replace z := zz); (clear zz); rw [lay_nil h'])) <;> simp -implicitDefEqProofs only [syms, symx, Nat.reduceAdd, Nat.reduceMul, Int.reduceLT, Int.reduceLE, Int.reduceAdd, Int.reduceSub, Int.reduceToNat, Int.reduceNeg, reduceIte, Nat.reduceGT, Nat.reduceLT, Nat.reduceLeDiff, code50_0, code50_1, code50_2, code50_3, ty50, hva])
      have tl1 : (l.take (l.length / 2)).length = l.length / 2 := by rw [List.length_take]; omega
      have tl2 : (l.drop (l.length / 2)).length = l.length - l.length / 2 := by rw [List.length_drop]
      have lt1 : ∀ x ∈ l.take (l.length / 2), x.light = true := fun x hx => hlt x (List.mem_of_mem_take hx)
      have lt2 : ∀ x ∈ l.drop (l.length / 2), x.light = true := fun x hx => hlt x (List.mem_of_mem_drop hx)
      refine ok_sortedR k (l.take (l.length / 2)) v1 _ (by omega) (hv1.lay _ _) (by omega) lt1 _ (fun h' w1 x o1 => ?_)
      replace o1 := (o1.own (by have := sortA_length (l.take (l.length / 2)); omega)).sl
      ((first | ((with_reducible refine KOpsX_call ?_ ?_ ?_); (· exact (by (try simp only [lsz]); have := z.size; omega)); (· first | exact x | simpa only [lla] using x)) | skip); replace z := z.overW x (by (try simp only [lsz]); omega); rw [lay_nil h'])
      have hv1a : ∀ (h : Heap) (K : Value → Heap → Prop), valE (some w1) h K = K w1 h := fun _ _ => rfl
      simp -implicitDefEqProofs only [syms, symx, Nat.reduceAdd, Nat.reduceMul, Int.reduceLT, Int.reduceLE, Int.reduceAdd, Int.reduceSub, Int.reduceToNat, Int.reduceNeg, reduceIte, Nat.reduceGT, Nat.reduceLT, Nat.reduceLeDiff, code50_0, code50_1, code50_2, code50_3, ty50, hva, hv1a]
      repeat' ((first
        | ((with_reducible first | apply forkD | apply forkB | apply forkN | apply forkNP | apply forkNot) <;> intro _)
        | with_reducible_and_instances refine to_rule (hl.mono z.inc) (by decide) ds23 sz39 (show l.length / 2 ≤ l.length by omega) (fun v1 hv1 => ?_)
        | with_reducible_and_instances refine from_rule (hl.mono z.inc) (by decide) ds23 sz39 (show l.length / 2 ≤ l.length by omega) (fun v2 hv2 => ?_)
        | ((with_reducible_and_instances apply unop_not); (· rfl))
        | ((with_reducible refine ⟨z.grw.lay _ _, ?_⟩); (intro _ h' zz x _); (try simp only [lay_lay, List.append_nil] at x); (try replace o1 := o1.over x); (replace z := zz); (clear zz); rw [lay_nil h'])) <;> simp -implicitDefEqProofs only [syms, symx, Nat.reduceAdd, Nat.reduceMul, Int.reduceLT, Int.reduceLE, Int.reduceAdd, Int.reduceSub, Int.reduceToNat, Int.reduceNeg, reduceIte, Nat.reduceGT, Nat.reduceLT, Nat.reduceLeDiff, code50_0, code50_1, code50_2, code50_3, ty50, hva, hv1a])
      refine ok_sortedR k (l.drop (l.length / 2)) v2 _ (by omega) ((by assumption : Sl Rep.atom _ v2 _).lay _ _) (by omega) lt2 _ (fun h' w2 x o2 => ?_)
      replace o2 := (o2.own (by have := sortA_length (l.drop (l.length / 2)); omega)).sl
      ((first | ((with_reducible refine KOpsX_call ?_ ?_ ?_); (· exact (by (try simp only [lsz]); have := z.size; omega)); (· first | exact x | simpa only [lla] using x)) | skip); replace z := z.overW x (by (try simp only [lsz]); omega); (try replace o1 := o1.over x); rw [lay_nil h'])
      have hv2a : ∀ (h : Heap) (K : Value → Heap → Prop), valE (some w2) h K = K w2 h := fun _ _ => rfl
      repeat' (first
        | simp -implicitDefEqProofs only [syms, symx, Nat.reduceAdd, Nat.reduceMul, Int.reduceLT, Int.reduceLE, Int.reduceAdd, Int.reduceSub, Int.reduceToNat, Int.reduceNeg, reduceIte, Nat.reduceGT, Nat.reduceLT, Nat.reduceLeDiff, code50_0, code50_1, code50_2, code50_3, ty50, hv1a, hv2a]
        | ((with_reducible first | apply forkD | apply forkB | apply forkN | apply forkNP | apply forkNot) <;> intro _)
        | with_reducible_and_instances refine to_rule (hl.mono z.inc) (by decide) ds23 sz39 (show l.length / 2 ≤ l.length by omega) (fun v1 hv1 => ?_)
        | with_reducible_and_instances refine from_rule (hl.mono z.inc) (by decide) ds23 sz39 (show l.length / 2 ≤ l.length by omega) (fun v2 hv2 => ?_)
        | ((with_reducible_and_instances apply unop_not); (· rfl))
        | ((with_reducible refine ⟨z.grw.lay _ _, ?_⟩); (intro _ h' zz x _); (try simp only [lay_lay, List.append_nil] at x); (try replace o1 := o1.over x); (try replace o2 := o2.over x); (replace z := zz); (clear zz); rw [lay_nil h']))
      have hll1 := sortA_length (l.take (l.length / 2))
      have hll2 := sortA_length (l.drop (l.length / 2))
      have hmg := sortA_app (l.take (l.length / 2)) (l.drop (l.length / 2))
      rw [List.take_append_drop] at hmg
      have hlg1 := sortA_light lt1
      have hlg2 := sortA_light lt2
      generalize sortA (l.take (l.length / 2)) = s1 at *
      generalize sortA (l.drop (l.length / 2)) = s2 at *
      have hz0 := z.size
      obtain ⟨H0, hH0⟩ : ∃ H0, H0 = h' := ⟨_, rfl⟩
      rw [← hH0] at o1 o2 hz0
      obtain ⟨I1, hI1⟩ : ∃ I : Nat → Env → Heap → Prop, I = (fun n e h' => ∃ (va vb wo : Value) (xs ys out : List AtomD) (A : Nat) (h1 : Heap), h' = h1.lay [] h1.low ∧ Ext h h1 ∧ (n = xs.length + ys.length ∧ out ++ mergeA xs ys = sortA l ∧ Sl Rep.atom H0 va xs ∧ Sl Rep.atom H0 vb ys ∧ Ow Rep.atom H0 h1 39 A wo out ∧ Inc H0 h1 ∧ (∀ x ∈ xs, x.light = true) ∧ (∀ x ∈ ys, x.light = true) ∧ out.length + xs.length + ys.length ≤ l.length) ∧ ∃ J : Nat → Value, e = (J 0 :: J 1 :: J 2 :: J 3 :: va :: vb :: wo :: J 7 :: J 8 :: J 9 :: J 10 :: J 11 :: J 12 :: J 13 :: J 14 :: J 15 :: J 16 :: J 17 :: J 18 :: J 19 :: J 20 :: J 21 :: J 22 :: J 23 :: J 24 :: J 25 :: J 26 :: J 27 :: J 28 :: J 29 :: J 30 :: J 31 :: J 32 :: J 33 :: J 34 :: J 35 :: J 36 :: J 37 :: J 38 :: J 39 :: J 40 :: J 41 :: J 42 :: J 43 :: J 44 :: J 45 :: J 46 :: J 47 :: J 48 :: J 49 :: J 50 :: J 51 :: J 52 :: J 53 :: J 54 :: J 55 :: J 56 :: J 57 :: J 58 :: J 59 :: J 60 :: J 61 :: J 62 :: J 63 :: J 64 :: J 65 :: J 66 :: J 67 :: J 68 :: [])) := ⟨_, rfl⟩
      refine W_loopN I1 _ (by rw [hI1]; exact ⟨w1, w2, .slice none 0 0, s1, s2, [], H0.size, _, rfl, z, ⟨rfl, by simpa using hmg, o1, o2, Ow.nil (Nat.le_refl _), by rw [hH0]; exact Inc.refl _, hlg1, hlg2, by simp only [List.length_nil]; omega⟩, junk (by kernel_rfl)⟩) ?_
      intro n e h' hin
      rw [hI1] at hin
      obtain ⟨va, vb, wo, xs, ys, out, A, h1', rfl, z, hinv, J, rfl⟩ := hin
      clear o1 o2
      obtain ⟨rfl, hout, sa, sb, ow, i1, la, lb, hsum⟩ := hinv
      have hvA : ∀ (h : Heap) (K : Value → Heap → Prop), valE (some va) h K = K va h := fun _ _ => rfl
      have hvB : ∀ (h : Heap) (K : Value → Heap → Prop), valE (some vb) h K = K vb h := fun _ _ => rfl
      have hvO : ∀ (h : Heap) (K : Value → Heap → Prop), valE (some wo) h K = K wo h := fun _ _ => rfl
      have hlA := fun (hh : Heap) => sa.lenA ds23 hh
      have hlB := fun (hh : Heap) => sb.lenA ds23 hh
      have hz1 := z.size
      have hrounds : 0 < xs.length → 0 < ys.length → ∃ x xs' y ys', xs = x :: xs' ∧ ys = y :: ys' := fun h1 h2 => by
        match xs, ys, h1, h2 with
        | x :: xs, y :: ys, _, _ => exact ⟨x, xs, y, ys, rfl, rfl⟩
      have hcat : ¬ (0 < xs.length ∧ 0 < ys.length) → mergeA xs ys = xs ++ ys := fun hh => by
        cases xs with
        | nil => rw [mergeA_nil_left]; rfl
        | cons x xs => cases ys with
          | nil => rw [mergeA_nil_right]; simp
          | cons y ys => exact absurd ⟨by simp, by simp⟩ hh
      simp -implicitDefEqProofs only [syms, symx, Nat.reduceAdd, Nat.reduceMul, Int.reduceLT, Int.reduceLE, Int.reduceAdd, Int.reduceSub, Int.reduceToNat, Int.reduceNeg, reduceIte, Nat.reduceGT, Nat.reduceLT, Nat.reduceLeDiff, code50_0, code50_1, code50_2, code50_3, ty50, hvA, hvB, hvO, hlA, hlB]
      refine forkD (fun f1 => ?_) (fun f1 => ?_)
      rotate_left
      · repeat' (first
          | simp -implicitDefEqProofs only [syms, symx, Nat.reduceAdd, Nat.reduceMul, Int.reduceLT, Int.reduceLE, Int.reduceAdd, Int.reduceSub, Int.reduceToNat, Int.reduceNeg, reduceIte, Nat.reduceGT, Nat.reduceLT, Nat.reduceLeDiff, code50_0, code50_1, code50_2, code50_3, ty50, hvA, hvB, hvO, hlA, hlB]
          | ((with_reducible first | apply forkD | apply forkB | apply forkN | apply forkNP | apply forkNot) <;> intro _)
          | with_reducible_and_instances refine to_rule (hl.mono z.inc) (by decide) ds23 sz39 (show l.length / 2 ≤ l.length by omega) (fun v1 hv1 => ?_)
          | with_reducible_and_instances refine from_rule (hl.mono z.inc) (by decide) ds23 sz39 (show l.length / 2 ≤ l.length by omega) (fun v2 hv2 => ?_)
          | ((with_reducible_and_instances apply unop_not); (· rfl))
          | ((with_reducible refine ⟨z.grw.lay _ _, ?_⟩); (intro _ h' zz x _); (try simp only [lay_lay, List.append_nil] at x); (try replace ow := ow.over x); (try replace i1 := i1.over x); (replace z := zz); (clear zz); rw [lay_nil h']))
        simp -implicitDefEqProofs only [syms, symx, Nat.reduceAdd, Nat.reduceMul, Int.reduceLT, Int.reduceLE, Int.reduceAdd, Int.reduceSub, Int.reduceToNat, Int.reduceNeg, reduceIte, Nat.reduceGT, Nat.reduceLT, Nat.reduceLeDiff, code50_0, code50_1, code50_2, code50_3, ty50, w_append, sty23]
        rw [hcat (by omega)] at hout
        have hi1 := i1.size
        have hlen : (out ++ xs).length = out.length + xs.length := List.length_append
        obtain ⟨news1, hs1, hsr1⟩ := src_sl (A := A) (r := Rep.atom) (by decide) ((sa.mono i1).lay [] h1'.low) (fun cs y hr => hr)
        have hf1 := ow.fresh
        refine ap_rule (r := Rep.atom) ds23 tab_info39 rfl (by decide) hi1 ow hs1 hsr1 (by omega) (by omega) (fun w5 h5 A5 o5 c5 hA5 => ?_)
        have i5 := amInc_chg (i1.trans (Inc.lay _ _ _)) c5 hf1
        replace z := (z.upW _ _ (by omega)).step c5 (by omega)
        rw [lay_nil h5]
        have hv5 : ∀ (h : Heap) (K : Value → Heap → Prop), valE (some w5) h K = K w5 h := fun _ _ => rfl
        simp -implicitDefEqProofs only [syms, symx, Nat.reduceAdd, Nat.reduceMul, Int.reduceLT, Int.reduceLE, Int.reduceAdd, Int.reduceSub, Int.reduceToNat, Int.reduceNeg, reduceIte, Nat.reduceGT, Nat.reduceLT, Nat.reduceLeDiff, code50_0, code50_1, code50_2, code50_3, ty50, hv5, hvB, w_append, sty23]
        have hi5 := i5.size
        have hz5 := z.size
        obtain ⟨news2, hs2, hsr2⟩ := src_sl (A := A5) (r := Rep.atom) (by decide) ((sb.mono i5).lay [] h5.low) (fun cs y hr => hr)
        have hf5 := o5.fresh
        refine ap_rule (r := Rep.atom) ds23 tab_info39 rfl (by decide) hi5 o5 hs2 hsr2 (by omega) (by omega) (fun w6 h6 A6 o6 c6 hA6 => ?_)
        replace z := (z.upW _ _ (by omega)).step c6 (by omega)
        rw [lay_nil h6]
        have hv6 : ∀ (h : Heap) (K : Value → Heap → Prop), valE (some w6) h K = K w6 h := fun _ _ => rfl
        repeat' (first
          | simp -implicitDefEqProofs only [syms, symx, Nat.reduceAdd, Nat.reduceMul, Int.reduceLT, Int.reduceLE, Int.reduceAdd, Int.reduceSub, Int.reduceToNat, Int.reduceNeg, reduceIte, Nat.reduceGT, Nat.reduceLT, Nat.reduceLeDiff, code50_0, code50_1, code50_2, code50_3, ty50, hv6]
          | ((with_reducible first | apply forkD | apply forkB | apply forkN | apply forkNP | apply forkNot) <;> intro _)
          | with_reducible_and_instances refine to_rule (hl.mono z.inc) (by decide) ds23 sz39 (show l.length / 2 ≤ l.length by omega) (fun v1 hv1 => ?_)
          | with_reducible_and_instances refine from_rule (hl.mono z.inc) (by decide) ds23 sz39 (show l.length / 2 ≤ l.length by omega) (fun v2 hv2 => ?_)
          | ((with_reducible_and_instances apply unop_not); (· rfl))
          | ((with_reducible refine ⟨z.grw.lay _ _, ?_⟩); (intro _ h' zz x _); (try simp only [lay_lay, List.append_nil] at x); (replace z := zz); (clear zz); rw [lay_nil h']))
        rw [List.append_assoc, hout] at o6
        exact hk _ _ (z.upW _ _ (by omega)) (ownX_down (own_of_ow (o6.mono (Inc.lay _ _ _))) hz0)
      simp -implicitDefEqProofs only [syms, symx, Nat.reduceAdd, Nat.reduceMul, Int.reduceLT, Int.reduceLE, Int.reduceAdd, Int.reduceSub, Int.reduceToNat, Int.reduceNeg, reduceIte, Nat.reduceGT, Nat.reduceLT, Nat.reduceLeDiff, code50_0, code50_1, code50_2, code50_3, ty50, hvA, hvB, hvO, hlA, hlB]
      refine forkD (fun f2 => ?_) (fun f2 => ?_)
      rotate_left
      · repeat' (first
          | simp -implicitDefEqProofs only [syms, symx, Nat.reduceAdd, Nat.reduceMul, Int.reduceLT, Int.reduceLE, Int.reduceAdd, Int.reduceSub, Int.reduceToNat, Int.reduceNeg, reduceIte, Nat.reduceGT, Nat.reduceLT, Nat.reduceLeDiff, code50_0, code50_1, code50_2, code50_3, ty50, hvA, hvB, hvO, hlA, hlB]
          | ((with_reducible first | apply forkD | apply forkB | apply forkN | apply forkNP | apply forkNot) <;> intro _)
          | with_reducible_and_instances refine to_rule (hl.mono z.inc) (by decide) ds23 sz39 (show l.length / 2 ≤ l.length by omega) (fun v1 hv1 => ?_)
          | with_reducible_and_instances refine from_rule (hl.mono z.inc) (by decide) ds23 sz39 (show l.length / 2 ≤ l.length by omega) (fun v2 hv2 => ?_)
          | ((with_reducible_and_instances apply unop_not); (· rfl))
          | ((with_reducible refine ⟨z.grw.lay _ _, ?_⟩); (intro _ h' zz x _); (try simp only [lay_lay, List.append_nil] at x); (try replace ow := ow.over x); (try replace i1 := i1.over x); (replace z := zz); (clear zz); rw [lay_nil h']))
        simp -implicitDefEqProofs only [syms, symx, Nat.reduceAdd, Nat.reduceMul, Int.reduceLT, Int.reduceLE, Int.reduceAdd, Int.reduceSub, Int.reduceToNat, Int.reduceNeg, reduceIte, Nat.reduceGT, Nat.reduceLT, Nat.reduceLeDiff, code50_0, code50_1, code50_2, code50_3, ty50, w_append, sty23]
        rw [hcat (by omega)] at hout
        have hi1 := i1.size
        have hlen : (out ++ xs).length = out.length + xs.length := List.length_append
        obtain ⟨news1, hs1, hsr1⟩ := src_sl (A := A) (r := Rep.atom) (by decide) ((sa.mono i1).lay [] h1'.low) (fun cs y hr => hr)
        have hf1 := ow.fresh
        refine ap_rule (r := Rep.atom) ds23 tab_info39 rfl (by decide) hi1 ow hs1 hsr1 (by omega) (by omega) (fun w5 h5 A5 o5 c5 hA5 => ?_)
        have i5 := amInc_chg (i1.trans (Inc.lay _ _ _)) c5 hf1
        replace z := (z.upW _ _ (by omega)).step c5 (by omega)
        rw [lay_nil h5]
        have hv5 : ∀ (h : Heap) (K : Value → Heap → Prop), valE (some w5) h K = K w5 h := fun _ _ => rfl
        simp -implicitDefEqProofs only [syms, symx, Nat.reduceAdd, Nat.reduceMul, Int.reduceLT, Int.reduceLE, Int.reduceAdd, Int.reduceSub, Int.reduceToNat, Int.reduceNeg, reduceIte, Nat.reduceGT, Nat.reduceLT, Nat.reduceLeDiff, code50_0, code50_1, code50_2, code50_3, ty50, hv5, hvB, w_append, sty23]
        have hi5 := i5.size
        have hz5 := z.size
        obtain ⟨news2, hs2, hsr2⟩ := src_sl (A := A5) (r := Rep.atom) (by decide) ((sb.mono i5).lay [] h5.low) (fun cs y hr => hr)
        have hf5 := o5.fresh
        refine ap_rule (r := Rep.atom) ds23 tab_info39 rfl (by decide) hi5 o5 hs2 hsr2 (by omega) (by omega) (fun w6 h6 A6 o6 c6 hA6 => ?_)
        replace z := (z.upW _ _ (by omega)).step c6 (by omega)
        rw [lay_nil h6]
        have hv6 : ∀ (h : Heap) (K : Value → Heap → Prop), valE (some w6) h K = K w6 h := fun _ _ => rfl
        repeat' (first
          | simp -implicitDefEqProofs only [syms, symx, Nat.reduceAdd, Nat.reduceMul, Int.reduceLT, Int.reduceLE, Int.reduceAdd, Int.reduceSub, Int.reduceToNat, Int.reduceNeg, reduceIte, Nat.reduceGT, Nat.reduceLT, Nat.reduceLeDiff, code50_0, code50_1, code50_2, code50_3, ty50, hv6]
          | ((with_reducible first | apply forkD | apply forkB | apply forkN | apply forkNP | apply forkNot) <;> intro _)
          | with_reducible_and_instances refine to_rule (hl.mono z.inc) (by decide) ds23 sz39 (show l.length / 2 ≤ l.length by omega) (fun v1 hv1 => ?_)
          | with_reducible_and_instances refine from_rule (hl.mono z.inc) (by decide) ds23 sz39 (show l.length / 2 ≤ l.length by omega) (fun v2 hv2 => ?_)
          | ((with_reducible_and_instances apply unop_not); (· rfl))
          | ((with_reducible refine ⟨z.grw.lay _ _, ?_⟩); (intro _ h' zz x _); (try simp only [lay_lay, List.append_nil] at x); (replace z := zz); (clear zz); rw [lay_nil h']))
        rw [List.append_assoc, hout] at o6
        exact hk _ _ (z.upW _ _ (by omega)) (ownX_down (own_of_ow (o6.mono (Inc.lay _ _ _))) hz0)
      obtain ⟨ax, xs', ay, ys', rfl, rfl⟩ := hrounds (by omega) (by omega)
      have hax := la ax (List.mem_cons_self ..)
      have hay := lb ay (List.mem_cons_self ..)
      obtain ⟨va', ga, sa'⟩ := sa.sub (T := tab) (t := 23) (by decide) ds23 sz39 (BndIs.num .i64 0 1) (BndIs.no _) (show 1 ≤ (ax :: xs').length by simp) (Nat.le_refl _)
      obtain ⟨vb', gb, sb'⟩ := sb.sub (T := tab) (t := 23) (by decide) ds23 sz39 (BndIs.num .i64 0 1) (BndIs.no _) (show 1 ≤ (ay :: ys').length by simp) (Nat.le_refl _)
      rw [List.take_length, List.drop_succ_cons, List.drop_zero] at sa' sb'
      rw [show ((1 : Nat) : Int) = 1 from rfl] at ga gb
      have hvA' : ∀ (h : Heap) (K : Value → Heap → Prop), valE (some va') h K = K va' h := fun _ _ => rfl
      have hvB' : ∀ (h : Heap) (K : Value → Heap → Prop), valE (some vb') h K = K vb' h := fun _ _ => rfl
      repeat' (first
        | simp -implicitDefEqProofs only [syms, symx, Nat.reduceAdd, Nat.reduceMul, Int.reduceLT, Int.reduceLE, Int.reduceAdd, Int.reduceSub, Int.reduceToNat, Int.reduceNeg, reduceIte, Nat.reduceGT, Nat.reduceLT, Nat.reduceLeDiff, code50_0, code50_1, code50_2, code50_3, ty50, hvA, hvB, hvO, hlA, hlB]
        | ((with_reducible first | apply forkD | apply forkB | apply forkN | apply forkNP | apply forkNot) <;> intro _)
        | with_reducible_and_instances refine to_rule (hl.mono z.inc) (by decide) ds23 sz39 (show l.length / 2 ≤ l.length by omega) (fun v1 hv1 => ?_)
        | with_reducible_and_instances refine from_rule (hl.mono z.inc) (by decide) ds23 sz39 (show l.length / 2 ≤ l.length by omega) (fun v2 hv2 => ?_)
        | ((with_reducible_and_instances apply unop_not); (· rfl))
        | ((with_reducible refine ⟨z.grw.lay _ _, ?_⟩); (intro _ h' zz x _); (try simp only [lay_lay, List.append_nil] at x); (try replace ow := ow.over x); (try replace i1 := i1.over x); (replace z := zz); (clear zz); rw [lay_nil h']))
      with_reducible first | refine D50_13 (z.upW _ _ (by omega)) ?_ | refine D50_27 (z.upW _ _ (by omega)) ?_ | refine D50_32 (z.upW _ _ (by omega)) ?_ | refine D50_36 (z.upW _ _ (by omega)) ?_
      have hra : (ax :: xs')[(0 : Int).toNat]? = some ax := rfl
      have hrb : (ay :: ys')[(0 : Int).toNat]? = some ay := rfl
      simp -implicitDefEqProofs only [syms, symx, Nat.reduceAdd, Nat.reduceMul, Int.reduceLT, Int.reduceLE, Int.reduceAdd, Int.reduceSub, Int.reduceToNat, Int.reduceNeg, reduceIte, Nat.reduceGT, Nat.reduceLT, Nat.reduceLeDiff, code50_0, code50_1, code50_2, code50_3, ty50, hvA, hvB, hvO]
      repeat' ((first
        | ((with_reducible first | apply forkD | apply forkB | apply forkN | apply forkNP | apply forkNot) <;> intro _)
        | with_reducible_and_instances refine ixa_at (sa.mono i1) ds23 sz39 (by omega) hra (fun p hp => ?_)
        | with_reducible_and_instances refine ixa_at (sb.mono i1) ds23 sz39 (by omega) hrb (fun p hp => ?_)
        | with_reducible_and_instances refine lda hp ag39 sz39 ?_
        | ((with_reducible_and_instances apply unop_not); (· rfl))
        | ((with_reducible refine ⟨z.grw.lay _ _, ?_⟩); (intro _ h' zz x _); (try simp only [lay_lay, List.append_nil] at x); (try replace ow := ow.over x); (try replace i1 := i1.over x); (replace z := zz); (clear zz); rw [lay_nil h'])) <;> simp -implicitDefEqProofs only [syms, symx, Nat.reduceAdd, Nat.reduceMul, Int.reduceLT, Int.reduceLE, Int.reduceAdd, Int.reduceSub, Int.reduceToNat, Int.reduceNeg, reduceIte, Nat.reduceGT, Nat.reduceLT, Nat.reduceLeDiff, code50_0, code50_1, code50_2, code50_3, ty50, hvA, hvB, hvO])
      refine ok_cmpR ax ay hax hay _ _ (fun h' x => ?_)
      ((first | ((with_reducible refine KOpsX_call ?_ ?_ ?_); (· exact (by (try simp only [lsz]); have := z.size; omega)); (· first | exact x | simpa only [lla] using x)) | skip); replace z := z.overW x (by (try simp only [lsz]); omega); (try replace ow := ow.over x); (try replace i1 := i1.over x); rw [lay_nil h'])
      simp -implicitDefEqProofs only [syms, symx, Nat.reduceAdd, Nat.reduceMul, Int.reduceLT, Int.reduceLE, Int.reduceAdd, Int.reduceSub, Int.reduceToNat, Int.reduceNeg, reduceIte, Nat.reduceGT, Nat.reduceLT, Nat.reduceLeDiff, code50_0, code50_1, code50_2, code50_3, ty50, hvA, hvB, hvO]
      ((with_reducible refine ⟨z.grw.lay _ _, ?_⟩); (intro _ h' zz x _); (try simp only [lay_lay, List.append_nil] at x); (try replace ow := ow.over x); (try replace i1 := i1.over x); (replace z := zz); (clear zz); rw [lay_nil h'])
      simp -implicitDefEqProofs only [syms, symx, Nat.reduceAdd, Nat.reduceMul, Int.reduceLT, Int.reduceLE, Int.reduceAdd, Int.reduceSub, Int.reduceToNat, Int.reduceNeg, reduceIte, Nat.reduceGT, Nat.reduceLT, Nat.reduceLeDiff, code50_0, code50_1, code50_2, code50_3, ty50, hvA, hvB, hvO]
      refine forkD (fun hc1 => ?_) (fun hc1 => ?_)
      · simp -implicitDefEqProofs only [syms, symx, Nat.reduceAdd, Nat.reduceMul, Int.reduceLT, Int.reduceLE, Int.reduceAdd, Int.reduceSub, Int.reduceToNat, Int.reduceNeg, reduceIte, Nat.reduceGT, Nat.reduceLT, Nat.reduceLeDiff, code50_0, code50_1, code50_2, code50_3, ty50, hvA, hvB, hvO]
        with_reducible first | refine D50_13 (z.upW _ _ (by omega)) ?_ | refine D50_27 (z.upW _ _ (by omega)) ?_ | refine D50_32 (z.upW _ _ (by omega)) ?_ | refine D50_36 (z.upW _ _ (by omega)) ?_
        simp -implicitDefEqProofs only [syms, symx, Nat.reduceAdd, Nat.reduceMul, Int.reduceLT, Int.reduceLE, Int.reduceAdd, Int.reduceSub, Int.reduceToNat, Int.reduceNeg, reduceIte, Nat.reduceGT, Nat.reduceLT, Nat.reduceLeDiff, code50_0, code50_1, code50_2, code50_3, ty50, hvA, hvB, hvO]
        repeat' ((first
          | ((with_reducible first | apply forkD | apply forkB | apply forkN | apply forkNP | apply forkNot) <;> intro _)
          | with_reducible_and_instances refine ixa_at (sa.mono i1) ds23 sz39 (by omega) hra (fun p hp => ?_)
          | with_reducible_and_instances refine lda hp ag39 sz39 ?_
          | ((with_reducible_and_instances apply unop_not); (· rfl))
          | ((with_reducible refine ⟨z.grw.lay _ _, ?_⟩); (intro _ h' zz x _); (try simp only [lay_lay, List.append_nil] at x); (try replace ow := ow.over x); (try replace i1 := i1.over x); (replace z := zz); (clear zz); rw [lay_nil h'])) <;> simp -implicitDefEqProofs only [syms, symx, Nat.reduceAdd, Nat.reduceMul, Int.reduceLT, Int.reduceLE, Int.reduceAdd, Int.reduceSub, Int.reduceToNat, Int.reduceNeg, reduceIte, Nat.reduceGT, Nat.reduceLT, Nat.reduceLeDiff, code50_0, code50_1, code50_2, code50_3, ty50, hvA, hvB, hvO, fill_atom])
        have hz2 := z.size
        refine KOpsX_alloc (by omega) (by omega) ?_
        simp -implicitDefEqProofs only [syms, symx, Nat.reduceAdd, Nat.reduceMul, Int.reduceLT, Int.reduceLE, Int.reduceAdd, Int.reduceSub, Int.reduceToNat, Int.reduceNeg, reduceIte, Nat.reduceGT, Nat.reduceLT, Nat.reduceLeDiff, code50_0, code50_1, code50_2, code50_3, ty50, w_append, sty23, hvO]
        have hfA := ow.fresh
        have hi1 := i1.size
        have hout2 : out.length ≤ 2000 := by omega
        obtain ⟨hs1, hsr1⟩ := src_row (A := A) (B := h'.size + 0) (r := Rep.atom) (c := 1) (y := ax) (by decide) (show (h'.lay [Blk.row ax.cells 39 false] (h'.size + 1)).get (h'.size + 0) = some (.row ax.cells 39 false) by rw [lay_get]; rfl) rfl
        obtain ⟨w3, h3, A3, e1, o3, c3, e4, e5⟩ := app_ow (t := 23) ds23 tab_info39 rfl (by decide) (by rw [lay_size]; omega) (ow.mono (Inc.lay _ _ _)) hs1 hsr1 (by omega) (by omega)
        rw [e1]
        simp -implicitDefEqProofs only [syms, symx, Nat.reduceAdd, Nat.reduceMul, Int.reduceLT, Int.reduceLE, Int.reduceAdd, Int.reduceSub, Int.reduceToNat, Int.reduceNeg, reduceIte, Nat.reduceGT, Nat.reduceLT, Nat.reduceLeDiff, code50_0, code50_1, code50_2, code50_3, ty50]
        refine KOpsX_chg (A := A) (by kernel_rfl) (by rw [lay_size]; omega) (by omega) (by simpa only [lay_lay, lay_size, List.append_nil, List.length_cons, List.length_nil, Nat.zero_add] using c3) ?_
        have i3 := amInc_chg (i1.trans (Inc.lay _ _ _)) c3 hfA
        replace z := (z.upW [Blk.row ax.cells 39 false] (h'.size + 1) (by omega)).step c3 (by omega)
        clear i1 ow e1 e4 e5 c3 hs1 hsr1
        have hv3 : ∀ (h : Heap) (K : Value → Heap → Prop), valE (some w3) h K = K w3 h := fun _ _ => rfl
        rw [lay_nil h3]
        repeat' (first
          | simp -implicitDefEqProofs only [syms, symx, Nat.reduceAdd, Nat.reduceMul, Int.reduceLT, Int.reduceLE, Int.reduceAdd, Int.reduceSub, Int.reduceToNat, Int.reduceNeg, reduceIte, Nat.reduceGT, Nat.reduceLT, Nat.reduceLeDiff, code50_0, code50_1, code50_2, code50_3, ty50, hv3, hvA, hvB, ga, hvA']
          | ((with_reducible first | apply forkD | apply forkB | apply forkN | apply forkNP | apply forkNot) <;> intro _)
          | with_reducible_and_instances refine ixa_at (sa.mono i1) ds23 sz39 (by omega) hra (fun p hp => ?_)
          | with_reducible_and_instances refine lda hp ag39 sz39 ?_
          | ((with_reducible_and_instances apply unop_not); (· rfl))
          | ((with_reducible refine ⟨z.grw.lay _ _, ?_⟩); (intro _ h' zz x _); (try simp only [lay_lay, List.append_nil] at x); (try replace o3 := o3.over x); (try replace i3 := i3.over x); (replace z := zz); (clear zz); rw [lay_nil h']))
        rw [mergeA_lt hc1] at hout
        (rw [hI1]; with_reducible refine loopN_normal (m := _) ?_ ⟨va', vb, w3, xs', ay :: ys', out ++ [ax], A3, _, rfl, z, ⟨rfl, by rw [← hout, List.append_assoc, List.cons_append, List.nil_append], sa', sb, o3, i3, fun x hx => la x (List.mem_cons_of_mem _ hx), lb, by simp only [List.length_cons, List.length_append, List.length_nil] at hsum ⊢; omega⟩, junk (by kernel_rfl)⟩; (simp only [List.length_cons]; omega))
      repeat' (first
        | simp -implicitDefEqProofs only [syms, symx, Nat.reduceAdd, Nat.reduceMul, Int.reduceLT, Int.reduceLE, Int.reduceAdd, Int.reduceSub, Int.reduceToNat, Int.reduceNeg, reduceIte, Nat.reduceGT, Nat.reduceLT, Nat.reduceLeDiff, code50_0, code50_1, code50_2, code50_3, ty50, hvA, hvB, hvO]
        | ((with_reducible first | apply forkD | apply forkB | apply forkN | apply forkNP | apply forkNot) <;> intro _)
        | with_reducible_and_instances refine ixa_at (sa.mono i1) ds23 sz39 (by omega) hra (fun p hp => ?_)
        | with_reducible_and_instances refine lda hp ag39 sz39 ?_
        | ((with_reducible_and_instances apply unop_not); (· rfl))
        | ((with_reducible refine ⟨z.grw.lay _ _, ?_⟩); (intro _ h' zz x _); (try simp only [lay_lay, List.append_nil] at x); (try replace o3 := o3.over x); (try replace i3 := i3.over x); (replace z := zz); (clear zz); rw [lay_nil h']))
      · have hc2 : 0 < cmpD ax ay := by assumption
        with_reducible first | refine D50_13 (z.upW _ _ (by omega)) ?_ | refine D50_27 (z.upW _ _ (by omega)) ?_ | refine D50_32 (z.upW _ _ (by omega)) ?_ | refine D50_36 (z.upW _ _ (by omega)) ?_
        simp -implicitDefEqProofs only [syms, symx, Nat.reduceAdd, Nat.reduceMul, Int.reduceLT, Int.reduceLE, Int.reduceAdd, Int.reduceSub, Int.reduceToNat, Int.reduceNeg, reduceIte, Nat.reduceGT, Nat.reduceLT, Nat.reduceLeDiff, code50_0, code50_1, code50_2, code50_3, ty50, hvA, hvB, hvO]
        repeat' ((first
          | ((with_reducible first | apply forkD | apply forkB | apply forkN | apply forkNP | apply forkNot) <;> intro _)
          | with_reducible_and_instances refine ixa_at (sb.mono i1) ds23 sz39 (by omega) hrb (fun p hp => ?_)
          | with_reducible_and_instances refine lda hp ag39 sz39 ?_
          | ((with_reducible_and_instances apply unop_not); (· rfl))
          | ((with_reducible refine ⟨z.grw.lay _ _, ?_⟩); (intro _ h' zz x _); (try simp only [lay_lay, List.append_nil] at x); (try replace ow := ow.over x); (try replace i1 := i1.over x); (replace z := zz); (clear zz); rw [lay_nil h'])) <;> simp -implicitDefEqProofs only [syms, symx, Nat.reduceAdd, Nat.reduceMul, Int.reduceLT, Int.reduceLE, Int.reduceAdd, Int.reduceSub, Int.reduceToNat, Int.reduceNeg, reduceIte, Nat.reduceGT, Nat.reduceLT, Nat.reduceLeDiff, code50_0, code50_1, code50_2, code50_3, ty50, hvA, hvB, hvO, fill_atom])
        have hz2 := z.size
        refine KOpsX_alloc (by omega) (by omega) ?_
        simp -implicitDefEqProofs only [syms, symx, Nat.reduceAdd, Nat.reduceMul, Int.reduceLT, Int.reduceLE, Int.reduceAdd, Int.reduceSub, Int.reduceToNat, Int.reduceNeg, reduceIte, Nat.reduceGT, Nat.reduceLT, Nat.reduceLeDiff, code50_0, code50_1, code50_2, code50_3, ty50, w_append, sty23, hvO]
        have hfA := ow.fresh
        have hi1 := i1.size
        have hout2 : out.length ≤ 2000 := by omega
        obtain ⟨hs1, hsr1⟩ := src_row (A := A) (B := h'.size + 0) (r := Rep.atom) (c := 1) (y := ay) (by decide) (show (h'.lay [Blk.row ay.cells 39 false] (h'.size + 1)).get (h'.size + 0) = some (.row ay.cells 39 false) by rw [lay_get]; rfl) rfl
        obtain ⟨w3, h3, A3, e1, o3, c3, e4, e5⟩ := app_ow (t := 23) ds23 tab_info39 rfl (by decide) (by rw [lay_size]; omega) (ow.mono (Inc.lay _ _ _)) hs1 hsr1 (by omega) (by omega)
        rw [e1]
        simp -implicitDefEqProofs only [syms, symx, Nat.reduceAdd, Nat.reduceMul, Int.reduceLT, Int.reduceLE, Int.reduceAdd, Int.reduceSub, Int.reduceToNat, Int.reduceNeg, reduceIte, Nat.reduceGT, Nat.reduceLT, Nat.reduceLeDiff, code50_0, code50_1, code50_2, code50_3, ty50]
        refine KOpsX_chg (A := A) (by kernel_rfl) (by rw [lay_size]; omega) (by omega) (by simpa only [lay_lay, lay_size, List.append_nil, List.length_cons, List.length_nil, Nat.zero_add] using c3) ?_
        have i3 := amInc_chg (i1.trans (Inc.lay _ _ _)) c3 hfA
        replace z := (z.upW [Blk.row ay.cells 39 false] (h'.size + 1) (by omega)).step c3 (by omega)
        clear i1 ow e1 e4 e5 c3 hs1 hsr1
        have hv3 : ∀ (h : Heap) (K : Value → Heap → Prop), valE (some w3) h K = K w3 h := fun _ _ => rfl
        rw [lay_nil h3]
        repeat' (first
          | simp -implicitDefEqProofs only [syms, symx, Nat.reduceAdd, Nat.reduceMul, Int.reduceLT, Int.reduceLE, Int.reduceAdd, Int.reduceSub, Int.reduceToNat, Int.reduceNeg, reduceIte, Nat.reduceGT, Nat.reduceLT, Nat.reduceLeDiff, code50_0, code50_1, code50_2, code50_3, ty50, hv3, hvA, hvB, gb, hvB']
          | ((with_reducible first | apply forkD | apply forkB | apply forkN | apply forkNP | apply forkNot) <;> intro _)
          | with_reducible_and_instances refine ixa_at (sb.mono i1) ds23 sz39 (by omega) hrb (fun p hp => ?_)
          | with_reducible_and_instances refine lda hp ag39 sz39 ?_
          | ((with_reducible_and_instances apply unop_not); (· rfl))
          | ((with_reducible refine ⟨z.grw.lay _ _, ?_⟩); (intro _ h' zz x _); (try simp only [lay_lay, List.append_nil] at x); (try replace o3 := o3.over x); (try replace i3 := i3.over x); (replace z := zz); (clear zz); rw [lay_nil h']))
        rw [mergeA_gt hc2] at hout
        (rw [hI1]; with_reducible refine loopN_normal (m := _) ?_ ⟨va, vb', w3, ax :: xs', ys', out ++ [ay], A3, _, rfl, z, ⟨rfl, by rw [← hout, List.append_assoc, List.cons_append, List.nil_append], sa, sb', o3, i3, la, fun x hx => lb x (List.mem_cons_of_mem _ hx), by simp only [List.length_cons, List.length_append, List.length_nil] at hsum ⊢; omega⟩, junk (by kernel_rfl)⟩; (simp only [List.length_cons]; omega))
      · have hc0 : cmpD ax ay = 0 := by omega
        rw [gb]
        repeat' (first
          | simp -implicitDefEqProofs only [syms, symx, Nat.reduceAdd, Nat.reduceMul, Int.reduceLT, Int.reduceLE, Int.reduceAdd, Int.reduceSub, Int.reduceToNat, Int.reduceNeg, reduceIte, Nat.reduceGT, Nat.reduceLT, Nat.reduceLeDiff, code50_0, code50_1, code50_2, code50_3, ty50, hvB']
          | ((with_reducible first | apply forkD | apply forkB | apply forkN | apply forkNP | apply forkNot) <;> intro _)
          | with_reducible_and_instances refine ixa_at (sb.mono i1) ds23 sz39 (by omega) hrb (fun p hp => ?_)
          | with_reducible_and_instances refine lda hp ag39 sz39 ?_
          | ((with_reducible_and_instances apply unop_not); (· rfl))
          | ((with_reducible refine ⟨z.grw.lay _ _, ?_⟩); (intro _ h' zz x _); (try simp only [lay_lay, List.append_nil] at x); (try replace ow := ow.over x); (try replace i1 := i1.over x); (replace z := zz); (clear zz); rw [lay_nil h']))
        rw [mergeA_eq hc0] at hout
        (rw [hI1]; with_reducible refine loopN_normal (m := _) ?_ ⟨va, vb', wo, ax :: xs', ys', out, A, _, rfl, z, ⟨rfl, hout, sa, sb', ow, i1, la, fun x hx => lb x (List.mem_cons_of_mem _ hx), by simp only [List.length_cons] at hsum ⊢; omega⟩, junk (by kernel_rfl)⟩; (simp only [List.length_cons]; omega))
end Go.Proofs.Ytompindebndddaa
namespace Go.Proofs.Ytompindebndddaa
open Go.Am
set_option linter.unusedSimpArgs false
set_option linter.unusedVariables false
set_option maxRecDepth 100000
set_option maxHeartbeats 0
theorem ok_addR (l : List AtomD) (a : AtomD) (v : Value) (h : Heap) (hl : Sl Rep.atom h v l) (hn : l.length ≤ 900) (hlt : ∀ x ∈ l, x.light = true) (ha : a.light = true) (K : Value → Heap → Prop)
    (hk : ∀ h' w, Ext h h' → OwnX h h' 39 w (putA a (sortA l)) → K (.tuple #[w, .bool (!hasA l a)]) h') : Ok Try.prog tab ov 52 [v, a.val] h K := by
  rw [lay_nil h]
  have z := Ext.refl h
  refine Ok.into rfl tab_fn52 body52 rfl (m := 16) rfl ?_
  simp -implicitDefEqProofs only [syms, symx, Nat.reduceAdd, Nat.reduceMul, Int.reduceLT, Int.reduceLE, Int.reduceAdd, Int.reduceSub, Int.reduceToNat, Int.reduceNeg, reduceIte, Nat.reduceGT, Nat.reduceLT, Nat.reduceLeDiff, code52_0, ty52, cells_atom]
  refine ok_sortedR l.length l v _ (Nat.le_refl _) (hl.lay _ _) (by omega) hlt _ (fun h' w x ho => ?_)
  replace ho := ownX_down (h0 := h) ho (by rw [lay_size]; omega)
  have q0 := Holds.top (i := 0) x rfl
  ((skip); replace z := z.overW x (by (try simp only [lsz]); omega); rw [lay_nil h'])
  have hva : ∀ (h : Heap) (K : Value → Heap → Prop), valE (some w) h K = K w h := fun _ _ => rfl
  have hll := sortA_length l
  have hlg := sortA_light hlt
  have hoA := ho.own (by omega)
  repeat' (first
    | simp -implicitDefEqProofs only [syms, symx, Nat.reduceAdd, Nat.reduceMul, Int.reduceLT, Int.reduceLE, Int.reduceAdd, Int.reduceSub, Int.reduceToNat, Int.reduceNeg, reduceIte, Nat.reduceGT, Nat.reduceLT, Nat.reduceLeDiff, code52_0, ty52, hva, q0.lay, cells_atom, ↓cut_atom, agg_atom, valE_atom]
    | ((with_reducible first | apply forkD | apply forkB | apply forkN | apply forkNP | apply forkNot) <;> intro _)
    | ((with_reducible_and_instances apply unop_not); (· rfl)))
  refine ok_hasR (sortA l) a w _ (hoA.sl.lay _ _) (by omega) hlg ha _ (fun h' x => ?_)
  have hoA2 := (hoA.lay _ _).mono x.inc
  ((skip); replace z := z.overW x (by (try simp only [lsz]); omega); (try replace q0 := q0.over x); rw [lay_nil h'])
  rw [hasA_sort]
  cases hb : hasA l a
  · rw [hb] at hk
    repeat' (first
      | simp -implicitDefEqProofs only [syms, symx, Nat.reduceAdd, Nat.reduceMul, Int.reduceLT, Int.reduceLE, Int.reduceAdd, Int.reduceSub, Int.reduceToNat, Int.reduceNeg, reduceIte, Nat.reduceGT, Nat.reduceLT, Nat.reduceLeDiff, code52_0, ty52, hva, q0.lay, cells_atom, ↓cut_atom, agg_atom, valE_atom, fill_atom]
      | ((with_reducible first | apply forkD | apply forkB | apply forkN | apply forkNP | apply forkNot) <;> intro _)
      | ((with_reducible_and_instances apply unop_not); (· rfl)))
    simp -implicitDefEqProofs only [syms, symx, Nat.reduceAdd, Nat.reduceMul, Int.reduceLT, Int.reduceLE, Int.reduceAdd, Int.reduceSub, Int.reduceToNat, Int.reduceNeg, reduceIte, Nat.reduceGT, Nat.reduceLT, Nat.reduceLeDiff, code52_0, ty52, w_append, sty23]
    have hz := z.size
    obtain ⟨w2, h2, e2, o2, A2, hA2, c2⟩ := app_one (a := a) (lw := h'.low) ds23 ins_info (by decide) (by decide) hz hoA2 (by omega)
    rw [e2]
    replace z := z.stepW c2 hA2 (by omega)
    have hv2 : ∀ (h : Heap) (K : Value → Heap → Prop), valE (some w2) h K = K w2 h := fun _ _ => rfl
    rw [lay_nil h2]
    simp -implicitDefEqProofs only [syms, symx, Nat.reduceAdd, Nat.reduceMul, Int.reduceLT, Int.reduceLE, Int.reduceAdd, Int.reduceSub, Int.reduceToNat, Int.reduceNeg, reduceIte, Nat.reduceGT, Nat.reduceLT, Nat.reduceLeDiff, code52_0, ty52, hv2]
    refine ok_sortedR (sortA l ++ [a]).length (sortA l ++ [a]) w2 _ (Nat.le_refl _) (o2.sl.lay _ _) (by simp only [List.length_append, List.length_cons, List.length_nil]; omega) (fun x hx => (List.mem_append.1 hx).elim (hlg x) (fun hx => by rw [List.mem_singleton.1 hx]; exact ha)) _ (fun h' w3 x o3 => ?_)
    have hz2 := z.size
    replace o3 := ownX_down (h0 := h) o3 (by rw [lay_size]; omega)
    rw [sortA_put] at o3
    ((skip); replace z := z.overW x (by (try simp only [lsz]); omega); rw [lay_nil h'])
    have hv3 : ∀ (h : Heap) (K : Value → Heap → Prop), valE (some w3) h K = K w3 h := fun _ _ => rfl
    repeat' (first
      | simp -implicitDefEqProofs only [syms, symx, Nat.reduceAdd, Nat.reduceMul, Int.reduceLT, Int.reduceLE, Int.reduceAdd, Int.reduceSub, Int.reduceToNat, Int.reduceNeg, reduceIte, Nat.reduceGT, Nat.reduceLT, Nat.reduceLeDiff, code52_0, ty52, hv3]
      | ((with_reducible first | apply forkD | apply forkB | apply forkN | apply forkNP | apply forkNot) <;> intro _)
      | ((with_reducible_and_instances apply unop_not); (· rfl)))
    exact hk _ _ (z.upW _ _ (by omega)) (ownX_mono o3 (Inc.lay _ _ _))
  · have hpp := put_has (a := a) (sortA_of l).asc (by rw [hasA_sort, hb])
    rw [hb, hpp] at hk
    repeat' (first
      | simp -implicitDefEqProofs only [syms, symx, Nat.reduceAdd, Nat.reduceMul, Int.reduceLT, Int.reduceLE, Int.reduceAdd, Int.reduceSub, Int.reduceToNat, Int.reduceNeg, reduceIte, Nat.reduceGT, Nat.reduceLT, Nat.reduceLeDiff, code52_0, ty52, hva]
      | ((with_reducible first | apply forkD | apply forkB | apply forkN | apply forkNP | apply forkNot) <;> intro _)
      | ((with_reducible_and_instances apply unop_not); (· rfl)))
    exact hk _ _ (z.upW _ _ (by omega)) (ownX_mono (ownX_mono ho (Inc.over (Inc.refl _) x)) (Inc.lay _ _ _))
theorem ok_minusR (l m : List AtomD) (v u : Value) (h : Heap) (hl : Sl Rep.atom h v l) (hm : Sl Rep.atom h u m) (hn : l.length ≤ 900) (hn2 : m.length ≤ 900) (hlt : ∀ x ∈ l, x.light = true) (hlm : ∀ x ∈ m, x.light = true) (K : Value → Heap → Prop)
    (hk : ∀ h' w A, Ext h h' → Ow Rep.atom h h' 39 A w ((sortA l).filter (fun x => !hasA m x)) → K w h') : Ok Try.prog tab ov 54 [v, u] h K := by
  rw [lay_nil h]
  have z := Ext.refl h
  have hvu : ∀ (h : Heap) (K : Value → Heap → Prop), valE (some u) h K = K u h := fun _ _ => rfl
  refine Ok.into rfl tab_fn54 body54 rfl (m := 29) rfl ?_
  repeat' (first
    | simp -implicitDefEqProofs only [syms, symx, Nat.reduceAdd, Nat.reduceMul, Int.reduceLT, Int.reduceLE, Int.reduceAdd, Int.reduceSub, Int.reduceToNat, Int.reduceNeg, reduceIte, Nat.reduceGT, Nat.reduceLT, Nat.reduceLeDiff, code54_0, code54_1, ty54]
    | ((with_reducible first | apply forkD | apply forkB | apply forkN | apply forkNP | apply forkNot) <;> intro _)
    | ((with_reducible_and_instances apply unop_not); (· rfl)))
  refine ok_sortedR l.length l v _ (Nat.le_refl _) (hl.lay _ _) (by omega) hlt _ (fun h' w x ho => ?_)
  have hll := sortA_length l
  have hlg := sortA_light hlt
  replace ho := (ho.own (by omega)).sl
  ((skip); replace z := z.overW x (by (try simp only [lsz]); omega); rw [lay_nil h'])
  have hvw : ∀ (h : Heap) (K : Value → Heap → Prop), valE (some w) h K = K w h := fun _ _ => rfl
  generalize sortA l = s at *
  simp -implicitDefEqProofs only [syms, symx, Nat.reduceAdd, Nat.reduceMul, Int.reduceLT, Int.reduceLE, Int.reduceAdd, Int.reduceSub, Int.reduceToNat, Int.reduceNeg, reduceIte, Nat.reduceGT, Nat.reduceLT, Nat.reduceLeDiff, code54_0, code54_1, ty54, hvw]
  repeat' ((first
    | ((with_reducible first | apply forkD | apply forkB | apply forkN | apply forkNP | apply forkNot) <;> intro _)
    | ((with_reducible_and_instances apply unop_not); (· rfl))) <;> simp -implicitDefEqProofs only [syms, symx, Nat.reduceAdd, Nat.reduceMul, Int.reduceLT, Int.reduceLE, Int.reduceAdd, Int.reduceSub, Int.reduceToNat, Int.reduceNeg, reduceIte, Nat.reduceGT, Nat.reduceLT, Nat.reduceLeDiff, code54_0, code54_1, ty54, hvw])
  have hz0 := z.size
  obtain ⟨H0, hH0⟩ : ∃ H0, H0 = h' := ⟨_, rfl⟩
  rw [← hH0] at ho hz0
  obtain ⟨I1, hI1⟩ : ∃ I : Nat → Env → Heap → Prop, I = (fun n e h' => ∃ (i : Nat) (wo : Value) (A : Nat) (h1 : Heap), h' = h1.lay [] h1.low ∧ Ext h h1 ∧ (n = s.length - i ∧ i ≤ s.length ∧ Ow Rep.atom H0 h1 39 A wo ((s.take i).filter (fun x => !hasA m x)) ∧ Inc H0 h1) ∧ ∃ J : Nat → Value, e = (v :: u :: J 2 :: J 3 :: J 4 :: wo :: w :: .int .i64 i :: J 8 :: J 9 :: J 10 :: J 11 :: J 12 :: J 13 :: J 14 :: J 15 :: J 16 :: J 17 :: J 18 :: J 19 :: J 20 :: J 21 :: J 22 :: J 23 :: J 24 :: J 25 :: J 26 :: J 27 :: J 28 :: J 29 :: J 30 :: [])) := ⟨_, rfl⟩
  refine W_loopN I1 _ (by rw [hI1]; exact ⟨0, .slice none 0 0, H0.size, _, rfl, z, ⟨rfl, by omega, Ow.nil (Nat.le_refl _), by rw [hH0]; exact Inc.refl _⟩, junk (by kernel_rfl)⟩) ?_
  intro n e h' hin
  rw [hI1] at hin
  obtain ⟨i, wo, A, h1', rfl, z, hinv, J, rfl⟩ := hin
  obtain ⟨rfl, hi, ow, i1⟩ := hinv
  have hwi : IntKind.i64.wrap ((i : Int) + 1) = ((i + 1 : Nat) : Int) := by rw [wrap_i64 (by omega) (by omega)]; omega
  have hvo : ∀ (h : Heap) (K : Value → Heap → Prop), valE (some wo) h K = K wo h := fun _ _ => rfl
  have hln := fun (hh : Heap) => ho.lenA ds23 hh
  simp -implicitDefEqProofs only [syms, symx, Nat.reduceAdd, Nat.reduceMul, Int.reduceLT, Int.reduceLE, Int.reduceAdd, Int.reduceSub, Int.reduceToNat, Int.reduceNeg, reduceIte, Nat.reduceGT, Nat.reduceLT, Nat.reduceLeDiff, code54_0, code54_1, ty54, hvw, hln]
  refine forkD (fun hlt1 => ?_) (fun hlt1 => ?_)
  rotate_left
  · rw [List.take_of_length_le (by omega)] at ow
    repeat' (first
      | simp -implicitDefEqProofs only [syms, symx, Nat.reduceAdd, Nat.reduceMul, Int.reduceLT, Int.reduceLE, Int.reduceAdd, Int.reduceSub, Int.reduceToNat, Int.reduceNeg, reduceIte, Nat.reduceGT, Nat.reduceLT, Nat.reduceLeDiff, code54_0, code54_1, ty54, hvo]
      | ((with_reducible first | apply forkD | apply forkB | apply forkN | apply forkNP | apply forkNot) <;> intro _)
      | ((with_reducible_and_instances apply unop_not); (· rfl)))
    exact hk _ _ A (z.upW _ _ (by omega)) (ow_down (ow.mono (Inc.lay _ _ _)) hz0)
  have hr : s[(i : Int).toNat]? = some (s.getD i noAtomD) := getD_at (by omega)
  have hmem : s.getD i noAtomD ∈ s := List.mem_of_getElem? hr
  have htk : s.take (i + 1) = s.take i ++ [s.getD i noAtomD] := by rw [List.take_add_one, getD_at (l := s) (i := i) (by omega)]; rfl
  simp -implicitDefEqProofs only [syms, symx, Nat.reduceAdd, Nat.reduceMul, Int.reduceLT, Int.reduceLE, Int.reduceAdd, Int.reduceSub, Int.reduceToNat, Int.reduceNeg, reduceIte, Nat.reduceGT, Nat.reduceLT, Nat.reduceLeDiff, code54_0, code54_1, ty54, hvw, hvu]
  repeat' ((first
    | ((with_reducible first | apply forkD | apply forkB | apply forkN | apply forkNP | apply forkNot) <;> intro _)
    | with_reducible_and_instances refine ixa_at (ho.mono i1) ds23 sz39 (by omega) hr (fun p hp => ?_)
    | with_reducible_and_instances refine lda hp ag39 sz39 ?_
    | ((with_reducible_and_instances apply unop_not); (· rfl))) <;> simp -implicitDefEqProofs only [syms, symx, Nat.reduceAdd, Nat.reduceMul, Int.reduceLT, Int.reduceLE, Int.reduceAdd, Int.reduceSub, Int.reduceToNat, Int.reduceNeg, reduceIte, Nat.reduceGT, Nat.reduceLT, Nat.reduceLeDiff, code54_0, code54_1, ty54, hvw, hvu])
  refine ok_hasR m _ u _ ((hm.mono z.inc).lay _ _) (by omega) hlm (hlg _ hmem) _ (fun h' x => ?_)
  ((skip); replace z := z.overW x (by (try simp only [lsz]); omega); (try replace ow := ow.over x); (try replace i1 := i1.over x); rw [lay_nil h'])
  cases hb : hasA m (s.getD i noAtomD)
  · simp -implicitDefEqProofs only [syms, symx, Nat.reduceAdd, Nat.reduceMul, Int.reduceLT, Int.reduceLE, Int.reduceAdd, Int.reduceSub, Int.reduceToNat, Int.reduceNeg, reduceIte, Nat.reduceGT, Nat.reduceLT, Nat.reduceLeDiff, code54_0, code54_1, ty54, hvw, hvo]
    repeat' ((first
      | ((with_reducible first | apply forkD | apply forkB | apply forkN | apply forkNP | apply forkNot) <;> intro _)
      | with_reducible_and_instances refine ixa_at (ho.mono i1) ds23 sz39 (by omega) hr (fun p hp => ?_)
      | with_reducible_and_instances refine lda hp ag39 sz39 ?_
      | ((with_reducible_and_instances apply unop_not); (· rfl))) <;> simp -implicitDefEqProofs only [syms, symx, Nat.reduceAdd, Nat.reduceMul, Int.reduceLT, Int.reduceLE, Int.reduceAdd, Int.reduceSub, Int.reduceToNat, Int.reduceNeg, reduceIte, Nat.reduceGT, Nat.reduceLT, Nat.reduceLeDiff, code54_0, code54_1, ty54, hvw, hvo, fill_atom])
    simp -implicitDefEqProofs only [syms, symx, Nat.reduceAdd, Nat.reduceMul, Int.reduceLT, Int.reduceLE, Int.reduceAdd, Int.reduceSub, Int.reduceToNat, Int.reduceNeg, reduceIte, Nat.reduceGT, Nat.reduceLT, Nat.reduceLeDiff, code54_0, code54_1, ty54, w_append, sty23]
    have hfA := ow.fresh
    have hi1 := i1.size
    have hfl : ((s.take i).filter (fun x => !hasA m x)).length ≤ 900 := by
      have := List.length_filter_le (fun x => !hasA m x) (s.take i)
      rw [List.length_take] at this
      omega
    obtain ⟨hs1, hsr1⟩ := src_row (A := A) (B := h'.size + 0) (r := Rep.atom) (c := 1) (y := s.getD i noAtomD) (by decide) (show (h'.lay [Blk.row (s.getD i noAtomD).cells 39 false] h'.low).get (h'.size + 0) = some (.row (s.getD i noAtomD).cells 39 false) by rw [lay_get]; rfl) rfl
    refine ap_rule (r := Rep.atom) ds23 tab_info39 rfl (by decide) hi1 ow hs1 hsr1 (by omega) (by omega) (fun w5 h5 A5 o5 c5 hA5 => ?_)
    have i5 := amInc_chg (i1.trans (Inc.lay _ _ _)) c5 hfA
    replace z := (z.upW _ _ (by omega)).step c5 (by omega)
    rw [lay_nil h5]
    have hv5 : ∀ (h : Heap) (K : Value → Heap → Prop), valE (some w5) h K = K w5 h := fun _ _ => rfl
    repeat' (first
      | simp -implicitDefEqProofs only [syms, symx, Nat.reduceAdd, Nat.reduceMul, Int.reduceLT, Int.reduceLE, Int.reduceAdd, Int.reduceSub, Int.reduceToNat, Int.reduceNeg, reduceIte, Nat.reduceGT, Nat.reduceLT, Nat.reduceLeDiff, code54_0, code54_1, ty54, hv5]
      | ((with_reducible first | apply forkD | apply forkB | apply forkN | apply forkNP | apply forkNot) <;> intro _)
      | with_reducible_and_instances refine ixa_at (ho.mono i1) ds23 sz39 (by omega) hr (fun p hp => ?_)
      | with_reducible_and_instances refine lda hp ag39 sz39 ?_
      | ((with_reducible_and_instances apply unop_not); (· rfl)))
    rw [hwi]
    (rw [hI1]; with_reducible refine loopN_normal (m := _) ?_ ⟨i + 1, w5, A5, _, rfl, z, ⟨rfl, by omega, by rw [htk, List.filter_append, List.filter_cons, hb]; simpa using o5, i5⟩, junk (by kernel_rfl)⟩; omega)
  · repeat' (first
      | simp -implicitDefEqProofs only [syms, symx, Nat.reduceAdd, Nat.reduceMul, Int.reduceLT, Int.reduceLE, Int.reduceAdd, Int.reduceSub, Int.reduceToNat, Int.reduceNeg, reduceIte, Nat.reduceGT, Nat.reduceLT, Nat.reduceLeDiff, code54_0, code54_1, ty54, hvw, hvo]
      | ((with_reducible first | apply forkD | apply forkB | apply forkN | apply forkNP | apply forkNot) <;> intro _)
      | with_reducible_and_instances refine ixa_at (ho.mono i1) ds23 sz39 (by omega) hr (fun p hp => ?_)
      | with_reducible_and_instances refine lda hp ag39 sz39 ?_
      | ((with_reducible_and_instances apply unop_not); (· rfl)))
    rw [hwi]
    (rw [hI1]; with_reducible refine loopN_normal (m := _) ?_ ⟨i + 1, wo, A, _, rfl, z, ⟨rfl, by omega, by rw [htk, List.filter_append, List.filter_cons, hb]; simpa using ow, i1⟩, junk (by kernel_rfl)⟩; omega)
theorem ok_removeR (l : List AtomD) (a : AtomD) (v : Value) (h : Heap) (hl : Sl Rep.atom h v l) (hn : l.length ≤ 900) (hlt : ∀ x ∈ l, x.light = true) (ha : a.light = true) (K : Value → Heap → Prop)
    (hk : ∀ h' w, Ext h h' → Sl Rep.atom h' w (delA a (sortA l)) → K (.tuple #[w, .bool (hasA l a)]) h') : Ok Try.prog tab ov 53 [v, a.val] h K := by
  rw [lay_nil h]
  have z := Ext.refl h
  have hvv : ∀ (h : Heap) (K : Value → Heap → Prop), valE (some v) h K = K v h := fun _ _ => rfl
  refine Ok.into rfl tab_fn53 body53 rfl (m := 11) rfl ?_
  simp -implicitDefEqProofs only [syms, symx, Nat.reduceAdd, Nat.reduceMul, Int.reduceLT, Int.reduceLE, Int.reduceAdd, Int.reduceSub, Int.reduceToNat, Int.reduceNeg, reduceIte, Nat.reduceGT, Nat.reduceLT, Nat.reduceLeDiff, code53_0, ty53, cells_atom]
  refine W_fold (fun h' x hq => ?_)
  have q0 := hq 0 _ rfl
  clear hq
  (replace z := z.overW x (by (try simp only [lsz]); omega); (try replace ow := ow.over x); (try replace i1 := i1.over x); rw [lay_nil h'])
  with_reducible first | refine D53_3 (z.upW _ _ (by omega)) ?_
  repeat' (first
    | simp -implicitDefEqProofs only [syms, symx, Nat.reduceAdd, Nat.reduceMul, Int.reduceLT, Int.reduceLE, Int.reduceAdd, Int.reduceSub, Int.reduceToNat, Int.reduceNeg, reduceIte, Nat.reduceGT, Nat.reduceLT, Nat.reduceLeDiff, code53_0, ty53, hvv, q0.lay, cells_atom, ↓cut_atom, agg_atom, valE_atom, fill_atom]
    | ((with_reducible first | apply forkD | apply forkB | apply forkN | apply forkNP | apply forkNot) <;> intro _)
    | with_reducible_and_instances refine ixa_at (ho.mono i1) ds23 sz39 (by omega) hr (fun p hp => ?_)
    | with_reducible_and_instances refine lda hp ag39 sz39 ?_
    | ((with_reducible_and_instances apply unop_not); (· rfl))
    | ((with_reducible refine ⟨z.grw.lay _ _, ?_⟩); (intro _ h' zz x _); (try simp only [lay_lay, List.append_nil] at x); (try replace q0 := q0.over x); (replace z := zz); (clear zz); rw [lay_nil h']))
  have hz := z.size
  refine KOpsX_alloc (by omega) (by omega) ?_
  simp -implicitDefEqProofs only [syms, symx, Nat.reduceAdd, Nat.reduceMul, Int.reduceLT, Int.reduceLE, Int.reduceAdd, Int.reduceSub, Int.reduceToNat, Int.reduceNeg, reduceIte, Nat.reduceGT, Nat.reduceLT, Nat.reduceLeDiff, code53_0, ty53, hvv]
  refine ok_minusR l [a] v _ _ ((hl.mono z.inc).lay _ _) sl_laid1 hn (by simp) hlt (by simpa using ha) _ (fun h' w A x ho => ?_)
  rw [del_minus] at ho
  replace ho := ho.sl (by decide)
  ((first | ((with_reducible refine KOpsX_call ?_ ?_ ?_); (· exact (by (try simp only [lsz]); have := z.size; omega)); (· first | exact x | simpa only [lla] using x)) | skip); replace z := z.overW x (by (try simp only [lsz]); omega); (try replace q0 := q0.over x); rw [lay_nil h'])
  have hvw : ∀ (h : Heap) (K : Value → Heap → Prop), valE (some w) h K = K w h := fun _ _ => rfl
  repeat' (first
    | simp -implicitDefEqProofs only [syms, symx, Nat.reduceAdd, Nat.reduceMul, Int.reduceLT, Int.reduceLE, Int.reduceAdd, Int.reduceSub, Int.reduceToNat, Int.reduceNeg, reduceIte, Nat.reduceGT, Nat.reduceLT, Nat.reduceLeDiff, code53_0, ty53, hvw, hvv, q0.lay, cells_atom, ↓cut_atom, agg_atom, valE_atom]
    | ((with_reducible first | apply forkD | apply forkB | apply forkN | apply forkNP | apply forkNot) <;> intro _)
    | with_reducible_and_instances refine ixa_at (ho.mono i1) ds23 sz39 (by omega) hr (fun p hp => ?_)
    | with_reducible_and_instances refine lda hp ag39 sz39 ?_
    | ((with_reducible_and_instances apply unop_not); (· rfl))
    | ((with_reducible refine ⟨z.grw.lay _ _, ?_⟩); (intro _ h' zz x _); (try simp only [lay_lay, List.append_nil] at x); (try replace q0 := q0.over x); (try replace ho := ho.over x); (replace z := zz); (clear zz); rw [lay_nil h']))
  refine ok_hasR l a v _ ((hl.mono z.inc).lay _ _) (by omega) hlt ha _ (fun h' x => ?_)
  ((first | ((with_reducible refine KOpsX_call ?_ ?_ ?_); (· exact (by (try simp only [lsz]); have := z.size; omega)); (· first | exact x | simpa only [lla] using x)) | skip); replace z := z.overW x (by (try simp only [lsz]); omega); (try replace q0 := q0.over x); (try replace ho := ho.over x); rw [lay_nil h'])
  generalize hasA l a = b at hk ⊢
  cases b
  all_goals
    repeat' (first
      | simp -implicitDefEqProofs only [syms, symx, Nat.reduceAdd, Nat.reduceMul, Int.reduceLT, Int.reduceLE, Int.reduceAdd, Int.reduceSub, Int.reduceToNat, Int.reduceNeg, reduceIte, Nat.reduceGT, Nat.reduceLT, Nat.reduceLeDiff, code53_0, ty53, hvw]
      | ((with_reducible first | apply forkD | apply forkB | apply forkN | apply forkNP | apply forkNot) <;> intro _)
      | with_reducible_and_instances refine ixa_at (ho.mono i1) ds23 sz39 (by omega) hr (fun p hp => ?_)
      | with_reducible_and_instances refine lda hp ag39 sz39 ?_
      | ((with_reducible_and_instances apply unop_not); (· rfl))
      | ((with_reducible refine ⟨z.grw.lay _ _, ?_⟩); (intro _ h' zz x _); (try simp only [lay_lay, List.append_nil] at x); (try replace q0 := q0.over x); (try replace ho := ho.over x); (replace z := zz); (clear zz); rw [lay_nil h']))
    exact hk _ _ (z.upW _ _ (by omega)) (ho.lay _ _)
theorem ok_mergeR (ls : List (List AtomD)) (v : Value) (h : Heap) (hl : Sl Rep.atoms h v ls) (hn : ls.length ≤ 100) (hn2 : ls.flatten.length ≤ 900) (hlt : ∀ x ∈ ls.flatten, x.light = true) (K : Value → Heap → Prop)
    (hk : ∀ h' w, Ext h h' → OwnX h h' 39 w (sortA ls.flatten) → K w h') : Ok Try.prog tab ov 49 [v] h K := by
  rw [lay_nil h]
  have z := Ext.refl h
  have hvv : ∀ (h : Heap) (K : Value → Heap → Prop), valE (some v) h K = K v h := fun _ _ => rfl
  have hln := fun (hh : Heap) => hl.lenA ds81 hh
  refine Ok.into rfl tab_fn49 body49 rfl (m := 18) rfl ?_
  repeat' (first
    | simp -implicitDefEqProofs only [syms, symx, Nat.reduceAdd, Nat.reduceMul, Int.reduceLT, Int.reduceLE, Int.reduceAdd, Int.reduceSub, Int.reduceToNat, Int.reduceNeg, reduceIte, Nat.reduceGT, Nat.reduceLT, Nat.reduceLeDiff, code49_0, code49_1, ty49, hvv]
    | ((with_reducible first | apply forkD | apply forkB | apply forkN | apply forkNP | apply forkNot) <;> intro _)
    | with_reducible_and_instances refine ixa_at (ho.mono i1) ds23 sz39 (by omega) hr (fun p hp => ?_)
    | with_reducible_and_instances refine lda hp ag39 sz39 ?_
    | ((with_reducible_and_instances apply unop_not); (· rfl)))
  obtain ⟨I1, hI1⟩ : ∃ I : Nat → Env → Heap → Prop, I = (fun n e h' => ∃ (i : Nat) (w : Value) (A : Nat) (h1 : Heap), h' = h1.lay [] h1.low ∧ Ext h h1 ∧ (n = ls.length - i ∧ i ≤ ls.length ∧ Ow Rep.atom h h1 39 A w (ls.take i).flatten) ∧ ∃ J : Nat → Value, e = (v :: J 1 :: J 2 :: w :: .int .i64 i :: J 5 :: J 6 :: J 7 :: J 8 :: J 9 :: J 10 :: J 11 :: J 12 :: J 13 :: J 14 :: J 15 :: J 16 :: J 17 :: J 18 :: [])) := ⟨_, rfl⟩
  refine W_loopN I1 _ (by rw [hI1]; exact ⟨0, .slice none 0 0, h.size, _, rfl, z, ⟨rfl, by omega, Ow.nil (Nat.le_refl _)⟩, junk (by kernel_rfl)⟩) ?_
  intro n e h' hin
  rw [hI1] at hin
  obtain ⟨i, w, A, h1', rfl, z, hinv, J, rfl⟩ := hin
  obtain ⟨rfl, hi, ho⟩ := hinv
  have hw : IntKind.i64.wrap ((i : Int) + 1) = ((i + 1 : Nat) : Int) := by rw [wrap_i64 (by omega) (by omega)]; omega
  have hz := z.size
  have hva : ∀ (h : Heap) (K : Value → Heap → Prop), valE (some w) h K = K w h := fun _ _ => rfl
  simp -implicitDefEqProofs only [syms, symx, Nat.reduceAdd, Nat.reduceMul, Int.reduceLT, Int.reduceLE, Int.reduceAdd, Int.reduceSub, Int.reduceToNat, Int.reduceNeg, reduceIte, Nat.reduceGT, Nat.reduceLT, Nat.reduceLeDiff, code49_0, code49_1, ty49, hva, hvv, hln]
  refine forkD (fun hlt1 => ?_) (fun hlt1 => ?_)
  rotate_left
  · rw [List.take_of_length_le (by omega)] at ho
    repeat' (first
      | simp -implicitDefEqProofs only [syms, symx, Nat.reduceAdd, Nat.reduceMul, Int.reduceLT, Int.reduceLE, Int.reduceAdd, Int.reduceSub, Int.reduceToNat, Int.reduceNeg, reduceIte, Nat.reduceGT, Nat.reduceLT, Nat.reduceLeDiff, code49_0, code49_1, ty49, hva]
      | ((with_reducible first | apply forkD | apply forkB | apply forkN | apply forkNP | apply forkNot) <;> intro _)
      | with_reducible_and_instances refine ixa_at (ho.mono i1) ds23 sz39 (by omega) hr (fun p hp => ?_)
      | with_reducible_and_instances refine lda hp ag39 sz39 ?_
      | ((with_reducible_and_instances apply unop_not); (· rfl)))
    refine ok_sortedR ls.flatten.length ls.flatten w _ (Nat.le_refl _) ((ho.sl (by decide)).lay _ _) (by omega) hlt _ (fun h' w x ho => ?_)
    replace ho := ownX_down (h0 := h) ho (by rw [lay_size]; omega)
    ((skip); replace z := z.overW x (by (try simp only [lsz]); omega); rw [lay_nil h'])
    have hva : ∀ (h : Heap) (K : Value → Heap → Prop), valE (some w) h K = K w h := fun _ _ => rfl
    repeat' (first
      | simp -implicitDefEqProofs only [syms, symx, Nat.reduceAdd, Nat.reduceMul, Int.reduceLT, Int.reduceLE, Int.reduceAdd, Int.reduceSub, Int.reduceToNat, Int.reduceNeg, reduceIte, Nat.reduceGT, Nat.reduceLT, Nat.reduceLeDiff, code49_0, code49_1, ty49, hva]
      | ((with_reducible first | apply forkD | apply forkB | apply forkN | apply forkNP | apply forkNot) <;> intro _)
      | with_reducible_and_instances refine ixa_at (ho.mono i1) ds23 sz39 (by omega) hr (fun p hp => ?_)
      | with_reducible_and_instances refine lda hp ag39 sz39 ?_
      | ((with_reducible_and_instances apply unop_not); (· rfl)))
    exact hk _ _ (z.upW _ _ (by omega)) (ownX_mono ho (Inc.lay _ _ _))
  obtain ⟨r, hr, hr'⟩ := amElem (l := ls) (i := i) (by omega)
  simp -implicitDefEqProofs only [syms, symx, Nat.reduceAdd, Nat.reduceMul, Int.reduceLT, Int.reduceLE, Int.reduceAdd, Int.reduceSub, Int.reduceToNat, Int.reduceNeg, reduceIte, Nat.reduceGT, Nat.reduceLT, Nat.reduceLeDiff, code49_0, code49_1, ty49, hva, hvv]
  repeat' ((first
    | ((with_reducible first | apply forkD | apply forkB | apply forkN | apply forkNP | apply forkNot) <;> intro _)
    | with_reducible_and_instances refine ixl_at (hl.mono z.inc) ds81 sz23 (by omega) hr (fun p b hsb hp => ?_)
    | with_reducible_and_instances refine ld_one hp ag23 ?_
    | ((with_reducible_and_instances apply unop_not); (· rfl))) <;> simp -implicitDefEqProofs only [syms, symx, Nat.reduceAdd, Nat.reduceMul, Int.reduceLT, Int.reduceLE, Int.reduceAdd, Int.reduceSub, Int.reduceToNat, Int.reduceNeg, reduceIte, Nat.reduceGT, Nat.reduceLT, Nat.reduceLeDiff, code49_0, code49_1, ty49, hva, hvv])
  have hvb : ∀ (h : Heap) (K : Value → Heap → Prop), valE (some b) h K = K b h := fun _ _ => rfl
  simp -implicitDefEqProofs only [syms, symx, Nat.reduceAdd, Nat.reduceMul, Int.reduceLT, Int.reduceLE, Int.reduceAdd, Int.reduceSub, Int.reduceToNat, Int.reduceNeg, reduceIte, Nat.reduceGT, Nat.reduceLT, Nat.reduceLeDiff, code49_0, code49_1, ty49, hva, hvb, w_append, sty23]
  have hfl : (ls.take (i + 1)).flatten = (ls.take i).flatten ++ r := by rw [List.take_add_one, hr', List.flatten_append]; simp
  have hle : (ls.take i).flatten.length + r.length ≤ 900 := by
    have h1 : ls.flatten.length = (ls.take (i + 1)).flatten.length + (ls.drop (i + 1)).flatten.length := by rw [← List.length_append, ← List.flatten_append, List.take_append_drop]
    rw [hfl, List.length_append] at h1
    omega
  obtain ⟨news, hs, hsr⟩ := src_sl (A := A) (r := Rep.atom) (by decide) (hsb.lay [] h1'.low) (fun cs y hr => hr)
  have hfr := ho.fresh
  refine ap_rule (r := Rep.atom) ds23 tab_info39 rfl (by decide) hz ho hs hsr (by omega) (by omega) (fun w' h2 A' o2 c2 hA2 => ?_)
  replace z := (z.upW _ _ (by omega)).step c2 (by omega)
  rw [← hfl] at o2
  rw [lay_nil h2]
  have hva2 : ∀ (h : Heap) (K : Value → Heap → Prop), valE (some w') h K = K w' h := fun _ _ => rfl
  repeat' (first
    | simp -implicitDefEqProofs only [syms, symx, Nat.reduceAdd, Nat.reduceMul, Int.reduceLT, Int.reduceLE, Int.reduceAdd, Int.reduceSub, Int.reduceToNat, Int.reduceNeg, reduceIte, Nat.reduceGT, Nat.reduceLT, Nat.reduceLeDiff, code49_0, code49_1, ty49, hva2]
    | ((with_reducible first | apply forkD | apply forkB | apply forkN | apply forkNP | apply forkNot) <;> intro _)
    | with_reducible_and_instances refine ixl_at (hl.mono z.inc) ds81 sz23 (by omega) hr (fun p b hsb hp => ?_)
    | with_reducible_and_instances refine ld_one hp ag23 ?_
    | ((with_reducible_and_instances apply unop_not); (· rfl)))
  rw [hw]
  (rw [hI1]; with_reducible refine loopN_normal (m := _) ?_ ⟨i + 1, w', A', _, rfl, z, ⟨rfl, by omega, o2⟩, junk (by kernel_rfl)⟩; omega)
end Go.Proofs.Ytompindebndddaa

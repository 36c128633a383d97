/- Walks: a policy's principals, predicates, clears. Written out by fill2.py. No condition. -/
import Derived.Test.YtompindebndddaaG28
import Derived.Test.YtompindebndddaaG31
import Derived.Test.YtompindebndddaaG15
namespace Go.Proofs.Ytompindebndddaa
open Go.Am
set_option linter.unusedSimpArgs false
set_option linter.unusedVariables false
set_option maxRecDepth 100000
set_option maxHeartbeats 0
theorem sl_slice {α : Type} {r : Rep α} {h : Heap} {v : Value} {l : List α} (f : Sl r h v l) : ∃ a n c, v = .slice a n c := by
  rcases f with ⟨rfl, _⟩ | ⟨A, o, c, row, u, ro, rfl, _⟩ <;> exact ⟨_, _, _, rfl⟩
theorem bld_pol0 (a : Option Addr) (n c : Nat) : buildA tab 66 [(0, .slice a n c)] = some (polVal (.slice a n c) (.slice none 0 0) (.slice none 0 0) (.slice none 0 0) (.slice none 0 0) 0 0) := by kernel_rfl
theorem bld_pol1 (a : Option Addr) (n c : Nat) : buildA tab 66 [(1, .slice a n c)] = some (polVal (.slice none 0 0) (.slice a n c) (.slice none 0 0) (.slice none 0 0) (.slice none 0 0) 0 0) := by kernel_rfl
theorem sub_str {h : Heap} {v : Value} {l : List ByteArray} (f : Sl Rep.str h v l) (i : Nat) (hi : i ≤ l.length) : ∃ a n c, sliceA tab 60 v none (some (.int .i64 i)) none = some (.slice a n c) ∧ Sl Rep.str h (.slice a n c) (l.take i) := by
  obtain ⟨u1, g1, g2⟩ := f.sub (a := 0) (b := i) (by decide) ds60 sz9 (.inl ⟨rfl, rfl⟩) (.inr ⟨.i64, rfl⟩) (by omega) hi
  obtain ⟨a, n, c, rfl⟩ := sl_slice g2
  exact ⟨a, n, c, g1, by simpa using g2⟩
theorem sub_pred {h : Heap} {v : Value} {l : List PredD} (f : Sl Rep.pred h v l) (i : Nat) (hi : i ≤ l.length) : ∃ a n c, sliceA tab 61 v none (some (.int .i64 i)) none = some (.slice a n c) ∧ Sl Rep.pred h (.slice a n c) (l.take i) := by
  obtain ⟨u1, g1, g2⟩ := f.sub (a := 0) (b := i) (by decide) ds61 sz123 (.inl ⟨rfl, rfl⟩) (.inr ⟨.i64, rfl⟩) (by omega) hi
  obtain ⟨a, n, c, rfl⟩ := sl_slice g2
  exact ⟨a, n, c, g1, by simpa using g2⟩
theorem ok_arityW (l : List PredD) (who : ByteArray) (p0 p1 p2 p5 p6 : Value) (q b : Int) (h : Heap) (hl : Sl Rep.pred h p1 l) (K : Value → Heap → Prop) (hk : ∀ n b h', Ext h h' → K (.tuple #[.int .i64 n, .bool b]) h') : Ok Try.prog tab ov 147 [polVal p0 p1 p2 p5 p6 q b, .string who] h K := by
  rw [lay_nil h]
  have z := Ext.refl h
  have hle := hl.le
  have hva := vSelf p1
  have hlv := fun (hh : Heap) => hl.lenA ds61 hh
  refine Ok.into rfl tab_fn147 (bodyF N147) rfl (m := 26) rfl ?_
  repeat' (first | simp -implicitDefEqProofs only [syms, symx, seval, c147, cells_pol, pol1, hva, hlv] | ((with_reducible first | apply forkD | apply forkB | apply forkN | apply forkNP | apply forkNot) <;> intro _))
  refine W_fold (fun h' x hq => ?_)
  have q0 := hq 0 _ rfl
  clear hq
  (replace z := z.overW x (by (try simp only [lsz]); omega); rw [lay_nil h'])
  obtain ⟨A0, hA0⟩ : ∃ A0, A0 = h.size + 0 := ⟨_, rfl⟩
  rw [← hA0] at q0
  rw [← hA0]
  obtain ⟨I1, hI1⟩ : ∃ I : Nat → Env → Heap → Prop, I = (fun n e h' => ∃ (i : Nat) (h1 : Heap), h' = h1.lay [] h1.low ∧ Ext h h1 ∧ (n = l.length - i ∧ i ≤ l.length ∧ Holds h1 A0 (.row (polCells p0 p1 p2 p5 p6 q b) 66 false)) ∧ ∃ J : Nat → Value, e = (J 0 :: .string who :: .pointer (some ⟨A0, 0, none⟩) :: jr J 3 3 (.int .i64 i :: jr J 7 21 ([])))) := ⟨_, rfl⟩
  refine W_loopN I1 _ (by rw [hI1]; exact ⟨0, _, rfl, z, ⟨rfl, by omega, q0⟩, junk (by kernel_rfl)⟩) ?_
  intro n e h' hin
  rw [hI1] at hin
  obtain ⟨i, h1', rfl, z, hinv, J, rfl⟩ := hin
  clear q0
  obtain ⟨rfl, hi, q0⟩ := hinv
  have hw : i < l.length → IntKind.i64.wrap ((i : Int) + 1) = ((i + 1 : Nat) : Int) := fun hh => by unfold maxLen at hle; rw [wrap_i64 (by omega) (by omega)]; omega
  simp -implicitDefEqProofs only [syms, symx, seval, c147, q0.lay, pol1, hva, hlv]
  refine forkD (fun hlt => ?_) (fun hlt => ?_)
  rotate_left
  · repeat' (first | simp -implicitDefEqProofs only [syms, symx, seval, c147] | ((with_reducible first | apply forkD | apply forkB | apply forkN | apply forkNP | apply forkNot) <;> intro _))
    exact hk _ _ _ (z.upW _ _ (by omega))
  obtain ⟨r, hr, hr'⟩ := amElem (l := l) (i := i) (by omega)
  repeat' (first | simp -implicitDefEqProofs only [syms, symx, seval, c147, q0.lay, pol1, hva] | ((with_reducible first | apply forkD | apply forkB | apply forkN | apply forkNP | apply forkNot) <;> intro _) | with_reducible_and_instances refine ixP_at (hl.mono z.inc) ds61 sz123 (by omega) hr (fun p hp => ?_) | with_reducible_and_instances refine fdP0 hp fa123_0 (fun q hq => ?_) | with_reducible_and_instances refine fdP1 hp fa123_1 (fun q hq => ?_) | with_reducible_and_instances refine ld_one hq ag9 ?_ | with_reducible_and_instances refine ld_one hq ag3 ?_)
  · exact hk _ _ _ (z.upW _ _ (by omega))
  · rw [hw (by omega)]
    (rw [hI1]; with_reducible refine loopN_normal (m := _) ?_ ⟨i + 1, _, rfl, z, ⟨rfl, by omega, q0⟩, junk (by kernel_rfl)⟩; omega)
theorem nodup_next {l : List ByteArray} {i : Nat} {r : ByteArray} (hr : l[i]? = some r) (h : (l.take i).Nodup) (hn : hasS (l.take i) r = false) : (l.take (i + 1)).Nodup := by
  rw [List.take_add_one, hr, Option.toList_some]
  refine List.nodup_append.2 ⟨h, by simp, fun a ha b hb e => ?_⟩
  rw [List.mem_singleton.1 hb] at e
  subst e
  rw [hasS_iff.2 ha] at hn
  cases hn
theorem ok_principals (l : List ByteArray) (p0 p1 p2 p5 p6 : Value) (q b : Int) (h : Heap) (hl : Sl Rep.str h p0 l) (K : Value → Heap → Prop) (h1k : l.length ≤ 16 → l.Nodup → ∀ h', Ext h h' → K (.int .i64 0) h') (h2k : ∀ c h', c ≠ 0 → Ext h h' → K (.int .i64 c) h') : Ok Try.prog tab ov 100 [polVal p0 p1 p2 p5 p6 q b] h K := by
  rw [lay_nil h]
  have z := Ext.refl h
  have hva := vSelf p0
  have hlv := fun (hh : Heap) => hl.lenA ds60 hh
  refine Ok.into rfl tab_fn100 (bodyF N100) rfl (m := 38) rfl ?_
  repeat' (first | simp -implicitDefEqProofs only [syms, symx, seval, c100, cells_pol, pol0, hva, hlv] | ((with_reducible first | apply forkD | apply forkB | apply forkN | apply forkNP | apply forkNot) <;> intro _) | with_reducible_and_instances refine ixP_at (hl.mono z.inc) ds61 sz123 (by omega) hr (fun p hp => ?_) | with_reducible_and_instances refine fdP0 hp fa123_0 (fun q hq => ?_) | with_reducible_and_instances refine fdP1 hp fa123_1 (fun q hq => ?_) | with_reducible_and_instances refine ld_one hq ag9 ?_ | with_reducible_and_instances refine ld_one hq ag3 ?_ | ((with_reducible_and_instances apply unop_not); (· rfl)) | ((with_reducible refine ⟨z.grw.lay _ _, ?_⟩); (intro _ h' zz x _); (try simp only [lay_lay, List.append_nil] at x); (try replace q0 := q0.over x); (replace z := zz); (clear zz); rw [lay_nil h']))
  · exact h2k _ _ (by decide) (z.upW _ _ (by omega))
  · exact h2k _ _ (by decide) (z.upW _ _ (by omega))
  refine W_fold (fun h' x hq => ?_)
  have q0 := hq 0 _ rfl
  clear hq
  (replace z := z.overW x (by (try simp only [lsz]); omega); rw [lay_nil h'])
  obtain ⟨A0, hA0⟩ : ∃ A0, A0 = h.size + 0 := ⟨_, rfl⟩
  rw [← hA0] at q0
  rw [← hA0]
  obtain ⟨I1, hI1⟩ : ∃ I : Nat → Env → Heap → Prop, I = (fun n e h' => ∃ (i : Nat) (h1 : Heap), h' = h1.lay [] h1.low ∧ Ext h h1 ∧ (n = l.length - i ∧ i ≤ l.length ∧ (l.take i).Nodup ∧ Holds h1 A0 (.row (polCells p0 p1 p2 p5 p6 q b) 66 false)) ∧ ∃ J : Nat → Value, e = (J 0 :: .pointer (some ⟨A0, 0, none⟩) :: J 2 :: .int .i64 i :: jr J 4 35 ([]))) := ⟨_, rfl⟩
  refine W_loopN I1 _ (by rw [hI1]; exact ⟨0, _, rfl, z, ⟨rfl, by omega, by simp, q0⟩, junk (by kernel_rfl)⟩) ?_
  intro n e h' hin
  rw [hI1] at hin
  obtain ⟨i, h1', rfl, z, hinv, J, rfl⟩ := hin
  clear q0
  obtain ⟨rfl, hi, hnd, q0⟩ := hinv
  have hw : IntKind.i64.wrap ((i : Int) + 1) = ((i + 1 : Nat) : Int) := by rw [wrap_i64 (by omega) (by omega)]; omega
  simp -implicitDefEqProofs only [syms, symx, seval, c100, q0.lay, pol0, hva, hlv]
  refine forkD (fun hlt => ?_) (fun hlt => ?_)
  rotate_left
  · rw [List.take_of_length_le (by omega)] at hnd
    repeat' (first | simp -implicitDefEqProofs only [syms, symx, seval, c100] | ((with_reducible first | apply forkD | apply forkB | apply forkN | apply forkNP | apply forkNot) <;> intro _) | with_reducible_and_instances refine ixP_at (hl.mono z.inc) ds61 sz123 (by omega) hr (fun p hp => ?_) | with_reducible_and_instances refine fdP0 hp fa123_0 (fun q hq => ?_) | with_reducible_and_instances refine fdP1 hp fa123_1 (fun q hq => ?_) | with_reducible_and_instances refine ld_one hq ag9 ?_ | with_reducible_and_instances refine ld_one hq ag3 ?_ | ((with_reducible_and_instances apply unop_not); (· rfl)) | ((with_reducible refine ⟨z.grw.lay _ _, ?_⟩); (intro _ h' zz x _); (try simp only [lay_lay, List.append_nil] at x); (try replace q0 := q0.over x); (replace z := zz); (clear zz); rw [lay_nil h']))
    exact h1k (by omega) hnd _ (z.upW _ _ (by omega))
  obtain ⟨r, hr, hr'⟩ := amElem (l := l) (i := i) (by omega)
  obtain ⟨a, m, c, g1, g2⟩ := sub_str hl i hi
  have hvs : ∀ (h : Heap) (K : Value → Heap → Prop), valE (some (.slice a m c)) h K = K (.slice a m c) h := fun _ _ => rfl
  repeat' (first | simp -implicitDefEqProofs only [syms, symx, seval, c100, q0.lay, pol0, hva] | ((with_reducible first | apply forkD | apply forkB | apply forkN | apply forkNP | apply forkNot) <;> intro _) | with_reducible_and_instances refine ixs_at (hl.mono z.inc) ds60 sz9 (by omega) hr (fun p hp => ?_) | with_reducible_and_instances refine ld_one hp ag9 ?_ | ((with_reducible_and_instances apply unop_not); (· rfl)) | ((with_reducible refine ⟨z.grw.lay _ _, ?_⟩); (intro _ h' zz x _); (try simp only [lay_lay, List.append_nil] at x); (try replace q0 := q0.over x); (replace z := zz); (clear zz); rw [lay_nil h']))
  refine ok_principal _ _ _ (fun hs h' x => ?_) (fun h' x => ?_)
  rotate_left
  · ((first | ((with_reducible refine KOpsX_call ?_ ?_ ?_); (· exact (by (try simp only [lsz]); have := z.size; omega)); (· first | exact x | simpa only [lla] using x)) | skip); replace z := z.overW x (by (try simp only [lsz]); omega); (try replace q0 := q0.over x); rw [lay_nil h'])
    repeat' (first | simp -implicitDefEqProofs only [syms, symx, seval, c100, Bool.not_false] | ((with_reducible first | apply forkD | apply forkB | apply forkN | apply forkNP | apply forkNot) <;> intro _) | with_reducible_and_instances refine ixs_at (hl.mono z.inc) ds60 sz9 (by omega) hr (fun p hp => ?_) | with_reducible_and_instances refine ld_one hp ag9 ?_ | ((with_reducible_and_instances apply unop_not); (· rfl)) | ((with_reducible refine ⟨z.grw.lay _ _, ?_⟩); (intro _ h' zz x _); (try simp only [lay_lay, List.append_nil] at x); (try replace q0 := q0.over x); (replace z := zz); (clear zz); rw [lay_nil h']))
    exact h2k _ _ (by decide) (z.upW _ _ (by omega))
  ((first | ((with_reducible refine KOpsX_call ?_ ?_ ?_); (· exact (by (try simp only [lsz]); have := z.size; omega)); (· first | exact x | simpa only [lla] using x)) | skip); replace z := z.overW x (by (try simp only [lsz]); omega); (try replace q0 := q0.over x); rw [lay_nil h'])
  repeat' (first | simp -implicitDefEqProofs only [syms, symx, seval, c100, Bool.not_true, q0.lay, pol0, hva, g1, hvs, bld_pol0, valE_pol] | with_reducible refine drawN (by simp only [c100]) (z.upW _ _ (by omega)) ?_ | ((with_reducible first | apply forkD | apply forkB | apply forkN | apply forkNP | apply forkNot) <;> intro _) | with_reducible_and_instances refine ixs_at (hl.mono z.inc) ds60 sz9 (by omega) hr (fun p hp => ?_) | with_reducible_and_instances refine ld_one hp ag9 ?_ | ((with_reducible_and_instances apply unop_not); (· rfl)) | ((with_reducible refine ⟨z.grw.lay _ _, ?_⟩); (intro _ h' zz x _); (try simp only [lay_lay, List.append_nil] at x); (try replace q0 := q0.over x); (replace z := zz); (clear zz); rw [lay_nil h']))
  refine ok_prin (l.take i) r _ _ _ _ _ _ _ _ ((g2.mono z.inc).lay _ _) _ (fun h' x => ?_)
  ((first | ((with_reducible refine KOpsX_call ?_ ?_ ?_); (· exact (by (try simp only [lsz]); have := z.size; omega)); (· first | exact x | simpa only [lla] using x)) | skip); replace z := z.overW x (by (try simp only [lsz]); omega); (try replace q0 := q0.over x); rw [lay_nil h'])
  cases hh : hasS (l.take i) r
  · repeat' (first | simp -implicitDefEqProofs only [syms, symx, seval, c100] | with_reducible refine drawN (by simp only [c100]) (z.upW _ _ (by omega)) ?_ | ((with_reducible first | apply forkD | apply forkB | apply forkN | apply forkNP | apply forkNot) <;> intro _) | with_reducible_and_instances refine ixs_at (hl.mono z.inc) ds60 sz9 (by omega) hr (fun p hp => ?_) | with_reducible_and_instances refine ld_one hp ag9 ?_ | ((with_reducible_and_instances apply unop_not); (· rfl)) | ((with_reducible refine ⟨z.grw.lay _ _, ?_⟩); (intro _ h' zz x _); (try simp only [lay_lay, List.append_nil] at x); (try replace q0 := q0.over x); (replace z := zz); (clear zz); rw [lay_nil h']))
    rw [hw]
    (rw [hI1]; with_reducible refine loopN_normal (m := _) ?_ ⟨i + 1, _, rfl, z, ⟨rfl, by omega, nodup_next hr' hnd hh, q0⟩, junk (by kernel_rfl)⟩; omega)
  · repeat' (first | simp -implicitDefEqProofs only [syms, symx, seval, c100] | with_reducible refine drawN (by simp only [c100]) (z.upW _ _ (by omega)) ?_ | ((with_reducible first | apply forkD | apply forkB | apply forkN | apply forkNP | apply forkNot) <;> intro _) | with_reducible_and_instances refine ixs_at (hl.mono z.inc) ds60 sz9 (by omega) hr (fun p hp => ?_) | with_reducible_and_instances refine ld_one hp ag9 ?_ | ((with_reducible_and_instances apply unop_not); (· rfl)) | ((with_reducible refine ⟨z.grw.lay _ _, ?_⟩); (intro _ h' zz x _); (try simp only [lay_lay, List.append_nil] at x); (try replace q0 := q0.over x); (replace z := zz); (clear zz); rw [lay_nil h']))
    exact h2k _ _ (by decide) (z.upW _ _ (by omega))
theorem st123 (h : Heap) (l : List Blk) (w i o : Nat) (v : Value) (hi : i < l.length) : storeA tab 123 (.pointer (some ⟨h.size + i, o, none⟩)) v (h.lay l w) = if v.cells.size = 2 then storeO l[i]? i o v.cells.toList h l w else none := st_lay sz123 h l w i o v hi
theorem ok_predsW (l : List PredD) (p0 p1 p2 p5 p6 : Value) (q b : Int) (h : Heap) (hl : Sl Rep.pred h p1 l) (K : Value → Heap → Prop) (hk : ∀ c h', Ext h h' → K (.int .i64 c) h') : Ok Try.prog tab ov 101 [polVal p0 p1 p2 p5 p6 q b] h K := by
  rw [lay_nil h]
  have z := Ext.refl h
  have hva := vSelf p1
  have hlv := fun (hh : Heap) => hl.lenA ds61 hh
  refine Ok.into rfl tab_fn101 (bodyF N101) rfl (m := 46) rfl ?_
  repeat' (first | simp -implicitDefEqProofs only [syms, symx, seval, c101, cells_pol, pol1, hva, hlv] | ((with_reducible first | apply forkD | apply forkB | apply forkN | apply forkNP | apply forkNot) <;> intro _) | with_reducible_and_instances refine ixs_at (hl.mono z.inc) ds60 sz9 (by omega) hr (fun p hp => ?_) | with_reducible_and_instances refine ld_one hp ag9 ?_ | ((with_reducible_and_instances apply unop_not); (· rfl)) | ((with_reducible refine ⟨z.grw.lay _ _, ?_⟩); (intro _ h' zz x _); (try simp only [lay_lay, List.append_nil] at x); (try replace q0 := q0.over x); (replace z := zz); (clear zz); rw [lay_nil h']))
  · exact hk _ _ (z.upW _ _ (by omega))
  refine W_fold (fun h' x hq => ?_)
  have q0 := hq 0 _ rfl
  clear hq
  (replace z := z.overW x (by (try simp only [lsz]); omega); rw [lay_nil h'])
  obtain ⟨A0, hA0⟩ : ∃ A0, A0 = h.size + 0 := ⟨_, rfl⟩
  rw [← hA0] at q0
  rw [← hA0]
  obtain ⟨I1, hI1⟩ : ∃ I : Nat → Env → Heap → Prop, I = (fun n e h' => ∃ (i : Nat) (h1 : Heap), h' = h1.lay [] h1.low ∧ Ext h h1 ∧ (n = l.length - i ∧ i ≤ l.length ∧ Holds h1 A0 (.row (polCells p0 p1 p2 p5 p6 q b) 66 false)) ∧ ∃ J : Nat → Value, e = (J 0 :: .pointer (some ⟨A0, 0, none⟩) :: J 2 :: .int .i64 i :: jr J 4 43 ([]))) := ⟨_, rfl⟩
  refine W_loopN I1 _ (by rw [hI1]; exact ⟨0, _, rfl, z, ⟨rfl, by omega, q0⟩, junk (by kernel_rfl)⟩) ?_
  intro n e h' hin
  rw [hI1] at hin
  obtain ⟨i, h1', rfl, z, hinv, J, rfl⟩ := hin
  clear q0
  obtain ⟨rfl, hi, q0⟩ := hinv
  have hw : IntKind.i64.wrap ((i : Int) + 1) = ((i + 1 : Nat) : Int) := by rw [wrap_i64 (by omega) (by omega)]; omega
  simp -implicitDefEqProofs only [syms, symx, seval, c101, q0.lay, pol1, hva, hlv]
  refine forkD (fun hlt => ?_) (fun hlt => ?_)
  rotate_left
  · repeat' (first | simp -implicitDefEqProofs only [syms, symx, seval, c101] | ((with_reducible first | apply forkD | apply forkB | apply forkN | apply forkNP | apply forkNot) <;> intro _) | with_reducible_and_instances refine ixs_at (hl.mono z.inc) ds60 sz9 (by omega) hr (fun p hp => ?_) | with_reducible_and_instances refine ld_one hp ag9 ?_ | ((with_reducible_and_instances apply unop_not); (· rfl)) | ((with_reducible refine ⟨z.grw.lay _ _, ?_⟩); (intro _ h' zz x _); (try simp only [lay_lay, List.append_nil] at x); (try replace q0 := q0.over x); (replace z := zz); (clear zz); rw [lay_nil h']))
    exact hk _ _ (z.upW _ _ (by omega))
  obtain ⟨r, hr, hr'⟩ := amElem (l := l) (i := i) (by omega)
  obtain ⟨a, m, c, g1, g2⟩ := sub_pred hl i hi
  have hvs : ∀ (h : Heap) (K : Value → Heap → Prop), valE (some (.slice a m c)) h K = K (.slice a m c) h := fun _ _ => rfl
  repeat' (first | simp -implicitDefEqProofs only [syms, symx, seval, c101, q0.lay, pol1, hva] | ((with_reducible first | apply forkD | apply forkB | apply forkN | apply forkNP | apply forkNot) <;> intro _) | with_reducible_and_instances refine ixP_at (hl.mono z.inc) ds61 sz123 (by omega) hr (fun p hp => ?_) | with_reducible_and_instances refine ldP hp ag123 sz123 ?_ | ((with_reducible_and_instances apply unop_not); (· rfl)) | ((with_reducible refine ⟨z.grw.lay _ _, ?_⟩); (intro _ h' zz x _); (try simp only [lay_lay, List.append_nil] at x); (try replace q0 := q0.over x); (replace z := zz); (clear zz); rw [lay_nil h']))
  repeat' (first | simp -implicitDefEqProofs only [syms, symx, seval, c101, lay_set, storeO_row, List.all_cons, List.all_nil, Am.one, Bool.and_true, Bool.true_and, Bool.and_self, List.set_cons_zero, List.set_cons_succ, st4, st3, st9, st36, st39, st47, st41, st192, st123] | ((with_reducible first | apply forkD | apply forkB | apply forkN | apply forkNP | apply forkNot) <;> intro _) | with_reducible_and_instances refine ixP_at (hl.mono z.inc) ds61 sz123 (by omega) hr (fun p hp => ?_) | with_reducible_and_instances refine ldP hp ag123 sz123 ?_ | ((with_reducible_and_instances apply unop_not); (· rfl)) | ((with_reducible refine ⟨z.grw.lay _ _, ?_⟩); (intro _ h' zz x _); (try simp only [lay_lay, List.append_nil] at x); (try replace q0 := q0.over x); (replace z := zz); (clear zz); rw [lay_nil h']))
  refine ok_predicate _ _ _ (fun hs h' x => ?_) (fun h' x => ?_)
  rotate_left
  · ((first | ((with_reducible refine KOpsX_call ?_ ?_ ?_); (· exact (by (try simp only [lsz]); have := z.size; omega)); (· first | exact x | simpa only [lla] using x)) | skip); replace z := z.overW x (by (try simp only [lsz]); omega); (try replace q0 := q0.over x); rw [lay_nil h'])
    repeat' (first | simp -implicitDefEqProofs only [syms, symx, seval, c101, Bool.not_false] | ((with_reducible first | apply forkD | apply forkB | apply forkN | apply forkNP | apply forkNot) <;> intro _) | with_reducible_and_instances refine ixP_at (hl.mono z.inc) ds61 sz123 (by omega) hr (fun p hp => ?_) | with_reducible_and_instances refine ldP hp ag123 sz123 ?_ | ((with_reducible_and_instances apply unop_not); (· rfl)) | ((with_reducible refine ⟨z.grw.lay _ _, ?_⟩); (intro _ h' zz x _); (try simp only [lay_lay, List.append_nil] at x); (try replace q0 := q0.over x); (replace z := zz); (clear zz); rw [lay_nil h']))
    exact hk _ _ (z.upW _ _ (by omega))
  have e0 := Holds.top (i := 0) x rfl
  ((first | ((with_reducible refine KOpsX_call ?_ ?_ ?_); (· exact (by (try simp only [lsz]); have := z.size; omega)); (· first | exact x | simpa only [lla] using x)) | skip); replace z := z.overW x (by (try simp only [lsz]); omega); (try replace q0 := q0.over x); (try replace e0 := e0.over x); rw [lay_nil h'])
  obtain ⟨E0, hE0⟩ : ∃ E0, E0 = h1'.size + 0 := ⟨_, rfl⟩
  rw [← hE0] at e0
  rw [← hE0]
  have hce0 : ([.string r.name, .int .i64 r.arity] : List Value)[0]? = some (.string r.name) := rfl
  have hce1 : ([.string r.name, .int .i64 r.arity] : List Value)[1]? = some (.int .i64 r.arity) := rfl
  repeat' (first | simp -implicitDefEqProofs only [syms, symx, seval, c101, Bool.not_true, q0.lay, e0.lay, pol1, hva, g1, hvs, bld_pol1, valE_pol, hce0] | with_reducible refine drawN (by simp only [c101]) (z.upW _ _ (by omega)) ?_ | ((with_reducible first | apply forkD | apply forkB | apply forkN | apply forkNP | apply forkNot) <;> intro _) | with_reducible_and_instances refine ixP_at (hl.mono z.inc) ds61 sz123 (by omega) hr (fun p hp => ?_) | with_reducible_and_instances refine ldP hp ag123 sz123 ?_ | ((with_reducible_and_instances apply unop_not); (· rfl)) | ((with_reducible refine ⟨z.grw.lay _ _, ?_⟩); (intro _ h' zz x _); (try simp only [lay_lay, List.append_nil] at x); (try replace q0 := q0.over x); (try replace e0 := e0.over x); (replace z := zz); (clear zz); rw [lay_nil h']))
  refine ok_arityW (l.take i) r.name _ _ _ _ _ _ _ _ ((g2.mono z.inc).lay _ _) _ (fun nn bb h' x => ?_)
  ((first | ((with_reducible refine KOpsX_call ?_ ?_ ?_); (· exact (by (try simp only [lsz]); have := z.size; omega)); (· first | exact x | simpa only [lla] using x)) | skip); replace z := z.overW x (by (try simp only [lsz]); omega); (try replace q0 := q0.over x); (try replace e0 := e0.over x); rw [lay_nil h'])
  cases bb
  · repeat' (first | simp -implicitDefEqProofs only [syms, symx, seval, c101, e0.lay, hce1] | with_reducible refine drawN (by simp only [c101]) (z.upW _ _ (by omega)) ?_ | ((with_reducible first | apply forkD | apply forkB | apply forkN | apply forkNP | apply forkNot) <;> intro _) | with_reducible_and_instances refine ixP_at (hl.mono z.inc) ds61 sz123 (by omega) hr (fun p hp => ?_) | with_reducible_and_instances refine ldP hp ag123 sz123 ?_ | ((with_reducible_and_instances apply unop_not); (· rfl)) | ((with_reducible refine ⟨z.grw.lay _ _, ?_⟩); (intro _ h' zz x _); (try simp only [lay_lay, List.append_nil] at x); (try replace q0 := q0.over x); (try replace e0 := e0.over x); (replace z := zz); (clear zz); rw [lay_nil h']))
    · exact hk _ _ (z.upW _ _ (by omega))
    · exact hk _ _ (z.upW _ _ (by omega))
    rw [hw]
    (rw [hI1]; with_reducible refine loopN_normal (m := _) ?_ ⟨i + 1, _, rfl, z, ⟨rfl, by omega, q0⟩, junk (by kernel_rfl)⟩; omega)
  · repeat' (first | simp -implicitDefEqProofs only [syms, symx, seval, c101] | with_reducible refine drawN (by simp only [c101]) (z.upW _ _ (by omega)) ?_ | ((with_reducible first | apply forkD | apply forkB | apply forkN | apply forkNP | apply forkNot) <;> intro _) | with_reducible_and_instances refine ixP_at (hl.mono z.inc) ds61 sz123 (by omega) hr (fun p hp => ?_) | with_reducible_and_instances refine ldP hp ag123 sz123 ?_ | ((with_reducible_and_instances apply unop_not); (· rfl)) | ((with_reducible refine ⟨z.grw.lay _ _, ?_⟩); (intro _ h' zz x _); (try simp only [lay_lay, List.append_nil] at x); (try replace q0 := q0.over x); (try replace e0 := e0.over x); (replace z := zz); (clear zz); rw [lay_nil h']))
    exact hk _ _ (z.upW _ _ (by omega))
structure ClrOk (ps : List ByteArray) (c : ClearD) : Prop where
  len : c.reads.length ≤ 16
  nd : c.reads.Nodup
  sub : ∀ r ∈ c.reads, r ∈ ps
  ne : ∀ r ∈ c.reads, r ≠ c.who
theorem ok_clear1 (ps : List ByteArray) (x0 : ClearD) (v : Value) (p0 p1 p2 p5 p6 : Value) (q b : Int) (h : Heap) (hone : (polCells p0 p1 p2 p5 p6 q b).all Am.one = true) (hl : Sl Rep.str h p0 ps) (hv : Sl Rep.str h v x0.reads) (K : Value → Heap → Prop) (h1k : ClrOk ps x0 → ∀ h', Ext h h' → K (.int .i64 0) h') (h2k : ∀ c h', c ≠ 0 → Ext h h' → K (.int .i64 c) h') : Ok Try.prog tab ov 148 [polVal p0 p1 p2 p5 p6 q b, .agg ⟨[.string x0.who, v]⟩] h K := by
  rw [lay_nil h]
  have z := Ext.refl h
  have hva := vSelf v
  have hlv := fun (hh : Heap) => hv.lenA ds60 hh
  have hce0 : ([.string x0.who, v] : List Value)[0]? = some (.string x0.who) := rfl
  have hce1 : ([.string x0.who, v] : List Value)[1]? = some v := rfl
  refine Ok.into rfl tab_fn148 (bodyF N148) rfl (m := 48) rfl ?_
  repeat' (first | simp -implicitDefEqProofs only [syms, symx, seval, c148, cells_pol, hce0, hce1, hva, hlv] | ((with_reducible first | apply forkD | apply forkB | apply forkN | apply forkNP | apply forkNot) <;> intro _) | with_reducible_and_instances refine ixP_at (hl.mono z.inc) ds61 sz123 (by omega) hr (fun p hp => ?_) | with_reducible_and_instances refine ldP hp ag123 sz123 ?_ | ((with_reducible_and_instances apply unop_not); (· rfl)) | ((with_reducible refine ⟨z.grw.lay _ _, ?_⟩); (intro _ h' zz x _); (try simp only [lay_lay, List.append_nil] at x); (try replace q0 := q0.over x); (try replace e0 := e0.over x); (replace z := zz); (clear zz); rw [lay_nil h']))
  · exact h2k _ _ (by decide) (z.upW _ _ (by omega))
  · exact h2k _ _ (by decide) (z.upW _ _ (by omega))
  refine W_fold (fun h' x hq => ?_)
  have q0 := hq 0 _ rfl
  have e0 := hq 1 _ rfl
  clear hq
  (replace z := z.overW x (by (try simp only [lsz]); omega); rw [lay_nil h'])
  obtain ⟨A0, hA0⟩ : ∃ A0, A0 = h.size + 0 := ⟨_, rfl⟩
  rw [← hA0] at q0
  rw [← hA0]
  obtain ⟨E0, hE0⟩ : ∃ E0, E0 = h.size + 1 := ⟨_, rfl⟩
  rw [← hE0] at e0
  rw [← hE0]
  obtain ⟨I1, hI1⟩ : ∃ I : Nat → Env → Heap → Prop, I = (fun n e h' => ∃ (i : Nat) (h1 : Heap), h' = h1.lay [] h1.low ∧ Ext h h1 ∧ (n = x0.reads.length - i ∧ i ≤ x0.reads.length ∧ (x0.reads.take i).Nodup ∧ (∀ r ∈ x0.reads.take i, r ∈ ps ∧ r ≠ x0.who) ∧ Holds h1 A0 (.row (polCells p0 p1 p2 p5 p6 q b) 66 false) ∧ Holds h1 E0 (.row [.string x0.who, v] 73 false)) ∧ ∃ J : Nat → Value, e = (jr J 0 2 (.pointer (some ⟨A0, 0, none⟩) :: .pointer (some ⟨E0, 0, none⟩) :: J 4 :: .int .i64 i :: jr J 6 44 ([])))) := ⟨_, rfl⟩
  refine W_loopN I1 _ (by rw [hI1]; exact ⟨0, _, rfl, z, ⟨rfl, by omega, by simp, by simp, q0, e0⟩, junk (by kernel_rfl)⟩) ?_
  intro n e h' hin
  rw [hI1] at hin
  obtain ⟨i, h1', rfl, z, hinv, J, rfl⟩ := hin
  clear q0 e0
  obtain ⟨rfl, hi, hnd, hall, q0, e0⟩ := hinv
  have hw : IntKind.i64.wrap ((i : Int) + 1) = ((i + 1 : Nat) : Int) := by rw [wrap_i64 (by omega) (by omega)]; omega
  simp -implicitDefEqProofs only [syms, symx, seval, c148, e0.lay, hce1, hva, hlv]
  refine forkD (fun hlt => ?_) (fun hlt => ?_)
  rotate_left
  · rw [List.take_of_length_le (by omega)] at hnd hall
    repeat' (first | simp -implicitDefEqProofs only [syms, symx, seval, c148] | ((with_reducible first | apply forkD | apply forkB | apply forkN | apply forkNP | apply forkNot) <;> intro _) | with_reducible_and_instances refine ixP_at (hl.mono z.inc) ds61 sz123 (by omega) hr (fun p hp => ?_) | with_reducible_and_instances refine ldP hp ag123 sz123 ?_ | ((with_reducible_and_instances apply unop_not); (· rfl)) | ((with_reducible refine ⟨z.grw.lay _ _, ?_⟩); (intro _ h' zz x _); (try simp only [lay_lay, List.append_nil] at x); (try replace q0 := q0.over x); (try replace e0 := e0.over x); (replace z := zz); (clear zz); rw [lay_nil h']))
    exact h1k ⟨by omega, hnd, fun r hr => (hall r hr).1, fun r hr => (hall r hr).2⟩ _ (z.upW _ _ (by omega))
  obtain ⟨r, hr, hr'⟩ := amElem (l := x0.reads) (i := i) (by omega)
  obtain ⟨a, m, c, g1, g2⟩ := sub_str hv i hi
  have hvs : ∀ (h : Heap) (K : Value → Heap → Prop), valE (some (.slice a m c)) h K = K (.slice a m c) h := fun _ _ => rfl
  repeat' (first | simp -implicitDefEqProofs only [syms, symx, seval, c148, q0.lay, e0.lay, ↓cut_pol, agg_pol, valE_pol, hce0, hce1, hva] | with_reducible refine drawN (by simp only [c148]) (z.upW _ _ (by omega)) ?_ | ((with_reducible first | apply forkD | apply forkB | apply forkN | apply forkNP | apply forkNot) <;> intro _) | with_reducible_and_instances refine ixs_at (hv.mono z.inc) ds60 sz9 (by omega) hr (fun p hp => ?_) | with_reducible_and_instances refine ld_one hp ag9 ?_ | ((with_reducible_and_instances apply unop_not); (· rfl)) | ((with_reducible refine ⟨z.grw.lay _ _, ?_⟩); (intro _ h' zz x _); (try simp only [lay_lay, List.append_nil] at x); (try replace q0 := q0.over x); (try replace e0 := e0.over x); (replace z := zz); (clear zz); rw [lay_nil h']))
  refine ok_prin ps r _ _ _ _ _ _ _ _ ((hl.mono z.inc).lay _ _) _ (fun h' x => ?_)
  ((first | ((with_reducible refine KOpsX_call ?_ ?_ ?_); (· exact (by (try simp only [lsz]); have := z.size; omega)); (· first | exact x | simpa only [lla] using x)) | skip); replace z := z.overW x (by (try simp only [lsz]); omega); (try replace q0 := q0.over x); (try replace e0 := e0.over x); rw [lay_nil h'])
  cases hh : hasS ps r
  · repeat' (first | simp -implicitDefEqProofs only [syms, symx, seval, c148, Bool.not_false] | with_reducible refine drawN (by simp only [c148]) (z.upW _ _ (by omega)) ?_ | ((with_reducible first | apply forkD | apply forkB | apply forkN | apply forkNP | apply forkNot) <;> intro _) | with_reducible_and_instances refine ixs_at (hv.mono z.inc) ds60 sz9 (by omega) hr (fun p hp => ?_) | with_reducible_and_instances refine ld_one hp ag9 ?_ | ((with_reducible_and_instances apply unop_not); (· rfl)) | ((with_reducible refine ⟨z.grw.lay _ _, ?_⟩); (intro _ h' zz x _); (try simp only [lay_lay, List.append_nil] at x); (try replace q0 := q0.over x); (try replace e0 := e0.over x); (replace z := zz); (clear zz); rw [lay_nil h']))
    exact h2k _ _ (by decide) (z.upW _ _ (by omega))
  repeat' (first | simp -implicitDefEqProofs only [syms, symx, seval, c148, Bool.not_true, q0.lay, e0.lay, ↓cut_pol, agg_pol, valE_pol, hce0, hce1, hva, g1, hvs, bld_pol0] | with_reducible refine drawN (by simp only [c148]) (z.upW _ _ (by omega)) ?_ | ((with_reducible first | apply forkD | apply forkB | apply forkN | apply forkNP | apply forkNot) <;> intro _) | with_reducible_and_instances refine ixs_at (hv.mono z.inc) ds60 sz9 (by omega) hr (fun p hp => ?_) | with_reducible_and_instances refine ld_one hp ag9 ?_ | ((with_reducible_and_instances apply unop_not); (· rfl)) | ((with_reducible refine ⟨z.grw.lay _ _, ?_⟩); (intro _ h' zz x _); (try simp only [lay_lay, List.append_nil] at x); (try replace q0 := q0.over x); (try replace e0 := e0.over x); (replace z := zz); (clear zz); rw [lay_nil h']))
  · exact h2k _ _ (by decide) (z.upW _ _ (by omega))
  have hne : ¬ r = x0.who := by assumption
  refine ok_prin (x0.reads.take i) r _ _ _ _ _ _ _ _ ((g2.mono z.inc).lay _ _) _ (fun h' x => ?_)
  ((first | ((with_reducible refine KOpsX_call ?_ ?_ ?_); (· exact (by (try simp only [lsz]); have := z.size; omega)); (· first | exact x | simpa only [lla] using x)) | skip); replace z := z.overW x (by (try simp only [lsz]); omega); (try replace q0 := q0.over x); (try replace e0 := e0.over x); rw [lay_nil h'])
  cases hh2 : hasS (x0.reads.take i) r
  · repeat' (first | simp -implicitDefEqProofs only [syms, symx, seval, c148] | with_reducible refine drawN (by simp only [c148]) (z.upW _ _ (by omega)) ?_ | ((with_reducible first | apply forkD | apply forkB | apply forkN | apply forkNP | apply forkNot) <;> intro _) | with_reducible_and_instances refine ixs_at (hv.mono z.inc) ds60 sz9 (by omega) hr (fun p hp => ?_) | with_reducible_and_instances refine ld_one hp ag9 ?_ | ((with_reducible_and_instances apply unop_not); (· rfl)) | ((with_reducible refine ⟨z.grw.lay _ _, ?_⟩); (intro _ h' zz x _); (try simp only [lay_lay, List.append_nil] at x); (try replace q0 := q0.over x); (try replace e0 := e0.over x); (replace z := zz); (clear zz); rw [lay_nil h']))
    rw [hw]
    (rw [hI1]; with_reducible refine loopN_normal (m := _) ?_ ⟨i + 1, _, rfl, z, ⟨rfl, by omega, nodup_next hr' hnd hh2, take_all (i := i) (P := fun r : ByteArray => r ∈ ps ∧ r ≠ x0.who) hr' hall ⟨hasS_iff.1 hh, hne⟩, q0, e0⟩, junk (by kernel_rfl)⟩; omega)
  · repeat' (first | simp -implicitDefEqProofs only [syms, symx, seval, c148] | with_reducible refine drawN (by simp only [c148]) (z.upW _ _ (by omega)) ?_ | ((with_reducible first | apply forkD | apply forkB | apply forkN | apply forkNP | apply forkNot) <;> intro _) | with_reducible_and_instances refine ixs_at (hv.mono z.inc) ds60 sz9 (by omega) hr (fun p hp => ?_) | with_reducible_and_instances refine ld_one hp ag9 ?_ | ((with_reducible_and_instances apply unop_not); (· rfl)) | ((with_reducible refine ⟨z.grw.lay _ _, ?_⟩); (intro _ h' zz x _); (try simp only [lay_lay, List.append_nil] at x); (try replace q0 := q0.over x); (try replace e0 := e0.over x); (replace z := zz); (clear zz); rw [lay_nil h']))
    exact h2k _ _ (by decide) (z.upW _ _ (by omega))
structure ClrsOk (ps : List ByteArray) (l : List ClearD) : Prop where
  each : ∀ c ∈ l, c.who ∈ ps ∧ ClrOk ps c
  apart : ∀ (i k : Nat) (c e : ClearD), l[i]? = some c → l[k]? = some e → c.who = e.who → i = k
theorem clrs_next {ps : List ByteArray} {l : List ClearD} {i : Nat} {c : ClearD} (hr : l[i]? = some c) (h : ClrsOk ps (l.take i)) (hc : c.who ∈ ps ∧ ClrOk ps c) (hn : ∀ e ∈ l.take i, e.who ≠ c.who) : ClrsOk ps (l.take (i + 1)) := by
  have hil := (List.getElem?_eq_some_iff.1 hr).1
  have hlt : (l.take i).length = i := by rw [List.length_take]; omega
  have e1 : l.take (i + 1) = l.take i ++ [c] := by rw [List.take_add_one, hr, Option.toList_some]
  rw [e1]
  have get : ∀ (j : Nat) (x : ClearD), (l.take i ++ [c])[j]? = some x → (j < i ∧ (l.take i)[j]? = some x) ∨ (j = i ∧ x = c) := by
    intro j x hj
    rw [List.getElem?_append] at hj
    split at hj
    · exact .inl ⟨by omega, hj⟩
    · right
      have : j - (l.take i).length = 0 := by
        have := (List.getElem?_eq_some_iff.1 hj).1
        simp at this
        omega
      rw [this] at hj
      exact ⟨by omega, (Option.some.inj hj).symm⟩
  refine ⟨fun x hx => ?_, fun j k x y hj hk e => ?_⟩
  · rcases List.mem_append.1 hx with hx | hx
    · exact h.each x hx
    · rw [List.mem_singleton.1 hx]; exact hc
  · rcases get j x hj with ⟨g1, g2⟩ | ⟨g1, rfl⟩
    · rcases get k y hk with ⟨g3, g4⟩ | ⟨g3, rfl⟩
      · exact h.apart j k x y g2 g4 e
      · exact absurd e (hn x (List.mem_of_getElem? g2))
    · rcases get k y hk with ⟨g3, g4⟩ | ⟨g3, rfl⟩
      · exact absurd e.symm (hn y (List.mem_of_getElem? g4))
      · omega
theorem ok_clears (d : PolicyD) (p0 p1 p2 p5 p6 : Value) (q b : Int) (h : Heap) (hone : (polCells p0 p1 p2 p5 p6 q b).all Am.one = true) (hd : PolH h p0 p1 p2 p5 p6 d) (hn : d.clears.length ≤ 70) (K : Value → Heap → Prop) (h1k : ClrsOk d.principals d.clears → ∀ h', Ext h h' → K (.int .i64 0) h') (h2k : ∀ c h', c ≠ 0 → Ext h h' → K (.int .i64 c) h') : Ok Try.prog tab ov 102 [polVal p0 p1 p2 p5 p6 q b] h K := by
  rw [lay_nil h]
  have z := Ext.refl h
  have hva := vSelf p2
  have hlv := fun (hh : Heap) => hd.s2.lenA ds62 hh
  refine Ok.into rfl tab_fn102 (bodyF N102) rfl (m := 49) rfl ?_
  repeat' (first | simp -implicitDefEqProofs only [syms, symx, seval, c102, cells_pol, pol2, hva, hlv] | ((with_reducible first | apply forkD | apply forkB | apply forkN | apply forkNP | apply forkNot) <;> intro _) | with_reducible_and_instances refine ixs_at (hv.mono z.inc) ds60 sz9 (by omega) hr (fun p hp => ?_) | with_reducible_and_instances refine ld_one hp ag9 ?_ | ((with_reducible_and_instances apply unop_not); (· rfl)) | ((with_reducible refine ⟨z.grw.lay _ _, ?_⟩); (intro _ h' zz x _); (try simp only [lay_lay, List.append_nil] at x); (try replace q0 := q0.over x); (try replace e0 := e0.over x); (replace z := zz); (clear zz); rw [lay_nil h']))
  refine W_fold (fun h' x hq => ?_)
  have q0 := hq 0 _ rfl
  clear hq
  (replace z := z.overW x (by (try simp only [lsz]); omega); rw [lay_nil h'])
  obtain ⟨A0, hA0⟩ : ∃ A0, A0 = h.size + 0 := ⟨_, rfl⟩
  rw [← hA0] at q0
  rw [← hA0]
  obtain ⟨I1, hI1⟩ : ∃ I : Nat → Env → Heap → Prop, I = (fun n e h' => ∃ (i : Nat) (h1 : Heap), h' = h1.lay [] h1.low ∧ Ext h h1 ∧ (n = d.clears.length - i ∧ i ≤ d.clears.length ∧ ClrsOk d.principals (d.clears.take i) ∧ Holds h1 A0 (.row (polCells p0 p1 p2 p5 p6 q b) 66 false)) ∧ ∃ J : Nat → Value, e = (J 0 :: .pointer (some ⟨A0, 0, none⟩) :: J 2 :: .int .i64 i :: jr J 4 46 ([]))) := ⟨_, rfl⟩
  refine W_loopN I1 _ (by rw [hI1]; exact ⟨0, _, rfl, z, ⟨rfl, by omega, ⟨by simp, by simp⟩, q0⟩, junk (by kernel_rfl)⟩) ?_
  intro n e h' hin
  rw [hI1] at hin
  obtain ⟨i, h1', rfl, z, hinv, J, rfl⟩ := hin
  clear q0
  obtain ⟨rfl, hi, hall, q0⟩ := hinv
  have hw : IntKind.i64.wrap ((i : Int) + 1) = ((i + 1 : Nat) : Int) := by rw [wrap_i64 (by omega) (by omega)]; omega
  simp -implicitDefEqProofs only [syms, symx, seval, c102, q0.lay, pol2, hva, hlv]
  refine forkD (fun hlt => ?_) (fun hlt => ?_)
  rotate_left
  · rw [List.take_of_length_le (by omega)] at hall
    repeat' (first | simp -implicitDefEqProofs only [syms, symx, seval, c102] | ((with_reducible first | apply forkD | apply forkB | apply forkN | apply forkNP | apply forkNot) <;> intro _) | with_reducible_and_instances refine ixs_at (hv.mono z.inc) ds60 sz9 (by omega) hr (fun p hp => ?_) | with_reducible_and_instances refine ld_one hp ag9 ?_ | ((with_reducible_and_instances apply unop_not); (· rfl)) | ((with_reducible refine ⟨z.grw.lay _ _, ?_⟩); (intro _ h' zz x _); (try simp only [lay_lay, List.append_nil] at x); (try replace q0 := q0.over x); (replace z := zz); (clear zz); rw [lay_nil h']))
    exact h1k hall _ (z.upW _ _ (by omega))
  obtain ⟨r, hr, hr'⟩ := amElem (l := d.clears) (i := i) (by omega)
  repeat' (first | simp -implicitDefEqProofs only [syms, symx, seval, c102, q0.lay, ↓cut_pol, agg_pol, valE_pol, pol2, hva] | with_reducible refine drawN (by simp only [c102]) (z.upW _ _ (by omega)) ?_ | ((with_reducible first | apply forkD | apply forkB | apply forkN | apply forkNP | apply forkNot) <;> intro _) | with_reducible_and_instances refine ixC_at (hd.s2.mono z.inc) ds62 sz73 (by omega) hr (fun p bv hb hp => ?_) | with_reducible_and_instances refine fdP0 hp fa73_0 (fun qq hq => ?_) | with_reducible_and_instances refine ld_one hq ag9 ?_ | ((with_reducible_and_instances apply unop_not); (· rfl)) | ((with_reducible refine ⟨z.grw.lay _ _, ?_⟩); (intro _ h' zz x _); (try simp only [lay_lay, List.append_nil] at x); (try replace q0 := q0.over x); (replace z := zz); (clear zz); rw [lay_nil h']))
  refine ok_prin d.principals r.who _ _ _ _ _ _ _ _ ((hd.s0.mono z.inc).lay _ _) _ (fun h' x => ?_)
  ((first | ((with_reducible refine KOpsX_call ?_ ?_ ?_); (· exact (by (try simp only [lsz]); have := z.size; omega)); (· first | exact x | simpa only [lla] using x)) | skip); replace z := z.overW x (by (try simp only [lsz]); omega); (try replace q0 := q0.over x); rw [lay_nil h'])
  cases hh : hasS d.principals r.who
  · repeat' (first | simp -implicitDefEqProofs only [syms, symx, seval, c102, Bool.not_false] | with_reducible refine drawN (by simp only [c102]) (z.upW _ _ (by omega)) ?_ | ((with_reducible first | apply forkD | apply forkB | apply forkN | apply forkNP | apply forkNot) <;> intro _) | with_reducible_and_instances refine ixC_at (hd.s2.mono z.inc) ds62 sz73 (by omega) hr (fun p bv hb hp => ?_) | with_reducible_and_instances refine fdP0 hp fa73_0 (fun qq hq => ?_) | with_reducible_and_instances refine ld_one hq ag9 ?_ | ((with_reducible_and_instances apply unop_not); (· rfl)) | ((with_reducible refine ⟨z.grw.lay _ _, ?_⟩); (intro _ h' zz x _); (try simp only [lay_lay, List.append_nil] at x); (try replace q0 := q0.over x); (replace z := zz); (clear zz); rw [lay_nil h']))
    exact h2k _ _ (by decide) (z.upW _ _ (by omega))
  repeat' (first | simp -implicitDefEqProofs only [syms, symx, seval, c102, Bool.not_true] | with_reducible refine drawN (by simp only [c102]) (z.upW _ _ (by omega)) ?_ | ((with_reducible first | apply forkD | apply forkB | apply forkN | apply forkNP | apply forkNot) <;> intro _) | with_reducible_and_instances refine ixC_at (hd.s2.mono z.inc) ds62 sz73 (by omega) hr (fun p bv hb hp => ?_) | with_reducible_and_instances refine fdP0 hp fa73_0 (fun qq hq => ?_) | with_reducible_and_instances refine ld_one hq ag9 ?_ | ((with_reducible_and_instances apply unop_not); (· rfl)) | ((with_reducible refine ⟨z.grw.lay _ _, ?_⟩); (intro _ h' zz x _); (try simp only [lay_lay, List.append_nil] at x); (try replace q0 := q0.over x); (replace z := zz); (clear zz); rw [lay_nil h']))
  obtain ⟨I2, hI2⟩ : ∃ I : Nat → Env → Heap → Prop, I = (fun n e h' => ∃ (k : Nat) (h1 : Heap), h' = h1.lay [] h1.low ∧ Ext h h1 ∧ (n = i - k ∧ k ≤ i ∧ (∀ e ∈ d.clears.take k, e.who ≠ r.who) ∧ Holds h1 A0 (.row (polCells p0 p1 p2 p5 p6 q b) 66 false)) ∧ ∃ J : Nat → Value, e = (J 0 :: .pointer (some ⟨A0, 0, none⟩) :: J 2 :: .int .i64 i :: .int .i64 k :: jr J 5 45 ([]))) := ⟨_, rfl⟩
  refine W_loopN I2 _ (by rw [hI2]; exact ⟨0, _, rfl, z, ⟨rfl, by omega, by simp, q0⟩, junk (by kernel_rfl)⟩) ?_
  intro n e h' hin
  rw [hI2] at hin
  obtain ⟨k, h1', rfl, z, hinv, J, rfl⟩ := hin
  clear q0
  obtain ⟨rfl, hk1, hap, q0⟩ := hinv
  have hwk : IntKind.i64.wrap ((k : Int) + 1) = ((k + 1 : Nat) : Int) := by rw [wrap_i64 (by omega) (by omega)]; omega
  simp -implicitDefEqProofs only [syms, symx, seval, c102]
  refine forkD (fun hlt2 => ?_) (fun hlt2 => ?_)
  · obtain ⟨e, he, he'⟩ := amElem (l := d.clears) (i := k) (by omega)
    repeat' (first | simp -implicitDefEqProofs only [syms, symx, seval, c102, q0.lay, pol2, hva] | with_reducible refine drawN (by simp only [c102]) (z.upW _ _ (by omega)) ?_ | ((with_reducible first | apply forkD | apply forkB | apply forkN | apply forkNP | apply forkNot) <;> intro _) | with_reducible_and_instances refine ixC_at (hd.s2.mono z.inc) ds62 sz73 (by omega) hr (fun p bv hb hp => ?_) | with_reducible_and_instances refine ixC_at (hd.s2.mono z.inc) ds62 sz73 (by omega) he (fun p bv hb hp => ?_) | with_reducible_and_instances refine fdP0 hp fa73_0 (fun qq hq => ?_) | with_reducible_and_instances refine ld_one hq ag9 ?_ | ((with_reducible_and_instances apply unop_not); (· rfl)) | ((with_reducible refine ⟨z.grw.lay _ _, ?_⟩); (intro _ h' zz x _); (try simp only [lay_lay, List.append_nil] at x); (try replace q0 := q0.over x); (replace z := zz); (clear zz); rw [lay_nil h']))
    · exact h2k _ _ (by decide) (z.upW _ _ (by omega))
    · have hne : ¬ e.who = r.who := by assumption
      rw [hwk]
      (rw [hI2]; with_reducible refine loopN_normal (m := _) ?_ ⟨k + 1, _, rfl, z, ⟨rfl, by omega, take_all (i := k) (P := fun e : ClearD => e.who ≠ r.who) he' hap hne, q0⟩, junk (by kernel_rfl)⟩; omega)
  have hki : k = i := by omega
  subst hki
  repeat' (first | simp -implicitDefEqProofs only [syms, symx, seval, c102, q0.lay, ↓cut_pol, agg_pol, valE_pol, pol2, hva] | with_reducible refine drawN (by simp only [c102]) (z.upW _ _ (by omega)) ?_ | ((with_reducible first | apply forkD | apply forkB | apply forkN | apply forkNP | apply forkNot) <;> intro _) | with_reducible_and_instances refine ixC_at (hd.s2.mono z.inc) ds62 sz73 (by omega) hr (fun p bv hb hp => ?_) | with_reducible_and_instances refine ldP hp ag73 sz73 ?_ | ((with_reducible_and_instances apply unop_not); (· rfl)) | ((with_reducible refine ⟨z.grw.lay _ _, ?_⟩); (intro _ h' zz x _); (try simp only [lay_lay, List.append_nil] at x); (try replace q0 := q0.over x); (replace z := zz); (clear zz); rw [lay_nil h']))
  have hb2 : Sl Rep.str h1' bv r.reads := by assumption
  refine ok_clear1 d.principals r bv _ _ _ _ _ _ _ _ hone ((hd.s0.mono z.inc).lay _ _) (hb2.lay _ _) _ (fun hok h' x => ?_) (fun c h' hc x => ?_)
  · ((first | ((with_reducible refine KOpsX_call ?_ ?_ ?_); (· exact (by (try simp only [lsz]); have := z.size; omega)); (· first | exact x | simpa only [lla] using x)) | skip); replace z := z.overW x (by (try simp only [lsz]); omega); (try replace q0 := q0.over x); rw [lay_nil h'])
    repeat' (first | simp -implicitDefEqProofs only [syms, symx, seval, c102] | with_reducible refine drawN (by simp only [c102]) (z.upW _ _ (by omega)) ?_ | ((with_reducible first | apply forkD | apply forkB | apply forkN | apply forkNP | apply forkNot) <;> intro _) | with_reducible_and_instances refine ixC_at (hd.s2.mono z.inc) ds62 sz73 (by omega) hr (fun p bv hb hp => ?_) | with_reducible_and_instances refine ldP hp ag73 sz73 ?_ | ((with_reducible_and_instances apply unop_not); (· rfl)) | ((with_reducible refine ⟨z.grw.lay _ _, ?_⟩); (intro _ h' zz x _); (try simp only [lay_lay, List.append_nil] at x); (try replace q0 := q0.over x); (replace z := zz); (clear zz); rw [lay_nil h']))
    rw [hw]
    (rw [hI1]; with_reducible refine loopN_normal (m := _) ?_ ⟨k + 1, _, rfl, z, ⟨rfl, by omega, clrs_next hr' hall ⟨hasS_iff.1 hh, hok⟩ hap, q0⟩, junk (by kernel_rfl)⟩; omega)
  · ((first | ((with_reducible refine KOpsX_call ?_ ?_ ?_); (· exact (by (try simp only [lsz]); have := z.size; omega)); (· first | exact x | simpa only [lla] using x)) | skip); replace z := z.overW x (by (try simp only [lsz]); omega); (try replace q0 := q0.over x); rw [lay_nil h'])
    repeat' (first | simp -implicitDefEqProofs only [syms, symx, seval, c102] | with_reducible refine drawN (by simp only [c102]) (z.upW _ _ (by omega)) ?_ | ((with_reducible first | apply forkD | apply forkB | apply forkN | apply forkNP | apply forkNot) <;> intro _) | with_reducible_and_instances refine ixC_at (hd.s2.mono z.inc) ds62 sz73 (by omega) hr (fun p bv hb hp => ?_) | with_reducible_and_instances refine ldP hp ag73 sz73 ?_ | ((with_reducible_and_instances apply unop_not); (· rfl)) | ((with_reducible refine ⟨z.grw.lay _ _, ?_⟩); (intro _ h' zz x _); (try simp only [lay_lay, List.append_nil] at x); (try replace q0 := q0.over x); (replace z := zz); (clear zz); rw [lay_nil h']))
    all_goals first
      | exact h2k _ _ hc (z.upW _ _ (by omega))
      | (exfalso; omega)
end Go.Proofs.Ytompindebndddaa

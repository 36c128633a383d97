/- A text put together piece by piece. No condition. -/
import Derived.Test.YtompindebndddaaG29
import Derived.Test.YtompindebndddaaG33
import Derived.Test.YtompindebndddaaZK8
import Derived.Test.YtompindebndddaaG35
import Derived.Test.YtompindebndddaaGMergeR
namespace Go.Am
open Go.Lib
set_option linter.unusedVariables false
set_option linter.unusedSimpArgs false
theorem jn_cons2 (n m : List UInt8) (ns : List (List UInt8)) : join (n :: m :: ns) commaB = n ++ (commaB ++ join (m :: ns) commaB) := by
  simp [join, List.intercalate]
theorem jn_one (n : List UInt8) : join [n] commaB = n := by simp [join, List.intercalate]
theorem join_snoc : ∀ (l : List (List UInt8)) (x : List UInt8), l ≠ [] → join (l ++ [x]) commaB = join l commaB ++ commaB ++ x
  | [], x, h => absurd rfl h
  | [a], x, _ => by
    rw [List.cons_append, List.nil_append, jn_cons2, jn_one, jn_one, List.append_assoc]
  | a :: b :: l, x, _ => by
    rw [List.cons_append, List.cons_append, jn_cons2, jn_cons2, ← List.cons_append, join_snoc (b :: l) x (by simp)]
    simp only [List.append_assoc]
def saidL (ns : List (List UInt8)) : List UInt8 := if ns = [] then [] else 40 :: join ns commaB
theorem saidL_one (x : List UInt8) : saidL [x] = [40] ++ x := by unfold saidL; rw [if_neg (by simp), jn_one]; rfl
theorem saidL_snoc {l : List (List UInt8)} (x : List UInt8) (h : l ≠ []) : saidL (l ++ [x]) = saidL l ++ commaB ++ x := by
  unfold saidL
  rw [if_neg (by simp), if_neg h, join_snoc l x h]
  rfl
theorem text_said (a : AtomD) : textL a = a.says.data.toList ++ saysB ++ (a.pred.data.toList ++ saidL (namesL a) ++ (if a.cnt = 0 then [] else [41])) := by
  have h1 : (namesL a = []) ↔ a.args = [] := by unfold namesL; rw [List.map_eq_nil_iff]
  have h2 : a.args = [] ↔ a.cnt = 0 := by rw [← List.length_eq_zero_iff, args_length]
  unfold textL saidL
  by_cases h : a.cnt = 0
  · rw [if_pos (h2.2 h), if_pos (h1.2 (h2.2 h)), if_pos h]
    simp only [List.append_assoc, List.append_nil]
  · have h3 : ¬ a.args = [] := fun e => h (h2.1 e)
    rw [if_neg h3, if_neg (fun e => h3 (h1.1 e)), if_neg h]
    simp only [List.append_assoc, List.cons_append, List.nil_append]
theorem names_at {a : AtomD} {i : Nat} (h : i < a.cnt) : (namesL a).take (i + 1) = (namesL a).take i ++ [(a.arg i).s.data.toList] := by
  have hc : a.cnt ≤ 4 := Nat.min_le_right _ _
  have e : a.args[i]? = some (a.arg i) := by
    unfold AtomD.args
    rw [List.getElem?_take, if_pos h]
    have : i = 0 ∨ i = 1 ∨ i = 2 ∨ i = 3 := by omega
    rcases this with rfl | rfl | rfl | rfl <;> rfl
  rw [List.take_add_one]
  congr 1
  unfold namesL
  rw [List.getElem?_map, e]
  rfl
theorem names_len (a : AtomD) : (namesL a).length = a.cnt := by unfold namesL; rw [List.length_map, args_length]
theorem less_cmp : ∀ a b : List UInt8, Op.bytesLess a b = decide (compareBytes a b < 0)
  | [], [] => by simp [Op.bytesLess, compareBytes]
  | [], _ :: _ => by simp [Op.bytesLess, compareBytes]
  | _ :: _, [] => by simp [Op.bytesLess, compareBytes]
  | a :: xs, b :: ys => by
    rw [compareBytes]
    unfold Op.bytesLess
    rw [less_cmp xs ys]
    by_cases h1 : a < b
    · simp [h1]
    · by_cases h2 : b < a
      · have h3 : a ≠ b := fun e => by subst e; exact u8_lt_irrefl a h2
        simp [h1, h2, h3]
      · have h3 := u8_eq_of h1 h2
        simp [h1, h2, h3]
theorem cmp_less (a b : List UInt8) : (Op.bytesLess a b = true ∧ compareBytes a b = -1) ∨ (Op.bytesLess a b = false ∧ Op.bytesLess b a = true ∧ compareBytes a b = 1) ∨ (Op.bytesLess a b = false ∧ Op.bytesLess b a = false ∧ compareBytes a b = 0) := by
  have h1 := less_cmp a b
  have h2 := less_cmp b a
  have h3 := cmp_anti a b
  rcases cmp_range a b with h | h | h
  · exact .inl ⟨by rw [h1, h]; rfl, h⟩
  · refine .inr (.inr ⟨by rw [h1, h]; rfl, ?_, h⟩)
    rw [h2, decide_eq_false_iff_not]
    omega
  · refine .inr (.inl ⟨by rw [h1, h]; rfl, ?_, h⟩)
    rw [h2, decide_eq_true_iff]
    omega
end Go.Am
namespace Go.Proofs.Ytompindebndddaa
open Go.Am
set_option linter.unusedSimpArgs false
set_option linter.unusedVariables false
set_option maxRecDepth 100000
set_option maxHeartbeats 0
theorem bin_slss {P : Program} {T : Tab} {t : TypeId} {a b : ByteArray} : binA P T .lss t (.string a) (.string b) = some (.bool (Op.bytesLess a.data.toList b.data.toList)) := by
  refine bin_str rfl ?_ rfl
  unfold Op.stringOp
  simp only [toList_data]
  rfl
theorem bin_sgtr {P : Program} {T : Tab} {t : TypeId} {a b : ByteArray} : binA P T .gtr t (.string a) (.string b) = some (.bool (!(Op.bytesLess a.data.toList b.data.toList || a.data.toList == b.data.toList))) := by
  refine bin_str rfl ?_ rfl
  unfold Op.stringOp
  simp only [toList_data]
  rfl
theorem cell_a2 (a : AtomD) : a.cells[2]? = some (.int .i64 a.n) := rfl
theorem ok_count (a : AtomD) (h : Heap) (K : Value → Heap → Prop) (hk : ∀ h', Ext h h' → K (.int .i64 (a.cnt : Nat)) h') : Ok Try.prog tab ov 165 [a.val] h K := by
  rw [lay_nil h]
  have z := Ext.refl h
  have e : ((a.cnt : Nat) : Int) = if 4 < (if a.n < 0 then 0 else a.n) then 4 else if a.n < 0 then 0 else a.n := by
    unfold AtomD.cnt
    split <;> split <;> (try split) <;> omega
  rw [e] at hk
  refine Ok.into rfl tab_fn165 (bodyF N165) rfl (m := 6) rfl ?_
  repeat' (first | simp -implicitDefEqProofs only [syms, symx, seval, c165, cells_atom, cell_a2] | ((with_reducible first | apply forkD | apply forkB | apply forkN | apply forkNP | apply forkNot) <;> intro _) | ((with_reducible_and_instances apply min_int); (· rfl); (· rfl)) | ((with_reducible_and_instances apply max_int); (· rfl); (· rfl)))
  exact hk _ (z.upW _ _ (by omega))
theorem cut_argN (a : AtomD) (k : Nat) (hk : k < 4) : a.cells[3 + k * 2 + 1]? = some (.string (a.arg k).s) := by
  have : k = 0 ∨ k = 1 ∨ k = 2 ∨ k = 3 := by omega
  rcases this with rfl | rfl | rfl | rfl <;> rfl
theorem ok_said (a : AtomD) (ha : a.light = true) (h : Heap) (K : Value → Heap → Prop)
    (hk : ∀ h' (S : ByteArray), Ext h h' → S.data.toList = a.pred.data.toList ++ saidL (namesL a) ++ (if a.cnt = 0 then [] else [41]) → S.size ≤ 2000 → K (.string S) h') : Ok Try.prog tab ov 158 [a.val] h K := by
  rw [lay_nil h]
  have z := Ext.refl h
  obtain ⟨hs1, hs2⟩ := light_says ha
  have hc4 : a.cnt ≤ 4 := Nat.min_le_right _ _
  refine Ok.into rfl tab_fn158 (bodyF N158) rfl (m := 31) rfl ?_
  simp -implicitDefEqProofs only [syms, symx, seval, c158, cells_atom, cell_a1]
  refine W_fold (fun h' x hq => ?_)
  have q0 := hq 0 _ rfl
  clear hq
  (replace z := z.overW x (by (try simp only [lsz]); omega); rw [lay_nil h'])
  obtain ⟨I1, hI1⟩ : ∃ I : Nat → Env → Heap → Prop, I = (fun n e h' => ∃ (i : Nat) (S : ByteArray) (h1 : Heap), h' = h1.lay [] h1.low ∧ Ext h h1 ∧ (n = a.cnt - i ∧ i ≤ a.cnt ∧ S.data.toList = a.pred.data.toList ++ saidL ((namesL a).take i) ∧ S.size ≤ 300 + i * 310 ∧ Holds h1 (h.size + 0) (.row a.cells 39 false)) ∧ ∃ J : Nat → Value, e = (J 0 :: .pointer (some ⟨h.size + 0, 0, none⟩) :: J 2 :: .string S :: .int .i64 i :: jr J 5 27 ([]))) := ⟨_, rfl⟩
  refine W_loopN I1 _ (by rw [hI1]; exact ⟨0, a.pred, _, rfl, z, ⟨rfl, by omega, by simp [saidL], by omega, q0⟩, junk (by kernel_rfl)⟩) ?_
  intro n e h' hin
  rw [hI1] at hin
  obtain ⟨i, S, h1', rfl, z, hinv, J, rfl⟩ := hin
  clear q0
  obtain ⟨rfl, hi, hS, hSz, q0⟩ := hinv
  have hwi : IntKind.i64.wrap ((i : Int) + 1) = ((i + 1 : Nat) : Int) := by rw [wrap_i64 (by omega) (by omega)]; omega
  repeat' (first | simp -implicitDefEqProofs only [syms, symx, seval, c158, q0.lay, ↓cut_atom, agg_atom, valE_atom] | ((with_reducible first | apply forkD | apply forkB | apply forkN | apply forkNP | apply forkNot) <;> intro _))
  refine ok_count a _ _ (fun h' x => ?_)
  ((skip); replace z := z.overW x (by (try simp only [lsz]); omega); (try replace q0 := q0.over x); rw [lay_nil h'])
  simp -implicitDefEqProofs only [syms, symx, seval, c158, q0.lay, ↓cut_atom, agg_atom, valE_atom]
  refine forkD (fun hlt => ?_) (fun hlt => ?_)
  · have hin4 : (0 : Int) ≤ (i : Int) ∧ (i : Int) < 4 := by omega
    have hcell := cut_argN a i (by omega)
    have hnm := names_at (a := a) (i := i) (by omega)
    have hla := light_arg ha i
    simp -implicitDefEqProofs only [syms, symx, seval, c158]
    refine forkB (fun h0 => ?_) (fun h0 => ?_)
    · have h0 : i = 0 := by omega
      simp -implicitDefEqProofs only [syms, symx, seval, c158]
      refine cat_ruleX ?_ (fun S1 hS1 hz1 => ?_)
      · show S.size + 1 ≤ _
        omega
      repeat' (first | simp -implicitDefEqProofs only [syms, symx, seval, c158, q0.lay, hin4, hcell, and_self, if_true] | ((with_reducible first | apply forkD | apply forkB | apply forkN | apply forkNP | apply forkNot) <;> intro _))
      refine cat_ruleX ?_ (fun S2 hS2 hz2 => ?_)
      · rw [hz1]
        show S.size + 1 + _ ≤ _
        omega
      have hz3 : S2.size ≤ 300 + (i + 1) * 310 := by
        rw [hz2, hz1]
        show S.size + 1 + _ ≤ _
        omega
      have hS3 : S2.data.toList = a.pred.data.toList ++ saidL ((namesL a).take (i + 1)) := by
        rw [hS2, ba_app, hS1, ba_app, hS, hnm, h0, List.take_zero, List.nil_append, saidL_one]
        simp [saidL]
      repeat' (first | simp -implicitDefEqProofs only [syms, symx, seval, c158] | ((with_reducible first | apply forkD | apply forkB | apply forkN | apply forkNP | apply forkNot) <;> intro _))
      rw [hwi]
      (rw [hI1]; with_reducible refine loopN_normal (m := _) ?_ ⟨i + 1, S2, _, rfl, z, ⟨rfl, by omega, hS3, hz3, q0⟩, junk (by kernel_rfl)⟩; omega)
    · have h0 : i ≠ 0 := by omega
      simp -implicitDefEqProofs only [syms, symx, seval, c158]
      refine cat_ruleX ?_ (fun S1 hS1 hz1 => ?_)
      · show S.size + 2 ≤ _
        omega
      repeat' (first | simp -implicitDefEqProofs only [syms, symx, seval, c158, q0.lay, hin4, hcell, and_self, if_true] | ((with_reducible first | apply forkD | apply forkB | apply forkN | apply forkNP | apply forkNot) <;> intro _))
      refine cat_ruleX ?_ (fun S2 hS2 hz2 => ?_)
      · rw [hz1]
        show S.size + 2 + _ ≤ _
        omega
      have hz3 : S2.size ≤ 300 + (i + 1) * 310 := by
        rw [hz2, hz1]
        show S.size + 2 + _ ≤ _
        omega
      have hS3 : S2.data.toList = a.pred.data.toList ++ saidL ((namesL a).take (i + 1)) := by
        have hne : (namesL a).take i ≠ [] := fun e => by
          have := congrArg List.length e
          rw [List.length_take, names_len, List.length_nil] at this
          omega
        rw [hS2, ba_app, hS1, ba_app, hS, hnm, saidL_snoc _ hne]
        simp only [List.append_assoc]
        rfl
      repeat' (first | simp -implicitDefEqProofs only [syms, symx, seval, c158] | ((with_reducible first | apply forkD | apply forkB | apply forkN | apply forkNP | apply forkNot) <;> intro _))
      rw [hwi]
      (rw [hI1]; with_reducible refine loopN_normal (m := _) ?_ ⟨i + 1, S2, _, rfl, z, ⟨rfl, by omega, hS3, hz3, q0⟩, junk (by kernel_rfl)⟩; omega)
  have hin : i = a.cnt := by omega
  rw [List.take_of_length_le (by rw [names_len]; omega)] at hS
  repeat' (first | simp -implicitDefEqProofs only [syms, symx, seval, c158, q0.lay, ↓cut_atom, agg_atom, valE_atom] | ((with_reducible first | apply forkD | apply forkB | apply forkN | apply forkNP | apply forkNot) <;> intro _))
  refine ok_count a _ _ (fun h' x => ?_)
  ((skip); replace z := z.overW x (by (try simp only [lsz]); omega); (try replace q0 := q0.over x); rw [lay_nil h'])
  simp -implicitDefEqProofs only [syms, symx, seval, c158]
  refine forkD (fun hpos => ?_) (fun hpos => ?_)
  · repeat' (first | simp -implicitDefEqProofs only [syms, symx, seval, c158] | ((with_reducible first | apply forkD | apply forkB | apply forkN | apply forkNP | apply forkNot) <;> intro _))
    refine cat_ruleX ?_ (fun S1 hS1 hz1 => ?_)
    · show S.size + 1 ≤ _
      omega
    repeat' (first | simp -implicitDefEqProofs only [syms, symx, seval, c158] | ((with_reducible first | apply forkD | apply forkB | apply forkN | apply forkNP | apply forkNot) <;> intro _))
    refine hk _ S1 (z.upW _ _ (by omega)) ?_ (by rw [hz1]; show S.size + 1 ≤ _; omega)
    rw [hS1, ba_app, hS, if_neg (by omega)]
  · repeat' (first | simp -implicitDefEqProofs only [syms, symx, seval, c158] | ((with_reducible first | apply forkD | apply forkB | apply forkN | apply forkNP | apply forkNot) <;> intro _))
    refine hk _ S (z.upW _ _ (by omega)) ?_ (by omega)
    rw [hS, if_pos (by omega), List.append_nil]
theorem ok_textR (a : AtomD) (ha : a.light = true) (h : Heap) (K : Value → Heap → Prop)
    (hk : ∀ h', Ext h h' → K (.string ⟨(textL a).toArray⟩) h') : Ok Try.prog tab ov 115 [a.val] h K := by
  rw [lay_nil h]
  have z := Ext.refl h
  obtain ⟨hs1, hs2⟩ := light_says ha
  refine Ok.into rfl tab_fn115 (bodyF N115) rfl (m := 8) rfl ?_
  repeat' (first | simp -implicitDefEqProofs only [syms, symx, seval, c115, cells_atom, cell_a0] | ((with_reducible first | apply forkD | apply forkB | apply forkN | apply forkNP | apply forkNot) <;> intro _) | ((with_reducible refine ⟨z.grw.lay _ _, ?_⟩); (intro _ h' zz x _); (try simp only [lay_lay, List.append_nil] at x); (try replace q0 := q0.over x); (replace z := zz); (clear zz); rw [lay_nil h']))
  refine (drawN (by simp only [c115])) (z.upW _ _ (by omega)) ?_
  simp -implicitDefEqProofs only [syms, symx, seval, c115, cell_a0, ↓cut_atom, agg_atom, valE_atom]
  refine cat_ruleX ?_ (fun S1 hS1 hz1 => ?_)
  · show a.says.size + 6 ≤ _
    omega
  simp -implicitDefEqProofs only [syms, symx, seval, c115, ↓cut_atom, agg_atom, valE_atom]
  refine ok_said a ha _ _ (fun h' S x hS hSz => ?_)
  ((first | ((with_reducible refine KOpsX_call ?_ ?_ ?_); (· exact (by (try simp only [lsz]); have := z.size; omega)); (· first | exact x | simpa only [lla] using x)) | skip); replace z := z.overW x (by (try simp only [lsz]); omega); rw [lay_nil h'])
  simp -implicitDefEqProofs only [syms, symx, seval, c115]
  refine cat_ruleX ?_ (fun S2 hS2 hz2 => ?_)
  · rw [hz1]
    show a.says.size + 6 + _ ≤ _
    omega
  have hS3 : S2 = ⟨(textL a).toArray⟩ := ba_mk (by rw [hS2, ba_app, hS1, ba_app, hS, text_said]; rfl)
  repeat' (first | simp -implicitDefEqProofs only [syms, symx, seval, c115] | ((with_reducible first | apply forkD | apply forkB | apply forkN | apply forkNP | apply forkNot) <;> intro _) | ((with_reducible refine ⟨z.grw.lay _ _, ?_⟩); (intro _ h' zz x _); (try simp only [lay_lay, List.append_nil] at x); (replace z := zz); (clear zz); rw [lay_nil h']))
  rw [hS3]
  exact hk _ (z.upW _ _ (by omega))
theorem ok_cmpR (a b : AtomD) (ha : a.light = true) (hb : b.light = true) (h : Heap) (K : Value → Heap → Prop)
    (hk : ∀ h', Ext h h' → K (.int .i64 (cmpD a b)) h') : Ok Try.prog tab ov 51 [a.val, b.val] h K := by
  rw [lay_nil h]
  have z := Ext.refl h
  refine Ok.into rfl tab_fn51 (bodyF N51) rfl (m := 17) rfl ?_
  repeat' (first | simp -implicitDefEqProofs only [syms, symx, seval, c51, cells_atom] | ((with_reducible first | apply forkD | apply forkB | apply forkN | apply forkNP | apply forkNot) <;> intro _) | ((with_reducible refine ⟨z.grw.lay _ _, ?_⟩); (intro _ h' zz x _); (try simp only [lay_lay, List.append_nil] at x); (replace z := zz); (clear zz); rw [lay_nil h']))
  refine (drawN (by simp only [c51])) (z.upW _ _ (by omega)) ?_
  simp -implicitDefEqProofs only [syms, symx, seval, c51, ↓cut_atom, agg_atom, valE_atom]
  refine ok_textR a ha _ _ (fun h' x => ?_)
  have q1 := Holds.top (i := 1) x rfl
  ((first | ((with_reducible refine KOpsX_call ?_ ?_ ?_); (· exact (by (try simp only [lsz]); have := z.size; omega)); (· first | exact x | simpa only [lla] using x)) | skip); replace z := z.overW x (by (try simp only [lsz]); omega); rw [lay_nil h'])
  repeat' (first | simp -implicitDefEqProofs only [syms, symx, seval, c51, q1.lay, ↓cut_atom, agg_atom, valE_atom] | ((with_reducible first | apply forkD | apply forkB | apply forkN | apply forkNP | apply forkNot) <;> intro _) | ((with_reducible refine ⟨z.grw.lay _ _, ?_⟩); (intro _ h' zz x _); (try simp only [lay_lay, List.append_nil] at x); (replace z := zz); (clear zz); rw [lay_nil h']))
  refine ok_textR b hb _ _ (fun h' x => ?_)
  ((first | ((with_reducible refine KOpsX_call ?_ ?_ ?_); (· exact (by (try simp only [lsz]); have := z.size; omega)); (· first | exact x | simpa only [lla] using x)) | skip); replace z := z.overW x (by (try simp only [lsz]); omega); rw [lay_nil h'])
  repeat' (first | simp -implicitDefEqProofs only [syms, symx, seval, c51] | ((with_reducible first | apply forkD | apply forkB | apply forkN | apply forkNP | apply forkNot) <;> intro _) | ((with_reducible refine ⟨z.grw.lay _ _, ?_⟩); (intro _ h' zz x _); (try simp only [lay_lay, List.append_nil] at x); (replace z := zz); (clear zz); rw [lay_nil h']))
  have hc : cmpD a b = Lib.compareBytes (textL a) (textL b) := rfl
  rw [hc] at hk
  rcases cmp_less (textL a) (textL b) with ⟨h1, h2⟩ | ⟨h1, h3, h2⟩ | ⟨h1, h3, h2⟩
  · rw [h2] at hk
    repeat' (first | simp -implicitDefEqProofs only [syms, symx, seval, c51, bin_slss, h1] | ((with_reducible first | apply forkD | apply forkB | apply forkN | apply forkNP | apply forkNot) <;> intro _) | ((with_reducible refine ⟨z.grw.lay _ _, ?_⟩); (intro _ h' zz x _); (try simp only [lay_lay, List.append_nil] at x); (replace z := zz); (clear zz); rw [lay_nil h']))
    exact hk _ (z.upW _ _ (by omega))
  · rw [h2] at hk
    have h4 : (textL a == textL b) = false := by
      cases e : textL a == textL b
      · rfl
      · have e2 : textL a = textL b := by simpa using e
        rw [e2, cmp_self] at h2
        cases h2
    repeat' (first | simp -implicitDefEqProofs only [syms, symx, seval, c51, bin_slss, bin_sgtr, h1, h4, Bool.or_false, Bool.not_false] | ((with_reducible first | apply forkD | apply forkB | apply forkN | apply forkNP | apply forkNot) <;> intro _) | ((with_reducible refine ⟨z.grw.lay _ _, ?_⟩); (intro _ h' zz x _); (try simp only [lay_lay, List.append_nil] at x); (replace z := zz); (clear zz); rw [lay_nil h']))
    exact hk _ (z.upW _ _ (by omega))
  · rw [h2] at hk
    have h4 : (textL a == textL b) = true := by
      rw [cmp_zero h2]
      simp
    repeat' (first | simp -implicitDefEqProofs only [syms, symx, seval, c51, bin_slss, bin_sgtr, h1, h4, Bool.or_true, Bool.not_true] | ((with_reducible first | apply forkD | apply forkB | apply forkN | apply forkNP | apply forkNot) <;> intro _) | ((with_reducible refine ⟨z.grw.lay _ _, ?_⟩); (intro _ h' zz x _); (try simp only [lay_lay, List.append_nil] at x); (replace z := zz); (clear zz); rw [lay_nil h']))
    exact hk _ (z.upW _ _ (by omega))
theorem ok_hasR (l : List AtomD) (a : AtomD) (v : Value) (h : Heap) (hl : Sl Rep.atom h v l) (hn : l.length ≤ 100000) (hlt : ∀ x ∈ l, x.light = true) (ha : a.light = true) (K : Value → Heap → Prop)
    (hk : ∀ h', Ext h h' → K (.bool (hasA l a)) h') : Ok Try.prog tab ov 20 [v, a.val] h K := by
  rw [lay_nil h]
  have z := Ext.refl h
  have hva := vSelf v
  have hln := fun (hh : Heap) => hl.lenA ds23 hh
  refine Ok.into rfl tab_fn20 (bodyF N20) rfl (m := 17) rfl ?_
  simp -implicitDefEqProofs only [syms, symx, seval, c20, cells_atom, hva]
  refine W_fold (fun h' x hq => ?_)
  have q0 := hq 0 _ rfl
  clear hq
  (replace z := z.overW x (by (try simp only [lsz]); omega); rw [lay_nil h'])
  obtain ⟨I1, hI1⟩ : ∃ I : Nat → Env → Heap → Prop, I = (fun n e h' => ∃ (i : Nat) (h1 : Heap), h' = h1.lay [] h1.low ∧ Ext h h1 ∧ (n = l.length - i ∧ i ≤ l.length ∧ (∀ x ∈ l.take i, ¬ textL x = textL a) ∧ Holds h1 (h.size + 0) (.row a.cells 39 false)) ∧ ∃ J : Nat → Value, e = (v :: jr J 1 2 (.pointer (some ⟨h.size + 0, 0, none⟩) :: J 4 :: .int .i64 i :: jr J 6 13 ([])))) := ⟨_, rfl⟩
  refine W_loopN I1 _ (by rw [hI1]; exact ⟨0, _, rfl, z, ⟨rfl, by omega, by simp, q0⟩, junk (by kernel_rfl)⟩) ?_
  intro n e h' hin
  rw [hI1] at hin
  obtain ⟨i, h1', rfl, z, hinv, J, rfl⟩ := hin
  clear q0
  obtain ⟨rfl, hi, hno, q0⟩ := hinv
  have hwi : IntKind.i64.wrap ((i : Int) + 1) = ((i + 1 : Nat) : Int) := by rw [wrap_i64 (by omega) (by omega)]; omega
  simp -implicitDefEqProofs only [syms, symx, seval, c20, hva, hln]
  refine forkD (fun hlt1 => ?_) (fun hlt1 => ?_)
  rotate_left
  · rw [List.take_of_length_le (by omega)] at hno
    have e : hasA l a = false := by
      cases e : hasA l a
      · rfl
      · obtain ⟨x, hx, e2⟩ := hasA_iff.1 e
        exact absurd e2 (hno x hx)
    rw [e] at hk
    repeat' (first | simp -implicitDefEqProofs only [syms, symx, seval, c20, hva] | ((with_reducible first | apply forkD | apply forkB | apply forkN | apply forkNP | apply forkNot) <;> intro _) | ((with_reducible refine ⟨z.grw.lay _ _, ?_⟩); (intro _ h' zz x _); (try simp only [lay_lay, List.append_nil] at x); (try replace q0 := q0.over x); (replace z := zz); (clear zz); rw [lay_nil h']))
    exact hk _ (z.upW _ _ (by omega))
  have hr : l[(i : Int).toNat]? = some (l.getD i noAtomD) := getD_at (by omega)
  have hmem : l.getD i noAtomD ∈ l := List.mem_of_getElem? hr
  simp -implicitDefEqProofs only [syms, symx, seval, c20, hva]
  with_reducible first | refine drawN (by simp only [c20]) (z.upW _ _ (by omega)) ?_
  simp -implicitDefEqProofs only [syms, symx, seval, c20, hva]
  repeat' ((first | ((with_reducible first | apply forkD | apply forkB | apply forkN | apply forkNP | apply forkNot) <;> intro _) | with_reducible_and_instances refine ixa_at (hl.mono z.inc) ds23 sz39 (by omega) hr (fun p hp => ?_) | with_reducible_and_instances refine lda hp ag39 sz39 ?_ | ((with_reducible refine ⟨z.grw.lay _ _, ?_⟩); (intro _ h' zz x _); (try simp only [lay_lay, List.append_nil] at x); (try replace q0 := q0.over x); (replace z := zz); (clear zz); rw [lay_nil h'])) <;> simp -implicitDefEqProofs only [syms, symx, seval, c20, hva, q0.lay, cells_atom, ↓cut_atom, agg_atom, valE_atom])
  refine ok_cmpR _ a (hlt _ hmem) ha _ _ (fun h' x => ?_)
  ((first | ((with_reducible refine KOpsX_call ?_ ?_ ?_); (· exact (by (try simp only [lsz]); have := z.size; omega)); (· first | exact x | simpa only [lla] using x)) | skip); replace z := z.overW x (by (try simp only [lsz]); omega); (try replace q0 := q0.over x); rw [lay_nil h'])
  simp -implicitDefEqProofs only [syms, symx, seval, c20]
  refine forkB (fun hc => ?_) (fun hc => ?_)
  · have e : hasA l a = true := hasA_iff.2 ⟨_, hmem, cmpD_zero.1 hc⟩
    rw [e] at hk
    repeat' (first | simp -implicitDefEqProofs only [syms, symx, seval, c20] | ((with_reducible first | apply forkD | apply forkB | apply forkN | apply forkNP | apply forkNot) <;> intro _) | with_reducible_and_instances refine ixa_at (hl.mono z.inc) ds23 sz39 (by omega) hr (fun p hp => ?_) | with_reducible_and_instances refine lda hp ag39 sz39 ?_ | ((with_reducible refine ⟨z.grw.lay _ _, ?_⟩); (intro _ h' zz x _); (try simp only [lay_lay, List.append_nil] at x); (try replace q0 := q0.over x); (replace z := zz); (clear zz); rw [lay_nil h']))
    exact hk _ (z.upW _ _ (by omega))
  · have hc2 : ¬ textL (l.getD i noAtomD) = textL a := fun e => absurd (cmpD_zero.2 e) hc
    have hno2 := take_all (i := i) (P := fun x : AtomD => ¬ textL x = textL a) (getD_at (l := l) (i := i) (by omega)) hno hc2
    repeat' (first | simp -implicitDefEqProofs only [syms, symx, seval, c20] | ((with_reducible first | apply forkD | apply forkB | apply forkN | apply forkNP | apply forkNot) <;> intro _) | with_reducible_and_instances refine ixa_at (hl.mono z.inc) ds23 sz39 (by omega) hr (fun p hp => ?_) | with_reducible_and_instances refine lda hp ag39 sz39 ?_ | ((with_reducible refine ⟨z.grw.lay _ _, ?_⟩); (intro _ h' zz x _); (try simp only [lay_lay, List.append_nil] at x); (try replace q0 := q0.over x); (replace z := zz); (clear zz); rw [lay_nil h']))
    rw [hwi]
    (rw [hI1]; with_reducible refine loopN_normal (m := _) ?_ ⟨i + 1, _, rfl, z, ⟨rfl, by omega, hno2, q0⟩, junk (by kernel_rfl)⟩; omega)
theorem ok_isR (l : List AtomD) (v : Value) (h : Heap) (hl : Sl Rep.atom h v l) (hn : l.length ≤ 100000) (hlt : ∀ x ∈ l, x.light = true) (K : Value → Heap → Prop)
    (hk : ∀ h', Ext h h' → K (.bool (isA l)) h') : Ok Try.prog tab ov 48 [v] h K := by
  rw [lay_nil h]
  have z := Ext.refl h
  have hva := vSelf v
  have hln := fun (hh : Heap) => hl.lenA ds23 hh
  refine Ok.into rfl tab_fn48 (bodyF N48) rfl (m := 20) rfl ?_
  repeat' (first | simp -implicitDefEqProofs only [syms, symx, seval, c48, hva] | ((with_reducible first | apply forkD | apply forkB | apply forkN | apply forkNP | apply forkNot) <;> intro _) | with_reducible_and_instances refine ixa_at (hl.mono z.inc) ds23 sz39 (by omega) hr (fun p hp => ?_) | with_reducible_and_instances refine lda hp ag39 sz39 ?_ | ((with_reducible refine ⟨z.grw.lay _ _, ?_⟩); (intro _ h' zz x _); (try simp only [lay_lay, List.append_nil] at x); (try replace q0 := q0.over x); (replace z := zz); (clear zz); rw [lay_nil h']))
  obtain ⟨I1, hI1⟩ : ∃ I : Nat → Env → Heap → Prop, I = (fun n e h' => ∃ (i : Nat) (h1 : Heap), h' = h1.lay [] h1.low ∧ Ext h h1 ∧ (n = l.length + 1 - i ∧ 1 ≤ i ∧ (∀ k, 0 < k → k < i → k < l.length → cmpD (l.getD (k - 1) noAtomD) (l.getD k noAtomD) < 0)) ∧ ∃ J : Nat → Value, e = (v :: jr J 1 2 (.int .i64 i :: jr J 4 17 ([])))) := ⟨_, rfl⟩
  refine W_loopN I1 _ (by rw [hI1]; exact ⟨1, _, rfl, z, ⟨rfl, by omega, fun k g1 g2 => by omega⟩, junk (by kernel_rfl)⟩) ?_
  intro n e h' hin
  rw [hI1] at hin
  obtain ⟨i, h1', rfl, z, hinv, J, rfl⟩ := hin
  obtain ⟨rfl, hi, hup⟩ := hinv
  simp -implicitDefEqProofs only [syms, symx, seval, c48, hva, hln]
  refine forkD (fun hlt1 => ?_) (fun hlt1 => ?_)
  rotate_left
  · rw [isA_iff.2 (asc_iff.2 (fun k g1 g2 => hup k g1 (by omega) g2))] at hk
    repeat' (first | simp -implicitDefEqProofs only [syms, symx, seval, c48, hva] | ((with_reducible first | apply forkD | apply forkB | apply forkN | apply forkNP | apply forkNot) <;> intro _) | with_reducible_and_instances refine ixa_at (hl.mono z.inc) ds23 sz39 (by omega) hr (fun p hp => ?_) | with_reducible_and_instances refine lda hp ag39 sz39 ?_ | ((with_reducible refine ⟨z.grw.lay _ _, ?_⟩); (intro _ h' zz x _); (try simp only [lay_lay, List.append_nil] at x); (try replace q0 := q0.over x); (replace z := zz); (clear zz); rw [lay_nil h']))
    exact hk _ (z.upW _ _ (by omega))
  have hwi : IntKind.i64.wrap ((i : Int) + 1) = ((i + 1 : Nat) : Int) := by rw [wrap_i64 (by omega) (by omega)]; omega
  have hwi1 : IntKind.i64.wrap ((i : Int) - 1) = ((i - 1 : Nat) : Int) := by rw [wrap_i64 (by omega) (by omega)]; omega
  have hr : l[(i : Int).toNat]? = some (l.getD i noAtomD) := getD_at (by omega)
  have hr1 : l[((i - 1 : Nat) : Int).toNat]? = some (l.getD (i - 1) noAtomD) := getD_at (by omega)
  simp -implicitDefEqProofs only [syms, symx, seval, c48, hva]
  with_reducible first | refine drawN (by simp only [c48]) (z.upW _ _ (by omega)) ?_
  simp -implicitDefEqProofs only [syms, symx, seval, c48, hva, hwi1]
  repeat' ((first | ((with_reducible first | apply forkD | apply forkB | apply forkN | apply forkNP | apply forkNot) <;> intro _) | with_reducible_and_instances refine ixa_at (hl.mono z.inc) ds23 sz39 (by omega) hr1 (fun p hp => ?_) | with_reducible_and_instances refine ixa_at (hl.mono z.inc) ds23 sz39 (by omega) hr (fun p hp => ?_) | with_reducible_and_instances refine lda hp ag39 sz39 ?_ | ((with_reducible refine ⟨z.grw.lay _ _, ?_⟩); (intro _ h' zz x _); (try simp only [lay_lay, List.append_nil] at x); (replace z := zz); (clear zz); rw [lay_nil h'])) <;> simp -implicitDefEqProofs only [syms, symx, seval, c48, hva, hwi1])
  refine ok_cmpR _ _ (light_getD hlt (by omega)) (light_getD hlt (by omega)) _ _ (fun h' x => ?_)
  ((first | ((with_reducible refine KOpsX_call ?_ ?_ ?_); (· exact (by (try simp only [lsz]); have := z.size; omega)); (· first | exact x | simpa only [lla] using x)) | skip); replace z := z.overW x (by (try simp only [lsz]); omega); rw [lay_nil h'])
  simp -implicitDefEqProofs only [syms, symx, seval, c48]
  refine forkD (fun hc => ?_) (fun hc => ?_)
  · rw [isA_no (fun g => by have := asc_iff.1 g i (by omega) (by omega); omega)] at hk
    repeat' (first | simp -implicitDefEqProofs only [syms, symx, seval, c48] | ((with_reducible first | apply forkD | apply forkB | apply forkN | apply forkNP | apply forkNot) <;> intro _) | with_reducible_and_instances refine ixa_at (hl.mono z.inc) ds23 sz39 (by omega) hr1 (fun p hp => ?_) | with_reducible_and_instances refine ixa_at (hl.mono z.inc) ds23 sz39 (by omega) hr (fun p hp => ?_) | with_reducible_and_instances refine lda hp ag39 sz39 ?_ | ((with_reducible refine ⟨z.grw.lay _ _, ?_⟩); (intro _ h' zz x _); (try simp only [lay_lay, List.append_nil] at x); (replace z := zz); (clear zz); rw [lay_nil h']))
    exact hk _ (z.upW _ _ (by omega))
  · repeat' (first | simp -implicitDefEqProofs only [syms, symx, seval, c48] | ((with_reducible first | apply forkD | apply forkB | apply forkN | apply forkNP | apply forkNot) <;> intro _) | with_reducible_and_instances refine ixa_at (hl.mono z.inc) ds23 sz39 (by omega) hr1 (fun p hp => ?_) | with_reducible_and_instances refine ixa_at (hl.mono z.inc) ds23 sz39 (by omega) hr (fun p hp => ?_) | with_reducible_and_instances refine lda hp ag39 sz39 ?_ | ((with_reducible refine ⟨z.grw.lay _ _, ?_⟩); (intro _ h' zz x _); (try simp only [lay_lay, List.append_nil] at x); (replace z := zz); (clear zz); rw [lay_nil h']))
    rw [hwi]
    (rw [hI1]; with_reducible refine loopN_normal (m := _) ?_ ⟨i + 1, _, rfl, z, ⟨rfl, by omega, fun k g1 g2 g3 => by
      rcases Nat.lt_or_ge k i with e | e
      · exact hup k g1 e g3
      · have e : k = i := by omega
        subst e
        omega⟩, junk (by kernel_rfl)⟩; omega)
theorem amInc_chg {a b d : Heap} {A : Nat} (i : Inc a b) (c : Chg A b d) (hA : a.size ≤ A) : Inc a d := ⟨Nat.le_trans i.size c.size, fun B hB hd => (c.get B (Nat.lt_of_lt_of_le hB i.size) (by omega)).trans (i.get B hB hd)⟩
theorem half_lo {n : Nat} (h : 2 ≤ n) : n / 2 < n ∧ 0 < n / 2 ∧ n - n / 2 < n := by omega
theorem ok_sortedR : ∀ (k : Nat) (l : List AtomD) (v : Value) (h : Heap), l.length ≤ k → Sl Rep.atom h v l → l.length ≤ 2000 → (∀ x ∈ l, x.light = true) → ∀ (K : Value → Heap → Prop),
    (∀ h' w, Ext h h' → OwnX h h' 39 w (sortA l) → K w h') → Ok Try.prog tab ov 50 [v] h K
  | k, l, v, h, hkl, hl, hn, hlt, K, hk => by
    rw [lay_nil h]
    have z := Ext.refl h
    have hva := vSelf v
    have hln := fun (hh : Heap) => hl.lenA ds23 hh
    refine Ok.into rfl tab_fn50 (bodyF N50) rfl (m := 68) rfl ?_
    simp -implicitDefEqProofs only [syms, symx, seval, c50, hva, hln]
    refine forkD (fun hlt2 => ?_) (fun hlt2 => ?_)
    · repeat' (first | simp -implicitDefEqProofs only [syms, symx, seval, c50, hva] | ((with_reducible first | apply forkD | apply forkB | apply forkN | apply forkNP | apply forkNot) <;> intro _) | with_reducible_and_instances refine ixa_at (hl.mono z.inc) ds23 sz39 (by omega) hr1 (fun p hp => ?_) | with_reducible_and_instances refine ixa_at (hl.mono z.inc) ds23 sz39 (by omega) hr (fun p hp => ?_) | with_reducible_and_instances refine lda hp ag39 sz39 ?_ | ((with_reducible refine ⟨z.grw.lay _ _, ?_⟩); (intro _ h' zz x _); (try simp only [lay_lay, List.append_nil] at x); (replace z := zz); (clear zz); rw [lay_nil h']))
      simp -implicitDefEqProofs only [syms, symx, seval, c50, w_append, sty23]
      obtain ⟨news, hs, hsr⟩ := src_sl (A := h.size + 1) (r := Rep.atom) (by decide) (hl.lay [.row [] 39 false] h.low) (fun cs y hr => hr)
      have f : Ow Rep.atom h (h.lay [.row [] 39 false] h.low) 39 (h.size + 1) (.slice (some ⟨h.size + 0, 0, none⟩) 0 0) [] :=
        .inl ⟨by omega, rfl, .inr ⟨h.size + 0, 0, rfl, by omega, by rw [lay_size]; simp, [], 39, false, by rw [lay_get]; rfl⟩⟩
      obtain ⟨w, h', A', e1, e2, e3, e4, e5⟩ := app_ow (t := 23) ds23 tab_info39 rfl (by decide) (by rw [lay_size]; omega) f hs hsr (by simp only [List.length_nil]; omega) (by simp only [List.length_nil]; omega)
      rw [e1]
      have hvw := vSelf w
      replace z := (Ext.refl h).stepW e3 (by omega) (by omega)
      rw [lay_nil h']
      repeat' (first | simp -implicitDefEqProofs only [syms, symx, seval, c50, hvw] | ((with_reducible first | apply forkD | apply forkB | apply forkN | apply forkNP | apply forkNot) <;> intro _) | with_reducible_and_instances refine ixa_at (hl.mono z.inc) ds23 sz39 (by omega) hr1 (fun p hp => ?_) | with_reducible_and_instances refine ixa_at (hl.mono z.inc) ds23 sz39 (by omega) hr (fun p hp => ?_) | with_reducible_and_instances refine lda hp ag39 sz39 ?_ | ((with_reducible refine ⟨z.grw.lay _ _, ?_⟩); (intro _ h' zz x _); (try simp only [lay_lay, List.append_nil] at x); (replace z := zz); (clear zz); rw [lay_nil h']))
      rw [sortA_one (by omega)] at hk
      exact hk _ _ (z.upW _ _ (by omega)) (own_of_ow ((by simpa using e2 : Ow Rep.atom h h' 39 A' w l).mono (Inc.lay _ _ _)))
    match k, hkl with
    | 0, hkl => exact absurd hkl (by omega)
    | k + 1, hkl =>
      have hq : IntKind.i64.wrap (((l.length : Nat) : Int).tdiv 2) = ((l.length / 2 : Nat) : Int) := by
        rw [Int.tdiv_eq_ediv_of_nonneg (by omega), wrap_i64 (by omega) (by omega)]
        omega
      obtain ⟨g1, g2, g3⟩ := half_lo (n := l.length) (by omega)
      simp -implicitDefEqProofs only [syms, symx, seval, c50, hva, hln]
      rw [bin_quo (by decide), hq]
      repeat' (first | simp -implicitDefEqProofs only [syms, symx, seval, c50, hva] | ((with_reducible first | apply forkD | apply forkB | apply forkN | apply forkNP | apply forkNot) <;> intro _) | with_reducible_and_instances refine ixa_at (hl.mono z.inc) ds23 sz39 (by omega) hr1 (fun p hp => ?_) | with_reducible_and_instances refine ixa_at (hl.mono z.inc) ds23 sz39 (by omega) hr (fun p hp => ?_) | with_reducible_and_instances refine lda hp ag39 sz39 ?_ | ((with_reducible refine ⟨z.grw.lay _ _, ?_⟩); (intro _ h' zz x _); (try simp only [lay_lay, List.append_nil] at x); (replace z := zz); (clear zz); rw [lay_nil h']))
      with_reducible first | refine drawN (by simp only [c50]) (z.upW _ _ (by omega)) ?_
      simp -implicitDefEqProofs only [syms, symx, seval, c50, hva]
      repeat' ((first | ((with_reducible first | apply forkD | apply forkB | apply forkN | apply forkNP | apply forkNot) <;> intro _) | with_reducible_and_instances refine to_rule (hl.mono z.inc) (by decide) ds23 sz39 (show l.length / 2 ≤ l.length by omega) (fun v1 hv1 => ?_) | with_reducible_and_instances refine from_rule (hl.mono z.inc) (by decide) ds23 sz39 (show l.length / 2 ≤ l.length by omega) (fun v2 hv2 => ?_) | ((with_reducible refine ⟨z.grw.lay _ _, ?_⟩); (intro _ h' zz x _); (try simp only [lay_lay, List.append_nil] at x); (replace z := zz); (clear zz); rw [lay_nil h'])) <;> simp -implicitDefEqProofs only [syms, symx, seval, c50, hva])
      have tl1 : (l.take (l.length / 2)).length = l.length / 2 := by rw [List.length_take]; omega
      have tl2 : (l.drop (l.length / 2)).length = l.length - l.length / 2 := by rw [List.length_drop]
      have lt1 : ∀ x ∈ l.take (l.length / 2), x.light = true := fun x hx => hlt x (List.mem_of_mem_take hx)
      have lt2 : ∀ x ∈ l.drop (l.length / 2), x.light = true := fun x hx => hlt x (List.mem_of_mem_drop hx)
      refine ok_sortedR k (l.take (l.length / 2)) v1 _ (by omega) (hv1.lay _ _) (by omega) lt1 _ (fun h' w1 x o1 => ?_)
      replace o1 := (o1.own (by have := sortA_length (l.take (l.length / 2)); omega)).sl
      ((first | ((with_reducible refine KOpsX_call ?_ ?_ ?_); (· exact (by (try simp only [lsz]); have := z.size; omega)); (· first | exact x | simpa only [lla] using x)) | skip); replace z := z.overW x (by (try simp only [lsz]); omega); rw [lay_nil h'])
      have hv1a := vSelf w1
      simp -implicitDefEqProofs only [syms, symx, seval, c50, hva, hv1a]
      repeat' ((first | ((with_reducible first | apply forkD | apply forkB | apply forkN | apply forkNP | apply forkNot) <;> intro _) | with_reducible_and_instances refine to_rule (hl.mono z.inc) (by decide) ds23 sz39 (show l.length / 2 ≤ l.length by omega) (fun v1 hv1 => ?_) | with_reducible_and_instances refine from_rule (hl.mono z.inc) (by decide) ds23 sz39 (show l.length / 2 ≤ l.length by omega) (fun v2 hv2 => ?_) | ((with_reducible refine ⟨z.grw.lay _ _, ?_⟩); (intro _ h' zz x _); (try simp only [lay_lay, List.append_nil] at x); (try replace o1 := o1.over x); (replace z := zz); (clear zz); rw [lay_nil h'])) <;> simp -implicitDefEqProofs only [syms, symx, seval, c50, hva, hv1a])
      refine ok_sortedR k (l.drop (l.length / 2)) v2 _ (by omega) ((by assumption : Sl Rep.atom _ v2 _).lay _ _) (by omega) lt2 _ (fun h' w2 x o2 => ?_)
      replace o2 := (o2.own (by have := sortA_length (l.drop (l.length / 2)); omega)).sl
      ((first | ((with_reducible refine KOpsX_call ?_ ?_ ?_); (· exact (by (try simp only [lsz]); have := z.size; omega)); (· first | exact x | simpa only [lla] using x)) | skip); replace z := z.overW x (by (try simp only [lsz]); omega); (try replace o1 := o1.over x); rw [lay_nil h'])
      have hv2a := vSelf w2
      repeat' (first | simp -implicitDefEqProofs only [syms, symx, seval, c50, hv1a, hv2a] | ((with_reducible first | apply forkD | apply forkB | apply forkN | apply forkNP | apply forkNot) <;> intro _) | with_reducible_and_instances refine to_rule (hl.mono z.inc) (by decide) ds23 sz39 (show l.length / 2 ≤ l.length by omega) (fun v1 hv1 => ?_) | with_reducible_and_instances refine from_rule (hl.mono z.inc) (by decide) ds23 sz39 (show l.length / 2 ≤ l.length by omega) (fun v2 hv2 => ?_) | ((with_reducible refine ⟨z.grw.lay _ _, ?_⟩); (intro _ h' zz x _); (try simp only [lay_lay, List.append_nil] at x); (try replace o1 := o1.over x); (try replace o2 := o2.over x); (replace z := zz); (clear zz); rw [lay_nil h']))
      have hll1 := sortA_length (l.take (l.length / 2))
      have hll2 := sortA_length (l.drop (l.length / 2))
      have hmg := sortA_app (l.take (l.length / 2)) (l.drop (l.length / 2))
      rw [List.take_append_drop] at hmg
      have hlg1 := sortA_light lt1
      have hlg2 := sortA_light lt2
      generalize sortA (l.take (l.length / 2)) = s1 at *
      generalize sortA (l.drop (l.length / 2)) = s2 at *
      have hz0 := z.size
      obtain ⟨H0, hH0⟩ : ∃ H0, H0 = h' := ⟨_, rfl⟩
      rw [← hH0] at o1 o2 hz0
      obtain ⟨I1, hI1⟩ : ∃ I : Nat → Env → Heap → Prop, I = (fun n e h' => ∃ (va vb wo : Value) (xs ys out : List AtomD) (A : Nat) (h1 : Heap), h' = h1.lay [] h1.low ∧ Ext h h1 ∧ (n = xs.length + ys.length ∧ out ++ mergeA xs ys = sortA l ∧ Sl Rep.atom H0 va xs ∧ Sl Rep.atom H0 vb ys ∧ Ow Rep.atom H0 h1 39 A wo out ∧ Inc H0 h1 ∧ (∀ x ∈ xs, x.light = true) ∧ (∀ x ∈ ys, x.light = true) ∧ out.length + xs.length + ys.length ≤ l.length) ∧ ∃ J : Nat → Value, e = (jr J 0 4 (va :: vb :: wo :: jr J 7 62 ([])))) := ⟨_, rfl⟩
      refine W_loopN I1 _ (by rw [hI1]; exact ⟨w1, w2, .slice none 0 0, s1, s2, [], H0.size, _, rfl, z, ⟨rfl, by simpa using hmg, o1, o2, Ow.nil (Nat.le_refl _), by rw [hH0]; exact Inc.refl _, hlg1, hlg2, by simp only [List.length_nil]; omega⟩, junk (by kernel_rfl)⟩) ?_
      intro n e h' hin
      rw [hI1] at hin
      obtain ⟨va, vb, wo, xs, ys, out, A, h1', rfl, z, hinv, J, rfl⟩ := hin
      clear o1 o2
      obtain ⟨rfl, hout, sa, sb, ow, i1, la, lb, hsum⟩ := hinv
      have hvA := vSelf va
      have hvB := vSelf vb
      have hvO := vSelf wo
      have hlA := fun (hh : Heap) => sa.lenA ds23 hh
      have hlB := fun (hh : Heap) => sb.lenA ds23 hh
      have hz1 := z.size
      have hrounds : 0 < xs.length → 0 < ys.length → ∃ x xs' y ys', xs = x :: xs' ∧ ys = y :: ys' := fun h1 h2 => by
        match xs, ys, h1, h2 with
        | x :: xs, y :: ys, _, _ => exact ⟨x, xs, y, ys, rfl, rfl⟩
      have hcat : ¬ (0 < xs.length ∧ 0 < ys.length) → mergeA xs ys = xs ++ ys := fun hh => by
        cases xs with
        | nil => rw [mergeA_nil_left]; rfl
        | cons x xs => cases ys with
          | nil => rw [mergeA_nil_right]; simp
          | cons y ys => exact absurd ⟨by simp, by simp⟩ hh
      simp -implicitDefEqProofs only [syms, symx, seval, c50, hvA, hvB, hvO, hlA, hlB]
      refine forkD (fun f1 => ?_) (fun f1 => ?_)
      rotate_left
      · repeat' (first | simp -implicitDefEqProofs only [syms, symx, seval, c50, hvA, hvB, hvO, hlA, hlB] | ((with_reducible first | apply forkD | apply forkB | apply forkN | apply forkNP | apply forkNot) <;> intro _) | with_reducible_and_instances refine to_rule (hl.mono z.inc) (by decide) ds23 sz39 (show l.length / 2 ≤ l.length by omega) (fun v1 hv1 => ?_) | with_reducible_and_instances refine from_rule (hl.mono z.inc) (by decide) ds23 sz39 (show l.length / 2 ≤ l.length by omega) (fun v2 hv2 => ?_) | ((with_reducible refine ⟨z.grw.lay _ _, ?_⟩); (intro _ h' zz x _); (try simp only [lay_lay, List.append_nil] at x); (try replace ow := ow.over x); (try replace i1 := i1.over x); (replace z := zz); (clear zz); rw [lay_nil h']))
        simp -implicitDefEqProofs only [syms, symx, seval, c50, w_append, sty23]
        rw [hcat (by omega)] at hout
        have hi1 := i1.size
        have hlen : (out ++ xs).length = out.length + xs.length := List.length_append
        obtain ⟨news1, hs1, hsr1⟩ := src_sl (A := A) (r := Rep.atom) (by decide) ((sa.mono i1).lay [] h1'.low) (fun cs y hr => hr)
        have hf1 := ow.fresh
        refine ap_rule (r := Rep.atom) ds23 tab_info39 rfl (by decide) hi1 ow hs1 hsr1 (by omega) (by omega) (fun w5 h5 A5 o5 c5 hA5 => ?_)
        have i5 := amInc_chg (i1.trans (Inc.lay _ _ _)) c5 hf1
        replace z := (z.upW _ _ (by omega)).step c5 (by omega)
        rw [lay_nil h5]
        have hv5 := vSelf w5
        simp -implicitDefEqProofs only [syms, symx, seval, c50, hv5, hvB, w_append, sty23]
        have hi5 := i5.size
        have hz5 := z.size
        obtain ⟨news2, hs2, hsr2⟩ := src_sl (A := A5) (r := Rep.atom) (by decide) ((sb.mono i5).lay [] h5.low) (fun cs y hr => hr)
        have hf5 := o5.fresh
        refine ap_rule (r := Rep.atom) ds23 tab_info39 rfl (by decide) hi5 o5 hs2 hsr2 (by omega) (by omega) (fun w6 h6 A6 o6 c6 hA6 => ?_)
        replace z := (z.upW _ _ (by omega)).step c6 (by omega)
        rw [lay_nil h6]
        have hv6 := vSelf w6
        repeat' (first | simp -implicitDefEqProofs only [syms, symx, seval, c50, hv6] | ((with_reducible first | apply forkD | apply forkB | apply forkN | apply forkNP | apply forkNot) <;> intro _) | with_reducible_and_instances refine to_rule (hl.mono z.inc) (by decide) ds23 sz39 (show l.length / 2 ≤ l.length by omega) (fun v1 hv1 => ?_) | with_reducible_and_instances refine from_rule (hl.mono z.inc) (by decide) ds23 sz39 (show l.length / 2 ≤ l.length by omega) (fun v2 hv2 => ?_) | ((with_reducible refine ⟨z.grw.lay _ _, ?_⟩); (intro _ h' zz x _); (try simp only [lay_lay, List.append_nil] at x); (replace z := zz); (clear zz); rw [lay_nil h']))
        rw [List.append_assoc, hout] at o6
        exact hk _ _ (z.upW _ _ (by omega)) (ownX_down (own_of_ow (o6.mono (Inc.lay _ _ _))) hz0)
      simp -implicitDefEqProofs only [syms, symx, seval, c50, hvA, hvB, hvO, hlA, hlB]
      refine forkD (fun f2 => ?_) (fun f2 => ?_)
      rotate_left
      · repeat' (first | simp -implicitDefEqProofs only [syms, symx, seval, c50, hvA, hvB, hvO, hlA, hlB] | ((with_reducible first | apply forkD | apply forkB | apply forkN | apply forkNP | apply forkNot) <;> intro _) | with_reducible_and_instances refine to_rule (hl.mono z.inc) (by decide) ds23 sz39 (show l.length / 2 ≤ l.length by omega) (fun v1 hv1 => ?_) | with_reducible_and_instances refine from_rule (hl.mono z.inc) (by decide) ds23 sz39 (show l.length / 2 ≤ l.length by omega) (fun v2 hv2 => ?_) | ((with_reducible refine ⟨z.grw.lay _ _, ?_⟩); (intro _ h' zz x _); (try simp only [lay_lay, List.append_nil] at x); (try replace ow := ow.over x); (try replace i1 := i1.over x); (replace z := zz); (clear zz); rw [lay_nil h']))
        simp -implicitDefEqProofs only [syms, symx, seval, c50, w_append, sty23]
        rw [hcat (by omega)] at hout
        have hi1 := i1.size
        have hlen : (out ++ xs).length = out.length + xs.length := List.length_append
        obtain ⟨news1, hs1, hsr1⟩ := src_sl (A := A) (r := Rep.atom) (by decide) ((sa.mono i1).lay [] h1'.low) (fun cs y hr => hr)
        have hf1 := ow.fresh
        refine ap_rule (r := Rep.atom) ds23 tab_info39 rfl (by decide) hi1 ow hs1 hsr1 (by omega) (by omega) (fun w5 h5 A5 o5 c5 hA5 => ?_)
        have i5 := amInc_chg (i1.trans (Inc.lay _ _ _)) c5 hf1
        replace z := (z.upW _ _ (by omega)).step c5 (by omega)
        rw [lay_nil h5]
        have hv5 := vSelf w5
        simp -implicitDefEqProofs only [syms, symx, seval, c50, hv5, hvB, w_append, sty23]
        have hi5 := i5.size
        have hz5 := z.size
        obtain ⟨news2, hs2, hsr2⟩ := src_sl (A := A5) (r := Rep.atom) (by decide) ((sb.mono i5).lay [] h5.low) (fun cs y hr => hr)
        have hf5 := o5.fresh
        refine ap_rule (r := Rep.atom) ds23 tab_info39 rfl (by decide) hi5 o5 hs2 hsr2 (by omega) (by omega) (fun w6 h6 A6 o6 c6 hA6 => ?_)
        replace z := (z.upW _ _ (by omega)).step c6 (by omega)
        rw [lay_nil h6]
        have hv6 := vSelf w6
        repeat' (first | simp -implicitDefEqProofs only [syms, symx, seval, c50, hv6] | ((with_reducible first | apply forkD | apply forkB | apply forkN | apply forkNP | apply forkNot) <;> intro _) | with_reducible_and_instances refine to_rule (hl.mono z.inc) (by decide) ds23 sz39 (show l.length / 2 ≤ l.length by omega) (fun v1 hv1 => ?_) | with_reducible_and_instances refine from_rule (hl.mono z.inc) (by decide) ds23 sz39 (show l.length / 2 ≤ l.length by omega) (fun v2 hv2 => ?_) | ((with_reducible refine ⟨z.grw.lay _ _, ?_⟩); (intro _ h' zz x _); (try simp only [lay_lay, List.append_nil] at x); (replace z := zz); (clear zz); rw [lay_nil h']))
        rw [List.append_assoc, hout] at o6
        exact hk _ _ (z.upW _ _ (by omega)) (ownX_down (own_of_ow (o6.mono (Inc.lay _ _ _))) hz0)
      obtain ⟨ax, xs', ay, ys', rfl, rfl⟩ := hrounds (by omega) (by omega)
      have hax := la ax (List.mem_cons_self ..)
      have hay := lb ay (List.mem_cons_self ..)
      obtain ⟨va', ga, sa'⟩ := sa.sub (T := tab) (t := 23) (by decide) ds23 sz39 (BndIs.num .i64 0 1) (BndIs.no _) (show 1 ≤ (ax :: xs').length by simp) (Nat.le_refl _)
      obtain ⟨vb', gb, sb'⟩ := sb.sub (T := tab) (t := 23) (by decide) ds23 sz39 (BndIs.num .i64 0 1) (BndIs.no _) (show 1 ≤ (ay :: ys').length by simp) (Nat.le_refl _)
      rw [List.take_length, List.drop_succ_cons, List.drop_zero] at sa' sb'
      rw [show ((1 : Nat) : Int) = 1 from rfl] at ga gb
      have hvA' : ∀ (h : Heap) (K : Value → Heap → Prop), valE (some va') h K = K va' h := fun _ _ => rfl
      have hvB' : ∀ (h : Heap) (K : Value → Heap → Prop), valE (some vb') h K = K vb' h := fun _ _ => rfl
      repeat' (first | simp -implicitDefEqProofs only [syms, symx, seval, c50, hvA, hvB, hvO, hlA, hlB] | ((with_reducible first | apply forkD | apply forkB | apply forkN | apply forkNP | apply forkNot) <;> intro _) | with_reducible_and_instances refine to_rule (hl.mono z.inc) (by decide) ds23 sz39 (show l.length / 2 ≤ l.length by omega) (fun v1 hv1 => ?_) | with_reducible_and_instances refine from_rule (hl.mono z.inc) (by decide) ds23 sz39 (show l.length / 2 ≤ l.length by omega) (fun v2 hv2 => ?_) | ((with_reducible refine ⟨z.grw.lay _ _, ?_⟩); (intro _ h' zz x _); (try simp only [lay_lay, List.append_nil] at x); (try replace ow := ow.over x); (try replace i1 := i1.over x); (replace z := zz); (clear zz); rw [lay_nil h']))
      with_reducible first | refine drawN (by simp only [c50]) (z.upW _ _ (by omega)) ?_
      have hra : (ax :: xs')[(0 : Int).toNat]? = some ax := rfl
      have hrb : (ay :: ys')[(0 : Int).toNat]? = some ay := rfl
      simp -implicitDefEqProofs only [syms, symx, seval, c50, hvA, hvB, hvO]
      repeat' ((first | ((with_reducible first | apply forkD | apply forkB | apply forkN | apply forkNP | apply forkNot) <;> intro _) | with_reducible_and_instances refine ixa_at (sa.mono i1) ds23 sz39 (by omega) hra (fun p hp => ?_) | with_reducible_and_instances refine ixa_at (sb.mono i1) ds23 sz39 (by omega) hrb (fun p hp => ?_) | with_reducible_and_instances refine lda hp ag39 sz39 ?_ | ((with_reducible refine ⟨z.grw.lay _ _, ?_⟩); (intro _ h' zz x _); (try simp only [lay_lay, List.append_nil] at x); (try replace ow := ow.over x); (try replace i1 := i1.over x); (replace z := zz); (clear zz); rw [lay_nil h'])) <;> simp -implicitDefEqProofs only [syms, symx, seval, c50, hvA, hvB, hvO])
      refine ok_cmpR ax ay hax hay _ _ (fun h' x => ?_)
      ((first | ((with_reducible refine KOpsX_call ?_ ?_ ?_); (· exact (by (try simp only [lsz]); have := z.size; omega)); (· first | exact x | simpa only [lla] using x)) | skip); replace z := z.overW x (by (try simp only [lsz]); omega); (try replace ow := ow.over x); (try replace i1 := i1.over x); rw [lay_nil h'])
      simp -implicitDefEqProofs only [syms, symx, seval, c50, hvA, hvB, hvO]
      ((with_reducible refine ⟨z.grw.lay _ _, ?_⟩); (intro _ h' zz x _); (try simp only [lay_lay, List.append_nil] at x); (try replace ow := ow.over x); (try replace i1 := i1.over x); (replace z := zz); (clear zz); rw [lay_nil h'])
      simp -implicitDefEqProofs only [syms, symx, seval, c50, hvA, hvB, hvO]
      refine forkD (fun hc1 => ?_) (fun hc1 => ?_)
      · simp -implicitDefEqProofs only [syms, symx, seval, c50, hvA, hvB, hvO]
        with_reducible first | refine drawN (by simp only [c50]) (z.upW _ _ (by omega)) ?_
        simp -implicitDefEqProofs only [syms, symx, seval, c50, hvA, hvB, hvO]
        repeat' ((first | ((with_reducible first | apply forkD | apply forkB | apply forkN | apply forkNP | apply forkNot) <;> intro _) | with_reducible_and_instances refine ixa_at (sa.mono i1) ds23 sz39 (by omega) hra (fun p hp => ?_) | with_reducible_and_instances refine lda hp ag39 sz39 ?_ | ((with_reducible refine ⟨z.grw.lay _ _, ?_⟩); (intro _ h' zz x _); (try simp only [lay_lay, List.append_nil] at x); (try replace ow := ow.over x); (try replace i1 := i1.over x); (replace z := zz); (clear zz); rw [lay_nil h'])) <;> simp -implicitDefEqProofs only [syms, symx, seval, c50, hvA, hvB, hvO, fill_atom])
        have hz2 := z.size
        refine KOpsX_alloc (by omega) (by omega) ?_
        simp -implicitDefEqProofs only [syms, symx, seval, c50, w_append, sty23, hvO]
        have hfA := ow.fresh
        have hi1 := i1.size
        have hout2 : out.length ≤ 2000 := by omega
        obtain ⟨hs1, hsr1⟩ := src_row (A := A) (B := h'.size + 0) (r := Rep.atom) (c := 1) (y := ax) (by decide) (show (h'.lay [Blk.row ax.cells 39 false] (h'.size + 1)).get (h'.size + 0) = some (.row ax.cells 39 false) by rw [lay_get]; rfl) rfl
        obtain ⟨w3, h3, A3, e1, o3, c3, e4, e5⟩ := app_ow (t := 23) ds23 tab_info39 rfl (by decide) (by rw [lay_size]; omega) (ow.mono (Inc.lay _ _ _)) hs1 hsr1 (by omega) (by omega)
        rw [e1]
        simp -implicitDefEqProofs only [syms, symx, seval, c50]
        refine KOpsX_chg (A := A) (by kernel_rfl) (by rw [lay_size]; omega) (by omega) (by simpa only [lay_lay, lay_size, List.append_nil, List.length_cons, List.length_nil, Nat.zero_add] using c3) ?_
        have i3 := amInc_chg (i1.trans (Inc.lay _ _ _)) c3 hfA
        replace z := (z.upW [Blk.row ax.cells 39 false] (h'.size + 1) (by omega)).step c3 (by omega)
        clear i1 ow e1 e4 e5 c3 hs1 hsr1
        have hv3 := vSelf w3
        rw [lay_nil h3]
        repeat' (first | simp -implicitDefEqProofs only [syms, symx, seval, c50, hv3, hvA, hvB, ga, hvA'] | ((with_reducible first | apply forkD | apply forkB | apply forkN | apply forkNP | apply forkNot) <;> intro _) | with_reducible_and_instances refine ixa_at (sa.mono i1) ds23 sz39 (by omega) hra (fun p hp => ?_) | with_reducible_and_instances refine lda hp ag39 sz39 ?_ | ((with_reducible refine ⟨z.grw.lay _ _, ?_⟩); (intro _ h' zz x _); (try simp only [lay_lay, List.append_nil] at x); (try replace o3 := o3.over x); (try replace i3 := i3.over x); (replace z := zz); (clear zz); rw [lay_nil h']))
        rw [mergeA_lt hc1] at hout
        (rw [hI1]; with_reducible refine loopN_normal (m := _) ?_ ⟨va', vb, w3, xs', ay :: ys', out ++ [ax], A3, _, rfl, z, ⟨rfl, by rw [← hout, List.append_assoc, List.cons_append, List.nil_append], sa', sb, o3, i3, fun x hx => la x (List.mem_cons_of_mem _ hx), lb, by simp only [List.length_cons, List.length_append, List.length_nil] at hsum ⊢; omega⟩, junk (by kernel_rfl)⟩; (simp only [List.length_cons]; omega))
      repeat' (first | simp -implicitDefEqProofs only [syms, symx, seval, c50, hvA, hvB, hvO] | ((with_reducible first | apply forkD | apply forkB | apply forkN | apply forkNP | apply forkNot) <;> intro _) | with_reducible_and_instances refine ixa_at (sa.mono i1) ds23 sz39 (by omega) hra (fun p hp => ?_) | with_reducible_and_instances refine lda hp ag39 sz39 ?_ | ((with_reducible refine ⟨z.grw.lay _ _, ?_⟩); (intro _ h' zz x _); (try simp only [lay_lay, List.append_nil] at x); (try replace o3 := o3.over x); (try replace i3 := i3.over x); (replace z := zz); (clear zz); rw [lay_nil h']))
      · have hc2 : 0 < cmpD ax ay := by assumption
        with_reducible first | refine drawN (by simp only [c50]) (z.upW _ _ (by omega)) ?_
        simp -implicitDefEqProofs only [syms, symx, seval, c50, hvA, hvB, hvO]
        repeat' ((first | ((with_reducible first | apply forkD | apply forkB | apply forkN | apply forkNP | apply forkNot) <;> intro _) | with_reducible_and_instances refine ixa_at (sb.mono i1) ds23 sz39 (by omega) hrb (fun p hp => ?_) | with_reducible_and_instances refine lda hp ag39 sz39 ?_ | ((with_reducible refine ⟨z.grw.lay _ _, ?_⟩); (intro _ h' zz x _); (try simp only [lay_lay, List.append_nil] at x); (try replace ow := ow.over x); (try replace i1 := i1.over x); (replace z := zz); (clear zz); rw [lay_nil h'])) <;> simp -implicitDefEqProofs only [syms, symx, seval, c50, hvA, hvB, hvO, fill_atom])
        have hz2 := z.size
        refine KOpsX_alloc (by omega) (by omega) ?_
        simp -implicitDefEqProofs only [syms, symx, seval, c50, w_append, sty23, hvO]
        have hfA := ow.fresh
        have hi1 := i1.size
        have hout2 : out.length ≤ 2000 := by omega
        obtain ⟨hs1, hsr1⟩ := src_row (A := A) (B := h'.size + 0) (r := Rep.atom) (c := 1) (y := ay) (by decide) (show (h'.lay [Blk.row ay.cells 39 false] (h'.size + 1)).get (h'.size + 0) = some (.row ay.cells 39 false) by rw [lay_get]; rfl) rfl
        obtain ⟨w3, h3, A3, e1, o3, c3, e4, e5⟩ := app_ow (t := 23) ds23 tab_info39 rfl (by decide) (by rw [lay_size]; omega) (ow.mono (Inc.lay _ _ _)) hs1 hsr1 (by omega) (by omega)
        rw [e1]
        simp -implicitDefEqProofs only [syms, symx, seval, c50]
        refine KOpsX_chg (A := A) (by kernel_rfl) (by rw [lay_size]; omega) (by omega) (by simpa only [lay_lay, lay_size, List.append_nil, List.length_cons, List.length_nil, Nat.zero_add] using c3) ?_
        have i3 := amInc_chg (i1.trans (Inc.lay _ _ _)) c3 hfA
        replace z := (z.upW [Blk.row ay.cells 39 false] (h'.size + 1) (by omega)).step c3 (by omega)
        clear i1 ow e1 e4 e5 c3 hs1 hsr1
        have hv3 := vSelf w3
        rw [lay_nil h3]
        repeat' (first | simp -implicitDefEqProofs only [syms, symx, seval, c50, hv3, hvA, hvB, gb, hvB'] | ((with_reducible first | apply forkD | apply forkB | apply forkN | apply forkNP | apply forkNot) <;> intro _) | with_reducible_and_instances refine ixa_at (sb.mono i1) ds23 sz39 (by omega) hrb (fun p hp => ?_) | with_reducible_and_instances refine lda hp ag39 sz39 ?_ | ((with_reducible refine ⟨z.grw.lay _ _, ?_⟩); (intro _ h' zz x _); (try simp only [lay_lay, List.append_nil] at x); (try replace o3 := o3.over x); (try replace i3 := i3.over x); (replace z := zz); (clear zz); rw [lay_nil h']))
        rw [mergeA_gt hc2] at hout
        (rw [hI1]; with_reducible refine loopN_normal (m := _) ?_ ⟨va, vb', w3, ax :: xs', ys', out ++ [ay], A3, _, rfl, z, ⟨rfl, by rw [← hout, List.append_assoc, List.cons_append, List.nil_append], sa, sb', o3, i3, la, fun x hx => lb x (List.mem_cons_of_mem _ hx), by simp only [List.length_cons, List.length_append, List.length_nil] at hsum ⊢; omega⟩, junk (by kernel_rfl)⟩; (simp only [List.length_cons]; omega))
      · have hc0 : cmpD ax ay = 0 := by omega
        rw [gb]
        repeat' (first | simp -implicitDefEqProofs only [syms, symx, seval, c50, hvB'] | ((with_reducible first | apply forkD | apply forkB | apply forkN | apply forkNP | apply forkNot) <;> intro _) | with_reducible_and_instances refine ixa_at (sb.mono i1) ds23 sz39 (by omega) hrb (fun p hp => ?_) | with_reducible_and_instances refine lda hp ag39 sz39 ?_ | ((with_reducible refine ⟨z.grw.lay _ _, ?_⟩); (intro _ h' zz x _); (try simp only [lay_lay, List.append_nil] at x); (try replace ow := ow.over x); (try replace i1 := i1.over x); (replace z := zz); (clear zz); rw [lay_nil h']))
        rw [mergeA_eq hc0] at hout
        (rw [hI1]; with_reducible refine loopN_normal (m := _) ?_ ⟨va, vb', wo, ax :: xs', ys', out, A, _, rfl, z, ⟨rfl, hout, sa, sb', ow, i1, la, fun x hx => lb x (List.mem_cons_of_mem _ hx), by simp only [List.length_cons] at hsum ⊢; omega⟩, junk (by kernel_rfl)⟩; (simp only [List.length_cons]; omega))
theorem ok_mergeR (ls : List (List AtomD)) (v : Value) (h : Heap) (hl : Sl Rep.atoms h v ls) (hn : ls.length ≤ 100) (hn2 : ls.flatten.length ≤ 900) (hlt : ∀ x ∈ ls.flatten, x.light = true) (K : Value → Heap → Prop)
    (hk : ∀ h' w, Ext h h' → OwnX h h' 39 w (sortA ls.flatten) → K w h') : Ok Try.prog tab ov 49 [v] h K := by
  rw [lay_nil h]
  have z := Ext.refl h
  have hvv := vSelf v
  have hln := fun (hh : Heap) => hl.lenA ds81 hh
  refine Ok.into rfl tab_fn49 (bodyF N49) rfl (m := 18) rfl ?_
  repeat' (first | simp -implicitDefEqProofs only [syms, symx, seval, c49, hvv] | ((with_reducible first | apply forkD | apply forkB | apply forkN | apply forkNP | apply forkNot) <;> intro _) | with_reducible_and_instances refine ixa_at (ho.mono i1) ds23 sz39 (by omega) hr (fun p hp => ?_) | with_reducible_and_instances refine lda hp ag39 sz39 ?_)
  obtain ⟨I1, hI1⟩ : ∃ I : Nat → Env → Heap → Prop, I = (fun n e h' => ∃ (i : Nat) (w : Value) (A : Nat) (h1 : Heap), h' = h1.lay [] h1.low ∧ Ext h h1 ∧ (n = ls.length - i ∧ i ≤ ls.length ∧ Ow Rep.atom h h1 39 A w (ls.take i).flatten) ∧ ∃ J : Nat → Value, e = (v :: jr J 1 2 (w :: .int .i64 i :: jr J 5 14 ([])))) := ⟨_, rfl⟩
  refine W_loopN I1 _ (by rw [hI1]; exact ⟨0, .slice none 0 0, h.size, _, rfl, z, ⟨rfl, by omega, Ow.nil (Nat.le_refl _)⟩, junk (by kernel_rfl)⟩) ?_
  intro n e h' hin
  rw [hI1] at hin
  obtain ⟨i, w, A, h1', rfl, z, hinv, J, rfl⟩ := hin
  obtain ⟨rfl, hi, ho⟩ := hinv
  have hw : IntKind.i64.wrap ((i : Int) + 1) = ((i + 1 : Nat) : Int) := by rw [wrap_i64 (by omega) (by omega)]; omega
  have hz := z.size
  have hva := vSelf w
  simp -implicitDefEqProofs only [syms, symx, seval, c49, hva, hvv, hln]
  refine forkD (fun hlt1 => ?_) (fun hlt1 => ?_)
  rotate_left
  · rw [List.take_of_length_le (by omega)] at ho
    repeat' (first | simp -implicitDefEqProofs only [syms, symx, seval, c49, hva] | ((with_reducible first | apply forkD | apply forkB | apply forkN | apply forkNP | apply forkNot) <;> intro _) | with_reducible_and_instances refine ixa_at (ho.mono i1) ds23 sz39 (by omega) hr (fun p hp => ?_) | with_reducible_and_instances refine lda hp ag39 sz39 ?_)
    refine ok_sortedR ls.flatten.length ls.flatten w _ (Nat.le_refl _) ((ho.sl (by decide)).lay _ _) (by omega) hlt _ (fun h' w x ho => ?_)
    replace ho := ownX_down (h0 := h) ho (by rw [lay_size]; omega)
    ((skip); replace z := z.overW x (by (try simp only [lsz]); omega); rw [lay_nil h'])
    have hva := vSelf w
    repeat' (first | simp -implicitDefEqProofs only [syms, symx, seval, c49, hva] | ((with_reducible first | apply forkD | apply forkB | apply forkN | apply forkNP | apply forkNot) <;> intro _) | with_reducible_and_instances refine ixa_at (ho.mono i1) ds23 sz39 (by omega) hr (fun p hp => ?_) | with_reducible_and_instances refine lda hp ag39 sz39 ?_)
    exact hk _ _ (z.upW _ _ (by omega)) (ownX_mono ho (Inc.lay _ _ _))
  obtain ⟨r, hr, hr'⟩ := amElem (l := ls) (i := i) (by omega)
  simp -implicitDefEqProofs only [syms, symx, seval, c49, hva, hvv]
  repeat' ((first | ((with_reducible first | apply forkD | apply forkB | apply forkN | apply forkNP | apply forkNot) <;> intro _) | with_reducible_and_instances refine ixl_at (hl.mono z.inc) ds81 sz23 (by omega) hr (fun p b hsb hp => ?_) | with_reducible_and_instances refine ld_one hp ag23 ?_) <;> simp -implicitDefEqProofs only [syms, symx, seval, c49, hva, hvv])
  have hvb := vSelf b
  simp -implicitDefEqProofs only [syms, symx, seval, c49, hva, hvb, w_append, sty23]
  have hfl : (ls.take (i + 1)).flatten = (ls.take i).flatten ++ r := by rw [List.take_add_one, hr', List.flatten_append]; simp
  have hle : (ls.take i).flatten.length + r.length ≤ 900 := by
    have h1 : ls.flatten.length = (ls.take (i + 1)).flatten.length + (ls.drop (i + 1)).flatten.length := by rw [← List.length_append, ← List.flatten_append, List.take_append_drop]
    rw [hfl, List.length_append] at h1
    omega
  obtain ⟨news, hs, hsr⟩ := src_sl (A := A) (r := Rep.atom) (by decide) (hsb.lay [] h1'.low) (fun cs y hr => hr)
  have hfr := ho.fresh
  refine ap_rule (r := Rep.atom) ds23 tab_info39 rfl (by decide) hz ho hs hsr (by omega) (by omega) (fun w' h2 A' o2 c2 hA2 => ?_)
  replace z := (z.upW _ _ (by omega)).step c2 (by omega)
  rw [← hfl] at o2
  rw [lay_nil h2]
  have hva2 : ∀ (h : Heap) (K : Value → Heap → Prop), valE (some w') h K = K w' h := fun _ _ => rfl
  repeat' (first | simp -implicitDefEqProofs only [syms, symx, seval, c49, hva2] | ((with_reducible first | apply forkD | apply forkB | apply forkN | apply forkNP | apply forkNot) <;> intro _) | with_reducible_and_instances refine ixl_at (hl.mono z.inc) ds81 sz23 (by omega) hr (fun p b hsb hp => ?_) | with_reducible_and_instances refine ld_one hp ag23 ?_)
  rw [hw]
  (rw [hI1]; with_reducible refine loopN_normal (m := _) ?_ ⟨i + 1, w', A', _, rfl, z, ⟨rfl, by omega, o2⟩, junk (by kernel_rfl)⟩; omega)
end Go.Proofs.Ytompindebndddaa

/- A text put together piece by piece. No condition. -/
import Derived.Test.YtompindebndddaaG27
import Derived.Test.YtompindebndddaaG32
namespace Go.Am
open Go.Lib
set_option linter.unusedVariables false
set_option linter.unusedSimpArgs false
theorem jn_cons2 (n m : List UInt8) (ns : List (List UInt8)) : join (n :: m :: ns) commaB = n ++ (commaB ++ join (m :: ns) commaB) := by
  simp [join, List.intercalate]
theorem jn_one (n : List UInt8) : join [n] commaB = n := by simp [join, List.intercalate]
theorem join_snoc : ∀ (l : List (List UInt8)) (x : List UInt8), l ≠ [] → join (l ++ [x]) commaB = join l commaB ++ commaB ++ x
  | [], x, h => absurd rfl h
  | [a], x, _ => by
    rw [List.cons_append, List.nil_append, jn_cons2, jn_one, jn_one, List.append_assoc]
  | a :: b :: l, x, _ => by
    rw [List.cons_append, List.cons_append, jn_cons2, jn_cons2, ← List.cons_append, join_snoc (b :: l) x (by simp)]
    simp only [List.append_assoc]
def saidL (ns : List (List UInt8)) : List UInt8 := if ns = [] then [] else 40 :: join ns commaB
theorem saidL_one (x : List UInt8) : saidL [x] = [40] ++ x := by unfold saidL; rw [if_neg (by simp), jn_one]; rfl
theorem saidL_snoc {l : List (List UInt8)} (x : List UInt8) (h : l ≠ []) : saidL (l ++ [x]) = saidL l ++ commaB ++ x := by
  unfold saidL
  rw [if_neg (by simp), if_neg h, join_snoc l x h]
  rfl
theorem text_said (a : AtomD) : textL a = a.says.data.toList ++ saysB ++ (a.pred.data.toList ++ saidL (namesL a) ++ (if a.cnt = 0 then [] else [41])) := by
  have h1 : (namesL a = []) ↔ a.args = [] := by unfold namesL; rw [List.map_eq_nil_iff]
  have h2 : a.args = [] ↔ a.cnt = 0 := by rw [← List.length_eq_zero_iff, args_length]
  unfold textL saidL
  by_cases h : a.cnt = 0
  · rw [if_pos (h2.2 h), if_pos (h1.2 (h2.2 h)), if_pos h]
    simp only [List.append_assoc, List.append_nil]
  · have h3 : ¬ a.args = [] := fun e => h (h2.1 e)
    rw [if_neg h3, if_neg (fun e => h3 (h1.1 e)), if_neg h]
    simp only [List.append_assoc, List.cons_append, List.nil_append]
theorem names_at {a : AtomD} {i : Nat} (h : i < a.cnt) : (namesL a).take (i + 1) = (namesL a).take i ++ [(a.arg i).s.data.toList] := by
  have hc : a.cnt ≤ 4 := Nat.min_le_right _ _
  have e : a.args[i]? = some (a.arg i) := by
    unfold AtomD.args
    rw [List.getElem?_take, if_pos h]
    have : i = 0 ∨ i = 1 ∨ i = 2 ∨ i = 3 := by omega
    rcases this with rfl | rfl | rfl | rfl <;> rfl
  rw [List.take_add_one]
  congr 1
  unfold namesL
  rw [List.getElem?_map, e]
  rfl
theorem names_len (a : AtomD) : (namesL a).length = a.cnt := by unfold namesL; rw [List.length_map, args_length]
theorem less_cmp : ∀ a b : List UInt8, Op.bytesLess a b = decide (compareBytes a b < 0)
  | [], [] => by simp [Op.bytesLess, compareBytes]
  | [], _ :: _ => by simp [Op.bytesLess, compareBytes]
  | _ :: _, [] => by simp [Op.bytesLess, compareBytes]
  | a :: xs, b :: ys => by
    rw [compareBytes]
    unfold Op.bytesLess
    rw [less_cmp xs ys]
    by_cases h1 : a < b
    · simp [h1]
    · by_cases h2 : b < a
      · have h3 : a ≠ b := fun e => by subst e; exact u8_lt_irrefl a h2
        simp [h1, h2, h3]
      · have h3 := u8_eq_of h1 h2
        simp [h1, h2, h3]
theorem cmp_less (a b : List UInt8) : (Op.bytesLess a b = true ∧ compareBytes a b = -1) ∨ (Op.bytesLess a b = false ∧ Op.bytesLess b a = true ∧ compareBytes a b = 1) ∨ (Op.bytesLess a b = false ∧ Op.bytesLess b a = false ∧ compareBytes a b = 0) := by
  have h1 := less_cmp a b
  have h2 := less_cmp b a
  have h3 := cmp_anti a b
  rcases cmp_range a b with h | h | h
  · exact .inl ⟨by rw [h1, h]; rfl, h⟩
  · refine .inr (.inr ⟨by rw [h1, h]; rfl, ?_, h⟩)
    rw [h2, decide_eq_false_iff_not]
    omega
  · refine .inr (.inl ⟨by rw [h1, h]; rfl, ?_, h⟩)
    rw [h2, decide_eq_true_iff]
    omega
end Go.Am
namespace Go.Proofs.Ytompindebndddaa
open Go.Am
set_option linter.unusedSimpArgs false
set_option linter.unusedVariables false
set_option maxRecDepth 100000
set_option maxHeartbeats 0
theorem bin_slss {P : Program} {T : Tab} {t : TypeId} {a b : ByteArray} : binA P T .lss t (.string a) (.string b) = some (.bool (Op.bytesLess a.data.toList b.data.toList)) := by
  refine bin_str rfl ?_ rfl
  unfold Op.stringOp
  simp only [toList_data]
  rfl
theorem bin_sgtr {P : Program} {T : Tab} {t : TypeId} {a b : ByteArray} : binA P T .gtr t (.string a) (.string b) = some (.bool (!(Op.bytesLess a.data.toList b.data.toList || a.data.toList == b.data.toList))) := by
  refine bin_str rfl ?_ rfl
  unfold Op.stringOp
  simp only [toList_data]
  rfl
theorem cell_a2 (a : AtomD) : a.cells[2]? = some (.int .i64 a.n) := rfl
theorem ok_count (a : AtomD) (h : Heap) (K : Value → Heap → Prop) (hk : ∀ h', Ext h h' → K (.int .i64 (a.cnt : Nat)) h') : Ok Try.prog tab ov 165 [a.val] h K := by
  rw [lay_nil h]
  have z := Ext.refl h
  have e : ((a.cnt : Nat) : Int) = if 4 < (if a.n < 0 then 0 else a.n) then 4 else if a.n < 0 then 0 else a.n := by
    unfold AtomD.cnt
    split <;> split <;> (try split) <;> omega
  rw [e] at hk
  refine Ok.into rfl tab_fn165 (bodyF N165) rfl (m := 6) rfl ?_
  repeat' (first | simp -implicitDefEqProofs only [syms, symx, seval, c165, cells_atom, cell_a2] | ((with_reducible_and_instances apply min_int); (· rfl); (· rfl)) | ((with_reducible_and_instances apply max_int); (· rfl); (· rfl)))
  exact hk _ (z.upW _ _ (by omega))
theorem cut_argN (a : AtomD) (k : Nat) (hk : k < 4) : a.cells[3 + k * 2 + 1]? = some (.string (a.arg k).s) := by
  have : k = 0 ∨ k = 1 ∨ k = 2 ∨ k = 3 := by omega
  rcases this with rfl | rfl | rfl | rfl <;> rfl
theorem ok_said (a : AtomD) (ha : a.light = true) (h : Heap) (K : Value → Heap → Prop)
    (hk : ∀ h' (S : ByteArray), Ext h h' → S.data.toList = a.pred.data.toList ++ saidL (namesL a) ++ (if a.cnt = 0 then [] else [41]) → S.size ≤ 2000 → K (.string S) h') : Ok Try.prog tab ov 158 [a.val] h K := by
  rw [lay_nil h]
  have z := Ext.refl h
  obtain ⟨hs1, hs2⟩ := light_says ha
  have hc4 : a.cnt ≤ 4 := Nat.min_le_right _ _
  refine Ok.into rfl tab_fn158 (bodyF N158) rfl (m := 31) rfl ?_
  simp -implicitDefEqProofs only [syms, symx, seval, c158, cells_atom, cell_a1]
  refine W_fold (fun h' x hq => ?_)
  have q0 := hq 0 _ rfl
  clear hq
  (replace z := z.overW x (by (try simp only [lsz]); omega); rw [lay_nil h'])
  obtain ⟨I1, hI1⟩ : ∃ I : Nat → Env → Heap → Prop, I = (fun n e h' => ∃ (i : Nat) (S : ByteArray) (h1 : Heap), h' = h1.lay [] h1.low ∧ Ext h h1 ∧ (n = a.cnt - i ∧ i ≤ a.cnt ∧ S.data.toList = a.pred.data.toList ++ saidL ((namesL a).take i) ∧ S.size ≤ 300 + i * 310 ∧ Holds h1 (h.size + 0) (.row a.cells 39 false)) ∧ ∃ J : Nat → Value, e = (J 0 :: .pointer (some ⟨h.size + 0, 0, none⟩) :: J 2 :: .string S :: .int .i64 i :: jr J 5 27 ([]))) := ⟨_, rfl⟩
  refine W_loopN I1 _ (by rw [hI1]; exact ⟨0, a.pred, _, rfl, z, ⟨rfl, by omega, by simp [saidL], by omega, q0⟩, junk (by kernel_rfl)⟩) ?_
  intro n e h' hin
  rw [hI1] at hin
  obtain ⟨i, S, h1', rfl, z, hinv, J, rfl⟩ := hin
  clear q0
  obtain ⟨rfl, hi, hS, hSz, q0⟩ := hinv
  have hwi : IntKind.i64.wrap ((i : Int) + 1) = ((i + 1 : Nat) : Int) := by rw [wrap_i64 (by omega) (by omega)]; omega
  repeat' ( simp -implicitDefEqProofs only [syms, symx, seval, c158, q0.lay, ↓cut_atom, agg_atom, valE_atom])
  refine ok_count a _ _ (fun h' x => ?_)
  ((skip); replace z := z.overW x (by (try simp only [lsz]); omega); (try replace q0 := q0.over x); rw [lay_nil h'])
  simp -implicitDefEqProofs only [syms, symx, seval, c158, q0.lay, ↓cut_atom, agg_atom, valE_atom]
  refine forkD (fun hlt => ?_) (fun hlt => ?_)
  · have hin4 : (0 : Int) ≤ (i : Int) ∧ (i : Int) < 4 := by omega
    have hcell := cut_argN a i (by omega)
    have hnm := names_at (a := a) (i := i) (by omega)
    have hla := light_arg ha i
    simp -implicitDefEqProofs only [syms, symx, seval, c158]
    refine forkB (fun h0 => ?_) (fun h0 => ?_)
    · have h0 : i = 0 := by omega
      simp -implicitDefEqProofs only [syms, symx, seval, c158]
      refine cat_ruleX ?_ (fun S1 hS1 hz1 => ?_)
      · show S.size + 1 ≤ _
        omega
      repeat' ( simp -implicitDefEqProofs only [syms, symx, seval, c158, q0.lay, hin4, hcell, and_self, if_true])
      refine cat_ruleX ?_ (fun S2 hS2 hz2 => ?_)
      · rw [hz1]
        show S.size + 1 + _ ≤ _
        omega
      have hz3 : S2.size ≤ 300 + (i + 1) * 310 := by
        rw [hz2, hz1]
        show S.size + 1 + _ ≤ _
        omega
      have hS3 : S2.data.toList = a.pred.data.toList ++ saidL ((namesL a).take (i + 1)) := by
        rw [hS2, ba_app, hS1, ba_app, hS, hnm, h0, List.take_zero, List.nil_append, saidL_one]
        simp [saidL]
      repeat' ( simp -implicitDefEqProofs only [syms, symx, seval, c158])
      rw [hwi]
      (rw [hI1]; with_reducible refine loopN_normal (m := _) ?_ ⟨i + 1, S2, _, rfl, z, ⟨rfl, by omega, hS3, hz3, q0⟩, junk (by kernel_rfl)⟩; omega)
    · have h0 : i ≠ 0 := by omega
      simp -implicitDefEqProofs only [syms, symx, seval, c158]
      refine cat_ruleX ?_ (fun S1 hS1 hz1 => ?_)
      · show S.size + 2 ≤ _
        omega
      repeat' ( simp -implicitDefEqProofs only [syms, symx, seval, c158, q0.lay, hin4, hcell, and_self, if_true])
      refine cat_ruleX ?_ (fun S2 hS2 hz2 => ?_)
      · rw [hz1]
        show S.size + 2 + _ ≤ _
        omega
      have hz3 : S2.size ≤ 300 + (i + 1) * 310 := by
        rw [hz2, hz1]
        show S.size + 2 + _ ≤ _
        omega
      have hS3 : S2.data.toList = a.pred.data.toList ++ saidL ((namesL a).take (i + 1)) := by
        have hne : (namesL a).take i ≠ [] := fun e => by
          have := congrArg List.length e
          rw [List.length_take, names_len, List.length_nil] at this
          omega
        rw [hS2, ba_app, hS1, ba_app, hS, hnm, saidL_snoc _ hne]
        simp only [List.append_assoc]
        rfl
      repeat' ( simp -implicitDefEqProofs only [syms, symx, seval, c158])
      rw [hwi]
      (rw [hI1]; with_reducible refine loopN_normal (m := _) ?_ ⟨i + 1, S2, _, rfl, z, ⟨rfl, by omega, hS3, hz3, q0⟩, junk (by kernel_rfl)⟩; omega)
  have hin : i = a.cnt := by omega
  rw [List.take_of_length_le (by rw [names_len]; omega)] at hS
  repeat' ( simp -implicitDefEqProofs only [syms, symx, seval, c158, q0.lay, ↓cut_atom, agg_atom, valE_atom])
  refine ok_count a _ _ (fun h' x => ?_)
  ((skip); replace z := z.overW x (by (try simp only [lsz]); omega); (try replace q0 := q0.over x); rw [lay_nil h'])
  simp -implicitDefEqProofs only [syms, symx, seval, c158]
  refine forkD (fun hpos => ?_) (fun hpos => ?_)
  · repeat' ( simp -implicitDefEqProofs only [syms, symx, seval, c158])
    refine cat_ruleX ?_ (fun S1 hS1 hz1 => ?_)
    · show S.size + 1 ≤ _
      omega
    repeat' ( simp -implicitDefEqProofs only [syms, symx, seval, c158])
    refine hk _ S1 (z.upW _ _ (by omega)) ?_ (by rw [hz1]; show S.size + 1 ≤ _; omega)
    rw [hS1, ba_app, hS, if_neg (by omega)]
  · repeat' ( simp -implicitDefEqProofs only [syms, symx, seval, c158])
    refine hk _ S (z.upW _ _ (by omega)) ?_ (by omega)
    rw [hS, if_pos (by omega), List.append_nil]
theorem ok_textR (a : AtomD) (ha : a.light = true) (h : Heap) (K : Value → Heap → Prop)
    (hk : ∀ h', Ext h h' → K (.string ⟨(textL a).toArray⟩) h') : Ok Try.prog tab ov 115 [a.val] h K := by
  rw [lay_nil h]
  have z := Ext.refl h
  obtain ⟨hs1, hs2⟩ := light_says ha
  refine Ok.into rfl tab_fn115 (bodyF N115) rfl (m := 8) rfl ?_
  repeat' ( simp -implicitDefEqProofs only [syms, symx, seval, c115, cells_atom, cell_a0])
  refine (drawN (by simp only [c115])) (z.upW _ _ (by omega)) ?_
  simp -implicitDefEqProofs only [syms, symx, seval, c115, cell_a0, ↓cut_atom, agg_atom, valE_atom]
  refine cat_ruleX ?_ (fun S1 hS1 hz1 => ?_)
  · show a.says.size + 6 ≤ _
    omega
  simp -implicitDefEqProofs only [syms, symx, seval, c115, ↓cut_atom, agg_atom, valE_atom]
  refine ok_said a ha _ _ (fun h' S x hS hSz => ?_)
  (( ((with_reducible refine KOpsX_call ?_ ?_ ?_); (· exact (by (try simp only [lsz]); have := z.size; omega)); (·  exact x )) ); replace z := z.overW x (by (try simp only [lsz]); omega); rw [lay_nil h'])
  simp -implicitDefEqProofs only [syms, symx, seval, c115]
  refine cat_ruleX ?_ (fun S2 hS2 hz2 => ?_)
  · rw [hz1]
    show a.says.size + 6 + _ ≤ _
    omega
  have hS3 : S2 = ⟨(textL a).toArray⟩ := ba_mk (by rw [hS2, ba_app, hS1, ba_app, hS, text_said]; rfl)
  repeat' (first | simp -implicitDefEqProofs only [syms, symx, seval, c115] | ((with_reducible refine ⟨z.grw.lay _ _, ?_⟩); (intro _ h' zz x _); (try simp only [lay_lay, List.append_nil] at x); (replace z := zz); (clear zz); rw [lay_nil h']))
  rw [hS3]
  exact hk _ (z.upW _ _ (by omega))
theorem ok_cmpR (a b : AtomD) (ha : a.light = true) (hb : b.light = true) (h : Heap) (K : Value → Heap → Prop)
    (hk : ∀ h', Ext h h' → K (.int .i64 (cmpD a b)) h') : Ok Try.prog tab ov 51 [a.val, b.val] h K := by
  rw [lay_nil h]
  have z := Ext.refl h
  refine Ok.into rfl tab_fn51 (bodyF N51) rfl (m := 17) rfl ?_
  repeat' ( simp -implicitDefEqProofs only [syms, symx, seval, c51, cells_atom])
  refine (drawN (by simp only [c51])) (z.upW _ _ (by omega)) ?_
  simp -implicitDefEqProofs only [syms, symx, seval, c51, ↓cut_atom, agg_atom, valE_atom]
  refine ok_textR a ha _ _ (fun h' x => ?_)
  have q1 := Holds.top (i := 1) x rfl
  (( ((with_reducible refine KOpsX_call ?_ ?_ ?_); (· exact (by (try simp only [lsz]); have := z.size; omega)); (·  exact x )) ); replace z := z.overW x (by (try simp only [lsz]); omega); rw [lay_nil h'])
  repeat' ( simp -implicitDefEqProofs only [syms, symx, seval, c51, q1.lay, ↓cut_atom, agg_atom, valE_atom])
  refine ok_textR b hb _ _ (fun h' x => ?_)
  (( ((with_reducible refine KOpsX_call ?_ ?_ ?_); (· exact (by (try simp only [lsz]); have := z.size; omega)); (·  exact x )) ); replace z := z.overW x (by (try simp only [lsz]); omega); rw [lay_nil h'])
  repeat' (first | simp -implicitDefEqProofs only [syms, symx, seval, c51] | ((with_reducible refine ⟨z.grw.lay _ _, ?_⟩); (intro _ h' zz x _); (try simp only [lay_lay, List.append_nil] at x); (replace z := zz); (clear zz); rw [lay_nil h']))
  have hc : cmpD a b = Lib.compareBytes (textL a) (textL b) := rfl
  rw [hc] at hk
  rcases cmp_less (textL a) (textL b) with ⟨h1, h2⟩ | ⟨h1, h3, h2⟩ | ⟨h1, h3, h2⟩
  · rw [h2] at hk
    repeat' ( simp -implicitDefEqProofs only [syms, symx, seval, c51, bin_slss, h1])
    exact hk _ (z.upW _ _ (by omega))
  · rw [h2] at hk
    have h4 : (textL a == textL b) = false := by
      cases e : textL a == textL b
      · rfl
      · have e2 : textL a = textL b := by simpa using e
        rw [e2, cmp_self] at h2
        cases h2
    repeat' ( simp -implicitDefEqProofs only [syms, symx, seval, c51, bin_slss, bin_sgtr, h1, h4, Bool.or_false, Bool.not_false])
    exact hk _ (z.upW _ _ (by omega))
  · rw [h2] at hk
    have h4 : (textL a == textL b) = true := by
      rw [cmp_zero h2]
      simp
    repeat' ( simp -implicitDefEqProofs only [syms, symx, seval, c51, bin_slss, bin_sgtr, h1, h4, Bool.or_true, Bool.not_true])
    exact hk _ (z.upW _ _ (by omega))
end Go.Proofs.Ytompindebndddaa

/- A text put together piece by piece. No condition. -/
import Derived.Test.YtompindebndddaaG21
import Derived.Test.YtompindebndddaaG39
import Derived.Test.YtompindebndddaaZK8
import Derived.Test.YtompindebndddaaG41
import Derived.Test.YtompindebndddaaGMergeR
import Derived.Test.YtompindebndddaaG47
import Derived.Test.YtompindebndddaaG26
import Derived.Test.YtompindebndddaaRows
namespace Go.Am
open Go.Lib
set_option linter.unusedVariables false
set_option linter.unusedSimpArgs false
theorem jn_cons2 (n m : List UInt8) (ns : List (List UInt8)) : join (n :: m :: ns) commaB = n ++ (commaB ++ join (m :: ns) commaB) := by
  simp [join, List.intercalate]
theorem jn_one (n : List UInt8) : join [n] commaB = n := by simp [join, List.intercalate]
theorem join_snoc : ∀ (l : List (List UInt8)) (x : List UInt8), l ≠ [] → join (l ++ [x]) commaB = join l commaB ++ commaB ++ x
  | [], x, h => absurd rfl h
  | [a], x, _ => by
    rw [List.cons_append, List.nil_append, jn_cons2, jn_one, jn_one, List.append_assoc]
  | a :: b :: l, x, _ => by
    rw [List.cons_append, List.cons_append, jn_cons2, jn_cons2, ← List.cons_append, join_snoc (b :: l) x (by simp)]
    simp only [List.append_assoc]
def saidL (ns : List (List UInt8)) : List UInt8 := if ns = [] then [] else 40 :: join ns commaB
theorem saidL_one (x : List UInt8) : saidL [x] = [40] ++ x := by unfold saidL; rw [if_neg (by simp), jn_one]; rfl
theorem saidL_snoc {l : List (List UInt8)} (x : List UInt8) (h : l ≠ []) : saidL (l ++ [x]) = saidL l ++ commaB ++ x := by
  unfold saidL
  rw [if_neg (by simp), if_neg h, join_snoc l x h]
  rfl
theorem text_said (a : AtomD) : textL a = a.says.data.toList ++ saysB ++ (a.pred.data.toList ++ saidL (namesL a) ++ (if a.cnt = 0 then [] else [41])) := by
  have h1 : (namesL a = []) ↔ a.args = [] := by unfold namesL; rw [List.map_eq_nil_iff]
  have h2 : a.args = [] ↔ a.cnt = 0 := by rw [← List.length_eq_zero_iff, args_length]
  unfold textL saidL
  by_cases h : a.cnt = 0
  · rw [if_pos (h2.2 h), if_pos (h1.2 (h2.2 h)), if_pos h]
    simp only [List.append_assoc, List.append_nil]
  · have h3 : ¬ a.args = [] := fun e => h (h2.1 e)
    rw [if_neg h3, if_neg (fun e => h3 (h1.1 e)), if_neg h]
    simp only [List.append_assoc, List.cons_append, List.nil_append]
theorem names_at {a : AtomD} {i : Nat} (h : i < a.cnt) : (namesL a).take (i + 1) = (namesL a).take i ++ [(a.arg i).s.data.toList] := by
  have hc : a.cnt ≤ 4 := Nat.min_le_right _ _
  have e : a.args[i]? = some (a.arg i) := by
    unfold AtomD.args
    rw [List.getElem?_take, if_pos h]
    have : i = 0 ∨ i = 1 ∨ i = 2 ∨ i = 3 := by omega
    rcases this with rfl | rfl | rfl | rfl <;> rfl
  rw [List.take_add_one]
  congr 1
  unfold namesL
  rw [List.getElem?_map, e]
  rfl
theorem names_len (a : AtomD) : (namesL a).length = a.cnt := by unfold namesL; rw [List.length_map, args_length]
theorem less_cmp : ∀ a b : List UInt8, Op.bytesLess a b = decide (compareBytes a b < 0)
  | [], [] => by simp [Op.bytesLess, compareBytes]
  | [], _ :: _ => by simp [Op.bytesLess, compareBytes]
  | _ :: _, [] => by simp [Op.bytesLess, compareBytes]
  | a :: xs, b :: ys => by
    rw [compareBytes]
    unfold Op.bytesLess
    rw [less_cmp xs ys]
    by_cases h1 : a < b
    · simp [h1]
    · by_cases h2 : b < a
      · have h3 : a ≠ b := fun e => by subst e; exact u8_lt_irrefl a h2
        simp [h1, h2, h3]
      · have h3 := u8_eq_of h1 h2
        simp [h1, h2, h3]
theorem cmp_less (a b : List UInt8) : (Op.bytesLess a b = true ∧ compareBytes a b = -1) ∨ (Op.bytesLess a b = false ∧ Op.bytesLess b a = true ∧ compareBytes a b = 1) ∨ (Op.bytesLess a b = false ∧ Op.bytesLess b a = false ∧ compareBytes a b = 0) := by
  have h1 := less_cmp a b
  have h2 := less_cmp b a
  have h3 := cmp_anti a b
  rcases cmp_range a b with h | h | h
  · exact .inl ⟨by rw [h1, h]; rfl, h⟩
  · refine .inr (.inr ⟨by rw [h1, h]; rfl, ?_, h⟩)
    rw [h2, decide_eq_false_iff_not]
    omega
  · refine .inr (.inl ⟨by rw [h1, h]; rfl, ?_, h⟩)
    rw [h2, decide_eq_true_iff]
    omega
end Go.Am
namespace Go.Proofs.Ytompindebndddaa
open Go.Am
set_option linter.unusedSimpArgs false
set_option linter.unusedVariables false
set_option maxRecDepth 100000
set_option maxHeartbeats 0
theorem bin_slss {P : Program} {T : Tab} {t : TypeId} {a b : ByteArray} : binA P T .lss t (.string a) (.string b) = some (.bool (Op.bytesLess a.data.toList b.data.toList)) := by
  refine bin_str rfl ?_ rfl
  unfold Op.stringOp
  simp only [toList_data]
  rfl
theorem bin_sgtr {P : Program} {T : Tab} {t : TypeId} {a b : ByteArray} : binA P T .gtr t (.string a) (.string b) = some (.bool (!(Op.bytesLess a.data.toList b.data.toList || a.data.toList == b.data.toList))) := by
  refine bin_str rfl ?_ rfl
  unfold Op.stringOp
  simp only [toList_data]
  rfl
theorem cell_a2 (a : AtomD) : a.cells[2]? = some (.int .i64 a.n) := rfl
theorem ok_count (a : AtomD) (h : Heap) (K : Value → Heap → Prop) (hk : ∀ h', Ext h h' → K (.int .i64 (a.cnt : Nat)) h') : Ok Try.prog tab ov 165 [a.val] h K := by
  rw [lay_nil h]
  have z := Ext.refl h
  have e : ((a.cnt : Nat) : Int) = if 4 < (if a.n < 0 then 0 else a.n) then 4 else if a.n < 0 then 0 else a.n := by
    unfold AtomD.cnt
    split <;> split <;> (try split) <;> omega
  rw [e] at hk
  refine Ok.into rfl tab_fn165 (bodyF N165) rfl (m := 6) rfl ?_
  repeat' (first | simp -implicitDefEqProofs only [syms, symx, seval, c165, cells_atom, cell_a2] | ((with_reducible_and_instances apply min_int); (· rfl); (· rfl)) | ((with_reducible_and_instances apply max_int); (· rfl); (· rfl)))
  exact hk _ (z.upW _ _ (by omega))
theorem cut_argN (a : AtomD) (k : Nat) (hk : k < 4) : a.cells[3 + k * 2 + 1]? = some (.string (a.arg k).s) := by
  have : k = 0 ∨ k = 1 ∨ k = 2 ∨ k = 3 := by omega
  rcases this with rfl | rfl | rfl | rfl <;> rfl
theorem ok_said (a : AtomD) (ha : a.light = true) (h : Heap) (K : Value → Heap → Prop)
    (hk : ∀ h' (S : ByteArray), Ext h h' → S.data.toList = a.pred.data.toList ++ saidL (namesL a) ++ (if a.cnt = 0 then [] else [41]) → S.size ≤ 2000 → K (.string S) h') : Ok Try.prog tab ov 158 [a.val] h K := by
  rw [lay_nil h]
  have z := Ext.refl h
  obtain ⟨hs1, hs2⟩ := light_says ha
  have hc4 : a.cnt ≤ 4 := Nat.min_le_right _ _
  refine Ok.into rfl tab_fn158 (bodyF N158) rfl (m := 31) rfl ?_
  simp -implicitDefEqProofs only [syms, symx, seval, c158, cells_atom, cell_a1]
  refine W_fold (fun h' x hq => ?_)
  have q0 := hq 0 _ rfl
  clear hq
  (replace z := z.overW x (by (try simp only [lsz]); omega); rw [lay_nil h'])
  obtain ⟨I1, hI1⟩ : ∃ I : Nat → Env → Heap → Prop, I = (fun n e h' => ∃ (i : Nat) (S : ByteArray) (h1 : Heap), h' = h1.lay [] h1.low ∧ Ext h h1 ∧ (n = a.cnt - i ∧ i ≤ a.cnt ∧ S.data.toList = a.pred.data.toList ++ saidL ((namesL a).take i) ∧ S.size ≤ 300 + i * 310 ∧ Holds h1 (h.size + 0) (.row a.cells 39 false)) ∧ ∃ J : Nat → Value, e = (J 0 :: .pointer (some ⟨h.size + 0, 0, none⟩) :: J 2 :: .string S :: .int .i64 i :: jr J 5 27 ([]))) := ⟨_, rfl⟩
  refine W_loopN I1 _ (by rw [hI1]; exact ⟨0, a.pred, _, rfl, z, ⟨rfl, by omega, by simp [saidL], by omega, q0⟩, junk (by kernel_rfl)⟩) ?_
  intro n e h' hin
  rw [hI1] at hin
  obtain ⟨i, S, h1', rfl, z, hinv, J, rfl⟩ := hin
  clear q0
  obtain ⟨rfl, hi, hS, hSz, q0⟩ := hinv
  have hwi : IntKind.i64.wrap ((i : Int) + 1) = ((i + 1 : Nat) : Int) := by rw [wrap_i64 (by omega) (by omega)]; omega
  repeat' ( simp -implicitDefEqProofs only [syms, symx, seval, c158, q0.lay, ↓cut_atom, agg_atom, valE_atom])
  refine ok_count a _ _ (fun h' x => ?_)
  ((skip); replace z := z.overW x (by (try simp only [lsz]); omega); (try replace q0 := q0.over x); rw [lay_nil h'])
  simp -implicitDefEqProofs only [syms, symx, seval, c158, q0.lay, ↓cut_atom, agg_atom, valE_atom]
  refine forkD (fun hlt => ?_) (fun hlt => ?_)
  · have hin4 : (0 : Int) ≤ (i : Int) ∧ (i : Int) < 4 := by omega
    have hcell := cut_argN a i (by omega)
    have hnm := names_at (a := a) (i := i) (by omega)
    have hla := light_arg ha i
    simp -implicitDefEqProofs only [syms, symx, seval, c158]
    refine forkB (fun h0 => ?_) (fun h0 => ?_)
    · have h0 : i = 0 := by omega
      simp -implicitDefEqProofs only [syms, symx, seval, c158]
      refine cat_ruleX ?_ (fun S1 hS1 hz1 => ?_)
      · show S.size + 1 ≤ _
        omega
      repeat' ( simp -implicitDefEqProofs only [syms, symx, seval, c158, q0.lay, hin4, hcell, and_self, if_true])
      refine cat_ruleX ?_ (fun S2 hS2 hz2 => ?_)
      · rw [hz1]
        show S.size + 1 + _ ≤ _
        omega
      have hz3 : S2.size ≤ 300 + (i + 1) * 310 := by
        rw [hz2, hz1]
        show S.size + 1 + _ ≤ _
        omega
      have hS3 : S2.data.toList = a.pred.data.toList ++ saidL ((namesL a).take (i + 1)) := by
        rw [hS2, ba_app, hS1, ba_app, hS, hnm, h0, List.take_zero, List.nil_append, saidL_one]
        simp [saidL]
      repeat' ( simp -implicitDefEqProofs only [syms, symx, seval, c158])
      rw [hwi]
      (rw [hI1]; with_reducible refine loopN_normal (m := _) ?_ ⟨i + 1, S2, _, rfl, z, ⟨rfl, by omega, hS3, hz3, q0⟩, junk (by kernel_rfl)⟩; omega)
    · have h0 : i ≠ 0 := by omega
      simp -implicitDefEqProofs only [syms, symx, seval, c158]
      refine cat_ruleX ?_ (fun S1 hS1 hz1 => ?_)
      · show S.size + 2 ≤ _
        omega
      repeat' ( simp -implicitDefEqProofs only [syms, symx, seval, c158, q0.lay, hin4, hcell, and_self, if_true])
      refine cat_ruleX ?_ (fun S2 hS2 hz2 => ?_)
      · rw [hz1]
        show S.size + 2 + _ ≤ _
        omega
      have hz3 : S2.size ≤ 300 + (i + 1) * 310 := by
        rw [hz2, hz1]
        show S.size + 2 + _ ≤ _
        omega
      have hS3 : S2.data.toList = a.pred.data.toList ++ saidL ((namesL a).take (i + 1)) := by
        have hne : (namesL a).take i ≠ [] := fun e => by
          have := congrArg List.length e
          rw [List.length_take, names_len, List.length_nil] at this
          omega
        rw [hS2, ba_app, hS1, ba_app, hS, hnm, saidL_snoc _ hne]
        simp only [List.append_assoc]
        rfl
      repeat' ( simp -implicitDefEqProofs only [syms, symx, seval, c158])
      rw [hwi]
      (rw [hI1]; with_reducible refine loopN_normal (m := _) ?_ ⟨i + 1, S2, _, rfl, z, ⟨rfl, by omega, hS3, hz3, q0⟩, junk (by kernel_rfl)⟩; omega)
  have hin : i = a.cnt := by omega
  rw [List.take_of_length_le (by rw [names_len]; omega)] at hS
  repeat' ( simp -implicitDefEqProofs only [syms, symx, seval, c158, q0.lay, ↓cut_atom, agg_atom, valE_atom])
  refine ok_count a _ _ (fun h' x => ?_)
  ((skip); replace z := z.overW x (by (try simp only [lsz]); omega); (try replace q0 := q0.over x); rw [lay_nil h'])
  simp -implicitDefEqProofs only [syms, symx, seval, c158]
  refine forkD (fun hpos => ?_) (fun hpos => ?_)
  · repeat' ( simp -implicitDefEqProofs only [syms, symx, seval, c158])
    refine cat_ruleX ?_ (fun S1 hS1 hz1 => ?_)
    · show S.size + 1 ≤ _
      omega
    repeat' ( simp -implicitDefEqProofs only [syms, symx, seval, c158])
    refine hk _ S1 (z.upW _ _ (by omega)) ?_ (by rw [hz1]; show S.size + 1 ≤ _; omega)
    rw [hS1, ba_app, hS, if_neg (by omega)]
  · repeat' ( simp -implicitDefEqProofs only [syms, symx, seval, c158])
    refine hk _ S (z.upW _ _ (by omega)) ?_ (by omega)
    rw [hS, if_pos (by omega), List.append_nil]
theorem ok_textR (a : AtomD) (ha : a.light = true) (h : Heap) (K : Value → Heap → Prop)
    (hk : ∀ h', Ext h h' → K (.string ⟨(textL a).toArray⟩) h') : Ok Try.prog tab ov 115 [a.val] h K := by
  rw [lay_nil h]
  have z := Ext.refl h
  obtain ⟨hs1, hs2⟩ := light_says ha
  refine Ok.into rfl tab_fn115 (bodyF N115) rfl (m := 8) rfl ?_
  repeat' ( simp -implicitDefEqProofs only [syms, symx, seval, c115, cells_atom, cell_a0])
  refine (drawN (by simp only [c115])) (z.upW _ _ (by omega)) ?_
  simp -implicitDefEqProofs only [syms, symx, seval, c115, cell_a0, ↓cut_atom, agg_atom, valE_atom]
  refine cat_ruleX ?_ (fun S1 hS1 hz1 => ?_)
  · show a.says.size + 6 ≤ _
    omega
  simp -implicitDefEqProofs only [syms, symx, seval, c115, ↓cut_atom, agg_atom, valE_atom]
  refine ok_said a ha _ _ (fun h' S x hS hSz => ?_)
  (( ((with_reducible refine KOpsX_call ?_ ?_ ?_); (· exact (by (try simp only [lsz]); have := z.size; omega)); (·  exact x )) ); replace z := z.overW x (by (try simp only [lsz]); omega); rw [lay_nil h'])
  simp -implicitDefEqProofs only [syms, symx, seval, c115]
  refine cat_ruleX ?_ (fun S2 hS2 hz2 => ?_)
  · rw [hz1]
    show a.says.size + 6 + _ ≤ _
    omega
  have hS3 : S2 = ⟨(textL a).toArray⟩ := ba_mk (by rw [hS2, ba_app, hS1, ba_app, hS, text_said]; rfl)
  repeat' (first | simp -implicitDefEqProofs only [syms, symx, seval, c115] | ((with_reducible refine ⟨z.grw.lay _ _, ?_⟩); (intro _ h' zz x _); (try simp only [lay_lay, List.append_nil] at x); (replace z := zz); (clear zz); rw [lay_nil h']))
  rw [hS3]
  exact hk _ (z.upW _ _ (by omega))
theorem ok_cmpR (a b : AtomD) (ha : a.light = true) (hb : b.light = true) (h : Heap) (K : Value → Heap → Prop)
    (hk : ∀ h', Ext h h' → K (.int .i64 (cmpD a b)) h') : Ok Try.prog tab ov 51 [a.val, b.val] h K := by
  rw [lay_nil h]
  have z := Ext.refl h
  refine Ok.into rfl tab_fn51 (bodyF N51) rfl (m := 17) rfl ?_
  repeat' ( simp -implicitDefEqProofs only [syms, symx, seval, c51, cells_atom])
  refine (drawN (by simp only [c51])) (z.upW _ _ (by omega)) ?_
  simp -implicitDefEqProofs only [syms, symx, seval, c51, ↓cut_atom, agg_atom, valE_atom]
  refine ok_textR a ha _ _ (fun h' x => ?_)
  have q1 := Holds.top (i := 1) x rfl
  (( ((with_reducible refine KOpsX_call ?_ ?_ ?_); (· exact (by (try simp only [lsz]); have := z.size; omega)); (·  exact x )) ); replace z := z.overW x (by (try simp only [lsz]); omega); rw [lay_nil h'])
  repeat' ( simp -implicitDefEqProofs only [syms, symx, seval, c51, q1.lay, ↓cut_atom, agg_atom, valE_atom])
  refine ok_textR b hb _ _ (fun h' x => ?_)
  (( ((with_reducible refine KOpsX_call ?_ ?_ ?_); (· exact (by (try simp only [lsz]); have := z.size; omega)); (·  exact x )) ); replace z := z.overW x (by (try simp only [lsz]); omega); rw [lay_nil h'])
  repeat' (first | simp -implicitDefEqProofs only [syms, symx, seval, c51] | ((with_reducible refine ⟨z.grw.lay _ _, ?_⟩); (intro _ h' zz x _); (try simp only [lay_lay, List.append_nil] at x); (replace z := zz); (clear zz); rw [lay_nil h']))
  have hc : cmpD a b = Lib.compareBytes (textL a) (textL b) := rfl
  rw [hc] at hk
  rcases cmp_less (textL a) (textL b) with ⟨h1, h2⟩ | ⟨h1, h3, h2⟩ | ⟨h1, h3, h2⟩
  · rw [h2] at hk
    repeat' ( simp -implicitDefEqProofs only [syms, symx, seval, c51, bin_slss, h1])
    exact hk _ (z.upW _ _ (by omega))
  · rw [h2] at hk
    have h4 : (textL a == textL b) = false := by
      cases e : textL a == textL b
      · rfl
      · have e2 : textL a = textL b := by simpa using e
        rw [e2, cmp_self] at h2
        cases h2
    repeat' ( simp -implicitDefEqProofs only [syms, symx, seval, c51, bin_slss, bin_sgtr, h1, h4, Bool.or_false, Bool.not_false])
    exact hk _ (z.upW _ _ (by omega))
  · rw [h2] at hk
    have h4 : (textL a == textL b) = true := by
      rw [cmp_zero h2]
      simp
    repeat' ( simp -implicitDefEqProofs only [syms, symx, seval, c51, bin_slss, bin_sgtr, h1, h4, Bool.or_true, Bool.not_true])
    exact hk _ (z.upW _ _ (by omega))
theorem ok_hasR (l : List AtomD) (a : AtomD) (v : Value) (h : Heap) (hl : Sl Rep.atom h v l) (hn : l.length ≤ 100000) (hlt : ∀ x ∈ l, x.light = true) (ha : a.light = true) (K : Value → Heap → Prop)
    (hk : ∀ h', Ext h h' → K (.bool (hasA l a)) h') : Ok Try.prog tab ov 20 [v, a.val] h K := by
  rw [lay_nil h]
  have z := Ext.refl h
  have hva := vSelf v
  have hln := fun (hh : Heap) => hl.lenA ds23 hh
  refine Ok.into rfl tab_fn20 (bodyF N20) rfl (m := 17) rfl ?_
  simp -implicitDefEqProofs only [syms, symx, seval, c20, cells_atom, hva]
  refine W_fold (fun h' x hq => ?_)
  have q0 := hq 0 _ rfl
  clear hq
  (replace z := z.overW x (by (try simp only [lsz]); omega); rw [lay_nil h'])
  obtain ⟨I1, hI1⟩ : ∃ I : Nat → Env → Heap → Prop, I = (fun n e h' => ∃ (i : Nat) (h1 : Heap), h' = h1.lay [] h1.low ∧ Ext h h1 ∧ (n = l.length - i ∧ i ≤ l.length ∧ (∀ x ∈ l.take i, ¬ textL x = textL a) ∧ Holds h1 (h.size + 0) (.row a.cells 39 false)) ∧ ∃ J : Nat → Value, e = (v :: jr J 1 2 (.pointer (some ⟨h.size + 0, 0, none⟩) :: J 4 :: .int .i64 i :: jr J 6 13 ([])))) := ⟨_, rfl⟩
  refine W_loopN I1 _ (by rw [hI1]; exact ⟨0, _, rfl, z, ⟨rfl, by omega, by simp, q0⟩, junk (by kernel_rfl)⟩) ?_
  intro n e h' hin
  rw [hI1] at hin
  obtain ⟨i, h1', rfl, z, hinv, J, rfl⟩ := hin
  clear q0
  obtain ⟨rfl, hi, hno, q0⟩ := hinv
  have hwi : IntKind.i64.wrap ((i : Int) + 1) = ((i + 1 : Nat) : Int) := by rw [wrap_i64 (by omega) (by omega)]; omega
  simp -implicitDefEqProofs only [syms, symx, seval, c20, hva, hln]
  refine forkD (fun hlt1 => ?_) (fun hlt1 => ?_)
  rotate_left
  · rw [List.take_of_length_le (by omega)] at hno
    have e : hasA l a = false := by
      cases e : hasA l a
      · rfl
      · obtain ⟨x, hx, e2⟩ := hasA_iff.1 e
        exact absurd e2 (hno x hx)
    rw [e] at hk
    repeat' ( simp -implicitDefEqProofs only [syms, symx, seval, c20, hva])
    exact hk _ (z.upW _ _ (by omega))
  have hr : l[(i : Int).toNat]? = some (l.getD i noAtomD) := getD_at (by omega)
  have hmem : l.getD i noAtomD ∈ l := List.mem_of_getElem? hr
  simp -implicitDefEqProofs only [syms, symx, seval, c20, hva]
  with_reducible first | refine drawN (by simp only [c20]) (z.upW _ _ (by omega)) ?_
  simp -implicitDefEqProofs only [syms, symx, seval, c20, hva]
  repeat' ((first | with_reducible_and_instances refine ixa_at (hl.mono z.inc) ds23 sz39 (by omega) hr (fun p hp => ?_) | with_reducible_and_instances refine lda hp ag39 sz39 ?_) <;> simp -implicitDefEqProofs only [syms, symx, seval, c20, hva, q0.lay, cells_atom, ↓cut_atom, agg_atom, valE_atom])
  refine ok_cmpR _ a (hlt _ hmem) ha _ _ (fun h' x => ?_)
  (( ((with_reducible refine KOpsX_call ?_ ?_ ?_); (· exact (by (try simp only [lsz]); have := z.size; omega)); (·  exact x )) ); replace z := z.overW x (by (try simp only [lsz]); omega); (try replace q0 := q0.over x); rw [lay_nil h'])
  simp -implicitDefEqProofs only [syms, symx, seval, c20]
  refine forkB (fun hc => ?_) (fun hc => ?_)
  · have e : hasA l a = true := hasA_iff.2 ⟨_, hmem, cmpD_zero.1 hc⟩
    rw [e] at hk
    repeat' (first | simp -implicitDefEqProofs only [syms, symx, seval, c20] | ((with_reducible refine ⟨z.grw.lay _ _, ?_⟩); (intro _ h' zz x _); (try simp only [lay_lay, List.append_nil] at x); (try replace q0 := q0.over x); (replace z := zz); (clear zz); rw [lay_nil h']))
    exact hk _ (z.upW _ _ (by omega))
  · have hc2 : ¬ textL (l.getD i noAtomD) = textL a := fun e => absurd (cmpD_zero.2 e) hc
    have hno2 := take_all (i := i) (P := fun x : AtomD => ¬ textL x = textL a) (getD_at (l := l) (i := i) (by omega)) hno hc2
    repeat' (first | simp -implicitDefEqProofs only [syms, symx, seval, c20] | ((with_reducible refine ⟨z.grw.lay _ _, ?_⟩); (intro _ h' zz x _); (try simp only [lay_lay, List.append_nil] at x); (try replace q0 := q0.over x); (replace z := zz); (clear zz); rw [lay_nil h']))
    rw [hwi]
    (rw [hI1]; with_reducible refine loopN_normal (m := _) ?_ ⟨i + 1, _, rfl, z, ⟨rfl, by omega, hno2, q0⟩, junk (by kernel_rfl)⟩; omega)
theorem amInc_chg {a b d : Heap} {A : Nat} (i : Inc a b) (c : Chg A b d) (hA : a.size ≤ A) : Inc a d := ⟨Nat.le_trans i.size c.size, fun B hB hd => (c.get B (Nat.lt_of_lt_of_le hB i.size) (by omega)).trans (i.get B hB hd)⟩
theorem half_lo {n : Nat} (h : 2 ≤ n) : n / 2 < n ∧ 0 < n / 2 ∧ n - n / 2 < n := by omega
theorem ok_sortedR : ∀ (k : Nat) (l : List AtomD) (v : Value) (h : Heap), l.length ≤ k → Sl Rep.atom h v l → l.length ≤ 2000 → (∀ x ∈ l, x.light = true) → ∀ (K : Value → Heap → Prop),
    (∀ h' w, Ext h h' → OwnX h h' 39 w (sortA l) → K w h') → Ok Try.prog tab ov 50 [v] h K
  | k, l, v, h, hkl, hl, hn, hlt, K, hk => by
    rw [lay_nil h]
    have z := Ext.refl h
    have hva := vSelf v
    have hln := fun (hh : Heap) => hl.lenA ds23 hh
    refine Ok.into rfl tab_fn50 (bodyF N50) rfl (m := 68) rfl ?_
    simp -implicitDefEqProofs only [syms, symx, seval, c50, hva, hln]
    refine forkD (fun hlt2 => ?_) (fun hlt2 => ?_)
    · repeat' ( simp -implicitDefEqProofs only [syms, symx, seval, c50, hva])
      simp -implicitDefEqProofs only [syms, symx, seval, c50, w_append, sty23]
      obtain ⟨news, hs, hsr⟩ := src_sl (A := h.size + 1) (r := Rep.atom) (by decide) (hl.lay [.row [] 39 false] h.low) (fun cs y hr => hr)
      have f : Ow Rep.atom h (h.lay [.row [] 39 false] h.low) 39 (h.size + 1) (.slice (some ⟨h.size + 0, 0, none⟩) 0 0) [] :=
        .inl ⟨by omega, rfl, .inr ⟨h.size + 0, 0, rfl, by omega, by rw [lay_size]; simp, [], 39, false, by rw [lay_get]; rfl⟩⟩
      obtain ⟨w, h', A', e1, e2, e3, e4, e5⟩ := app_ow (t := 23) ds23 tab_info39 rfl (by decide) (by rw [lay_size]; omega) f hs hsr (by simp only [List.length_nil]; omega) (by simp only [List.length_nil]; omega)
      rw [e1]
      have hvw := vSelf w
      replace z := (Ext.refl h).stepW e3 (by omega) (by omega)
      rw [lay_nil h']
      repeat' ( simp -implicitDefEqProofs only [syms, symx, seval, c50, hvw])
      rw [sortA_one (by omega)] at hk
      exact hk _ _ (z.upW _ _ (by omega)) (own_of_ow ((by simpa using e2 : Ow Rep.atom h h' 39 A' w l).mono (Inc.lay _ _ _)))
    match k, hkl with
    | 0, hkl => exact absurd hkl (by omega)
    | k + 1, hkl =>
      have hq : IntKind.i64.wrap (((l.length : Nat) : Int).tdiv 2) = ((l.length / 2 : Nat) : Int) := by
        rw [Int.tdiv_eq_ediv_of_nonneg (by omega), wrap_i64 (by omega) (by omega)]
        omega
      obtain ⟨g1, g2, g3⟩ := half_lo (n := l.length) (by omega)
      simp -implicitDefEqProofs only [syms, symx, seval, c50, hva, hln]
      rw [bin_quo (by decide), hq]
      repeat' ( simp -implicitDefEqProofs only [syms, symx, seval, c50, hva])
      with_reducible first | refine drawN (by simp only [c50]) (z.upW _ _ (by omega)) ?_
      simp -implicitDefEqProofs only [syms, symx, seval, c50, hva]
      repeat' (( with_reducible_and_instances refine to_rule (hl.mono z.inc) (by decide) ds23 sz39 (show l.length / 2 ≤ l.length by omega) (fun v1 hv1 => ?_)) <;> simp -implicitDefEqProofs only [syms, symx, seval, c50, hva])
      have tl1 : (l.take (l.length / 2)).length = l.length / 2 := by rw [List.length_take]; omega
      have tl2 : (l.drop (l.length / 2)).length = l.length - l.length / 2 := by rw [List.length_drop]
      have lt1 : ∀ x ∈ l.take (l.length / 2), x.light = true := fun x hx => hlt x (List.mem_of_mem_take hx)
      have lt2 : ∀ x ∈ l.drop (l.length / 2), x.light = true := fun x hx => hlt x (List.mem_of_mem_drop hx)
      refine ok_sortedR k (l.take (l.length / 2)) v1 _ (by omega) (hv1.lay _ _) (by omega) lt1 _ (fun h' w1 x o1 => ?_)
      replace o1 := (o1.own (by have := sortA_length (l.take (l.length / 2)); omega)).sl
      (( ((with_reducible refine KOpsX_call ?_ ?_ ?_); (· exact (by (try simp only [lsz]); have := z.size; omega)); (·  exact x )) ); replace z := z.overW x (by (try simp only [lsz]); omega); rw [lay_nil h'])
      have hv1a := vSelf w1
      simp -implicitDefEqProofs only [syms, symx, seval, c50, hva, hv1a]
      repeat' (( with_reducible_and_instances refine from_rule (hl.mono z.inc) (by decide) ds23 sz39 (show l.length / 2 ≤ l.length by omega) (fun v2 hv2 => ?_)) <;> simp -implicitDefEqProofs only [syms, symx, seval, c50, hva, hv1a])
      refine ok_sortedR k (l.drop (l.length / 2)) v2 _ (by omega) ((by assumption : Sl Rep.atom _ v2 _).lay _ _) (by omega) lt2 _ (fun h' w2 x o2 => ?_)
      replace o2 := (o2.own (by have := sortA_length (l.drop (l.length / 2)); omega)).sl
      (( ((with_reducible refine KOpsX_call ?_ ?_ ?_); (· exact (by (try simp only [lsz]); have := z.size; omega)); (·  exact x )) ); replace z := z.overW x (by (try simp only [lsz]); omega); (try replace o1 := o1.over x); rw [lay_nil h'])
      have hv2a := vSelf w2
      repeat' (first | simp -implicitDefEqProofs only [syms, symx, seval, c50, hv1a, hv2a] | ((with_reducible refine ⟨z.grw.lay _ _, ?_⟩); (intro _ h' zz x _); (try simp only [lay_lay, List.append_nil] at x); (try replace o1 := o1.over x); (try replace o2 := o2.over x); (replace z := zz); (clear zz); rw [lay_nil h']))
      have hll1 := sortA_length (l.take (l.length / 2))
      have hll2 := sortA_length (l.drop (l.length / 2))
      have hmg := sortA_app (l.take (l.length / 2)) (l.drop (l.length / 2))
      rw [List.take_append_drop] at hmg
      have hlg1 := sortA_light lt1
      have hlg2 := sortA_light lt2
      generalize sortA (l.take (l.length / 2)) = s1 at *
      generalize sortA (l.drop (l.length / 2)) = s2 at *
      have hz0 := z.size
      obtain ⟨H0, hH0⟩ : ∃ H0, H0 = h' := ⟨_, rfl⟩
      rw [← hH0] at o1 o2 hz0
      obtain ⟨I1, hI1⟩ : ∃ I : Nat → Env → Heap → Prop, I = (fun n e h' => ∃ (va vb wo : Value) (xs ys out : List AtomD) (A : Nat) (h1 : Heap), h' = h1.lay [] h1.low ∧ Ext h h1 ∧ (n = xs.length + ys.length ∧ out ++ mergeA xs ys = sortA l ∧ Sl Rep.atom H0 va xs ∧ Sl Rep.atom H0 vb ys ∧ Ow Rep.atom H0 h1 39 A wo out ∧ Inc H0 h1 ∧ (∀ x ∈ xs, x.light = true) ∧ (∀ x ∈ ys, x.light = true) ∧ out.length + xs.length + ys.length ≤ l.length) ∧ ∃ J : Nat → Value, e = (jr J 0 4 (va :: vb :: wo :: jr J 7 62 ([])))) := ⟨_, rfl⟩
      refine W_loopN I1 _ (by rw [hI1]; exact ⟨w1, w2, .slice none 0 0, s1, s2, [], H0.size, _, rfl, z, ⟨rfl, by simpa using hmg, o1, o2, Ow.nil (Nat.le_refl _), by rw [hH0]; exact Inc.refl _, hlg1, hlg2, by simp only [List.length_nil]; omega⟩, junk (by kernel_rfl)⟩) ?_
      intro n e h' hin
      rw [hI1] at hin
      obtain ⟨va, vb, wo, xs, ys, out, A, h1', rfl, z, hinv, J, rfl⟩ := hin
      clear o1 o2
      obtain ⟨rfl, hout, sa, sb, ow, i1, la, lb, hsum⟩ := hinv
      have hvA := vSelf va
      have hvB := vSelf vb
      have hvO := vSelf wo
      have hlA := fun (hh : Heap) => sa.lenA ds23 hh
      have hlB := fun (hh : Heap) => sb.lenA ds23 hh
      have hz1 := z.size
      have hrounds : 0 < xs.length → 0 < ys.length → ∃ x xs' y ys', xs = x :: xs' ∧ ys = y :: ys' := fun h1 h2 => by
        match xs, ys, h1, h2 with
        | x :: xs, y :: ys, _, _ => exact ⟨x, xs, y, ys, rfl, rfl⟩
      have hcat : ¬ (0 < xs.length ∧ 0 < ys.length) → mergeA xs ys = xs ++ ys := fun hh => by
        cases xs with
        | nil => rw [mergeA_nil_left]; rfl
        | cons x xs => cases ys with
          | nil => rw [mergeA_nil_right]; simp
          | cons y ys => exact absurd ⟨by simp, by simp⟩ hh
      simp -implicitDefEqProofs only [syms, symx, seval, c50, hvA, hvB, hvO, hlA, hlB]
      refine forkD (fun f1 => ?_) (fun f1 => ?_)
      rotate_left
      · repeat' ( simp -implicitDefEqProofs only [syms, symx, seval, c50, hvA, hvB, hvO, hlA, hlB])
        simp -implicitDefEqProofs only [syms, symx, seval, c50, w_append, sty23]
        rw [hcat (by omega)] at hout
        have hi1 := i1.size
        have hlen : (out ++ xs).length = out.length + xs.length := List.length_append
        obtain ⟨news1, hs1, hsr1⟩ := src_sl (A := A) (r := Rep.atom) (by decide) ((sa.mono i1).lay [] h1'.low) (fun cs y hr => hr)
        have hf1 := ow.fresh
        refine ap_rule (r := Rep.atom) ds23 tab_info39 rfl (by decide) hi1 ow hs1 hsr1 (by omega) (by omega) (fun w5 h5 A5 o5 c5 hA5 => ?_)
        have i5 := amInc_chg (i1.trans (Inc.lay _ _ _)) c5 hf1
        replace z := (z.upW _ _ (by omega)).step c5 (by omega)
        rw [lay_nil h5]
        have hv5 := vSelf w5
        simp -implicitDefEqProofs only [syms, symx, seval, c50, hv5, hvB, w_append, sty23]
        have hi5 := i5.size
        have hz5 := z.size
        obtain ⟨news2, hs2, hsr2⟩ := src_sl (A := A5) (r := Rep.atom) (by decide) ((sb.mono i5).lay [] h5.low) (fun cs y hr => hr)
        have hf5 := o5.fresh
        refine ap_rule (r := Rep.atom) ds23 tab_info39 rfl (by decide) hi5 o5 hs2 hsr2 (by omega) (by omega) (fun w6 h6 A6 o6 c6 hA6 => ?_)
        replace z := (z.upW _ _ (by omega)).step c6 (by omega)
        rw [lay_nil h6]
        have hv6 := vSelf w6
        repeat' ( simp -implicitDefEqProofs only [syms, symx, seval, c50, hv6])
        rw [List.append_assoc, hout] at o6
        exact hk _ _ (z.upW _ _ (by omega)) (ownX_down (own_of_ow (o6.mono (Inc.lay _ _ _))) hz0)
      simp -implicitDefEqProofs only [syms, symx, seval, c50, hvA, hvB, hvO, hlA, hlB]
      refine forkD (fun f2 => ?_) (fun f2 => ?_)
      rotate_left
      · repeat' ( simp -implicitDefEqProofs only [syms, symx, seval, c50, hvA, hvB, hvO, hlA, hlB])
        simp -implicitDefEqProofs only [syms, symx, seval, c50, w_append, sty23]
        rw [hcat (by omega)] at hout
        have hi1 := i1.size
        have hlen : (out ++ xs).length = out.length + xs.length := List.length_append
        obtain ⟨news1, hs1, hsr1⟩ := src_sl (A := A) (r := Rep.atom) (by decide) ((sa.mono i1).lay [] h1'.low) (fun cs y hr => hr)
        have hf1 := ow.fresh
        refine ap_rule (r := Rep.atom) ds23 tab_info39 rfl (by decide) hi1 ow hs1 hsr1 (by omega) (by omega) (fun w5 h5 A5 o5 c5 hA5 => ?_)
        have i5 := amInc_chg (i1.trans (Inc.lay _ _ _)) c5 hf1
        replace z := (z.upW _ _ (by omega)).step c5 (by omega)
        rw [lay_nil h5]
        have hv5 := vSelf w5
        simp -implicitDefEqProofs only [syms, symx, seval, c50, hv5, hvB, w_append, sty23]
        have hi5 := i5.size
        have hz5 := z.size
        obtain ⟨news2, hs2, hsr2⟩ := src_sl (A := A5) (r := Rep.atom) (by decide) ((sb.mono i5).lay [] h5.low) (fun cs y hr => hr)
        have hf5 := o5.fresh
        refine ap_rule (r := Rep.atom) ds23 tab_info39 rfl (by decide) hi5 o5 hs2 hsr2 (by omega) (by omega) (fun w6 h6 A6 o6 c6 hA6 => ?_)
        replace z := (z.upW _ _ (by omega)).step c6 (by omega)
        rw [lay_nil h6]
        have hv6 := vSelf w6
        repeat' ( simp -implicitDefEqProofs only [syms, symx, seval, c50, hv6])
        rw [List.append_assoc, hout] at o6
        exact hk _ _ (z.upW _ _ (by omega)) (ownX_down (own_of_ow (o6.mono (Inc.lay _ _ _))) hz0)
      obtain ⟨ax, xs', ay, ys', rfl, rfl⟩ := hrounds (by omega) (by omega)
      have hax := la ax (List.mem_cons_self ..)
      have hay := lb ay (List.mem_cons_self ..)
      obtain ⟨va', ga, sa'⟩ := sa.sub (T := tab) (t := 23) (by decide) ds23 sz39 (BndIs.num .i64 0 1) (BndIs.no _) (show 1 ≤ (ax :: xs').length by simp) (Nat.le_refl _)
      obtain ⟨vb', gb, sb'⟩ := sb.sub (T := tab) (t := 23) (by decide) ds23 sz39 (BndIs.num .i64 0 1) (BndIs.no _) (show 1 ≤ (ay :: ys').length by simp) (Nat.le_refl _)
      rw [List.take_length, List.drop_succ_cons, List.drop_zero] at sa' sb'
      rw [show ((1 : Nat) : Int) = 1 from rfl] at ga gb
      have hvA' : ∀ (h : Heap) (K : Value → Heap → Prop), valE (some va') h K = K va' h := fun _ _ => rfl
      have hvB' : ∀ (h : Heap) (K : Value → Heap → Prop), valE (some vb') h K = K vb' h := fun _ _ => rfl
      repeat' ( simp -implicitDefEqProofs only [syms, symx, seval, c50, hvA, hvB, hvO, hlA, hlB])
      with_reducible first | refine drawN (by simp only [c50]) (z.upW _ _ (by omega)) ?_
      have hra : (ax :: xs')[(0 : Int).toNat]? = some ax := rfl
      have hrb : (ay :: ys')[(0 : Int).toNat]? = some ay := rfl
      simp -implicitDefEqProofs only [syms, symx, seval, c50, hvA, hvB, hvO]
      repeat' ((first | with_reducible_and_instances refine ixa_at (sa.mono i1) ds23 sz39 (by omega) hra (fun p hp => ?_) | with_reducible_and_instances refine ixa_at (sb.mono i1) ds23 sz39 (by omega) hrb (fun p hp => ?_) | with_reducible_and_instances refine lda hp ag39 sz39 ?_) <;> simp -implicitDefEqProofs only [syms, symx, seval, c50, hvA, hvB, hvO])
      refine ok_cmpR ax ay hax hay _ _ (fun h' x => ?_)
      (( ((with_reducible refine KOpsX_call ?_ ?_ ?_); (· exact (by (try simp only [lsz]); have := z.size; omega)); (·  exact x )) ); replace z := z.overW x (by (try simp only [lsz]); omega); (try replace ow := ow.over x); (try replace i1 := i1.over x); rw [lay_nil h'])
      simp -implicitDefEqProofs only [syms, symx, seval, c50, hvA, hvB, hvO]
      ((with_reducible refine ⟨z.grw.lay _ _, ?_⟩); (intro _ h' zz x _); (try simp only [lay_lay, List.append_nil] at x); (try replace ow := ow.over x); (try replace i1 := i1.over x); (replace z := zz); (clear zz); rw [lay_nil h'])
      simp -implicitDefEqProofs only [syms, symx, seval, c50, hvA, hvB, hvO]
      refine forkD (fun hc1 => ?_) (fun hc1 => ?_)
      · simp -implicitDefEqProofs only [syms, symx, seval, c50, hvA, hvB, hvO]
        with_reducible first | refine drawN (by simp only [c50]) (z.upW _ _ (by omega)) ?_
        simp -implicitDefEqProofs only [syms, symx, seval, c50, hvA, hvB, hvO]
        repeat' ((first | with_reducible_and_instances refine ixa_at (sa.mono i1) ds23 sz39 (by omega) hra (fun p hp => ?_) | with_reducible_and_instances refine lda hp ag39 sz39 ?_) <;> simp -implicitDefEqProofs only [syms, symx, seval, c50, hvA, hvB, hvO, fill_atom])
        have hz2 := z.size
        refine KOpsX_alloc (by omega) (by omega) ?_
        simp -implicitDefEqProofs only [syms, symx, seval, c50, w_append, sty23, hvO]
        have hfA := ow.fresh
        have hi1 := i1.size
        have hout2 : out.length ≤ 2000 := by omega
        obtain ⟨hs1, hsr1⟩ := src_row (A := A) (B := h'.size + 0) (r := Rep.atom) (c := 1) (y := ax) (by decide) (show (h'.lay [Blk.row ax.cells 39 false] (h'.size + 1)).get (h'.size + 0) = some (.row ax.cells 39 false) by rw [lay_get]; rfl) rfl
        obtain ⟨w3, h3, A3, e1, o3, c3, e4, e5⟩ := app_ow (t := 23) ds23 tab_info39 rfl (by decide) (by rw [lay_size]; omega) (ow.mono (Inc.lay _ _ _)) hs1 hsr1 (by omega) (by omega)
        rw [e1]
        simp -implicitDefEqProofs only [syms, symx, seval, c50]
        refine KOpsX_chg (A := A) (by kernel_rfl) (by rw [lay_size]; omega) (by omega) (by simpa only [lay_lay, lay_size, List.append_nil, List.length_cons, List.length_nil, Nat.zero_add] using c3) ?_
        have i3 := amInc_chg (i1.trans (Inc.lay _ _ _)) c3 hfA
        replace z := (z.upW [Blk.row ax.cells 39 false] (h'.size + 1) (by omega)).step c3 (by omega)
        clear i1 ow e1 e4 e5 c3 hs1 hsr1
        have hv3 := vSelf w3
        rw [lay_nil h3]
        repeat' (first | simp -implicitDefEqProofs only [syms, symx, seval, c50, hv3, hvA, hvB, ga, hvA'] | ((with_reducible refine ⟨z.grw.lay _ _, ?_⟩); (intro _ h' zz x _); (try simp only [lay_lay, List.append_nil] at x); (try replace o3 := o3.over x); (try replace i3 := i3.over x); (replace z := zz); (clear zz); rw [lay_nil h']))
        rw [mergeA_lt hc1] at hout
        (rw [hI1]; with_reducible refine loopN_normal (m := _) ?_ ⟨va', vb, w3, xs', ay :: ys', out ++ [ax], A3, _, rfl, z, ⟨rfl, by rw [← hout, List.append_assoc, List.cons_append, List.nil_append], sa', sb, o3, i3, fun x hx => la x (List.mem_cons_of_mem _ hx), lb, by simp only [List.length_cons, List.length_append, List.length_nil] at hsum ⊢; omega⟩, junk (by kernel_rfl)⟩; (simp only [List.length_cons]; omega))
      repeat' (first | simp -implicitDefEqProofs only [syms, symx, seval, c50, hvA, hvB, hvO] | ((with_reducible  apply forkD ) <;> intro _))
      · have hc2 : 0 < cmpD ax ay := by assumption
        with_reducible first | refine drawN (by simp only [c50]) (z.upW _ _ (by omega)) ?_
        simp -implicitDefEqProofs only [syms, symx, seval, c50, hvA, hvB, hvO]
        repeat' ((first | with_reducible_and_instances refine ixa_at (sb.mono i1) ds23 sz39 (by omega) hrb (fun p hp => ?_) | with_reducible_and_instances refine lda hp ag39 sz39 ?_) <;> simp -implicitDefEqProofs only [syms, symx, seval, c50, hvA, hvB, hvO, fill_atom])
        have hz2 := z.size
        refine KOpsX_alloc (by omega) (by omega) ?_
        simp -implicitDefEqProofs only [syms, symx, seval, c50, w_append, sty23, hvO]
        have hfA := ow.fresh
        have hi1 := i1.size
        have hout2 : out.length ≤ 2000 := by omega
        obtain ⟨hs1, hsr1⟩ := src_row (A := A) (B := h'.size + 0) (r := Rep.atom) (c := 1) (y := ay) (by decide) (show (h'.lay [Blk.row ay.cells 39 false] (h'.size + 1)).get (h'.size + 0) = some (.row ay.cells 39 false) by rw [lay_get]; rfl) rfl
        obtain ⟨w3, h3, A3, e1, o3, c3, e4, e5⟩ := app_ow (t := 23) ds23 tab_info39 rfl (by decide) (by rw [lay_size]; omega) (ow.mono (Inc.lay _ _ _)) hs1 hsr1 (by omega) (by omega)
        rw [e1]
        simp -implicitDefEqProofs only [syms, symx, seval, c50]
        refine KOpsX_chg (A := A) (by kernel_rfl) (by rw [lay_size]; omega) (by omega) (by simpa only [lay_lay, lay_size, List.append_nil, List.length_cons, List.length_nil, Nat.zero_add] using c3) ?_
        have i3 := amInc_chg (i1.trans (Inc.lay _ _ _)) c3 hfA
        replace z := (z.upW [Blk.row ay.cells 39 false] (h'.size + 1) (by omega)).step c3 (by omega)
        clear i1 ow e1 e4 e5 c3 hs1 hsr1
        have hv3 := vSelf w3
        rw [lay_nil h3]
        repeat' (first | simp -implicitDefEqProofs only [syms, symx, seval, c50, hv3, hvA, hvB, gb, hvB'] | ((with_reducible refine ⟨z.grw.lay _ _, ?_⟩); (intro _ h' zz x _); (try simp only [lay_lay, List.append_nil] at x); (try replace o3 := o3.over x); (try replace i3 := i3.over x); (replace z := zz); (clear zz); rw [lay_nil h']))
        rw [mergeA_gt hc2] at hout
        (rw [hI1]; with_reducible refine loopN_normal (m := _) ?_ ⟨va, vb', w3, ax :: xs', ys', out ++ [ay], A3, _, rfl, z, ⟨rfl, by rw [← hout, List.append_assoc, List.cons_append, List.nil_append], sa, sb', o3, i3, la, fun x hx => lb x (List.mem_cons_of_mem _ hx), by simp only [List.length_cons, List.length_append, List.length_nil] at hsum ⊢; omega⟩, junk (by kernel_rfl)⟩; (simp only [List.length_cons]; omega))
      · have hc0 : cmpD ax ay = 0 := by omega
        rw [gb]
        repeat' ( simp -implicitDefEqProofs only [syms, symx, seval, c50, hvB'])
        rw [mergeA_eq hc0] at hout
        (rw [hI1]; with_reducible refine loopN_normal (m := _) ?_ ⟨va, vb', wo, ax :: xs', ys', out, A, _, rfl, z, ⟨rfl, hout, sa, sb', ow, i1, la, fun x hx => lb x (List.mem_cons_of_mem _ hx), by simp only [List.length_cons] at hsum ⊢; omega⟩, junk (by kernel_rfl)⟩; (simp only [List.length_cons]; omega))
theorem ok_addR (l : List AtomD) (a : AtomD) (v : Value) (h : Heap) (hl : Sl Rep.atom h v l) (hn : l.length ≤ 900) (hlt : ∀ x ∈ l, x.light = true) (ha : a.light = true) (K : Value → Heap → Prop)
    (hk : ∀ h' w, Ext h h' → OwnX h h' 39 w (putA a (sortA l)) → K (.tuple #[w, .bool (!hasA l a)]) h') : Ok Try.prog tab ov 52 [v, a.val] h K := by
  rw [lay_nil h]
  have z := Ext.refl h
  refine Ok.into rfl tab_fn52 (bodyF N52) rfl (m := 16) rfl ?_
  simp -implicitDefEqProofs only [syms, symx, seval, c52, cells_atom]
  refine ok_sortedR l.length l v _ (Nat.le_refl _) (hl.lay _ _) (by omega) hlt _ (fun h' w x ho => ?_)
  replace ho := ownX_down (h0 := h) ho (by rw [lay_size]; omega)
  have q0 := Holds.top (i := 0) x rfl
  ((skip); replace z := z.overW x (by (try simp only [lsz]); omega); rw [lay_nil h'])
  have hva := vSelf w
  have hll := sortA_length l
  have hlg := sortA_light hlt
  have hoA := ho.own (by omega)
  repeat' ( simp -implicitDefEqProofs only [syms, symx, seval, c52, hva, q0.lay, cells_atom, ↓cut_atom, agg_atom, valE_atom])
  refine ok_hasR (sortA l) a w _ (hoA.sl.lay _ _) (by omega) hlg ha _ (fun h' x => ?_)
  have hoA2 := (hoA.lay _ _).mono x.inc
  ((skip); replace z := z.overW x (by (try simp only [lsz]); omega); (try replace q0 := q0.over x); rw [lay_nil h'])
  rw [hasA_sort]
  cases hb : hasA l a
  · rw [hb] at hk
    repeat' ( simp -implicitDefEqProofs only [syms, symx, seval, c52, hva, q0.lay, cells_atom, ↓cut_atom, agg_atom, valE_atom, fill_atom])
    simp -implicitDefEqProofs only [syms, symx, seval, c52, w_append, sty23]
    have hz := z.size
    obtain ⟨w2, h2, e2, o2, A2, hA2, c2⟩ := app_one (a := a) (lw := h'.low) ds23 ins_info (by decide) (by decide) hz hoA2 (by omega)
    rw [e2]
    replace z := z.stepW c2 hA2 (by omega)
    have hv2 := vSelf w2
    rw [lay_nil h2]
    simp -implicitDefEqProofs only [syms, symx, seval, c52, hv2]
    refine ok_sortedR (sortA l ++ [a]).length (sortA l ++ [a]) w2 _ (Nat.le_refl _) (o2.sl.lay _ _) (by simp only [List.length_append, List.length_cons, List.length_nil]; omega) (fun x hx => (List.mem_append.1 hx).elim (hlg x) (fun hx => by rw [List.mem_singleton.1 hx]; exact ha)) _ (fun h' w3 x o3 => ?_)
    have hz2 := z.size
    replace o3 := ownX_down (h0 := h) o3 (by rw [lay_size]; omega)
    rw [sortA_put] at o3
    ((skip); replace z := z.overW x (by (try simp only [lsz]); omega); rw [lay_nil h'])
    have hv3 := vSelf w3
    repeat' ( simp -implicitDefEqProofs only [syms, symx, seval, c52, hv3])
    exact hk _ _ (z.upW _ _ (by omega)) (ownX_mono o3 (Inc.lay _ _ _))
  · have hpp := put_has (a := a) (sortA_of l).asc (by rw [hasA_sort, hb])
    rw [hb, hpp] at hk
    repeat' ( simp -implicitDefEqProofs only [syms, symx, seval, c52, hva])
    exact hk _ _ (z.upW _ _ (by omega)) (ownX_mono (ownX_mono ho (Inc.over (Inc.refl _) x)) (Inc.lay _ _ _))
theorem hasR_atoms {l : List ReasonD} {a : AtomD} : hasR l a = true ↔ a ∈ atomsR l := by
  unfold hasR atomsR
  rw [List.any_eq_true, List.mem_map]
  exact ⟨fun ⟨x, h1, h2⟩ => ⟨x, h1, of_decide_eq_true h2⟩, fun ⟨x, h1, h2⟩ => ⟨x, h1, decide_eq_true h2⟩⟩
theorem ok_stands (l : List ReasonD) (goals : List AtomD) (v u : Value) (h : Heap) (hl : Sl Rep.reason h v l) (hg : Sl Rep.atom h u goals) (hn : l.length ≤ 1000) (hgl : goals.length ≤ 1000) (K : Value → Heap → Prop)
    (h1k : (∀ g ∈ goals, hasR l g = true) → ∀ h', Ext h h' → K (.bool true) h') (h2k : (∃ g ∈ goals, hasR l g = false) → ∀ h', Ext h h' → K (.bool false) h') : Ok Try.prog tab ov 163 [v, u] h K := by
  rw [lay_nil h]
  have z := Ext.refl h
  have hva := vSelf v
  have hvu := vSelf u
  have hlg := fun (hh : Heap) => hg.lenA ds23 hh
  refine Ok.into rfl tab_fn163 (bodyF N163) rfl (m := 23) rfl ?_
  simp -implicitDefEqProofs only [syms, symx, seval, c163]
  obtain ⟨I1, hI1⟩ : ∃ I : Nat → Env → Heap → Prop, I = (fun n e h' => ∃ (i : Nat) (h1 : Heap), h' = h1.lay [] h1.low ∧ Ext h h1 ∧ (n = goals.length - i ∧ i ≤ goals.length ∧ (∀ g ∈ goals.take i, hasR l g = true)) ∧ ∃ J : Nat → Value, e = (v :: u :: jr J 2 3 (.int .i64 i :: jr J 6 19 ([])))) := ⟨_, rfl⟩
  refine W_loopN I1 _ (by rw [hI1]; exact ⟨0, _, rfl, z, ⟨rfl, by omega, by simp⟩, junk (by kernel_rfl)⟩) ?_
  intro n e h' hin
  rw [hI1] at hin
  obtain ⟨i, h1', rfl, z, hinv, J, rfl⟩ := hin
  obtain ⟨rfl, hi, hall⟩ := hinv
  have hw : IntKind.i64.wrap ((i : Int) + 1) = ((i + 1 : Nat) : Int) := by rw [wrap_i64 (by omega) (by omega)]; omega
  simp -implicitDefEqProofs only [syms, symx, seval, c163, hvu, hlg]
  refine forkD (fun hlt => ?_) (fun hlt => ?_)
  rotate_left
  · rw [List.take_of_length_le (by omega)] at hall
    repeat' ( simp -implicitDefEqProofs only [syms, symx, seval, c163])
    exact h1k hall _ (z.upW _ _ (by omega))
  obtain ⟨g, hgr, hgr'⟩ := amElem (l := goals) (i := i) (by omega)
  repeat' (first | simp -implicitDefEqProofs only [syms, symx, seval, c163, hva, hvu] | with_reducible_and_instances refine ixa_at (hg.mono z.inc) ds23 sz39 (by omega) hgr (fun p hp => ?_) | with_reducible_and_instances refine lda hp ag39 sz39 ?_)
  refine ok_findRef l v g _ ((hl.mono z.inc).lay _ _) hn _ (fun h' v' x hv' => ?_)
  replace hv' : v' = if hasR l g then .tuple #[.int .i64 (idxP (fun x => decide (x.atom = g)) l), .bool true] else .tuple #[.int .i64 0, .bool false] := hv'
  ((skip); replace z := z.overW x (by (try simp only [lsz]); omega); rw [lay_nil h'])
  cases hb : hasR l g
  · rw [hb, if_neg (by decide)] at hv'
    subst hv'
    repeat' (first | simp -implicitDefEqProofs only [syms, symx, seval, c163, Bool.not_false] | ((with_reducible_and_instances apply unop_not); (· rfl)))
    exact h2k ⟨g, List.mem_of_getElem? hgr', hb⟩ _ (z.upW _ _ (by omega))
  · rw [hb, if_pos rfl] at hv'
    subst hv'
    repeat' (first | simp -implicitDefEqProofs only [syms, symx, seval, c163, Bool.not_true] | ((with_reducible_and_instances apply unop_not); (· rfl)))
    rw [hw]
    (rw [hI1]; with_reducible refine loopN_normal (m := _) ?_ ⟨i + 1, _, rfl, z, ⟨rfl, by omega, take_all (i := i) (P := fun x => hasR l x = true) hgr' hall hb⟩, junk (by kernel_rfl)⟩; omega)
theorem sub_reason {h : Heap} {v : Value} {l : List ReasonD} (f : Sl Rep.reason h v l) (i : Nat) (hi : i ≤ l.length) : ∃ a n c, sliceA tab 24 v none (some (.int .i64 i)) none = some (.slice a n c) ∧ Sl Rep.reason h (.slice a n c) (l.take i) := by
  obtain ⟨u1, g1, g2⟩ := f.sub (a := 0) (b := i) (by decide) ds24 sz41 (.inl ⟨rfl, rfl⟩) (.inr ⟨.i64, rfl⟩) (by omega) hi
  have g3 : ∃ a n c, u1 = .slice a n c := by
    rcases g2 with ⟨rfl, _⟩ | ⟨A, o, c, row, u, ro, rfl, _⟩ <;> exact ⟨_, _, _, rfl⟩
  obtain ⟨a, n, c, rfl⟩ := g3
  exact ⟨a, n, c, g1, by simpa using g2⟩
theorem ok_straight (l : List ReasonD) (v : Value) (h : Heap) (hl : Sl Rep.reason h v l) (hn : l.length ≤ 1000) (hbn : ∀ r ∈ l, r.body.length ≤ 1000) (K : Value → Heap → Prop)
    (h1k : PlacedD l → ∀ h', Ext h h' → K (.bool true) h') (h2k : ¬ PlacedD l → ∀ h', Ext h h' → K (.bool false) h') : Ok Try.prog tab ov 125 [v] h K := by
  rw [lay_nil h]
  have z := Ext.refl h
  have hva := vSelf v
  have hlv := fun (hh : Heap) => hl.lenA ds24 hh
  refine Ok.into rfl tab_fn125 (bodyF N125) rfl (m := 36) rfl ?_
  simp -implicitDefEqProofs only [syms, symx, seval, c125]
  obtain ⟨I1, hI1⟩ : ∃ I : Nat → Env → Heap → Prop, I = (fun n e h' => ∃ (i : Nat) (h1 : Heap), h' = h1.lay [] h1.low ∧ Ext h h1 ∧ (n = l.length - i ∧ i ≤ l.length ∧ (∀ (j : Nat) (r : ReasonD), j < i → l[j]? = some r → r.atom ∉ atomsR (l.take j) ∧ ∀ b ∈ r.body, b ∈ atomsR (l.take j))) ∧ ∃ J : Nat → Value, e = (v :: jr J 1 2 (.int .i64 i :: jr J 4 33 ([])))) := ⟨_, rfl⟩
  refine W_loopN I1 _ (by rw [hI1]; exact ⟨0, _, rfl, z, ⟨rfl, by omega, fun j r hj => by omega⟩, junk (by kernel_rfl)⟩) ?_
  intro n e h' hin
  rw [hI1] at hin
  obtain ⟨i, h1', rfl, z, hinv, J, rfl⟩ := hin
  obtain ⟨rfl, hi, hall⟩ := hinv
  have hw : IntKind.i64.wrap ((i : Int) + 1) = ((i + 1 : Nat) : Int) := by rw [wrap_i64 (by omega) (by omega)]; omega
  simp -implicitDefEqProofs only [syms, symx, seval, c125, hva, hlv]
  refine forkD (fun hlt => ?_) (fun hlt => ?_)
  rotate_left
  · repeat' ( simp -implicitDefEqProofs only [syms, symx, seval, c125])
    exact h1k (fun j r hj => hall j r (by have := (List.getElem?_eq_some_iff.1 hj).1; omega) hj) _ (z.upW _ _ (by omega))
  obtain ⟨r, hr, hr'⟩ := amElem (l := l) (i := i) (by omega)
  obtain ⟨a, m, c, g1, g2⟩ := sub_reason hl i hi
  have hvs : ∀ (h : Heap) (K : Value → Heap → Prop), valE (some (.slice a m c)) h K = K (.slice a m c) h := fun _ _ => rfl
  have hti : (l.take i).length ≤ 1000 := by rw [List.length_take]; omega
  repeat' (first | simp -implicitDefEqProofs only [syms, symx, seval, c125, hva, g1, hvs] | with_reducible refine drawN (by simp only [c125]) (z.upW _ _ (by omega)) ?_ | with_reducible_and_instances refine ixr_at (hl.mono z.inc) ds24 sz41 (by omega) hr (fun p bd hbd hp => ?_) | with_reducible_and_instances refine fdr0 hp fa41_0 (fun q hq => ?_) | with_reducible_and_instances refine lda hq ag39 sz39 ?_)
  refine ok_findRef (l.take i) _ r.atom _ ((g2.mono z.inc).lay _ _) hti _ (fun h' v' x hv' => ?_)
  replace hv' : v' = if hasR (l.take i) r.atom then .tuple #[.int .i64 (idxP (fun x => decide (x.atom = r.atom)) (l.take i)), .bool true] else .tuple #[.int .i64 0, .bool false] := hv'
  (( ((with_reducible refine KOpsX_call ?_ ?_ ?_); (· exact (by (try simp only [lsz]); have := z.size; omega)); (·  exact x )) ); replace z := z.overW x (by (try simp only [lsz]); omega); rw [lay_nil h'])
  cases hb : hasR (l.take i) r.atom
  rotate_left
  · rw [hb, if_pos rfl] at hv'
    subst hv'
    repeat' (first | simp -implicitDefEqProofs only [syms, symx, seval, c125] | with_reducible refine drawN (by simp only [c125]) (z.upW _ _ (by omega)) ?_ | ((with_reducible refine ⟨z.grw.lay _ _, ?_⟩); (intro _ h' zz x _); (try simp only [lay_lay, List.append_nil] at x); (replace z := zz); (clear zz); rw [lay_nil h']))
    exact h2k (fun hp => (hp i r hr').1 (hasR_atoms.1 hb)) _ (z.upW _ _ (by omega))
  rw [hb, if_neg (by decide)] at hv'
  subst hv'
  repeat' (first | simp -implicitDefEqProofs only [syms, symx, seval, c125, hva, g1, hvs] | with_reducible refine drawN (by simp only [c125]) (z.upW _ _ (by omega)) ?_ | with_reducible_and_instances refine ixr_at (hl.mono z.inc) ds24 sz41 (by omega) hr (fun p bd hbd hp => ?_) | with_reducible_and_instances refine fdr2 hp fa41_2 (fun q hq => ?_) | with_reducible_and_instances refine ld_one hq ag23 ?_ | ((with_reducible refine ⟨z.grw.lay _ _, ?_⟩); (intro _ h' zz x _); (try simp only [lay_lay, List.append_nil] at x); (replace z := zz); (clear zz); rw [lay_nil h']))
  refine ok_stands (l.take i) r.body _ _ _ ((g2.mono z.inc).lay _ _) (Sl.lay (by assumption) _ _) hti (hbn r (List.mem_of_getElem? hr')) _ (fun hs h' x => ?_) (fun hs h' x => ?_)
  · (( ((with_reducible refine KOpsX_call ?_ ?_ ?_); (· exact (by (try simp only [lsz]); have := z.size; omega)); (·  exact x )) ); replace z := z.overW x (by (try simp only [lsz]); omega); rw [lay_nil h'])
    repeat' (first | simp -implicitDefEqProofs only [syms, symx, seval, c125, Bool.not_true] | ((with_reducible_and_instances apply unop_not); (· rfl)) | ((with_reducible refine ⟨z.grw.lay _ _, ?_⟩); (intro _ h' zz x _); (try simp only [lay_lay, List.append_nil] at x); (replace z := zz); (clear zz); rw [lay_nil h']))
    rw [hw]
    have hall2 : ∀ (j : Nat) (r : ReasonD), j < i + 1 → l[j]? = some r → r.atom ∉ atomsR (l.take j) ∧ ∀ b ∈ r.body, b ∈ atomsR (l.take j) := by
      intro j r2 hj hr2
      by_cases e : j = i
      · subst e
        cases hr'.symm.trans hr2
        exact ⟨(fun hm => by rw [hasR_atoms.2 hm] at hb; cases hb), fun b hb2 => hasR_atoms.1 (hs b hb2)⟩
      · exact hall j r2 (by omega) hr2
    (rw [hI1]; with_reducible refine loopN_normal (m := _) ?_ ⟨i + 1, _, rfl, z, ⟨rfl, by omega, hall2⟩, junk (by kernel_rfl)⟩; omega)
  · (( ((with_reducible refine KOpsX_call ?_ ?_ ?_); (· exact (by (try simp only [lsz]); have := z.size; omega)); (·  exact x )) ); replace z := z.overW x (by (try simp only [lsz]); omega); rw [lay_nil h'])
    obtain ⟨g, hg1, hg2⟩ := hs
    repeat' (first | simp -implicitDefEqProofs only [syms, symx, seval, c125, Bool.not_false] | ((with_reducible_and_instances apply unop_not); (· rfl)) | ((with_reducible refine ⟨z.grw.lay _ _, ?_⟩); (intro _ h' zz x _); (try simp only [lay_lay, List.append_nil] at x); (replace z := zz); (clear zz); rw [lay_nil h']))
    refine h2k (fun hp => ?_) _ (z.upW _ _ (by omega))
    rw [hasR_atoms.2 ((hp i r hr').2 g hg1)] at hg2
    cases hg2
theorem ok_needsR (l : List ReasonD) (goals : List AtomD) (v u : Value) (h : Heap) (hl : Sl Rep.reason h v l) (hg : Sl Rep.atom h u goals) (hn : l.length ≤ 40) (hr : ∀ r ∈ l, PlainR r) (hgl : goals.length ≤ 10) (hgi : ∀ x ∈ goals, x.light = true) (hgp : AllP goals) (K : Value → Heap → Prop)
    (h1k : (∀ g ∈ goals, hasR l g = true) → ∀ h' w out, Ext h h' → Sl Rep.atom h' w out → NeedsOf l goals out → (∀ x ∈ out, x.light = true) → out.length ≤ 900 → K (.tuple #[w, .int .i64 0]) h')
    (h2k : (∃ g ∈ goals, hasR l g = false) → ∀ h', Ext h h' → K (.tuple #[.slice none 0 0, .int .i64 13]) h') : Ok Try.prog tab ov 126 [v, u] h K := by
  rw [lay_nil h]
  have z := Ext.refl h
  have hva := vSelf v
  have hvu := vSelf u
  refine Ok.into rfl tab_fn126 (bodyF N126) rfl (m := 73) rfl ?_
  repeat' ( simp -implicitDefEqProofs only [syms, symx, seval, c126, hva, hvu])
  refine ok_stands l goals v u _ (hl.lay _ _) (hg.lay _ _) (by omega) (by omega) _ (fun hall h' x => ?_) (fun hex h' x => ?_)
  rotate_left
  · ((skip); replace z := z.overW x (by (try simp only [lsz]); omega); rw [lay_nil h'])
    repeat' (first | simp -implicitDefEqProofs only [syms, symx, seval, c126, Bool.not_false] | ((with_reducible_and_instances apply unop_not); (· rfl)))
    exact h2k hex _ (z.upW _ _ (by omega))
  ((skip); replace z := z.overW x (by (try simp only [lsz]); omega); rw [lay_nil h'])
  repeat' (first | simp -implicitDefEqProofs only [syms, symx, seval, c126, Bool.not_true, hvu] | ((with_reducible_and_instances apply unop_not); (· rfl)))
  refine ok_sortedR goals.length goals u _ (Nat.le_refl _) ((hg.mono z.inc).lay _ _) (by omega) hgi _ (fun h' w x ho0 => ?_)
  have hll := sortA_length goals
  have hlgt := sortA_light hgi
  have hst := NeedsTo.start (l := l) hgp
  have ho := (ho0.own (by omega)).sl
  clear ho0
  ((skip); replace z := z.overW x (by (try simp only [lsz]); omega); rw [lay_nil h'])
  have hvw := vSelf w
  have hz0 := z.size
  simp -implicitDefEqProofs only [syms, symx, seval, c126, hvw]
  repeat' ((first | ((with_reducible first | apply forkD | apply forkB | apply forkN | apply forkNP | apply forkNot) <;> intro _) | with_reducible_and_instances refine ixr_at (hl.mono z.inc) ds24 sz41 (by omega) hr (fun p bd hbd hp => ?_) | with_reducible_and_instances refine fdr2 hp fa41_2 (fun q hq => ?_) | with_reducible_and_instances refine ld_one hq ag23 ?_ | ((with_reducible_and_instances apply unop_not); (· rfl))) <;> simp -implicitDefEqProofs only [syms, symx, seval, c126, hvw])
  simp -implicitDefEqProofs only [syms, symx, seval, c126, w_append, sty23]
  obtain ⟨news, hs, hsr⟩ := src_sl (A := h'.size + 1) (r := Rep.atom) (by decide) (ho.lay [.row [] 39 false] h'.low) (fun cs y hr => hr)
  have f : Ow Rep.atom h (h'.lay [.row [] 39 false] h'.low) 39 (h'.size + 1) (.slice (some ⟨h'.size + 0, 0, none⟩) 0 0) [] :=
    .inl ⟨by omega, rfl, .inr ⟨h'.size + 0, 0, rfl, by omega, by rw [lay_size]; simp, [], 39, false, by rw [lay_get]; rfl⟩⟩
  obtain ⟨wt, h2, A', e1, e2, e3, e4, e5⟩ := app_ow (h0 := h) (t := 23) ds23 tab_info39 rfl (by decide) (by rw [lay_size]; omega) f hs hsr (by simp only [List.length_nil]; omega) (by simp only [List.length_nil]; omega)
  rw [e1, lay_nil h2]
  replace z := (z.upW [.row [] 39 false] h'.low (by omega)).step e3 (by omega)
  replace ho := ho.mono (amInc_chg (Inc.lay _ _ _) e3 (by omega))
  rw [List.nil_append] at e2
  have ot := (own_of_ow e2).todo (by omega)
  clear e1 e2 e3 e4 e5 f hs hsr
  have hvt := vSelf wt
  repeat' ( simp -implicitDefEqProofs only [syms, symx, seval, c126, hvw, hvt])
  obtain ⟨M, hM⟩ : ∃ M, M = goals.length + (bodies l).length := ⟨_, rfl⟩
  have hM2 : M ≤ 810 := by
    have := bodies_len (n := 20) (fun r hr' => (hr r hr').len)
    omega
  have hpb : AllP (goals ++ bodies l) := hgp.app (fun x hx => by
    obtain ⟨r, hr1, hr2⟩ := List.mem_flatMap.1 hx
    exact (hr r hr1).plains x hr2)
  have hlb : ∀ x ∈ bodies l, x.light = true := fun x hx => by
    obtain ⟨r, hr1, hr2⟩ := List.mem_flatMap.1 hx
    exact (hr r hr1).lights x hr2
  have hs0 : (sortA goals).length ≤ M := by omega
  generalize sortA goals = s0 at *
  obtain ⟨I1, hI1⟩ : ∃ I : Nat → Env → Heap → Prop, I = (fun n e h' => ∃ (out todo : List AtomD) (wo wt : Value) (h1 : Heap), h' = h1.lay [] h1.low ∧ Ext h h1 ∧ (n = 2 * (M - out.length) + todo.length ∧ out.length ≤ M ∧ NeedsTo l goals out todo ∧ (∀ x ∈ out, x.light = true) ∧ Sl Rep.atom h1 wo out ∧ OwnT h h1 39 wt todo ∧ 2 * (M - out.length) + todo.length ≤ 2 * M) ∧ ∃ J : Nat → Value, e = (v :: u :: jr J 2 4 (wo :: wt :: jr J 8 67 ([])))) := ⟨_, rfl⟩
  refine W_loopN I1 _ (by rw [hI1]; exact ⟨s0, s0, w, wt, _, rfl, z, ⟨rfl, hs0, hst, hlgt, ho, ot, by omega⟩, junk (by kernel_rfl)⟩) ?_
  intro n e h' hin
  rw [hI1] at hin
  obtain ⟨out, todo, wo, wt, h1', rfl, z, hinv, J, rfl⟩ := hin
  clear ho ot
  obtain ⟨rfl, hoM, hN, hlo, so, ot, hbd2⟩ := hinv
  have hvo := vSelf wo
  have hvt := vSelf wt
  have hlt2 := fun (hh : Heap) => ot.sl.lenA ds23 hh
  simp -implicitDefEqProofs only [syms, symx, seval, c126, hvo, hvt, hlt2]
  refine forkD (fun hpos => ?_) (fun hpos => ?_)
  rotate_left
  · have htn : todo = [] := List.length_eq_zero_iff.1 (by omega)
    rw [htn] at hN
    repeat' ( simp -implicitDefEqProofs only [syms, symx, seval, c126, hvo])
    exact h1k hall _ _ out (z.upW _ _ (by omega)) (so.lay _ _) hN.finish hlo (by omega)
  obtain ⟨x0, td, htd⟩ : ∃ x0 td, todo = x0 :: td := by
    cases todo with
    | nil => simp at hpos
    | cons a b => exact ⟨a, b, rfl⟩
  subst htd
  have hr0 : (x0 :: td)[(0 : Int).toNat]? = some x0 := rfl
  obtain ⟨wt', gt, ot'⟩ := ot.tail (T := tab) (t := 23) (kd := .i64) ds23 sz39
  have hvt' : ∀ (h : Heap) (K : Value → Heap → Prop), valE (some wt') h K = K wt' h := fun _ _ => rfl
  repeat' (first | simp -implicitDefEqProofs only [syms, symx, seval, c126, hvt, hva] | with_reducible_and_instances refine ixa_at ot.sl ds23 sz39 (by omega) hr0 (fun p hp => ?_) | with_reducible_and_instances refine lda hp ag39 sz39 ?_)
  refine ok_findRef l v x0 _ ((hl.mono z.inc).lay _ _) (by omega) _ (fun h' v' x hv' => ?_)
  replace hv' : v' = if hasR l x0 then .tuple #[.int .i64 (idxP (fun x => decide (x.atom = x0)) l), .bool true] else .tuple #[.int .i64 0, .bool false] := hv'
  ((skip); replace z := z.overW x (by (try simp only [lsz]); omega); (try replace so := so.over x); (try replace ot := ot.over x); (try replace ot' := ot'.over x); rw [lay_nil h'])
  simp only [List.length_cons] at hbd2
  cases hb : hasR l x0
  · rw [hb, if_neg (by decide)] at hv'
    subst hv'
    repeat' ( simp -implicitDefEqProofs only [syms, symx, seval, c126, hvt, hvt', gt])
    obtain ⟨I2, hI2⟩ : ∃ I : Nat → Env → Heap → Prop, I = (fun n e h' => ∃ (k : Nat) (h1 : Heap), h' = h1.lay [] h1.low ∧ Ext h h1 ∧ (n = 0 ∧ k = 0 ∧ Sl Rep.atom h1 wo out ∧ OwnT h h1 39 wt' td) ∧ ∃ J : Nat → Value, e = (v :: u :: jr J 2 4 (wo :: wt' :: J 8 :: .bool false :: .int .i64 k :: jr J 11 64 ([])))) := ⟨_, rfl⟩
    refine W_loopN I2 _ (by rw [hI2]; exact ⟨0, _, rfl, z, ⟨rfl, rfl, so, ot'⟩, junk (by kernel_rfl)⟩) ?_
    intro n e h' hin
    rw [hI2] at hin
    obtain ⟨k, h1', rfl, z, hinv, J, rfl⟩ := hin
    clear so ot ot'
    obtain ⟨rfl, hk0, so, ot'⟩ := hinv
    subst hk0
    repeat' ( simp -implicitDefEqProofs only [syms, symx, seval, c126])
    (rw [hI1]; with_reducible refine loopN_normal (m := _) ?_ ⟨out, td, wo, wt', _, rfl, z, ⟨rfl, hoM, hN.enter.leave (by rw [findR_no hb]; simp), hlo, so, ot', by omega⟩, junk (by kernel_rfl)⟩; ((try simp only [List.length_cons]); omega))
  · rw [hb, if_pos rfl] at hv'
    subst hv'
    obtain ⟨i0, hi0, hil, r0, hr1, hr2, hr3⟩ := findR hb
    rw [hi0]
    have hrR : l[(i0 : Int).toNat]? = some r0 := by simpa using hr1
    have hp0 := hr r0 (List.mem_of_getElem? hr1)
    repeat' ( simp -implicitDefEqProofs only [syms, symx, seval, c126, hvt, hvt', gt])
    obtain ⟨n0, hn0⟩ : ∃ n0, n0 = 2 * (M - out.length) + (td.length + 1) := ⟨_, rfl⟩
    have hE := hN.enter
    have hlen0 := hp0.len
    obtain ⟨I3, hI3⟩ : ∃ I : Nat → Env → Heap → Prop, I = (fun n e h' => ∃ (j : Nat) (out2 td2 : List AtomD) (wo2 wt2 : Value) (h1 : Heap), h' = h1.lay [] h1.low ∧ Ext h h1 ∧ (n = r0.body.length - j ∧ j ≤ r0.body.length ∧ out2.length ≤ M ∧ NeedsIn l goals out2 td2 x0 j ∧ (∀ x ∈ out2, x.light = true) ∧ Sl Rep.atom h1 wo2 out2 ∧ OwnT h h1 39 wt2 td2 ∧ 2 * (M - out2.length) + td2.length + 1 ≤ n0) ∧ ∃ J : Nat → Value, e = (v :: u :: jr J 2 4 (wo2 :: wt2 :: .int .i64 i0 :: .bool true :: .int .i64 j :: jr J 11 64 ([])))) := ⟨_, rfl⟩
    refine W_loopN I3 _ (by rw [hI3]; exact ⟨0, out, td, wo, wt', _, rfl, z, ⟨rfl, by omega, hoM, hE, hlo, so, ot', by omega⟩, junk (by kernel_rfl)⟩) ?_
    intro n e h' hin
    rw [hI3] at hin
    obtain ⟨j, out2, td2, wo2, wt2, h1', rfl, z, hinv, J, rfl⟩ := hin
    clear so ot ot'
    obtain ⟨rfl, hj, hoM2, hI, hlo2, so, ot, hms⟩ := hinv
    have hwj : IntKind.i64.wrap ((j : Int) + 1) = ((j + 1 : Nat) : Int) := by rw [wrap_i64 (by omega) (by omega)]; omega
    have hvo := vSelf wo2
    have hvt2 := vSelf wt2
    simp -implicitDefEqProofs only [syms, symx, seval, c126, hva]
    repeat' ((first | with_reducible_and_instances refine ixr_base hl z.inc ds24 sz41 (by omega) hrR (fun p bd hbd hp => ?_) | with_reducible_and_instances refine fdr2 hp fa41_2 (fun q hq => ?_) | with_reducible_and_instances refine ld_one hq ag23 ?_) <;> simp -implicitDefEqProofs only [syms, symx, seval, c126, hva])
    have hlb0 := fun (hh : Heap) => hbd.lenA ds23 hh
    clear hbd
    simp -implicitDefEqProofs only [syms, symx, seval, c126, hlb0]
    refine forkD (fun hlt3 => ?_) (fun hlt3 => ?_)
    rotate_left
    · have hT := hI.leave (by rw [hr3]; omega)
      repeat' ( simp -implicitDefEqProofs only [syms, symx, seval, c126])
      (rw [hI1]; with_reducible refine loopN_normal (m := _) ?_ ⟨out2, td2, wo2, wt2, _, rfl, z, ⟨rfl, hoM2, hT, hlo2, so, ot, by omega⟩, junk (by kernel_rfl)⟩; ((try simp only [List.length_cons]); omega))
    obtain ⟨b0, hbr, hbr'⟩ := amElem (l := r0.body) (i := j) (by omega)
    have hbo : (bodyOf l x0)[j]? = some b0 := by rw [hr3]; exact hbr'
    have hbl := hp0.lights b0 (List.mem_of_getElem? hbr')
    have hbp := hp0.plains b0 (List.mem_of_getElem? hbr')
    repeat' (first | simp -implicitDefEqProofs only [syms, symx, seval, c126, hva, hvo] | with_reducible_and_instances refine ixr_base hl z.inc ds24 sz41 (by omega) hrR (fun p bd hbd hp => ?_) | with_reducible_and_instances refine fdr2 hp fa41_2 (fun q hq => ?_) | with_reducible_and_instances refine ld_one hq ag23 ?_ | with_reducible_and_instances refine ixa_at (hbd.mono z.inc) ds23 sz39 (by omega) hbr (fun p hp => ?_) | with_reducible_and_instances refine lda hp ag39 sz39 ?_)
    have hzz := z.size
    refine ok_addR out2 b0 wo2 _ (so.lay _ _) (by omega) hlo2 hbl _ (fun h' w3 x o3 => ?_)
    rw [sortA_asc hI.asc] at o3
    have ot0 := ot
    replace ot := ot.over x
    replace so := so.over x
    clear hbd
    ((skip); replace z := z.overW x (by (try simp only [lsz]); omega); rw [lay_nil h'])
    have hv3 := vSelf w3
    cases hbb : hasA out2 b0
    · have hN3 := hI.add hbo hbp
      have hl3 := hN3.len hpb
      have hf3 := del_length (asc_putA (a := b0) hI.asc) (has_put (a := b0) hI.asc)
      rw [del_put hI.asc hbb] at hf3
      have hg3 := put_light hlo2 hbl hI.asc
      repeat' (first | simp -implicitDefEqProofs only [syms, symx, seval, c126, Bool.not_false, hv3, hvt2, hva] | with_reducible_and_instances refine ixr_base hl z.inc ds24 sz41 (by omega) hrR (fun p bd hbd hp => ?_) | with_reducible_and_instances refine fdr2 hp fa41_2 (fun q hq => ?_) | with_reducible_and_instances refine ld_one hq ag23 ?_ | with_reducible_and_instances refine ixa_at (hbd.mono z.inc) ds23 sz39 (by omega) hbr (fun p hp => ?_) | with_reducible_and_instances refine lda hp ag39 sz39 ?_)
      simp -implicitDefEqProofs only [syms, symx, seval, c126, fill_atom, w_append, sty23]
      have hz := z.size
      obtain ⟨w4, h2, e2, o4, A2, hA2, _, c2, hA3⟩ := OwnT.app (a := b0) (lw := h'.low) ds23 ins_info (by decide) hz ot (by omega)
      rw [e2]
      have so5 := ((o3.own (by omega)).stayL (by intro e; rw [e] at hf3; simp at hf3) c2 (by
        rcases hA3 with e | e
        · exact .inr e
        · have := e _ ot0
          left
          rw [lay_size]
          omega)).sl
      replace z := z.stepW c2 hA2 (by omega)
      have hv4 := vSelf w4
      rw [lay_nil h2]
      clear ot so o3 ot0 hbd
      repeat' ( simp -implicitDefEqProofs only [syms, symx, seval, c126, hv4, hv3])
      rw [hwj]
      (rw [hI3]; with_reducible refine loopN_normal (m := _) ?_ ⟨j + 1, putA b0 out2, td2 ++ [b0], w3, w4, _, rfl, z, ⟨rfl, by omega, by omega, hN3, hg3, so5, o4, by simp only [List.length_append, List.length_cons, List.length_nil]; omega⟩, junk (by kernel_rfl)⟩; omega)
    · have hN3 := hI.pass hbo ((hasA_mem hI.plain hbp).1 hbb)
      clear o3
      repeat' ( simp -implicitDefEqProofs only [syms, symx, seval, c126, Bool.not_true, hv3])
      rw [hwj]
      (rw [hI3]; with_reducible refine loopN_normal (m := _) ?_ ⟨j + 1, out2, td2, wo2, wt2, _, rfl, z, ⟨rfl, by omega, hoM2, hN3, hlo2, so, ot, by omega⟩, junk (by kernel_rfl)⟩; omega)
theorem placed_take {ks : List ReasonD} (hp : PlacedD ks) (n : Nat) : PlacedD (ks.take n) := by
  intro i r hi
  have hin : i < n := by
    have := (List.getElem?_eq_some_iff.1 hi).1
    rw [List.length_take] at this
    omega
  rw [List.getElem?_take_of_lt hin] at hi
  rw [List.take_take, Nat.min_eq_left (by omega)]
  exact hp i r hi
theorem cite_last {l : List ReasonD} {goals out : List AtomD} (hp : PlacedD l) (hN : NeedsOf l goals out) (hr : ∀ r ∈ l, PlainR r) {i : Nat} {r : ReasonD} (hi : l[i]? = some r) (ho : hasA out r.atom = true) {b : AtomD} (hb : b ∈ r.body) : lastD (derD (keptD (l.take i) out)) b = citeD (keptD (l.take i) out) b := by
  have hil := (List.getElem?_eq_some_iff.1 hi).1
  have e0 : l = l.take i ++ (r :: l.drop (i + 1)) := by
    have h1 := (List.take_append_drop i l).symm
    rw [List.drop_eq_getElem_cons hil, (List.getElem?_eq_some_iff.1 hi).2] at h1
    exact h1
  have e1 : keptD l out = keptD (l.take i) out ++ (r :: keptD (l.drop (i + 1)) out) := by
    conv => lhs; rw [e0]
    unfold keptD
    rw [List.filter_append, List.filter_cons, if_pos ho]
  obtain ⟨K, hK⟩ : ∃ K, K = keptD l out := ⟨_, rfl⟩
  obtain ⟨m, hm⟩ : ∃ m, m = (keptD (l.take i) out).length := ⟨_, rfl⟩
  have hKp : PlacedD K := hK ▸ kept_placed hp hN hr
  have hKt : K.take m = keptD (l.take i) out := by rw [hK, e1, hm, List.take_left]
  have hKm : K[m]? = some r := by rw [hK, e1, hm, List.getElem?_append_right (Nat.le_refl _), Nat.sub_self]; rfl
  obtain ⟨j, r2, c1, c2, c3, c4⟩ := der_cite hKp hKm hb
  rw [hKt] at c1
  rw [c1]
  have hj : (keptD (l.take i) out)[j]? = some r2 := by rw [← hKt, List.getElem?_take_of_lt c2]; exact c3
  have := last_der (hKt ▸ placed_take hKp m) (derD_get hj)
  rw [← c4]
  exact this
theorem lastF_no {l : List StepD} {a : AtomD} {k : Nat} {r : StepD} (h : l[k]? = some r) (hn : ¬ r.atom = a) : lastF l a (k + 1) = lastF l a k := by
  have e : l.getD k noStepD = r := by rw [List.getD_eq_getElem?_getD, h]; rfl
  show (if (l.getD k noStepD).atom = a then (k : Int) else lastF l a k) = _
  rw [e, if_neg hn]
theorem lastF_yes {l : List StepD} {a : AtomD} {k : Nat} {r : StepD} (h : l[k]? = some r) (hn : r.atom = a) : lastF l a (k + 1) = k := by
  have e : l.getD k noStepD = r := by rw [List.getD_eq_getElem?_getD, h]; rfl
  show (if (l.getD k noStepD).atom = a then (k : Int) else lastF l a k) = _
  rw [e, if_pos hn]
theorem store_whole {T : Tab} {t u : TypeId} {A n : Nat} {cs vs : List Value} {v : Value} {h1 : Heap} {bs : List Blk} {w : Nat} {K : Value → Heap → Prop} (q : Holds h1 A (.row cs u false)) (hs : sizeA T t = some n) (hc : cs.length = n) (hv : v.cells.toList = vs) (hl : vs.length = n) (hv1 : vs.all Am.one = true)
    (hK : ∀ h', Holds h' A (.row vs u false) → Chg A (h1.lay bs w) h' → K undef h') : memE (storeA T t (.pointer (some ⟨A, 0, none⟩)) v (h1.lay bs w)) K := by
  have hg : (h1.lay bs w).get A = some (.row cs u false) := q.lay bs w
  have hA : A < (h1.lay bs w).size := (q.on bs w).lt
  have hsz : v.cells.size = n := by rw [← Array.length_toList, hv, hl]
  have hsp : splice cs 0 vs = vs := by
    unfold splice
    rw [List.take_zero, List.nil_append, List.drop_eq_nil_of_le (by omega), List.append_nil]
  have he : storeA T t (.pointer (some ⟨A, 0, none⟩)) v (h1.lay bs w) = some ((h1.lay bs w).set A (.row vs u false)) := by
    unfold storeA
    simp only [hs, Option.bind_some]
    rw [if_pos hsz, hv]
    unfold writeA
    rw [hg]
    simp only
    rw [if_pos (by simp only [Bool.and_eq_true, decide_eq_true_eq]; exact ⟨by omega, hv1⟩), hsp]
  rw [he]
  refine hK _ ⟨by rw [Heap.size_set]; exact hA, by rw [Heap.get_set _ _ _ _ hA, if_pos rfl]⟩ ⟨by rw [Heap.size_set]; exact Nat.le_refl _, fun B hB hne => by rw [Heap.get_set _ _ _ _ hA, if_neg hne], by rw [Heap.low_set]; omega⟩
theorem ok_lastRef (l : List StepD) (a : AtomD) (v : Value) (h : Heap) (hl : Sl Rep.step h v l) (hn : l.length ≤ 1000) (K : Value → Heap → Prop) (hk : ∀ h', Ext h h' → K (.int .i64 (lastD l a)) h') : Ok Try.prog tab ov 72 [v, a.val] h K := by
  rw [lay_nil h]
  have z := Ext.refl h
  have hva := vSelf v
  have hlv := fun (hh : Heap) => hl.lenA ds84 hh
  refine Ok.into rfl tab_fn72 (bodyF N72) rfl (m := 19) rfl ?_
  repeat' ( simp -implicitDefEqProofs only [syms, symx, seval, c72, cells_atom, ↓cut_atom, agg_atom, valE_atom, hva, hlv])
  refine W_fold (fun h' x hq => ?_)
  have q0 := hq 0 _ rfl
  clear hq
  (replace z := z.overW x (by (try simp only [lsz]); omega); rw [lay_nil h'])
  obtain ⟨A0, hA0⟩ : ∃ A0, A0 = h.size + 0 := ⟨_, rfl⟩
  rw [← hA0] at q0
  rw [← hA0]
  have hw0 : IntKind.i64.wrap ((l.length : Int) - 1) = (l.length : Int) - 1 := by rw [wrap_i64 (by omega) (by omega)]
  rw [hw0]
  obtain ⟨I1, hI1⟩ : ∃ I : Nat → Env → Heap → Prop, I = (fun n e h' => ∃ (i : Nat) (h1 : Heap), h' = h1.lay [] h1.low ∧ Ext h h1 ∧ (n = i + 0 ∧ i ≤ l.length ∧ lastD l a = lastF l a i ∧ Holds h1 A0 (.row a.cells 39 false)) ∧ ∃ J : Nat → Value, e = (v :: jr J 1 2 (.pointer (some ⟨A0, 0, none⟩) :: J 4 :: .int .i64 ((i : Int) - 1) :: jr J 6 15 ([])))) := ⟨_, rfl⟩
  refine W_loopN I1 _ (by rw [hI1]; exact ⟨l.length, _, rfl, z, ⟨rfl, by omega, rfl, q0⟩, junk (by kernel_rfl)⟩) ?_
  intro n e h' hin
  rw [hI1] at hin
  obtain ⟨i, h1', rfl, z, hinv, J, rfl⟩ := hin
  clear q0
  obtain ⟨hnn, hi, hla, q0⟩ := hinv
  simp -implicitDefEqProofs only [syms, symx, seval, c72]
  refine forkD (fun hlt => ?_) (fun hlt => ?_)
  rotate_left
  · have hi0 : i = 0 := by omega
    rw [hi0] at hla
    rw [hla] at hk
    repeat' ( simp -implicitDefEqProofs only [syms, symx, seval, c72])
    exact hk _ (z.upW _ _ (by omega))
  obtain ⟨k, rfl⟩ : ∃ k, i = k + 1 := ⟨i - 1, by omega⟩
  have hki : ((k + 1 : Nat) : Int) - 1 = k := by omega
  rw [hki]
  have hwk : IntKind.i64.wrap ((k : Int) - 1) = (k : Int) - 1 := by rw [wrap_i64 (by omega) (by omega)]
  obtain ⟨r, hr, hr'⟩ := amElem (l := l) (i := k) (by omega)
  repeat' (first | simp -implicitDefEqProofs only [syms, symx, seval, c72, q0.lay, ↓cut_atom, agg_atom, valE_atom, hva, bin_atomE] | with_reducible refine drawN (by simp only [c72]) (z.upW _ _ (by omega)) ?_ | ((with_reducible  apply forkD ) <;> intro _) | with_reducible_and_instances refine ixp_at (hl.mono z.inc) ds84 sz90 (by omega) hr (fun p b hb hp => ?_) | with_reducible_and_instances refine fdr0 hp fa90_0 (fun q hq => ?_) | with_reducible_and_instances refine lda hq ag39 sz39 ?_ | ((with_reducible refine ⟨z.grw.lay _ _, ?_⟩); (intro _ h' zz x _); (try simp only [lay_lay, List.append_nil] at x); (try replace q0 := q0.over x); (replace z := zz); (clear zz); rw [lay_nil h']))
  · have he : r.atom = a := by assumption
    rw [hla, lastF_yes hr' he] at hk
    exact hk _ (z.upW _ _ (by omega))
  · have he : ¬ r.atom = a := by assumption
    rw [hwk]
    (rw [hI1]; with_reducible refine loopN_normal (m := _) ?_ ⟨k, _, rfl, z, ⟨rfl, by omega, hla.trans (lastF_no hr' he), q0⟩, junk (by kernel_rfl)⟩; omega)
theorem ok_deriveRef (l : List ReasonD) (goals : List AtomD) (v u : Value) (h : Heap) (hl : Sl Rep.reason h v l) (hg : Sl Rep.atom h u goals) (hn : l.length ≤ 40) (hr : ∀ r ∈ l, PlainR r) (hgl : goals.length ≤ 10) (hgi : ∀ x ∈ goals, x.light = true) (hgp : AllP goals) (K : Value → Heap → Prop)
    (h1k : ¬ PlacedD l → ∀ h', Ext h h' → K (.tuple #[.slice none 0 0, .int .i64 2]) h')
    (h2k : PlacedD l → (∃ g ∈ goals, hasR l g = false) → ∀ h', Ext h h' → K (.tuple #[.slice none 0 0, .int .i64 13]) h')
    (h3k : PlacedD l → (∀ g ∈ goals, hasR l g = true) → ∀ h' w out, Ext h h' → NeedsOf l goals out → Sl Rep.step h' w (derD (keptD l out)) → K (.tuple #[w, .int .i64 0]) h') : Ok Try.prog tab ov 65 [v, u] h K := by
  rw [lay_nil h]
  have z := Ext.refl h
  have hva := vSelf v
  have hvu := vSelf u
  have hlv := fun (hh : Heap) => hl.lenA ds24 hh
  refine Ok.into rfl tab_fn65 (bodyF N65) rfl (m := 80) rfl ?_
  repeat' ( simp -implicitDefEqProofs only [syms, symx, seval, c65, hva])
  refine ok_straight l v _ (hl.lay _ _) (by omega) (fun r hr' => by have := (hr r hr').len; omega) _ (fun hpl h' x => ?_) (fun hpl h' x => ?_)
  rotate_left
  · (( skip); replace z := z.overW x (by (try simp only [lsz]); omega); rw [lay_nil h'])
    repeat' (first | simp -implicitDefEqProofs only [syms, symx, seval, c65, Bool.not_false] | ((with_reducible_and_instances apply unop_not); (· rfl)))
    exact h1k hpl _ (z.upW _ _ (by omega))
  (( skip); replace z := z.overW x (by (try simp only [lsz]); omega); rw [lay_nil h'])
  replace h2k := h2k hpl
  replace h3k := h3k hpl
  repeat' (first | simp -implicitDefEqProofs only [syms, symx, seval, c65, Bool.not_true, hva, hvu] | ((with_reducible_and_instances apply unop_not); (· rfl)))
  refine ok_needsR l goals v u _ ((hl.mono z.inc).lay _ _) ((hg.mono z.inc).lay _ _) hn hr hgl hgi hgp _ (fun hall h' w out x so hN hlo hol => ?_) (fun hex h' x => ?_)
  rotate_left
  · (( skip); replace z := z.overW x (by (try simp only [lsz]); omega); rw [lay_nil h'])
    repeat' ( simp -implicitDefEqProofs only [syms, symx, seval, c65])
    exact h2k hex _ (z.upW _ _ (by omega))
  (( skip); replace z := z.overW x (by (try simp only [lsz]); omega); rw [lay_nil h'])
  have hvw0 := vSelf w
  have hlw := fun (hh : Heap) => so.lenA ds23 hh
  repeat' (first | simp -implicitDefEqProofs only [syms, symx, seval, c65, hvw0, hlw] | ((with_reducible  apply forkD ) <;> intro _))
  · exfalso; omega
  replace h3k : ∀ h2 ws, Ext h' h2 → Sl Rep.step h2 ws (derD (keptD l out)) → K (.tuple #[ws, .int .i64 0]) h2 := fun h2 ws x3 s => h3k hall h2 ws out (z.trans x3) hN s
  replace hl := hl.mono z.inc
  clear h2k hg
  replace z := Ext.refl h'
  obtain ⟨h, eh⟩ : ∃ h, h = h' := ⟨_, rfl⟩
  subst eh
  obtain ⟨I1, hI1⟩ : ∃ I : Nat → Env → Heap → Prop, I = (fun n e h' => ∃ (i : Nat) (wv : Value) (A : Nat) (h1 : Heap), h' = h1.lay [] h1.low ∧ Ext h h1 ∧ (n = l.length - i ∧ i ≤ l.length ∧ Ow Rep.step h h1 90 A wv (derD (keptD (l.take i) out))) ∧ ∃ J : Nat → Value, e = (v :: jr J 1 5 (w :: J 7 :: wv :: .int .i64 i :: jr J 10 72 ([])))) := ⟨_, rfl⟩
  refine W_loopN I1 _ (by rw [hI1]; exact ⟨0, .slice none 0 0, h.size, _, rfl, z, ⟨rfl, by omega, Ow.nil (Nat.le_refl _)⟩, junk (by kernel_rfl)⟩) ?_
  intro n e h' hin
  rw [hI1] at hin
  obtain ⟨i, wv, A, h1', rfl, z, hinv, J, rfl⟩ := hin
  obtain ⟨rfl, hi, ow⟩ := hinv
  have hz1 := z.size
  have hwi : IntKind.i64.wrap ((i : Int) + 1) = ((i + 1 : Nat) : Int) := by rw [wrap_i64 (by omega) (by omega)]; omega
  have hvw := vSelf wv
  simp -implicitDefEqProofs only [syms, symx, seval, c65, hva, hlv]
  refine forkD (fun hlt1 => ?_) (fun hlt1 => ?_)
  rotate_left
  · rw [List.take_of_length_le (by omega)] at ow
    repeat' ( simp -implicitDefEqProofs only [syms, symx, seval, c65, hvw])
    exact h3k _ _ (z.upW _ _ (by omega)) ((ow.sl (by decide)).lay _ _)
  obtain ⟨r, hr0, hr'⟩ := amElem (l := l) (i := i) (by omega)
  have hrp := hr r (List.mem_of_getElem? hr')
  repeat' (first | simp -implicitDefEqProofs only [syms, symx, seval, c65, hva, hvw0] | with_reducible_and_instances refine ixr_at (hl.mono z.inc) ds24 sz41 (by omega) hr0 (fun p bd hbd hp => ?_) | with_reducible_and_instances refine fdr0 hp fa41_0 (fun q hq => ?_) | with_reducible_and_instances refine lda hq ag39 sz39 ?_)
  refine ok_hasR out r.atom w _ ((so.mono z.inc).lay _ _) (by omega) hlo hrp.light _ (fun h' x => ?_)
  clear hbd
  (( skip); replace z := z.overW x (by (try simp only [lsz]); omega); (try replace ow := ow.over x); rw [lay_nil h'])
  have hks := keptD_snoc (out := out) hr'
  cases hb : hasA out r.atom
  · rw [hb, if_neg (by decide), List.append_nil] at hks
    repeat' (first | simp -implicitDefEqProofs only [syms, symx, seval, c65, Bool.not_false] | ((with_reducible_and_instances apply unop_not); (· rfl)))
    rw [hwi]
    (rw [hI1]; with_reducible refine loopN_normal (m := _) ?_ ⟨i + 1, wv, A, _, rfl, z, ⟨rfl, by omega, by rw [hks]; exact ow⟩, junk (by kernel_rfl)⟩; omega)
  rw [hb, if_pos rfl] at hks
  have hall2 := one_reM (a := r.atom) (n := r.clause) (w := .slice none 0 0) rfl
  repeat' (first | simp -implicitDefEqProofs only [syms, symx, seval, c65, Bool.not_true, hva, bld_step] | with_reducible refine drawN (by simp only [c65]) (z.upW _ _ (by omega)) ?_ | with_reducible_and_instances refine ixr_at (hl.mono z.inc) ds24 sz41 (by omega) hr0 (fun p bd hbd hp => ?_) | with_reducible_and_instances refine fdr0 hp fa41_0 (fun q hq => ?_) | with_reducible_and_instances refine lda hq ag39 sz39 ?_ | with_reducible_and_instances refine fdr1 hp fa41_1 (fun q hq => ?_) | with_reducible_and_instances refine ld_one hq ag3 ?_ | ((with_reducible_and_instances apply unop_not); (· rfl)))
  refine KOpsX_alloc (by have := z.size; omega) (by omega) ?_
  obtain ⟨zs, hzs, hzl⟩ : ∃ zs : List Value, zs = [Value.string ⟨#[]⟩, Value.string ⟨#[]⟩, Value.int IntKind.i64 0, Value.bool false, Value.string ⟨#[]⟩, Value.bool false, Value.string ⟨#[]⟩, Value.bool false, Value.string ⟨#[]⟩, Value.bool false, Value.string ⟨#[]⟩, Value.int IntKind.i64 0, Value.slice none 0 0] ∧ zs.length = 13 := ⟨_, rfl, rfl⟩
  rw [← hzs]
  have hz2 := z.size
  obtain ⟨S0, hS0⟩ : ∃ S0, S0 = h'.size + 0 := ⟨_, rfl⟩
  obtain ⟨H0, hH0⟩ : ∃ H0, H0 = h'.lay [Blk.row zs 90 false] (h'.size + 0) := ⟨_, rfl⟩
  have s00 : Holds H0 S0 (.row zs 90 false) := ⟨by rw [hH0, lay_size, hS0]; simp, by rw [hH0, hS0, lay_get]; rfl⟩
  have hH0s : H0.size = h'.size + 1 := by rw [hH0, lay_size]; rfl
  have g0 : Grw h' H0 := by rw [hH0]; exact (Ext.refl h').grw.lay _ _
  replace z := z.upW [Blk.row zs 90 false] (h'.size + 0) (by omega)
  rw [← hH0] at z
  rw [← hH0, ← hS0, lay_nil H0]
  repeat' ( simp -implicitDefEqProofs only [syms, symx, seval, c65])
  refine store_whole s00 sz90 hzl rfl rfl hall2 (fun h4 s0 c4 => ?_)
  refine KOpsX_chg (A := S0) (by kernel_rfl) (by rw [lay_size]; omega) (by omega) (by simpa only [lay_lay, lay_size, List.append_nil, List.length_cons, List.length_nil, Nat.zero_add] using c4) ?_
  have zi := g0.stepL c4 (by omega)
  replace z := (z.upW [] _ (by omega)).step c4 (by omega)
  rw [lay_nil h4]
  have hblen := hrp.len
  have hkl : (keptD (l.take i) out).length ≤ 40 := by have := List.length_filter_le (fun r => hasA out r.atom) (l.take i); unfold keptD; rw [List.length_take] at this; omega
  have hdl := derD_length (keptD (l.take i) out)
  obtain ⟨hb0, hhb0⟩ : ∃ hb0, hb0 = h' := ⟨_, rfl⟩
  rw [← hhb0] at ow zi hz2 hS0 hH0s
  clear s00 g0 hH0 c4 hhb0
  repeat' (first | simp -implicitDefEqProofs only [syms, symx, seval, c65] | ((with_reducible refine ⟨z.grw.lay _ _, ?_⟩); (intro _ h' zz x _); (try simp only [lay_lay, List.append_nil] at x); (try replace zi := zi.over x); (try replace s0 := s0.over x); (replace z := zz); (clear zz); rw [lay_nil h']))
  obtain ⟨I2, hI2⟩ : ∃ I : Nat → Env → Heap → Prop, I = (fun n e h' => ∃ (j : Nat) (cv : Value) (C : Nat) (h1 : Heap), h' = h1.lay [] h1.low ∧ Ext h h1 ∧ (n = r.body.length - j ∧ j ≤ r.body.length ∧ Grw hb0 h1 ∧ Holds h1 S0 (.row (r.atom.cells ++ [.int .i64 r.clause, cv]) 90 false) ∧ Ow Rep.int hb0 h1 3 C cv ((r.body.take j).map (citeD (keptD (l.take i) out))) ∧ C ≠ S0) ∧ ∃ J : Nat → Value, e = (v :: jr J 1 5 (w :: J 7 :: wv :: .int .i64 i :: .pointer (some ⟨S0, 0, none⟩) :: .int .i64 j :: jr J 12 70 ([])))) := ⟨_, rfl⟩
  refine W_loopN I2 _ (by rw [hI2]; exact ⟨0, .slice none 0 0, S0 + 1, _, rfl, z, ⟨rfl, by omega, zi, s0, Ow.nil (by omega), by omega⟩, junk (by kernel_rfl)⟩) ?_
  intro n e h' hin
  rw [hI2] at hin
  obtain ⟨j, cv, C, h2', rfl, z, hinv, J, rfl⟩ := hin
  clear zi s0
  obtain ⟨rfl, hj, zi, s0, oc, hCS⟩ := hinv
  have hwj : IntKind.i64.wrap ((j : Int) + 1) = ((j + 1 : Nat) : Int) := by rw [wrap_i64 (by omega) (by omega)]; omega
  have hvc := vSelf cv
  repeat' (first | simp -implicitDefEqProofs only [syms, symx, seval, c65, hva] | with_reducible refine drawN (by simp only [c65]) (z.upW _ _ (by omega)) ?_ | ((with_reducible  apply forkD ) <;> intro _) | with_reducible_and_instances refine ixr_at (hl.mono z.inc) ds24 sz41 (by omega) hr0 (fun p bd hbd hp => ?_) | with_reducible_and_instances refine fdr2 hp fa41_2 (fun q hq => ?_) | with_reducible_and_instances refine ld_one hq ag23 ?_ | with_reducible_and_instances refine ln_rule hbd ds23 ?_)
  rotate_left
  · rw [List.take_of_length_le (l := r.body) (i := j) (by omega)] at oc
    have hzs := z.size
    have hzi := zi.1
    obtain ⟨A, ow, hA2⟩ := ow_pick ow (h2'.size + 1) (by omega)
    have ow3 := ow.mono zi.inc
    repeat' ( simp -implicitDefEqProofs only [syms, symx, seval, c65, hvw, s0.lay, ↓cut_re13M])
    simp -implicitDefEqProofs only [syms, symx, seval, c65, fill_step, w_append, sty84]
    obtain ⟨wa, wn, wc, rfl⟩ := oc.slice
    have hHs : (h2'.lay [Blk.row (r.atom.cells ++ [.int .i64 r.clause, .slice wa wn wc]) 90 false] h2'.low).size = h2'.size + 1 := by rw [lay_size]; rfl
    have hR : Rep.step.R (kill A (h2'.lay [Blk.row (r.atom.cells ++ [.int .i64 r.clause, .slice wa wn wc]) 90 false] h2'.low)) (r.atom.cells ++ [.int .i64 r.clause, .slice wa wn wc]) (stepD (keptD (l.take i) out) r) :=
      ⟨_, rfl, (oc.lay _ _).under (by decide) (fun _ _ _ _ h => h) (hA2.imp id (fun e => by rw [hHs]; omega))⟩
    obtain ⟨hs1, hsr⟩ := src_row (r := Rep.step) (c := 1) (by decide) (show (h2'.lay [Blk.row (r.atom.cells ++ [.int .i64 r.clause, .slice wa wn wc]) 90 false] h2'.low).get (h2'.size + 0) = some (.row (r.atom.cells ++ [.int .i64 r.clause, .slice wa wn wc]) 90 false) by rw [lay_get]; rfl) hR
    obtain ⟨w', h6, A'', e1, e2, e3, e4, e5⟩ := app_ow (t := 84) ds84 tab_info90 rfl (by decide) (by rw [hHs]; omega) (ow3.lay _ _) hs1 hsr (by omega) (by omega)
    have hfA := ow3.fresh
    rw [hHs] at e4
    replace z := (z.upW [Blk.row (r.atom.cells ++ [.int .i64 r.clause, .slice wa wn wc]) 90 false] h2'.low (by omega)).step e3 hfA
    have hz6 := e3.size
    rw [hHs] at hz6
    rw [e1, lay_nil h6]
    rw [← derD_snoc, ← hks] at e2
    clear ow3 oc s0
    repeat' ( simp -implicitDefEqProofs only [syms, symx, seval, c65])
    rw [hwi]
    (rw [hI1]; with_reducible refine loopN_normal (m := _) ?_ ⟨i + 1, _, A'', _, rfl, z, ⟨rfl, by omega, e2⟩, junk (by kernel_rfl)⟩; omega)
  obtain ⟨b0, hbr, hbr'⟩ := amElem (l := r.body) (i := j) (by omega)
  have ow4 := ow.mono zi.inc
  repeat' (first | simp -implicitDefEqProofs only [syms, symx, seval, c65, hvw, hva, hvc, s0.lay, cell_re2M] | with_reducible_and_instances refine ixr_at (hl.mono z.inc) ds24 sz41 (by omega) hr0 (fun p bd hbd hp => ?_) | with_reducible_and_instances refine fdr2 hp fa41_2 (fun q hq => ?_) | with_reducible_and_instances refine ld_one hq ag23 ?_ | with_reducible_and_instances refine ixa_at hbd ds23 sz39 (by omega) hbr (fun p2 hp2 => ?_) | with_reducible_and_instances refine lda hp2 ag39 sz39 ?_)
  refine ok_lastRef (derD (keptD (l.take i) out)) b0 wv _ ((ow4.sl (by decide)).lay _ _) (by omega) _ (fun h' x => ?_)
  (( ((with_reducible refine KOpsX_call ?_ ?_ ?_); (· exact (by (try simp only [lsz]); have := z.size; omega)); (·  exact x )) ); replace z := z.overW x (by (try simp only [lsz]); omega); (try replace zi := zi.over x); (try replace s0 := s0.over x); (try replace oc := oc.over x); rw [lay_nil h'])
  rw [cite_last hpl hN hr hr' hb (List.mem_of_getElem? hbr')]
  obtain ⟨c0, hc0⟩ : ∃ c0, c0 = citeD (keptD (l.take i) out) b0 := ⟨_, rfl⟩
  rw [← hc0]
  simp -implicitDefEqProofs only [syms, symx, seval, c65]
  refine KOpsX_alloc (by have := z.size; omega) (by omega) ?_
  simp -implicitDefEqProofs only [syms, symx, seval, c65, w_append, sty32]
  have hHs : (h'.lay [Blk.row [.int .i64 c0] 3 false] (h'.size + 1)).size = h'.size + 1 := by rw [lay_size]; rfl
  have hcl : ((r.body.take j).map (citeD (keptD (l.take i) out))).length ≤ 20 := by rw [List.length_map, List.length_take]; omega
  obtain ⟨hs, hsr⟩ := src_row (r := Rep.int) (A := C) (c := 1) (y := c0) (by decide) (show (h'.lay [Blk.row [.int .i64 c0] 3 false] (h'.size + 1)).get (h'.size + 0) = some (.row [.int .i64 c0] 3 false) by rw [lay_get]; rfl) rfl
  have hzi := zi.1
  obtain ⟨cv', h'', C', e1, e2, e3, e4, e5⟩ := app_ow (t := 32) ds32 tab_info3 rfl (by decide) (by rw [hHs]; omega) (oc.mono (Inc.lay _ _ _)) hs hsr (by omega) (by omega)
  have hfC := oc.fresh
  have s0l := s0.lt
  rw [e1]
  simp -implicitDefEqProofs only [syms, symx, seval, c65]
  refine KOpsX_chg (A := C) (by kernel_rfl) (by rw [lay_size]; omega) (by omega) (by simpa only [lay_lay, lay_size, List.append_nil, List.length_cons, List.length_nil, Nat.zero_add] using e3) ?_
  replace z := (z.upW [Blk.row [.int .i64 c0] 3 false] (h'.size + 1) (by omega)).step e3 (by omega)
  replace zi := zi.stepL e3 hfC
  replace s0 := s0.stepL e3 (by omega)
  clear oc
  rw [lay_nil h'']
  repeat' ( simp -implicitDefEqProofs only [syms, symx, seval, c65])
  obtain ⟨ca, cn, cc, rfl⟩ := e2.slice
  refine store_cell s0 sz32 (by rw [len_reM]; decide) rfl rfl (fun h4 s0' c4 => ?_)
  have hzz := z.size
  have hzh : h'.size + 1 ≤ h''.size := by have := e3.size; rw [hHs] at this; exact this
  refine KOpsX_chg (A := S0) (by kernel_rfl) (by rw [lay_size]; omega) (by omega) (by simpa only [lay_lay, lay_size, List.append_nil, List.length_cons, List.length_nil, Nat.zero_add] using c4) ?_
  replace z := (z.upW [] _ (by omega)).step c4 (by omega)
  replace zi := zi.stepL c4 (by omega)
  have hC4 : C' ≠ S0 := by rw [hHs] at e4; omega
  replace e2 := (e2.lay [] _).chg (fun _ _ _ _ h => h) (by simp) c4 (Ne.symm hC4)
  rw [lay_nil h4]
  clear s0
  repeat' (first | simp -implicitDefEqProofs only [syms, symx, seval, c65] | ((with_reducible refine ⟨z.grw.lay _ _, ?_⟩); (intro _ h' zz x _); (try simp only [lay_lay, List.append_nil] at x); (try replace zi := zi.over x); (try replace s0' := s0'.over x); (try replace e2 := e2.over x); (replace z := zz); (clear zz); rw [lay_nil h']))
  rw [hwj]
  have htk : (r.body.take (j + 1)).map (citeD (keptD (l.take i) out)) = (r.body.take j).map (citeD (keptD (l.take i) out)) ++ [citeD (keptD (l.take i) out) b0] := by rw [List.take_add_one, hbr', List.map_append]; rfl
  rw [hc0, ← htk] at e2
  have s1 : Holds h' S0 (.row (r.atom.cells ++ [.int .i64 r.clause, .slice ca cn cc]) 90 false) := s0'
  (rw [hI2]; with_reducible refine loopN_normal (m := _) ?_ ⟨j + 1, _, C', _, rfl, z, ⟨rfl, by omega, zi, s1, e2, hC4⟩, junk (by kernel_rfl)⟩; omega)
theorem ok_sameRef (l m : List StepD) (v u : Value) (h : Heap) (hl : Sl Rep.step h v l) (hm : Sl Rep.step h u m) (hn : l.length ≤ 1000) (hc : ∀ s ∈ l, s.cites.length ≤ 1000) (K : Value → Heap → Prop) (hk : ∀ h', Ext h h' → K (.bool (decide (l = m))) h') : Ok Try.prog tab ov 73 [v, u] h K := by
  rw [lay_nil h]
  have z := Ext.refl h
  have hva := vSelf v
  have hua := vSelf u
  have hlv := fun (hh : Heap) => hl.lenA ds84 hh
  have hlu := fun (hh : Heap) => hm.lenA ds84 hh
  refine Ok.into rfl tab_fn73 (bodyF N73) rfl (m := 82) rfl ?_
  repeat' (first | simp -implicitDefEqProofs only [syms, symx, seval, c73, hva, hua, hlv, hlu] | ((with_reducible  apply forkN ) <;> intro _))
  · rw [decide_eq_false (show ¬ l = m from fun e => by subst e; omega)] at hk
    exact hk _ (z.upW _ _ (by omega))
  have hlen : l.length = m.length := by omega
  obtain ⟨I1, hI1⟩ : ∃ I : Nat → Env → Heap → Prop, I = (fun n e h' => ∃ (i : Nat) (h1 : Heap), h' = h1.lay [] h1.low ∧ Ext h h1 ∧ (n = l.length - i ∧ i ≤ l.length ∧ l.take i = m.take i) ∧ ∃ J : Nat → Value, e = (v :: u :: jr J 2 3 (.int .i64 i :: jr J 6 78 ([])))) := ⟨_, rfl⟩
  refine W_loopN I1 _ (by rw [hI1]; exact ⟨0, _, rfl, z, ⟨rfl, by omega, rfl⟩, junk (by kernel_rfl)⟩) ?_
  intro n e h' hin
  rw [hI1] at hin
  obtain ⟨i, h1', rfl, z, hinv, J, rfl⟩ := hin
  obtain ⟨rfl, hi, htk⟩ := hinv
  have hw : IntKind.i64.wrap ((i : Int) + 1) = ((i + 1 : Nat) : Int) := by rw [wrap_i64 (by omega) (by omega)]; omega
  simp -implicitDefEqProofs only [syms, symx, seval, c73, hva, hlv]
  refine forkD (fun hlt => ?_) (fun hlt => ?_)
  rotate_left
  · rw [List.take_of_length_le (by omega), List.take_of_length_le (by omega)] at htk
    rw [decide_eq_true htk] at hk
    repeat' ( simp -implicitDefEqProofs only [syms, symx, seval, c73])
    exact hk _ (z.upW _ _ (by omega))
  obtain ⟨r, hr, hr'⟩ := amElem (l := l) (i := i) (by omega)
  obtain ⟨s, hs, hs'⟩ := amElem (l := m) (i := i) (by omega)
  have hrc := hc r (List.mem_of_getElem? hr')
  have hno : ¬ r = s → decide (l = m) = false := fun hne => decide_eq_false (fun e => by
    subst e
    rw [hr'] at hs'
    exact hne (Option.some.inj hs'))
  repeat' (first | simp -implicitDefEqProofs only [syms, symx, seval, c73, hva, hua, bin_atomN] | with_reducible refine drawN (by simp only [c73]) (z.upW _ _ (by omega)) ?_ | ((with_reducible first | apply forkN | apply forkNP ) <;> intro _) | with_reducible_and_instances refine ixp_at (hl.mono z.inc) ds84 sz90 (by omega) hr (fun p b hb hp => ?_) | with_reducible_and_instances refine ixp_at (hm.mono z.inc) ds84 sz90 (by omega) hs (fun p b2 hb2 hp => ?_) | with_reducible_and_instances refine fdr0 hp fa90_0 (fun q hq => ?_) | with_reducible_and_instances refine lda hq ag39 sz39 ?_ | with_reducible_and_instances refine fdr1 hp fa90_1 (fun q hq => ?_) | with_reducible_and_instances refine ld_one hq ag3 ?_ | with_reducible_and_instances refine fdr2 hp fa90_2 (fun q hq => ?_) | with_reducible_and_instances refine ld_one hq ag32 ?_ | with_reducible_and_instances refine ln_rule hb ds32 ?_ | with_reducible_and_instances refine ln_rule hb2 ds32 ?_ | ((with_reducible refine ⟨z.grw.lay _ _, ?_⟩); (intro _ h' zz x _); (try simp only [lay_lay, List.append_nil] at x); (replace z := zz); (clear zz); rw [lay_nil h']))
  · have hne : ¬ r.re.atom = s.re.atom := by assumption
    rw [hno (fun e => hne (by rw [e]))] at hk
    exact hk _ (z.upW _ _ (by omega))
  · have hne : ¬ r.re.clause = s.re.clause := by assumption
    rw [hno (fun e => hne (by rw [e]))] at hk
    exact hk _ (z.upW _ _ (by omega))
  · have hne : ¬ (r.cites.length : Int) = s.cites.length := by assumption
    rw [hno (fun e => hne (by rw [e]))] at hk
    exact hk _ (z.upW _ _ (by omega))
  have hra : r.re.atom = s.re.atom := by assumption
  have hrcl : r.re.clause = s.re.clause := by assumption
  have hrl : (r.cites.length : Int) = s.cites.length := by assumption
  have hrs : r.cites = s.cites → r = s := fun e => by
    obtain ⟨xa, xc, xs⟩ := r
    obtain ⟨ya, yc, ys⟩ := s
    have e1 : xa = ya := hra
    have e2 : xc = yc := hrcl
    have e3 : xs = ys := e
    rw [e1, e2, e3]
  clear hra hrcl
  obtain ⟨I2, hI2⟩ : ∃ I : Nat → Env → Heap → Prop, I = (fun n e h' => ∃ (j : Nat) (h1 : Heap), h' = h1.lay [] h1.low ∧ Ext h h1 ∧ (n = r.cites.length - j ∧ j ≤ r.cites.length ∧ r.cites.take j = s.cites.take j) ∧ ∃ J : Nat → Value, e = (v :: u :: jr J 2 3 (.int .i64 i :: .int .i64 j :: jr J 7 77 ([])))) := ⟨_, rfl⟩
  refine W_loopN I2 _ (by rw [hI2]; exact ⟨0, _, rfl, z, ⟨rfl, by omega, rfl⟩, junk (by kernel_rfl)⟩) ?_
  intro n e h' hin
  rw [hI2] at hin
  obtain ⟨j, h2', rfl, z, hinv, J, rfl⟩ := hin
  obtain ⟨rfl, hj, htj⟩ := hinv
  have hwj : IntKind.i64.wrap ((j : Int) + 1) = ((j + 1 : Nat) : Int) := by rw [wrap_i64 (by omega) (by omega)]; omega
  repeat' (first | simp -implicitDefEqProofs only [syms, symx, seval, c73, hva] | with_reducible refine drawN (by simp only [c73]) (z.upW _ _ (by omega)) ?_ | ((with_reducible  apply forkD ) <;> intro _) | with_reducible_and_instances refine ixp_at (hl.mono z.inc) ds84 sz90 (by omega) hr (fun p b hb hp => ?_) | with_reducible_and_instances refine fdr2 hp fa90_2 (fun q hq => ?_) | with_reducible_and_instances refine ld_one hq ag32 ?_ | with_reducible_and_instances refine ln_rule hb ds32 ?_)
  rotate_left
  · have hcs : r.cites = s.cites := by
      rw [List.take_of_length_le (by omega), List.take_of_length_le (by omega)] at htj
      exact htj
    rw [hw]
    (rw [hI1]; with_reducible refine loopN_normal (m := _) ?_ ⟨i + 1, _, rfl, z, ⟨rfl, by omega, by rw [List.take_add_one, List.take_add_one, hr', hs', htk, hrs hcs]⟩, junk (by kernel_rfl)⟩; omega)
  have hjl : j < r.cites.length := by omega
  obtain ⟨c, hcr, hcr'⟩ := amElem (l := r.cites) (i := j) (by omega)
  obtain ⟨d, hdr, hdr'⟩ := amElem (l := s.cites) (i := j) (by omega)
  repeat' (first | simp -implicitDefEqProofs only [syms, symx, seval, c73, hva, hua] | ((with_reducible  apply forkN ) <;> intro _) | with_reducible_and_instances refine ixp_at (hm.mono z.inc) ds84 sz90 (by omega) hs (fun p b2 hb2 hp => ?_) | with_reducible_and_instances refine fdr2 hp fa90_2 (fun q hq => ?_) | with_reducible_and_instances refine ld_one hq ag32 ?_ | with_reducible_and_instances refine ixi_at hb ds32 sz3 (by omega) hcr (fun p hp => ?_) | with_reducible_and_instances refine ixi_at hb2 ds32 sz3 (by omega) hdr (fun p hp => ?_) | with_reducible_and_instances refine ld_one hp ag3 ?_ | ((with_reducible refine ⟨z.grw.lay _ _, ?_⟩); (intro _ h' zz x _); (try simp only [lay_lay, List.append_nil] at x); (replace z := zz); (clear zz); rw [lay_nil h']))
  · have hne : ¬ c = d := by assumption
    rw [hno (fun e => hne (by subst e; rw [hcr'] at hdr'; exact Option.some.inj hdr'))] at hk
    exact hk _ (z.upW _ _ (by omega))
  · have he : c = d := by assumption
    rw [hwj]
    (rw [hI2]; with_reducible refine loopN_normal (m := _) ?_ ⟨j + 1, _, rfl, z, ⟨rfl, by omega, by rw [List.take_add_one, List.take_add_one, hcr', hdr', htj, he]⟩, junk (by kernel_rfl)⟩; omega)
theorem ok_aheadRef (l : List StepD) (v : Value) (h : Heap) (hl : Sl Rep.step h v l) (hn : l.length ≤ 1000) (hc : ∀ s ∈ l, s.cites.length ≤ 1000) (K : Value → Heap → Prop)
    (h1k : AheadD l → ∀ h', Ext h h' → K (.bool true) h') (h2k : ¬ AheadD l → ∀ h', Ext h h' → K (.bool false) h') : Ok Try.prog tab ov 128 [v] h K := by
  rw [lay_nil h]
  have z := Ext.refl h
  have hva := vSelf v
  have hlv := fun (hh : Heap) => hl.lenA ds84 hh
  refine Ok.into rfl tab_fn128 (bodyF N128) rfl (m := 41) rfl ?_
  simp -implicitDefEqProofs only [syms, symx, seval, c128, hva, hlv]
  obtain ⟨I1, hI1⟩ : ∃ I : Nat → Env → Heap → Prop, I = (fun n e h' => ∃ (i : Nat) (h1 : Heap), h' = h1.lay [] h1.low ∧ Ext h h1 ∧ (n = l.length - i ∧ i ≤ l.length ∧ AheadD (l.take i)) ∧ ∃ J : Nat → Value, e = (v :: jr J 1 2 (.int .i64 i :: jr J 4 38 ([])))) := ⟨_, rfl⟩
  refine W_loopN I1 _ (by rw [hI1]; exact ⟨0, _, rfl, z, ⟨rfl, by omega, fun j x hx => by simp at hx⟩, junk (by kernel_rfl)⟩) ?_
  intro n e h' hin
  rw [hI1] at hin
  obtain ⟨i, h1', rfl, z, hinv, J, rfl⟩ := hin
  obtain ⟨rfl, hi, hall⟩ := hinv
  have hw : IntKind.i64.wrap ((i : Int) + 1) = ((i + 1 : Nat) : Int) := by rw [wrap_i64 (by omega) (by omega)]; omega
  simp -implicitDefEqProofs only [syms, symx, seval, c128, hva, hlv]
  refine forkD (fun hlt => ?_) (fun hlt => ?_)
  rotate_left
  · rw [List.take_of_length_le (by omega)] at hall
    repeat' ( simp -implicitDefEqProofs only [syms, symx, seval, c128])
    exact h1k hall _ (z.upW _ _ (by omega))
  obtain ⟨r, hr, hr'⟩ := amElem (l := l) (i := i) (by omega)
  have hrc := hc r (List.mem_of_getElem? hr')
  repeat' ( simp -implicitDefEqProofs only [syms, symx, seval, c128])
  obtain ⟨I2, hI2⟩ : ∃ I : Nat → Env → Heap → Prop, I = (fun n e h' => ∃ (j : Nat) (h1 : Heap), h' = h1.lay [] h1.low ∧ Ext h h1 ∧ (n = r.cites.length - j ∧ j ≤ r.cites.length ∧ (∀ c ∈ r.cites.take j, 0 ≤ c ∧ c < (i : Int))) ∧ ∃ J : Nat → Value, e = (v :: jr J 1 2 (.int .i64 i :: .int .i64 j :: jr J 5 37 ([])))) := ⟨_, rfl⟩
  refine W_loopN I2 _ (by rw [hI2]; exact ⟨0, _, rfl, z, ⟨rfl, by omega, by simp⟩, junk (by kernel_rfl)⟩) ?_
  intro n e h' hin
  rw [hI2] at hin
  obtain ⟨j, h2', rfl, z, hinv, J, rfl⟩ := hin
  obtain ⟨rfl, hj, hin⟩ := hinv
  have hwj : IntKind.i64.wrap ((j : Int) + 1) = ((j + 1 : Nat) : Int) := by rw [wrap_i64 (by omega) (by omega)]; omega
  repeat' (first | simp -implicitDefEqProofs only [syms, symx, seval, c128, hva] | ((with_reducible  apply forkD ) <;> intro _) | with_reducible_and_instances refine ixp_at (hl.mono z.inc) ds84 sz90 (by omega) hr (fun p b hb hp => ?_) | with_reducible_and_instances refine fdr2 hp fa90_2 (fun q hq => ?_) | with_reducible_and_instances refine ld_one hq ag32 ?_ | with_reducible_and_instances refine ln_rule hb ds32 ?_)
  rotate_left
  · have hin2 : ∀ c ∈ r.cites, 0 ≤ c ∧ c < (i : Int) := by
      rw [List.take_of_length_le (by omega)] at hin
      exact hin
    rw [hw]
    (rw [hI1]; with_reducible refine loopN_normal (m := _) ?_ ⟨i + 1, _, rfl, z, ⟨rfl, by omega, ahead_next hr' hall hin2⟩, junk (by kernel_rfl)⟩; omega)
  have hjl : j < r.cites.length := by omega
  obtain ⟨c, hcr, hcr'⟩ := amElem (l := r.cites) (i := j) (by omega)
  have hno : ¬ (0 ≤ c ∧ c < (i : Int)) → ¬ AheadD l := fun hx ha => hx (ha i r hr' c (List.mem_of_getElem? hcr'))
  repeat' (first | simp -implicitDefEqProofs only [syms, symx, seval, c128, hva] | ((with_reducible  apply forkD ) <;> intro _) | with_reducible_and_instances refine ixp_at (hl.mono z.inc) ds84 sz90 (by omega) hr (fun p b hb hp => ?_) | with_reducible_and_instances refine fdr2 hp fa90_2 (fun q hq => ?_) | with_reducible_and_instances refine ld_one hq ag32 ?_ | with_reducible_and_instances refine ixi_at hb ds32 sz3 (by omega) hcr (fun p hp => ?_) | with_reducible_and_instances refine ld_one hp ag3 ?_)
  · exact h2k (hno (by omega)) _ (z.upW _ _ (by omega))
  · exact h2k (hno (by omega)) _ (z.upW _ _ (by omega))
  · rw [hwj]
    (rw [hI2]; with_reducible refine loopN_normal (m := _) ?_ ⟨j + 1, _, rfl, z, ⟨rfl, by omega, take_all (i := j) (P := fun c : Int => 0 ≤ c ∧ c < (i : Int)) hcr' hin (by omega)⟩, junk (by kernel_rfl)⟩; omega)
theorem ok_reasonsRef (l : List StepD) (v : Value) (h : Heap) (hl : Sl Rep.step h v l) (hs : l.length ≤ 1000) (hc : ∀ s ∈ l, s.cites.length ≤ 1000) (K : Value → Heap → Prop)
    (h1k : AheadD l → ∀ h' w, Ext h h' → Sl Rep.reason h' w (reasonsD l) → K (.tuple #[w, .int .i64 0]) h') (h2k : ¬ AheadD l → ∀ h', Ext h h' → K (.tuple #[.slice none 0 0, .int .i64 2]) h') : Ok Try.prog tab ov 67 [v] h K := by
  rw [lay_nil h]
  have z := Ext.refl h
  have hva := vSelf v
  have hlv := fun (hh : Heap) => hl.lenA ds84 hh
  refine Ok.into rfl tab_fn67 (bodyF N67) rfl (m := 59) rfl ?_
  repeat' ( simp -implicitDefEqProofs only [syms, symx, seval, c67, hva])
  refine ok_aheadRef l v _ (hl.lay _ _) hs hc _ (fun ha h' x => ?_) (fun ha h' x => ?_)
  rotate_left
  · (( skip); replace z := z.overW x (by (try simp only [lsz]); omega); rw [lay_nil h'])
    repeat' (first | simp -implicitDefEqProofs only [syms, symx, seval, c67, Bool.not_false] | ((with_reducible_and_instances apply unop_not); (· rfl)))
    exact h2k ha _ (z.upW _ _ (by omega))
  (( skip); replace z := z.overW x (by (try simp only [lsz]); omega); rw [lay_nil h'])
  have hz0 := z.size
  repeat' (first | simp -implicitDefEqProofs only [syms, symx, seval, c67, Bool.not_true, hva] | ((with_reducible_and_instances apply unop_not); (· rfl)))
  obtain ⟨I1, hI1⟩ : ∃ I : Nat → Env → Heap → Prop, I = (fun n e h' => ∃ (i : Nat) (wv : Value) (A : Nat) (h1 : Heap), h' = h1.lay [] h1.low ∧ Ext h h1 ∧ (n = l.length - i ∧ i ≤ l.length ∧ Ow Rep.reason h h1 41 A wv ((l.take i).map (backD l))) ∧ ∃ J : Nat → Value, e = (v :: jr J 1 3 (wv :: .int .i64 i :: jr J 6 54 ([])))) := ⟨_, rfl⟩
  refine W_loopN I1 _ (by rw [hI1]; exact ⟨0, .slice none 0 0, h.size, _, rfl, z, ⟨rfl, by omega, Ow.nil (Nat.le_refl _)⟩, junk (by kernel_rfl)⟩) ?_
  intro n e h' hin
  rw [hI1] at hin
  obtain ⟨i, wv, A, h1', rfl, z, hinv, J, rfl⟩ := hin
  obtain ⟨rfl, hi, ow⟩ := hinv
  have hz1 := z.size
  have hwi : IntKind.i64.wrap ((i : Int) + 1) = ((i + 1 : Nat) : Int) := by rw [wrap_i64 (by omega) (by omega)]; omega
  have hvw := vSelf wv
  simp -implicitDefEqProofs only [syms, symx, seval, c67, hva, hlv]
  refine forkD (fun hlt1 => ?_) (fun hlt1 => ?_)
  rotate_left
  · rw [List.take_of_length_le (by omega)] at ow
    repeat' ( simp -implicitDefEqProofs only [syms, symx, seval, c67, hvw])
    exact h1k ha _ _ (z.upW _ _ (by omega)) ((ow.sl (by decide)).lay _ _)
  obtain ⟨r, hr, hr'⟩ := amElem (l := l) (i := i) (by omega)
  have hclen := hc r (List.mem_of_getElem? hr')
  have hall2 := one_reM (a := r.re.atom) (n := r.re.clause) (w := .slice none 0 0) rfl
  repeat' (first | simp -implicitDefEqProofs only [syms, symx, seval, c67, hva, bld_reason] | with_reducible refine drawN (by simp only [c67]) (z.upW _ _ (by omega)) ?_ | with_reducible_and_instances refine ixp_at (hl.mono z.inc) ds84 sz90 (by omega) hr (fun p b hb hp => ?_) | with_reducible_and_instances refine fdr0 hp fa90_0 (fun q hq => ?_) | with_reducible_and_instances refine lda hq ag39 sz39 ?_ | with_reducible_and_instances refine fdr1 hp fa90_1 (fun q hq => ?_) | with_reducible_and_instances refine ld_one hq ag3 ?_)
  refine KOpsX_alloc (by have := z.size; omega) (by omega) ?_
  obtain ⟨zs, hzs, hzl⟩ : ∃ zs : List Value, zs = [Value.string ⟨#[]⟩, Value.string ⟨#[]⟩, Value.int IntKind.i64 0, Value.bool false, Value.string ⟨#[]⟩, Value.bool false, Value.string ⟨#[]⟩, Value.bool false, Value.string ⟨#[]⟩, Value.bool false, Value.string ⟨#[]⟩, Value.int IntKind.i64 0, Value.slice none 0 0] ∧ zs.length = 13 := ⟨_, rfl, rfl⟩
  rw [← hzs]
  have hz2 := z.size
  obtain ⟨S0, hS0⟩ : ∃ S0, S0 = h1'.size + 0 := ⟨_, rfl⟩
  obtain ⟨H0, hH0⟩ : ∃ H0, H0 = h1'.lay [Blk.row zs 41 false] (h1'.size + 0) := ⟨_, rfl⟩
  have s00 : Holds H0 S0 (.row zs 41 false) := ⟨by rw [hH0, lay_size, hS0]; simp, by rw [hH0, hS0, lay_get]; rfl⟩
  have hH0s : H0.size = h1'.size + 1 := by rw [hH0, lay_size]; rfl
  have g0 : Grw h1' H0 := by rw [hH0]; exact (Ext.refl h1').grw.lay _ _
  replace z := z.upW [Blk.row zs 41 false] (h1'.size + 0) (by omega)
  rw [← hH0] at z
  rw [← hH0, ← hS0, lay_nil H0]
  repeat' ( simp -implicitDefEqProofs only [syms, symx, seval, c67])
  refine store_whole s00 sz41 hzl rfl rfl hall2 (fun h4 s0 c4 => ?_)
  refine KOpsX_chg (A := S0) (by kernel_rfl) (by rw [lay_size]; omega) (by omega) (by simpa only [lay_lay, lay_size, List.append_nil, List.length_cons, List.length_nil, Nat.zero_add] using c4) ?_
  have zi := g0.stepL c4 (by omega)
  replace z := (z.upW [] _ (by omega)).step c4 (by omega)
  rw [lay_nil h4]
  obtain ⟨hb0, hhb0⟩ : ∃ hb0, hb0 = h1' := ⟨_, rfl⟩
  rw [← hhb0] at ow zi hz2 hS0 hH0s
  clear s00 g0 hH0 c4 hhb0
  repeat' (first | simp -implicitDefEqProofs only [syms, symx, seval, c67] | ((with_reducible refine ⟨z.grw.lay _ _, ?_⟩); (intro _ h' zz x _); (try simp only [lay_lay, List.append_nil] at x); (try replace zi := zi.over x); (try replace s0 := s0.over x); (replace z := zz); (clear zz); rw [lay_nil h']))
  obtain ⟨I2, hI2⟩ : ∃ I : Nat → Env → Heap → Prop, I = (fun n e h' => ∃ (j : Nat) (cv : Value) (C : Nat) (h1 : Heap), h' = h1.lay [] h1.low ∧ Ext h h1 ∧ (n = r.cites.length - j ∧ j ≤ r.cites.length ∧ Grw hb0 h1 ∧ Holds h1 S0 (.row (r.atom.cells ++ [.int .i64 r.clause, cv]) 41 false) ∧ Ow Rep.atom hb0 h1 39 C cv ((r.cites.take j).map fun c => (l.getD c.toNat noStepD).atom) ∧ C ≠ S0) ∧ ∃ J : Nat → Value, e = (v :: jr J 1 3 (wv :: .int .i64 i :: .pointer (some ⟨S0, 0, none⟩) :: .int .i64 j :: jr J 8 52 ([])))) := ⟨_, rfl⟩
  refine W_loopN I2 _ (by rw [hI2]; exact ⟨0, .slice none 0 0, S0 + 1, _, rfl, z, ⟨rfl, by omega, zi, s0, Ow.nil (by omega), by omega⟩, junk (by kernel_rfl)⟩) ?_
  intro n e h' hin
  rw [hI2] at hin
  obtain ⟨j, cv, C, h2', rfl, z, hinv, J, rfl⟩ := hin
  clear zi s0
  obtain ⟨rfl, hj, zi, s0, oc, hCS⟩ := hinv
  have hwj : IntKind.i64.wrap ((j : Int) + 1) = ((j + 1 : Nat) : Int) := by rw [wrap_i64 (by omega) (by omega)]; omega
  have hvc := vSelf cv
  repeat' (first | simp -implicitDefEqProofs only [syms, symx, seval, c67, hva] | with_reducible refine drawN (by simp only [c67]) (z.upW _ _ (by omega)) ?_ | ((with_reducible  apply forkD ) <;> intro _) | with_reducible_and_instances refine ixp_at (hl.mono z.inc) ds84 sz90 (by omega) hr (fun p b hb hp => ?_) | with_reducible_and_instances refine fdr2 hp fa90_2 (fun q hq => ?_) | with_reducible_and_instances refine ld_one hq ag32 ?_ | with_reducible_and_instances refine ln_rule hb ds32 ?_)
  rotate_left
  · rw [List.take_of_length_le (l := r.cites) (i := j) (by omega)] at oc
    have hzs := z.size
    have hzi := zi.1
    obtain ⟨A, ow, hA2⟩ := ow_pick ow (h2'.size + 1) (by omega)
    have ow3 := ow.mono zi.inc
    repeat' ( simp -implicitDefEqProofs only [syms, symx, seval, c67, hvw, s0.lay, ↓cut_re13M])
    simp -implicitDefEqProofs only [syms, symx, seval, c67, fill_step, w_append, sty24]
    obtain ⟨wa, wn, wc, rfl⟩ := oc.slice
    have hHs : (h2'.lay [Blk.row (r.atom.cells ++ [.int .i64 r.clause, .slice wa wn wc]) 41 false] h2'.low).size = h2'.size + 1 := by rw [lay_size]; rfl
    have hR : Rep.reason.R (kill A (h2'.lay [Blk.row (r.atom.cells ++ [.int .i64 r.clause, .slice wa wn wc]) 41 false] h2'.low)) (r.atom.cells ++ [.int .i64 r.clause, .slice wa wn wc]) (backD l r) :=
      ⟨_, rfl, (oc.lay _ _).under (by decide) (fun _ _ _ _ h => h) (hA2.imp id (fun e => by rw [hHs]; omega))⟩
    have hkl : ((l.take i).map (backD l)).length ≤ 1000 := by rw [List.length_map, List.length_take]; omega
    obtain ⟨hs1, hsr⟩ := src_row (r := Rep.reason) (c := 1) (by decide) (show (h2'.lay [Blk.row (r.atom.cells ++ [.int .i64 r.clause, .slice wa wn wc]) 41 false] h2'.low).get (h2'.size + 0) = some (.row (r.atom.cells ++ [.int .i64 r.clause, .slice wa wn wc]) 41 false) by rw [lay_get]; rfl) hR
    obtain ⟨w', h6, A'', e1, e2, e3, e4, e5⟩ := app_ow (t := 24) ds24 tab_info41 rfl (by decide) (by rw [hHs]; omega) (ow3.lay _ _) hs1 hsr (by omega) (by omega)
    have hfA := ow3.fresh
    rw [hHs] at e4
    replace z := (z.upW [Blk.row (r.atom.cells ++ [.int .i64 r.clause, .slice wa wn wc]) 41 false] h2'.low (by omega)).step e3 hfA
    have hz6 := e3.size
    rw [hHs] at hz6
    rw [e1, lay_nil h6]
    have htk : (l.take (i + 1)).map (backD l) = (l.take i).map (backD l) ++ [backD l r] := by rw [List.take_add_one, hr', List.map_append]; rfl
    rw [← htk] at e2
    clear ow3 oc s0
    repeat' ( simp -implicitDefEqProofs only [syms, symx, seval, c67])
    rw [hwi]
    (rw [hI1]; with_reducible refine loopN_normal (m := _) ?_ ⟨i + 1, _, A'', _, rfl, z, ⟨rfl, by omega, e2⟩, junk (by kernel_rfl)⟩; omega)
  have hjl : j < r.cites.length := by omega
  obtain ⟨c0, hcr, hcr'⟩ := amElem (l := r.cites) (i := j) (by omega)
  have hcc := ha i r hr' c0 (List.mem_of_getElem? hcr')
  obtain ⟨x0, hx0⟩ : ∃ x0, l[c0.toNat]? = some x0 := ⟨_, List.getElem?_eq_getElem (by omega)⟩
  repeat' (first | simp -implicitDefEqProofs only [syms, symx, seval, c67, hva, hvc, s0.lay, cell_re2M] | with_reducible_and_instances refine ixp_at (hl.mono z.inc) ds84 sz90 (by omega) hr (fun p b hb hp => ?_) | with_reducible_and_instances refine fdr2 hp fa90_2 (fun q hq => ?_) | with_reducible_and_instances refine ld_one hq ag32 ?_ | with_reducible_and_instances refine ixi_at hb ds32 sz3 (by omega) hcr (fun p hp => ?_) | with_reducible_and_instances refine ld_one hp ag3 ?_ | with_reducible_and_instances refine ixp_at (hl.mono z.inc) ds84 sz90 (by omega) hx0 (fun p2 b2 hb2 hp2 => ?_) | with_reducible_and_instances refine fdr0 hp2 fa90_0 (fun q2 hq2 => ?_) | with_reducible_and_instances refine lda hq2 ag39 sz39 ?_)
  simp -implicitDefEqProofs only [syms, symx, seval, c67, fill_atom]
  refine KOpsX_alloc (by have := z.size; omega) (by omega) ?_
  simp -implicitDefEqProofs only [syms, symx, seval, c67, w_append, sty23]
  have hHs : (h2'.lay [Blk.row x0.re.atom.cells 39 false] (h2'.size + 1)).size = h2'.size + 1 := by rw [lay_size]; rfl
  have hcl : ((r.cites.take j).map fun c => (l.getD c.toNat noStepD).atom).length ≤ 1000 := by rw [List.length_map, List.length_take]; omega
  obtain ⟨hs1, hsr⟩ := src_row (r := Rep.atom) (A := C) (c := 1) (y := x0.re.atom) (by decide) (show (h2'.lay [Blk.row x0.re.atom.cells 39 false] (h2'.size + 1)).get (h2'.size + 0) = some (.row x0.re.atom.cells 39 false) by rw [lay_get]; rfl) rfl
  have hzi := zi.1
  obtain ⟨cv', h'', C', e1, e2, e3, e4, e5⟩ := app_ow (t := 23) ds23 tab_info39 rfl (by decide) (by rw [hHs]; omega) (oc.mono (Inc.lay _ _ _)) hs1 hsr (by omega) (by omega)
  have hfC := oc.fresh
  have s0l := s0.lt
  have hzz := z.size
  rw [e1]
  simp -implicitDefEqProofs only [syms, symx, seval, c67]
  refine KOpsX_chg (A := C) (by kernel_rfl) (by rw [lay_size]; omega) (by omega) (by simpa only [lay_lay, lay_size, List.append_nil, List.length_cons, List.length_nil, Nat.zero_add] using e3) ?_
  replace z := (z.upW [Blk.row x0.re.atom.cells 39 false] (h2'.size + 1) (by omega)).step e3 (by omega)
  replace zi := zi.stepL e3 hfC
  replace s0 := s0.stepL e3 (by omega)
  clear oc
  rw [lay_nil h'']
  repeat' ( simp -implicitDefEqProofs only [syms, symx, seval, c67])
  obtain ⟨ca, cn, cc, rfl⟩ := e2.slice
  refine store_cell s0 sz23 (by rw [len_reM]; decide) rfl rfl (fun h4 s0' c4 => ?_)
  have hzz2 := z.size
  have hzh : h2'.size + 1 ≤ h''.size := by have := e3.size; rw [hHs] at this; exact this
  refine KOpsX_chg (A := S0) (by kernel_rfl) (by rw [lay_size]; omega) (by omega) (by simpa only [lay_lay, lay_size, List.append_nil, List.length_cons, List.length_nil, Nat.zero_add] using c4) ?_
  replace z := (z.upW [] _ (by omega)).step c4 (by omega)
  replace zi := zi.stepL c4 (by omega)
  have hC4 : C' ≠ S0 := by rw [hHs] at e4; omega
  replace e2 := (e2.lay [] _).chg (fun _ _ _ _ h => h) (by simp) c4 (Ne.symm hC4)
  rw [lay_nil h4]
  clear s0
  repeat' (first | simp -implicitDefEqProofs only [syms, symx, seval, c67] | ((with_reducible refine ⟨z.grw.lay _ _, ?_⟩); (intro _ h' zz x _); (try simp only [lay_lay, List.append_nil] at x); (try replace zi := zi.over x); (try replace s0' := s0'.over x); (try replace e2 := e2.over x); (replace z := zz); (clear zz); rw [lay_nil h']))
  rw [hwj]
  have hgd : l.getD c0.toNat noStepD = x0 := by rw [List.getD_eq_getElem?_getD, hx0]; rfl
  have htk : ((r.cites.take (j + 1)).map fun c => (l.getD c.toNat noStepD).atom) = ((r.cites.take j).map fun c => (l.getD c.toNat noStepD).atom) ++ [x0.re.atom] := by rw [List.take_add_one, hcr', List.map_append, ← hgd]; rfl
  rw [← htk] at e2
  have s1 : Holds h' S0 (.row (r.atom.cells ++ [.int .i64 r.clause, .slice ca cn cc]) 41 false) := s0'
  (rw [hI2]; with_reducible refine loopN_normal (m := _) ?_ ⟨j + 1, _, C', _, rfl, z, ⟨rfl, by omega, zi, s1, e2, hC4⟩, junk (by kernel_rfl)⟩; omega)
open Classical in
noncomputable def derS (l : List ReasonD) (goals : List AtomD) : List StepD × Int :=
  if PlacedD l then (if ∀ g ∈ goals, hasR l g = true then (if h : ∃ out, NeedsOf l goals out then (derD (keptD l h.choose), 0) else ([], 0)) else ([], 13)) else ([], 2)
open Classical in
noncomputable def reasS (s : List StepD) : List ReasonD × Int := if AheadD s then (reasonsD s, 0) else ([], 2)
open Classical in
noncomputable def trimS (s : List StepD) (goals : List AtomD) : List StepD × Int := if AheadD s then derS (reasonsD s) goals else ([], 2)
theorem derS_no {l : List ReasonD} {goals : List AtomD} (h : ¬ PlacedD l) : derS l goals = ([], 2) := if_neg h
theorem derS_less {l : List ReasonD} {goals : List AtomD} (h : PlacedD l) (g : ∃ g ∈ goals, hasR l g = false) : derS l goals = ([], 13) := by
  unfold derS
  rw [if_pos h, if_neg]
  intro ha
  obtain ⟨x, hx, e⟩ := g
  rw [ha x hx] at e
  cases e
theorem derS_is {l : List ReasonD} {goals out : List AtomD} (h : PlacedD l) (g : ∀ g ∈ goals, hasR l g = true) (hN : NeedsOf l goals out) (hp : ∀ r ∈ l, PlainR r) (hg : AllP goals) : derS l goals = (derD (keptD l out), 0) := by
  unfold derS
  have hx : ∃ out, NeedsOf l goals out := ⟨out, hN⟩
  rw [if_pos h, if_pos g, dif_pos hx]
  rw [hx.choose_spec.eq hN]
theorem reasS_is {s : List StepD} (h : AheadD s) : reasS s = (reasonsD s, 0) := if_pos h
theorem reasS_no {s : List StepD} (h : ¬ AheadD s) : reasS s = ([], 2) := if_neg h
theorem trimS_is {s : List StepD} {goals : List AtomD} (h : AheadD s) : trimS s goals = derS (reasonsD s) goals := if_pos h
theorem trimS_no {s : List StepD} {goals : List AtomD} (h : ¬ AheadD s) : trimS s goals = ([], 2) := if_neg h
theorem plain_back {s : List StepD} (hs : ∀ x ∈ s, x.atom.light = true ∧ x.cites.length ≤ 20) (hp : AllP (s.map (·.atom))) (ha : AheadD s) : ∀ r ∈ reasonsD s, PlainR r := by
  intro r hr
  obtain ⟨x, hx, rfl⟩ := List.mem_map.1 hr
  obtain ⟨i, hi⟩ := List.getElem?_of_mem hx
  have hm : ∀ y ∈ (backD s x).body, y ∈ s.map (·.atom) := by
    intro y hy
    obtain ⟨c, hc, rfl⟩ := List.mem_map.1 hy
    have h1 := ha i x hi c hc
    have h2 := (List.getElem?_eq_some_iff.1 hi).1
    have hlt : c.toNat < s.length := by omega
    exact List.mem_map.2 ⟨s[c.toNat], List.getElem_mem _, by rw [List.getD_eq_getElem?_getD, List.getElem?_eq_getElem hlt]; rfl⟩
  refine ⟨(hs x hx).1, hp _ (List.mem_map.2 ⟨x, hx, rfl⟩), ?_, fun y hy => ?_, fun y hy => hp y (hm y hy)⟩
  · show (x.cites.map _).length ≤ 20
    rw [List.length_map]
    exact (hs x hx).2
  · obtain ⟨z, hz, rfl⟩ := List.mem_map.1 (hm y hy)
    exact (hs z hz).1
theorem derS_small {l : List ReasonD} {goals : List AtomD} (hr : ∀ r ∈ l, PlainR r) : (derS l goals).1.length ≤ l.length ∧ ∀ s ∈ (derS l goals).1, s.cites.length ≤ 1000 := by
  unfold derS
  split
  · split
    · split
      · exact ⟨by rw [derD_length]; exact kept_small, der_cites hr⟩
      · exact ⟨Nat.zero_le _, fun s hs => by cases hs⟩
    · exact ⟨Nat.zero_le _, fun s hs => by cases hs⟩
  · exact ⟨Nat.zero_le _, fun s hs => by cases hs⟩
theorem reasS_small {s : List StepD} (hc : ∀ x ∈ s, x.cites.length ≤ 1000) : (reasS s).1.length ≤ s.length ∧ ∀ r ∈ (reasS s).1, r.body.length ≤ 1000 := by
  unfold reasS
  split
  · refine ⟨by simp [reasonsD], fun r hr => ?_⟩
    obtain ⟨x, hx, rfl⟩ := List.mem_map.1 hr
    show (x.cites.map _).length ≤ 1000
    rw [List.length_map]
    exact hc x hx
  · exact ⟨Nat.zero_le _, fun s hs => by cases hs⟩
theorem trimS_small {s : List StepD} {goals : List AtomD} (hr : AheadD s → ∀ r ∈ reasonsD s, PlainR r) : (trimS s goals).1.length ≤ s.length ∧ ∀ x ∈ (trimS s goals).1, x.cites.length ≤ 1000 := by
  by_cases ha : AheadD s
  · rw [trimS_is ha]
    have := derS_small (goals := goals) (hr ha)
    exact ⟨by have h1 := this.1; simp only [reasonsD, List.length_map] at h1; exact h1, this.2⟩
  · rw [trimS_no ha]
    exact ⟨Nat.zero_le _, fun s hs => by cases hs⟩
theorem ok_deriveS (l : List ReasonD) (goals : List AtomD) (v u : Value) (h : Heap) (hl : Sl Rep.reason h v l) (hg : Sl Rep.atom h u goals) (hn : l.length ≤ 40) (hr : ∀ r ∈ l, PlainR r) (hgl : goals.length ≤ 10) (hgi : ∀ x ∈ goals, x.light = true) (hgp : AllP goals) (K : Value → Heap → Prop)
    (hk : ∀ h' w, Ext h h' → Sl Rep.step h' w (derS l goals).1 → K (.tuple #[w, .int .i64 (derS l goals).2]) h') : Ok Try.prog tab ov 56 [v, u] h K :=
  ok_derive l goals v u h hl hg hn hr hgl hgi hgp K
    (fun hp h' x => by have := hk h' (.slice none 0 0) x (by rw [derS_no hp]; exact .inl ⟨rfl, rfl⟩); rw [derS_no hp] at this; exact this)
    (fun hp hf h' x => by have := hk h' (.slice none 0 0) x (by rw [derS_less hp hf]; exact .inl ⟨rfl, rfl⟩); rw [derS_less hp hf] at this; exact this)
    (fun hp hf h' w out x hN sw => by have := hk h' w x (by rw [derS_is hp hf hN hr hgp]; exact sw); rw [derS_is hp hf hN hr hgp] at this; exact this)
theorem ok_deriveT (l : List ReasonD) (goals : List AtomD) (v u : Value) (h : Heap) (hl : Sl Rep.reason h v l) (hg : Sl Rep.atom h u goals) (hn : l.length ≤ 40) (hr : ∀ r ∈ l, PlainR r) (hgl : goals.length ≤ 10) (hgi : ∀ x ∈ goals, x.light = true) (hgp : AllP goals) (K : Value → Heap → Prop)
    (hk : ∀ h' w, Ext h h' → Sl Rep.step h' w (derS l goals).1 → K (.tuple #[w, .int .i64 (derS l goals).2]) h') : Ok Try.prog tab ov 65 [v, u] h K :=
  ok_deriveRef l goals v u h hl hg hn hr hgl hgi hgp K
    (fun hp h' x => by have := hk h' (.slice none 0 0) x (by rw [derS_no hp]; exact .inl ⟨rfl, rfl⟩); rw [derS_no hp] at this; exact this)
    (fun hp hf h' x => by have := hk h' (.slice none 0 0) x (by rw [derS_less hp hf]; exact .inl ⟨rfl, rfl⟩); rw [derS_less hp hf] at this; exact this)
    (fun hp hf h' w out x hN sw => by have := hk h' w x (by rw [derS_is hp hf hN hr hgp]; exact sw); rw [derS_is hp hf hN hr hgp] at this; exact this)
theorem ok_reasonsS (l : List StepD) (v : Value) (h : Heap) (hl : Sl Rep.step h v l) (hs : l.length ≤ 1000) (hc : ∀ s ∈ l, s.cites.length ≤ 1000) (K : Value → Heap → Prop)
    (hk : ∀ h' w, Ext h h' → Sl Rep.reason h' w (reasS l).1 → K (.tuple #[w, .int .i64 (reasS l).2]) h') : Ok Try.prog tab ov 60 [v] h K :=
  ok_reasons l v h hl hs hc K
    (fun ha h' w x sw => by have := hk h' w x (by rw [reasS_is ha]; exact sw); rw [reasS_is ha] at this; exact this)
    (fun ha h' x => by have := hk h' (.slice none 0 0) x (by rw [reasS_no ha]; exact .inl ⟨rfl, rfl⟩); rw [reasS_no ha] at this; exact this)
theorem ok_reasonsT (l : List StepD) (v : Value) (h : Heap) (hl : Sl Rep.step h v l) (hs : l.length ≤ 1000) (hc : ∀ s ∈ l, s.cites.length ≤ 1000) (K : Value → Heap → Prop)
    (hk : ∀ h' w, Ext h h' → Sl Rep.reason h' w (reasS l).1 → K (.tuple #[w, .int .i64 (reasS l).2]) h') : Ok Try.prog tab ov 67 [v] h K :=
  ok_reasonsRef l v h hl hs hc K
    (fun ha h' w x sw => by have := hk h' w x (by rw [reasS_is ha]; exact sw); rw [reasS_is ha] at this; exact this)
    (fun ha h' x => by have := hk h' (.slice none 0 0) x (by rw [reasS_no ha]; exact .inl ⟨rfl, rfl⟩); rw [reasS_no ha] at this; exact this)
theorem ok_trimS (l : List StepD) (goals : List AtomD) (v u : Value) (h : Heap) (hl : Sl Rep.step h v l) (hg : Sl Rep.atom h u goals) (hn : l.length ≤ 40) (hc : ∀ s ∈ l, s.cites.length ≤ 1000) (hr : AheadD l → ∀ r ∈ reasonsD l, PlainR r) (hgl : goals.length ≤ 10) (hgi : ∀ x ∈ goals, x.light = true) (hgp : AllP goals) (K : Value → Heap → Prop)
    (hk : ∀ h' w, Ext h h' → Sl Rep.step h' w (trimS l goals).1 → K (.tuple #[w, .int .i64 (trimS l goals).2]) h') : Ok Try.prog tab ov 61 [v, u] h K := by
  refine ok_trim l goals v u h hl hg hn hc hr hgl hgi hgp K (fun hno h' x => ?_) (fun ha hp hf h' x => ?_) (fun ha hp hf h' w out x hN sw => ?_)
  · have e : trimS l goals = ([], 2) := by
      by_cases ha : AheadD l
      · rw [trimS_is ha]
        exact derS_no (fun hp => hno ⟨ha, hp⟩)
      · exact trimS_no ha
    have := hk h' (.slice none 0 0) x (by rw [e]; exact .inl ⟨rfl, rfl⟩)
    rw [e] at this
    exact this
  · have e : trimS l goals = ([], 13) := by rw [trimS_is ha]; exact derS_less hp hf
    have := hk h' (.slice none 0 0) x (by rw [e]; exact .inl ⟨rfl, rfl⟩)
    rw [e] at this
    exact this
  · have e : trimS l goals = (derD (keptD (reasonsD l) out), 0) := by rw [trimS_is ha]; exact derS_is hp hf hN (hr ha) hgp
    have := hk h' w x (by rw [e]; exact sw)
    rw [e] at this
    exact this
theorem ok_trimT (l : List StepD) (goals : List AtomD) (v u : Value) (h : Heap) (hl : Sl Rep.step h v l) (hg : Sl Rep.atom h u goals) (hn : l.length ≤ 40) (hc : ∀ s ∈ l, s.cites.length ≤ 1000) (hr : AheadD l → ∀ r ∈ reasonsD l, PlainR r) (hgl : goals.length ≤ 10) (hgi : ∀ x ∈ goals, x.light = true) (hgp : AllP goals) (K : Value → Heap → Prop)
    (hk : ∀ h' w, Ext h h' → Sl Rep.step h' w (trimS l goals).1 → K (.tuple #[w, .int .i64 (trimS l goals).2]) h') : Ok Try.prog tab ov 68 [v, u] h K := by
  rw [lay_nil h]
  have z := Ext.refl h
  have hva := vSelf v
  have hvu := vSelf u
  have hno2 : trimS l goals = ([], 2) → ∀ h', Ext h h' → K (.tuple #[.slice none 0 0, .int .i64 2]) h' := fun e h' x => by
    have := hk h' (.slice none 0 0) x (by rw [e]; exact .inl ⟨rfl, rfl⟩)
    rw [e] at this
    exact this
  refine Ok.into rfl tab_fn68 (bodyF N68) rfl (m := 23) rfl ?_
  repeat' ( simp -implicitDefEqProofs only [syms, symx, seval, c68, hva])
  refine ok_reasonsRef l v _ (hl.lay _ _) (by omega) hc _ (fun ha h' w x sw => ?_) (fun ha h' x => ?_)
  rotate_left
  · ((skip); replace z := z.overW x (by (try simp only [lsz]); omega); rw [lay_nil h'])
    repeat' ( simp -implicitDefEqProofs only [syms, symx, seval, c68])
    exact hno2 (trimS_no ha) _ (z.upW _ _ (by omega))
  ((skip); replace z := z.overW x (by (try simp only [lsz]); omega); rw [lay_nil h'])
  have hrl : (reasonsD l).length = l.length := by simp [reasonsD]
  have hvw := vSelf w
  repeat' ( simp -implicitDefEqProofs only [syms, symx, seval, c68, hvw, hvu])
  refine ok_straight (reasonsD l) w _ (sw.lay _ _) (by omega) (fun r hr' => by have := (hr ha r hr').len; omega) _ (fun hpl h' x => ?_) (fun hpl h' x => ?_)
  rotate_left
  · ((skip); replace z := z.overW x (by (try simp only [lsz]); omega); (try replace sw := sw.over x); rw [lay_nil h'])
    repeat' (first | simp -implicitDefEqProofs only [syms, symx, seval, c68, Bool.not_false] | ((with_reducible_and_instances apply unop_not); (· rfl)))
    exact hno2 (by rw [trimS_is ha]; exact derS_no hpl) _ (z.upW _ _ (by omega))
  ((skip); replace z := z.overW x (by (try simp only [lsz]); omega); (try replace sw := sw.over x); rw [lay_nil h'])
  repeat' (first | simp -implicitDefEqProofs only [syms, symx, seval, c68, Bool.not_true, hvw, hvu] | ((with_reducible_and_instances apply unop_not); (· rfl)))
  rw [trimS_is ha] at hk
  refine ok_deriveT (reasonsD l) goals w u _ (sw.lay _ _) ((hg.mono z.inc).lay _ _) (by omega) (hr ha) hgl hgi hgp _ (fun h' ws x s => ?_)
  ((skip); replace z := z.overW x (by (try simp only [lsz]); omega); (try replace sw := sw.over x); rw [lay_nil h'])
  have hvs := vSelf ws
  repeat' ( simp -implicitDefEqProofs only [syms, symx, seval, c68, hvs])
  exact hk _ ws (z.upW _ _ (by omega)) (s.lay _ _)
theorem bin_boolS (b : Bool) : binA Try.prog tab .eql 4 (.bool b) (.bool b) = some (.bool true) := by cases b <;> kernel_rfl
theorem ok_proofCalls (l : List ReasonD) (s : List StepD) (goals : List AtomD) (a : AtomD) (v w u : Value) (h : Heap) (hl : Sl Rep.reason h v l) (hs : Sl Rep.step h w s) (hg : Sl Rep.atom h u goals) (K : Value → Heap → Prop)
    (hk : ∀ h', Ext h h' → K (.bool true) h') : Ok Try.prog tab ov 12 [v, w, u, a.val] h K := by
  rw [lay_nil h]
  have z := Ext.refl h
  have hva := vSelf v
  have hvw := vSelf w
  have hvu := vSelf u
  refine Ok.into rfl tab_fn12 (bodyF N12) rfl (m := 140) rfl ?_
  repeat' ( simp -implicitDefEqProofs only [syms, symx, seval, c12, hva, hvu, hvw, cells_atom, ↓cut_atom, agg_atom, valE_atom])
  refine Ok.over (g := trueA) rfl rfl ?_
  repeat' (first | simp -implicitDefEqProofs only [syms, symx, seval, c12, Bool.not_true, hva] | ((with_reducible_and_instances apply unop_not); (· rfl)))
  refine ok_lightReasonsS l v _ ((hl.mono z.inc).lay _ _) _ (fun hn hr h' x => ?_) (fun h' x => ?_)
  rotate_left
  · (( skip); replace z := z.overW x (by (try simp only [lsz]); omega); rw [lay_nil h'])
    repeat' (first | simp -implicitDefEqProofs only [syms, symx, seval, c12, Bool.not_false] | ((with_reducible_and_instances apply unop_not); (· rfl)))
    exact hk _ (z.upW _ _ (by omega))
  have q0 := Holds.top (i := 0) x rfl
  (( skip); replace z := z.overW x (by (try simp only [lsz]); omega); rw [lay_nil h'])
  obtain ⟨A0, hA0⟩ : ∃ A0, A0 = h.size + 0 := ⟨_, rfl⟩
  rw [← hA0] at q0
  rw [← hA0]
  repeat' (first | simp -implicitDefEqProofs only [syms, symx, seval, c12, Bool.not_true, hvw] | ((with_reducible_and_instances apply unop_not); (· rfl)))
  refine ok_lightSteps s w _ ((hs.mono z.inc).lay _ _) _ (fun hns hsl h' x => ?_) (fun h' x => ?_)
  rotate_left
  · (( skip); replace z := z.overW x (by (try simp only [lsz]); omega); (try replace q0 := q0.over x); rw [lay_nil h'])
    repeat' (first | simp -implicitDefEqProofs only [syms, symx, seval, c12, Bool.not_false] | ((with_reducible_and_instances apply unop_not); (· rfl)))
    exact hk _ (z.upW _ _ (by omega))
  (( skip); replace z := z.overW x (by (try simp only [lsz]); omega); (try replace q0 := q0.over x); rw [lay_nil h'])
  repeat' (first | simp -implicitDefEqProofs only [syms, symx, seval, c12, Bool.not_true, hvw] | ((with_reducible_and_instances apply unop_not); (· rfl)))
  refine ok_atomsRef s w _ ((hs.mono z.inc).lay _ _) (by omega) _ (fun w1 h' x s1 => ?_)
  (( skip); replace z := z.overW x (by (try simp only [lsz]); omega); (try replace q0 := q0.over x); rw [lay_nil h'])
  have hv1 := vSelf w1
  repeat' ( simp -implicitDefEqProofs only [syms, symx, seval, c12, hv1])
  refine ok_plainS (s.map (·.atom)) w1 _ (s1.lay _ _) (by rw [List.length_map]; omega) (fun y hy => by obtain ⟨b, hb, rfl⟩ := List.mem_map.1 hy; exact (hsl b hb).1) _ (fun hps h' x => ?_) (fun h' x => ?_)
  rotate_left
  · (( skip); replace z := z.overW x (by (try simp only [lsz]); omega); (try replace q0 := q0.over x); rw [lay_nil h'])
    repeat' (first | simp -implicitDefEqProofs only [syms, symx, seval, c12, Bool.not_false] | ((with_reducible_and_instances apply unop_not); (· rfl)))
    exact hk _ (z.upW _ _ (by omega))
  (( skip); replace z := z.overW x (by (try simp only [lsz]); omega); (try replace q0 := q0.over x); rw [lay_nil h'])
  clear s1 hv1
  repeat' (first | simp -implicitDefEqProofs only [syms, symx, seval, c12, Bool.not_true, hvu] | ((with_reducible_and_instances apply unop_not); (· rfl)))
  refine ok_lights goals u 6 _ ((hg.mono z.inc).lay _ _) _ (fun hgl hgi h' x => ?_) (fun h' x => ?_)
  rotate_left
  · (( skip); replace z := z.overW x (by (try simp only [lsz]); omega); (try replace q0 := q0.over x); rw [lay_nil h'])
    repeat' (first | simp -implicitDefEqProofs only [syms, symx, seval, c12, Bool.not_false] | ((with_reducible_and_instances apply unop_not); (· rfl)))
    exact hk _ (z.upW _ _ (by omega))
  (( skip); replace z := z.overW x (by (try simp only [lsz]); omega); (try replace q0 := q0.over x); rw [lay_nil h'])
  repeat' (first | simp -implicitDefEqProofs only [syms, symx, seval, c12, Bool.not_true, hvu] | ((with_reducible_and_instances apply unop_not); (· rfl)))
  refine ok_plainS goals u _ ((hg.mono z.inc).lay _ _) (by omega) hgi _ (fun hgp h' x => ?_) (fun h' x => ?_)
  rotate_left
  · (( skip); replace z := z.overW x (by (try simp only [lsz]); omega); (try replace q0 := q0.over x); rw [lay_nil h'])
    repeat' (first | simp -implicitDefEqProofs only [syms, symx, seval, c12, Bool.not_false] | ((with_reducible_and_instances apply unop_not); (· rfl)))
    exact hk _ (z.upW _ _ (by omega))
  (( skip); replace z := z.overW x (by (try simp only [lsz]); omega); (try replace q0 := q0.over x); rw [lay_nil h'])
  repeat' (first | simp -implicitDefEqProofs only [syms, symx, seval, c12, Bool.not_true, hvu, q0.lay, ↓cut_atom, agg_atom, valE_atom] | ((with_reducible_and_instances apply unop_not); (· rfl)))
  refine ok_light a _ _ (fun hal h' x => ?_) (fun hal h' x => ?_)
  rotate_left
  · (( skip); replace z := z.overW x (by (try simp only [lsz]); omega); (try replace q0 := q0.over x); rw [lay_nil h'])
    repeat' (first | simp -implicitDefEqProofs only [syms, symx, seval, c12, Bool.not_false] | ((with_reducible_and_instances apply unop_not); (· rfl)))
    exact hk _ (z.upW _ _ (by omega))
  (( skip); replace z := z.overW x (by (try simp only [lsz]); omega); (try replace q0 := q0.over x); rw [lay_nil h'])
  repeat' (first | simp -implicitDefEqProofs only [syms, symx, seval, c12, Bool.not_true, hva] | ((with_reducible_and_instances apply unop_not); (· rfl)))
  have hsc : ∀ x ∈ s, x.cites.length ≤ 1000 := fun x hx => by have := (hsl x hx).2; omega
  refine ok_ownReasons l v _ ((hl.mono z.inc).lay _ _) (by omega) (fun r hr' => by have := (hr r hr').len; omega) _ (fun w2 h' x s2 => ?_)
  (( skip); replace z := z.overW x (by (try simp only [lsz]); omega); (try replace q0 := q0.over x); rw [lay_nil h'])
  have hv2 := vSelf w2
  repeat' ( simp -implicitDefEqProofs only [syms, symx, seval, c12, hv2, hvu])
  refine ok_own goals u _ ((hg.mono z.inc).lay _ _) (by omega) _ (fun w3 A3 h' x o3 hA3 => ?_)
  have s3 := o3.sl (by decide)
  (( skip); replace z := z.overW x (by (try simp only [lsz]); omega); (try replace q0 := q0.over x); (try replace s2 := s2.over x); rw [lay_nil h'])
  have hv3 := vSelf w3
  repeat' ( simp -implicitDefEqProofs only [syms, symx, seval, c12, hv2, hv3])
  refine ok_deriveS l goals w2 w3 _ (s2.lay _ _) (s3.lay _ _) hn hr (by omega) hgi hgp _ (fun h' wx x sx => ?_)
  (( skip); replace z := z.overW x (by (try simp only [lsz]); omega); (try replace q0 := q0.over x); (try replace s2 := s2.over x); rw [lay_nil h'])
  clear s2 s3 o3 hv2 hv3
  have hvx := vSelf wx
  repeat' ( simp -implicitDefEqProofs only [syms, symx, seval, c12, hvx, hva, hvu])
  refine ok_deriveT l goals v u _ ((hl.mono z.inc).lay _ _) ((hg.mono z.inc).lay _ _) hn hr (by omega) hgi hgp _ (fun h' wy x sy => ?_)
  (( skip); replace z := z.overW x (by (try simp only [lsz]); omega); (try replace q0 := q0.over x); (try replace sx := sx.over x); rw [lay_nil h'])
  have hvy := vSelf wy
  repeat' ( simp -implicitDefEqProofs only [syms, symx, seval, c12, hvy, hvw])
  refine ok_ownSteps s w _ ((hs.mono z.inc).lay _ _) (by omega) hsc _ (fun w2 h' x s2 => ?_)
  (( skip); replace z := z.overW x (by (try simp only [lsz]); omega); (try replace q0 := q0.over x); (try replace sx := sx.over x); (try replace sy := sy.over x); rw [lay_nil h'])
  have hv2 := vSelf w2
  repeat' ( simp -implicitDefEqProofs only [syms, symx, seval, c12, hv2])
  refine ok_reasonsS s w2 _ (s2.lay _ _) (by omega) hsc _ (fun h' wu x su => ?_)
  (( skip); replace z := z.overW x (by (try simp only [lsz]); omega); (try replace q0 := q0.over x); (try replace sx := sx.over x); (try replace sy := sy.over x); rw [lay_nil h'])
  clear s2 hv2
  have hvru := vSelf wu
  repeat' ( simp -implicitDefEqProofs only [syms, symx, seval, c12, hvru, hvw])
  refine ok_reasonsT s w _ ((hs.mono z.inc).lay _ _) (by omega) hsc _ (fun h' wv x sv => ?_)
  (( skip); replace z := z.overW x (by (try simp only [lsz]); omega); (try replace q0 := q0.over x); (try replace sx := sx.over x); (try replace sy := sy.over x); (try replace su := su.over x); rw [lay_nil h'])
  have hvrv := vSelf wv
  repeat' ( simp -implicitDefEqProofs only [syms, symx, seval, c12, hvrv, hvw])
  have hrb : AheadD s → ∀ r ∈ reasonsD s, PlainR r := plain_back hsl hps
  refine ok_ownSteps s w _ ((hs.mono z.inc).lay _ _) (by omega) hsc _ (fun w2 h' x s2 => ?_)
  (( skip); replace z := z.overW x (by (try simp only [lsz]); omega); (try replace q0 := q0.over x); (try replace sx := sx.over x); (try replace sy := sy.over x); (try replace su := su.over x); (try replace sv := sv.over x); rw [lay_nil h'])
  have hv2 := vSelf w2
  repeat' ( simp -implicitDefEqProofs only [syms, symx, seval, c12, hv2, hvu])
  refine ok_own goals u _ ((hg.mono z.inc).lay _ _) (by omega) _ (fun w3 A3 h' x o3 hA3 => ?_)
  have s3 := o3.sl (by decide)
  (( skip); replace z := z.overW x (by (try simp only [lsz]); omega); (try replace q0 := q0.over x); (try replace sx := sx.over x); (try replace sy := sy.over x); (try replace su := su.over x); (try replace sv := sv.over x); (try replace s2 := s2.over x); rw [lay_nil h'])
  have hv3 := vSelf w3
  repeat' ( simp -implicitDefEqProofs only [syms, symx, seval, c12, hv2, hv3])
  refine ok_trimS s goals w2 w3 _ (s2.lay _ _) (s3.lay _ _) hns hsc hrb (by omega) hgi hgp _ (fun h' wp x sp => ?_)
  (( skip); replace z := z.overW x (by (try simp only [lsz]); omega); (try replace q0 := q0.over x); (try replace sx := sx.over x); (try replace sy := sy.over x); (try replace su := su.over x); (try replace sv := sv.over x); (try replace s2 := s2.over x); rw [lay_nil h'])
  clear s2 s3 o3 hv2 hv3
  have hvp := vSelf wp
  repeat' ( simp -implicitDefEqProofs only [syms, symx, seval, c12, hvp, hvw, hvu])
  refine ok_trimT s goals w u _ ((hs.mono z.inc).lay _ _) ((hg.mono z.inc).lay _ _) hns hsc hrb (by omega) hgi hgp _ (fun h' wq x sq => ?_)
  (( skip); replace z := z.overW x (by (try simp only [lsz]); omega); (try replace q0 := q0.over x); (try replace sx := sx.over x); (try replace sy := sy.over x); (try replace su := su.over x); (try replace sv := sv.over x); (try replace sp := sp.over x); rw [lay_nil h'])
  have hvq := vSelf wq
  have dsm := derS_small (goals := goals) hr
  have tsm := trimS_small (goals := goals) hrb
  have rsm := reasS_small hsc
  repeat' (first | simp -implicitDefEqProofs only [syms, symx, seval, c12, hvq, hvx, hvy] | with_reducible refine drawN (by simp only [c12]) (z.upW _ _ (by omega)) ?_)
  refine ok_sameSteps _ _ wx wy _ (sx.lay _ _) (sy.lay _ _) (by omega) rfl dsm.2 _ (fun h' x => ?_)
  (( ((with_reducible refine KOpsX_call ?_ ?_ ?_); (· exact (by (try simp only [lsz]); have := z.size; omega)); (·  exact x )) ); replace z := z.overW x (by (try simp only [lsz]); omega); (try replace q0 := q0.over x); (try replace sx := sx.over x); (try replace sy := sy.over x); (try replace su := su.over x); (try replace sv := sv.over x); (try replace sp := sp.over x); (try replace sq := sq.over x); rw [lay_nil h'])
  repeat' ( simp -implicitDefEqProofs only [syms, symx, seval, c12, hvru, hvrv])
  refine ok_sameReasons _ _ wu wv _ (su.lay _ _) (sv.lay _ _) (by omega) rfl rsm.2 _ (fun h' x => ?_)
  (( ((with_reducible refine KOpsX_call ?_ ?_ ?_); (· exact (by (try simp only [lsz]); have := z.size; omega)); (·  exact x )) ); replace z := z.overW x (by (try simp only [lsz]); omega); (try replace q0 := q0.over x); (try replace sx := sx.over x); (try replace sy := sy.over x); (try replace su := su.over x); (try replace sv := sv.over x); (try replace sp := sp.over x); (try replace sq := sq.over x); rw [lay_nil h'])
  repeat' ( simp -implicitDefEqProofs only [syms, symx, seval, c12, hvp, hvq])
  refine ok_sameSteps _ _ wp wq _ (sp.lay _ _) (sq.lay _ _) (by omega) rfl tsm.2 _ (fun h' x => ?_)
  (( ((with_reducible refine KOpsX_call ?_ ?_ ?_); (· exact (by (try simp only [lsz]); have := z.size; omega)); (·  exact x )) ); replace z := z.overW x (by (try simp only [lsz]); omega); (try replace q0 := q0.over x); (try replace sx := sx.over x); (try replace sy := sy.over x); (try replace su := su.over x); (try replace sv := sv.over x); (try replace sp := sp.over x); (try replace sq := sq.over x); rw [lay_nil h'])
  clear su sv hvru hvrv
  repeat' ( simp -implicitDefEqProofs only [syms, symx, seval, c12, hvw])
  refine ok_atomsProof s w _ ((hs.mono z.inc).lay _ _) (by omega) _ (fun w2 h' x s2 => ?_)
  (( ((with_reducible refine KOpsX_call ?_ ?_ ?_); (· exact (by (try simp only [lsz]); have := z.size; omega)); (·  exact x )) ); replace z := z.overW x (by (try simp only [lsz]); omega); (try replace q0 := q0.over x); (try replace sx := sx.over x); (try replace sy := sy.over x); (try replace sp := sp.over x); (try replace sq := sq.over x); rw [lay_nil h'])
  have hv2 := vSelf w2
  repeat' ( simp -implicitDefEqProofs only [syms, symx, seval, c12, hv2, hvw])
  refine ok_atomsRef s w _ ((hs.mono z.inc).lay _ _) (by omega) _ (fun w3 h' x s3 => ?_)
  (( ((with_reducible refine KOpsX_call ?_ ?_ ?_); (· exact (by (try simp only [lsz]); have := z.size; omega)); (·  exact x )) ); replace z := z.overW x (by (try simp only [lsz]); omega); (try replace q0 := q0.over x); (try replace sx := sx.over x); (try replace sy := sy.over x); (try replace sp := sp.over x); (try replace sq := sq.over x); (try replace s2 := s2.over x); rw [lay_nil h'])
  have hv3 := vSelf w3
  repeat' ( simp -implicitDefEqProofs only [syms, symx, seval, c12, hv2, hv3])
  have hml : (s.map (·.atom)).length ≤ 1000 := by rw [List.length_map]; omega
  refine ok_sameAtoms _ _ w2 w3 _ (s2.lay _ _) (s3.lay _ _) hml hml _ (fun h' x => ?_)
  (( ((with_reducible refine KOpsX_call ?_ ?_ ?_); (· exact (by (try simp only [lsz]); have := z.size; omega)); (·  exact x )) ); replace z := z.overW x (by (try simp only [lsz]); omega); (try replace q0 := q0.over x); (try replace sx := sx.over x); (try replace sy := sy.over x); (try replace sp := sp.over x); (try replace sq := sq.over x); (try replace s2 := s2.over x); rw [lay_nil h'])
  clear s2 s3 hv2 hv3
  repeat' ( simp -implicitDefEqProofs only [syms, symx, seval, c12, hvw, q0.lay, ↓cut_atom, agg_atom, valE_atom, decide_true])
  refine ok_last s a w _ ((hs.mono z.inc).lay _ _) (by omega) _ (fun h' x => ?_)
  (( ((with_reducible refine KOpsX_call ?_ ?_ ?_); (· exact (by (try simp only [lsz]); have := z.size; omega)); (·  exact x )) ); replace z := z.overW x (by (try simp only [lsz]); omega); (try replace q0 := q0.over x); (try replace sx := sx.over x); (try replace sy := sy.over x); (try replace sp := sp.over x); (try replace sq := sq.over x); rw [lay_nil h'])
  repeat' ( simp -implicitDefEqProofs only [syms, symx, seval, c12, hvw, q0.lay, ↓cut_atom, agg_atom, valE_atom])
  refine ok_lastRef s a w _ ((hs.mono z.inc).lay _ _) (by omega) _ (fun h' x => ?_)
  (( ((with_reducible refine KOpsX_call ?_ ?_ ?_); (· exact (by (try simp only [lsz]); have := z.size; omega)); (·  exact x )) ); replace z := z.overW x (by (try simp only [lsz]); omega); (try replace q0 := q0.over x); (try replace sx := sx.over x); (try replace sy := sy.over x); (try replace sp := sp.over x); (try replace sq := sq.over x); rw [lay_nil h'])
  repeat' ( simp -implicitDefEqProofs only [syms, symx, seval, c12, hvx, hvp])
  refine ok_proofSame _ _ wx wp _ (sx.lay _ _) (sp.lay _ _) (by omega) dsm.2 _ (fun h' x => ?_)
  (( ((with_reducible refine KOpsX_call ?_ ?_ ?_); (· exact (by (try simp only [lsz]); have := z.size; omega)); (·  exact x )) ); replace z := z.overW x (by (try simp only [lsz]); omega); (try replace q0 := q0.over x); (try replace sx := sx.over x); (try replace sy := sy.over x); (try replace sp := sp.over x); (try replace sq := sq.over x); rw [lay_nil h'])
  repeat' ( simp -implicitDefEqProofs only [syms, symx, seval, c12, hvy, hvq])
  refine ok_sameRef _ _ wy wq _ (sy.lay _ _) (sq.lay _ _) (by omega) dsm.2 _ (fun h' x => ?_)
  (( ((with_reducible refine KOpsX_call ?_ ?_ ?_); (· exact (by (try simp only [lsz]); have := z.size; omega)); (·  exact x )) ); replace z := z.overW x (by (try simp only [lsz]); omega); (try replace q0 := q0.over x); (try replace sx := sx.over x); (try replace sy := sy.over x); (try replace sp := sp.over x); (try replace sq := sq.over x); rw [lay_nil h'])
  generalize decide ((derS l goals).fst = (trimS s goals).fst) = bb
  cases bb
  all_goals
    repeat' (first | simp -implicitDefEqProofs only [syms, symx, seval, c12, bin_boolS] | ((with_reducible refine ⟨z.grw.lay _ _, ?_⟩); (intro _ h' zz x _); (try simp only [lay_lay, List.append_nil] at x); (try replace q0 := q0.over x); (try replace sx := sx.over x); (try replace sy := sy.over x); (try replace sp := sp.over x); (try replace sq := sq.over x); (replace z := zz); (clear zz); rw [lay_nil h']))
    exact hk _ (z.upW _ _ (by omega))
end Go.Proofs.Ytompindebndddaa
namespace Go.Proofs.Ytompindebndddaa
open Go.ChangeShapes Go.WideShapes Go.ChangeAt Go.RowKit Go.Am
theorem proofCalls_own : ownKnob Try.prog.godebug = none := by kernel_rfl
theorem proofCalls_laidOut : laidOutB Try.prog = true := by kernel_rfl
set_option maxRecDepth 100000 in
theorem proofCalls_ok (h : Heap) (args : List Value) (_ : h.low = h.size) (hs : ArgsShp Try.prog h 8 Try.f12.params.toList args) : Ok Try.prog tab ov 12 args h fun v h' => v = .bool true ∧ Ext h h' := by
  have hp : Try.f12.params.toList = [24, 84, 23, 39] := by kernel_rfl
  have hs2 : ArgsShp Try.prog h 8 [24, 84, 23, 39] args := argsShp_eq hp hs
  clear hs
  obtain ⟨x0, r0, rfl, h0, hs2⟩ := argsShp_cons hs2
  obtain ⟨x1, r1, rfl, h1, hs2⟩ := argsShp_cons hs2
  obtain ⟨x2, r2, rfl, h2, hs2⟩ := argsShp_cons hs2
  obtain ⟨x3, r3, rfl, h3, hs2⟩ := argsShp_cons hs2
  obtain rfl := argsShp_nil hs2
  obtain ⟨d0, f0⟩ := arg_reasons h0
  obtain ⟨d1, f1⟩ := arg_steps h1
  obtain ⟨d2, f2⟩ := arg_atoms h2
  obtain ⟨d3, rfl⟩ := arg_atom h3
  exact ok_proofCalls d0 d1 d2 d3 x0 x1 x2 h f0 f1 f2 _ (fun h' x => ⟨rfl, x⟩)
set_option maxRecDepth 100000 in
theorem proofCalls_lifted (os : Os) (started : os.Started) (H : Type) (enc : TypeId × Value → H) :
    ReturnsInHanded {} Try.checked os 12 .any (Rows.proofCallsSpec.pre6 enc Try.prog Try.f12 Rows.proofCallsRow.domain false) (Rows.proofCallsSpec.post enc Try.prog Try.f12 Rows.proofCallsRow.apart Rows.proofCallsRow.fresh Rows.proofCallsRow.handsOn Rows.proofCallsRow.again) := by
  refine returnsInHanded_of_change_shaped (C := Try.checked) proofCalls_own started (by kernel_rfl) Try.func12
    (ChangeSpec.witness6 (enc := enc) (C := Try.checked) false ⟨#[], #[.slice none 0 0, .slice none 0 0, .slice none 0 0, .agg ⟨noAtomD.cells⟩], []⟩ 12 (by kernel_rfl) (by kernel_rfl) (by kernel_rfl) (by kernel_rfl)) ?_
  intro W base args ds gs before hval hW _ _ hsh _
  exact law_contract (n := 8) (boolT := 4) mixed tab_fits rfl ov_ok rfl (of_decide_eq_true (by kernel_rfl)) proofCalls_laidOut rfl (by kernel_rfl) (by kernel_rfl) Try.underlying4 (by kernel_rfl) (by kernel_rfl)
    (fun ds hd => by
      have hp : Try.f12.params.size = 4 := by kernel_rfl
      rw [hp] at hd
      match ds, hd with
      | [_, _, _, _], _ => rfl)
    proofCalls_ok hval hW hsh
theorem proofCalls_holds : Rows.ProofCallsSaid :=
  OpenClaim.holds_of_wide 12 Try.f12 rfl rfl rfl rfl rfl rfl rfl ⟨rfl, rfl, rfl, rfl, rfl⟩ rfl rfl rfl rfl rfl (by kernel_rfl) Try.func12 (by kernel_rfl)
    (of_decide_eq_true (by kernel_rfl)) (by unfold Func.isWrapper; first | (rw [if_pos (by decide +kernel)]; kernel_rfl) | (rw [if_neg (by decide +kernel)]; exact ⟨rfl, rfl⟩))
    (fun os started H enc _ => proofCalls_lifted os started H enc)
#print axioms proofCalls_holds
end Go.Proofs.Ytompindebndddaa

/- The code of some functions, node by node, for simp. Written by a program (mkcode.py). No condition. -/
import Derived.Test.YtemapihoobmonaaDoorG18
import Derived.Test.YtemapihoobmonaaDoorG15
import Derived.KernelRfl
import Derived.Test.YtemapihoobmonaaDoorG20
import Derived.Test.YtemapihoobmonaaDoorG25
import Derived.Test.YtemapihoobmonaaDoorG22
namespace Go.Proofs.YtemapihoobmonaaDoor
open Go.Am
set_option linter.unusedVariables false
set_option linter.unusedSimpArgs false
set_option maxRecDepth 100000
set_option maxHeartbeats 0
noncomputable def N44 := nodeF Tryd.f44
noncomputable def x44 := PLift.up (by have c := factsOf N44 Tryd.f44; simp only [codeOf, Tryd.f44, Option.getD_some, factsF, opsF, opsX, ncount, wantG, dstL, quietS, List.append_eq, List.cons_append, List.nil_append, seval] at c; exact nd c <| nd @al33 <| nd @bs84 <| nd @fa33_1 <| nd @fa36_0 <| nd @fa36_1 <| nd @ix79 <| nd @ld33 <| nd @ld36 <| nd @ld9 <| nd @ln79 <| @fi44)
theorem c44 : type_of% x44.down := x44.down
noncomputable def N29 := nodeF Tryd.f29
noncomputable def x29 := PLift.up (by have c := factsOf N29 Tryd.f29; simp only [codeOf, Tryd.f29, Option.getD_some, factsF, opsF, opsX, ncount, wantG, dstL, quietS, List.append_eq, List.cons_append, List.nil_append, seval] at c; exact nd c <| nd @ld36 <| @fi29)
theorem c29 : type_of% x29.down := x29.down
noncomputable def N60 := nodeF Tryd.f60
noncomputable def x60 := PLift.up (by have c := factsOf N60 Tryd.f60; simp only [codeOf, Tryd.f60, Option.getD_some, factsF, opsF, opsX, ncount, wantG, dstL, quietS, List.append_eq, List.cons_append, List.nil_append, seval] at c; exact nd c <| nd @ix23 <| nd @ld36 <| nd @fi60 <| @fj60)
theorem c60 : type_of% x60.down := x60.down
noncomputable def N84 := nodeF Tryd.f84
noncomputable def x84 := PLift.up (by have c := factsOf N84 Tryd.f84; simp only [codeOf, Tryd.f84, Option.getD_some, factsF, opsF, opsX, ncount, wantG, dstL, quietS, List.append_eq, List.cons_append, List.nil_append, seval] at c; exact nd c <| nd @ix23 <| nd @ld36 <| nd @fi84 <| @fj84)
theorem c84 : type_of% x84.down := x84.down
noncomputable def N73 := nodeF Tryd.f73
noncomputable def x73 := PLift.up (by have c := factsOf N73 Tryd.f73; simp only [codeOf, Tryd.f73, Option.getD_some, factsF, opsF, opsX, ncount, wantG, dstL, quietS, List.append_eq, List.cons_append, List.nil_append, seval] at c; exact nd c <| nd @fi73 <| @fj73)
theorem c73 : type_of% x73.down := x73.down
noncomputable def N61 := nodeF Tryd.f61
noncomputable def x61 := PLift.up (by have c := factsOf N61 Tryd.f61; simp only [codeOf, Tryd.f61, Option.getD_some, factsF, opsF, opsX, ncount, wantG, dstL, quietS, List.append_eq, List.cons_append, List.nil_append, seval] at c; exact nd c <| nd @ix23 <| nd @ld36 <| nd @fi61 <| @fj61)
theorem c61 : type_of% x61.down := x61.down
noncomputable def N42 := nodeF Tryd.f42
noncomputable def x42 := PLift.up (by have c := factsOf N42 Tryd.f42; simp only [codeOf, Tryd.f42, Option.getD_some, factsF, opsF, opsX, ncount, wantG, dstL, quietS, List.append_eq, List.cons_append, List.nil_append, seval] at c; exact nd c <| nd @fi42 <| @fj42)
theorem c42 : type_of% x42.down := x42.down
noncomputable def N28 := nodeF Tryd.f28
noncomputable def x28 := PLift.up (by have c := factsOf N28 Tryd.f28; simp only [codeOf, Tryd.f28, Option.getD_some, factsF, opsF, opsX, ncount, wantG, dstL, quietS, List.append_eq, List.cons_append, List.nil_append, seval] at c; exact nd c <| nd @ln23 <| nd @fi28 <| @fj28)
theorem c28 : type_of% x28.down := x28.down
noncomputable def N18 := nodeF Tryd.f18
noncomputable def x18 := PLift.up (by have c := factsOf N18 Tryd.f18; simp only [codeOf, Tryd.f18, Option.getD_some, factsF, opsF, opsX, ncount, wantG, dstL, quietS, List.append_eq, List.cons_append, List.nil_append, seval] at c; exact nd c <| nd @bs23 <| @fi18)
theorem c18 : type_of% x18.down := x18.down
noncomputable def N30 := nodeF Tryd.f30
noncomputable def x30 := PLift.up (by have c := factsOf N30 Tryd.f30; simp only [codeOf, Tryd.f30, Option.getD_some, factsF, opsF, opsX, ncount, wantG, dstL, quietS, List.append_eq, List.cons_append, List.nil_append, seval] at c; exact nd c <| nd @ix23 <| nd @ld36 <| nd @ln23 <| @fi30)
theorem c30 : type_of% x30.down := x30.down
noncomputable def N31 := nodeF Tryd.f31
noncomputable def x31 := PLift.up (by have c := factsOf N31 Tryd.f31; simp only [codeOf, Tryd.f31, Option.getD_some, factsF, opsF, opsX, ncount, wantG, dstL, quietS, List.append_eq, List.cons_append, List.nil_append, seval] at c; exact nd c <| nd @ld36 <| @fi31)
theorem c31 : type_of% x31.down := x31.down
noncomputable def N21 := nodeF Tryd.f21
noncomputable def x21 := PLift.up (by have c := factsOf N21 Tryd.f21; simp only [codeOf, Tryd.f21, Option.getD_some, factsF, opsF, opsX, ncount, wantG, dstL, quietS, List.append_eq, List.cons_append, List.nil_append, seval] at c; exact nd c <| @fi21)
theorem c21 : type_of% x21.down := x21.down
end Go.Proofs.YtemapihoobmonaaDoor
namespace Go.Proofs.YtemapihoobmonaaDoor
open Go.Am
set_option linter.unusedSimpArgs false
set_option linter.unusedVariables false
set_option maxRecDepth 100000
set_option maxHeartbeats 0
theorem sty84 : srcTyA tab 84 84 = true := by kernel_rfl
theorem cell_a0 (a : AtomD) : a.cells[0]? = some (.string a.says) := rfl
theorem cell_a1 (a : AtomD) : a.cells[1]? = some (.string a.pred) := rfl
theorem ok_text (a : AtomD) (ha : a.light = true) (h : Heap) (K : Value → Heap → Prop)
    (hk : ∀ h', Ext h h' → K (.string ⟨(textL a).toArray⟩) h') : Ok Tryd.prog tab ov 44 [a.val] h K := by
  rw [lay_nil h]
  have z := Ext.refl h
  obtain ⟨hs1, hs2⟩ := light_says ha
  refine Ok.into rfl tab_fn44 (bodyF N44) rfl (m := 37) rfl ?_
  simp -implicitDefEqProofs only [syms, symx, seval, c44, cells_atom, cell_a0, cell_a1, ↓cut_atom, agg_atom, valE_atom]
  refine cat_ruleX ?_ (fun S1 hS1 hz1 => ?_)
  · show a.says.size + 6 ≤ _
    omega
  simp -implicitDefEqProofs only [syms, symx, seval, c44, cell_a0, cell_a1, ↓cut_atom, agg_atom, valE_atom]
  refine cat_ruleX ?_ (fun S hS hz2 => ?_)
  · rw [hz1]
    show a.says.size + 6 + _ ≤ _
    omega
  have hSl : S.data.toList = a.says.data.toList ++ saysB ++ a.pred.data.toList := by rw [hS, hS1, ba_app, ba_app]; rfl
  have hSz : S.size ≤ 700 := by
    rw [hz2, hz1]
    show a.says.size + 6 + _ ≤ _
    omega
  clear hS hS1 hz1 hz2
  simp -implicitDefEqProofs only [syms, symx, seval, c44, ↓cut_atom, agg_atom, valE_atom]
  refine ok_args a _ _ (fun v H0 x hv => ?_)
  (replace z := z.overW x (by (try simp only [lay_size, List.length_cons, List.length_nil]); omega); rw [lay_nil H0])
  have hz0 := z.size
  have hva := vSelf v
  simp -implicitDefEqProofs only [syms, symx, seval, c44, hva]
  repeat' ((first | ((with_reducible  apply forkB ) <;> intro _) | with_reducible_and_instances refine ln_rule hv ds79 ?_) <;> simp -implicitDefEqProofs only [syms, symx, seval, c44, hva])
  · have hS2 : S = ⟨(textL a).toArray⟩ := ba_mk (by rw [hSl, text_none (by omega)])
    rw [hS2]
    exact hk _ (z.upW _ _ (by omega))
  obtain ⟨I1, hI1⟩ : ∃ I : Nat → Env → Heap → Prop, I = (fun n e h' => ∃ (i : Nat) (w : Value) (A : Nat) (h1 : Heap), h' = h1.lay [] h1.low ∧ Ext h h1 ∧ (n = a.args.length - i ∧ i ≤ a.args.length ∧ Ow Rep.str H0 h1 9 A w ((a.args.take i).map (·.s)) ∧ Inc H0 h1) ∧ ∃ J : Nat → Value, e = (jr J 0 3 (.string S :: J 4 :: w :: jr J 6 14 (v :: .int .i64 a.args.length :: .int .i64 i :: jr J 23 15 ([]))))) := ⟨_, rfl⟩
  refine W_loopN I1 _ (by rw [hI1]; exact ⟨0, .slice none 0 0, H0.size, _, rfl, z, ⟨rfl, by omega, Ow.nil (Nat.le_refl _), Inc.refl _⟩, junk (by kernel_rfl)⟩) ?_
  intro n e h' hin
  rw [hI1] at hin
  obtain ⟨i, w, A, h1', rfl, z, hinv, J, rfl⟩ := hin
  obtain ⟨rfl, hi, ho, i1⟩ := hinv
  have hal : a.args.length ≤ 4 := by rw [args_length]; unfold AtomD.cnt; omega
  have hw : IntKind.i64.wrap ((i : Int) + 1) = ((i + 1 : Nat) : Int) := by rw [wrap_i64 (by omega) (by omega)]; omega
  have hz := z.size
  simp -implicitDefEqProofs only [syms, symx, seval, c44]
  refine forkD (fun hlt => ?_) (fun hlt => ?_)
  rotate_left
  · simp -implicitDefEqProofs only [syms, symx, seval, c44]
    rw [List.take_of_length_le (by omega)] at ho
    have hJ := join_light ha
    have hnm : (a.args.map (·.s)).map (·.data.toList) = namesL a := by rw [List.map_map]; rfl
    have hva2 := vSelf w
    refine cat_ruleX ?_ (fun S3 hS3 hz3 => ?_)
    · show S.size + 1 ≤ _
      omega
    have hz3' : S3.size ≤ 701 := by
      rw [hz3]
      show S.size + 1 ≤ _
      omega
    have hS3l : S3.data.toList = S.data.toList ++ [40] := by rw [hS3, ba_app]
    simp -implicitDefEqProofs only [syms, symx, seval, c44, hva2]
    refine Ok.over (g := joinA) rfl (join_sl ((ho.sl (by decide)).lay _ _) (fun e => by have := congrArg List.length e; rw [List.length_map, List.length_nil] at this; omega) (by rw [List.length_map]; omega) (by rw [hnm]; exact Nat.le_trans hJ (by decide))) ?_
    rw [hnm]
    obtain ⟨J2, hJ2⟩ : ∃ J2 : ByteArray, J2 = ⟨(Lib.join (namesL a) (ByteArray.mk #[44, 32]).data.toList).toArray⟩ := ⟨_, rfl⟩
    rw [← hJ2]
    have hJl : J2.data.toList = Lib.join (namesL a) commaB := by rw [hJ2]; rfl
    have hJz : J2.size ≤ 1300 := by rw [← bsz2, hJl]; exact hJ
    simp -implicitDefEqProofs only [syms, symx, seval, c44]
    refine cat_ruleX ?_ (fun S4 hS4 hz4 => ?_)
    · omega
    simp -implicitDefEqProofs only [syms, symx, seval, c44]
    refine cat_ruleX ?_ (fun S5 hS5 hz5 => ?_)
    · rw [hz4]
      show S3.size + J2.size + 1 ≤ _
      omega
    repeat' ( simp -implicitDefEqProofs only [syms, symx, seval, c44])
    have hS6 : S5 = ⟨(textL a).toArray⟩ := ba_mk (by rw [hS5, ba_app, hS4, ba_app, hS3l, hSl, hJl, text_some (by omega)])
    rw [hS6]
    exact hk _ (z.upW _ _ (by omega))
  obtain ⟨r, hr, hr'⟩ := amElem (l := a.args) (i := i) hlt
  simp -implicitDefEqProofs only [syms, symx, seval, c44]
  repeat' ((first | with_reducible_and_instances refine ixt_at (hv.mono i1) ds79 sz33 (by omega) hr (fun p hp => ?_) | with_reducible_and_instances refine ldt hp ag33 sz33 ?_) <;> simp -implicitDefEqProofs only [syms, symx, seval, c44, lay_set, storeO_row, List.all_cons, List.all_nil, Am.one, Bool.and_true, Bool.true_and, Bool.and_self, List.set_cons_zero, List.set_cons_succ, st4, st3, st9, st33, st36, st46, st71, TermD.val, TermD.cells])
  simp -implicitDefEqProofs only [syms, symx, seval, c44, w_append, sty84]
  obtain ⟨hs1', hsr1⟩ := src_row (A := A) (B := h1'.size + 1) (r := Rep.str) (c := 1) (y := r.s) (by decide) (show (h1'.lay [Blk.row [Value.bool r.v, Value.string r.s] 33 false, Blk.row [Value.string r.s] 9 false] (min h1'.low (h1'.size + 0))).get (h1'.size + 1) = some (.row [Value.string r.s] 9 false) by rw [lay_get]; rfl) rfl
  have hfr := ho.fresh
  have hln : ((a.args.take i).map (·.s)).length ≤ 4 := by rw [List.length_map, List.length_take]; omega
  refine ap_rule (r := Rep.str) ds84 tab_info9 rfl (by decide) i1.size ho hs1' hsr1 (by omega) (by omega) (fun w' h2 A' o2 c2 hA2 => ?_)
  replace z := (z.upW _ _ (by omega)).step c2 (by omega)
  have i2 := inc_chg (i1.trans (Inc.lay _ _ _)) c2 hfr
  have htk : (a.args.take (i + 1)).map (·.s) = (a.args.take i).map (·.s) ++ [r.s] := by rw [List.take_add_one, hr', List.map_append]; rfl
  rw [← htk] at o2
  rw [lay_nil h2]
  have hva2 : ∀ (h : Heap) (K : Value → Heap → Prop), valE (some w') h K = K w' h := fun _ _ => rfl
  repeat' ( simp -implicitDefEqProofs only [syms, symx, seval, c44, hva2])
  rw [hw]
  (rw [hI1]; with_reducible refine loopN_normal (m := _) ?_ ⟨i + 1, w', A', _, rfl, z, ⟨rfl, by omega, o2, i2⟩, junk (by kernel_rfl)⟩; omega)
  trace_state
theorem ok_cmp (a b : AtomD) (ha : a.light = true) (hb : b.light = true) (h : Heap) (K : Value → Heap → Prop)
    (hk : ∀ h', Ext h h' → K (.int .i64 (cmpD a b)) h') : Ok Tryd.prog tab ov 29 [a.val, b.val] h K := by
  rw [lay_nil h]
  have z := Ext.refl h
  refine Ok.into rfl tab_fn29 (bodyF N29) rfl (m := 8) rfl ?_
  repeat' ( simp -implicitDefEqProofs only [syms, symx, seval, c29, cells_atom])
  refine (drawN (by simp only [c29])) (z.upW _ _ (by omega)) ?_
  simp -implicitDefEqProofs only [syms, symx, seval, c29, ↓cut_atom, agg_atom, valE_atom]
  refine ok_text a ha _ _ (fun h' x => ?_)
  have q1 := Holds.top (i := 1) x rfl
  (( ((with_reducible refine KOpsX_call ?_ ?_ ?_); (· exact (by (try simp only [lsz]); have := z.size; omega)); (·  exact x )) ); replace z := z.overW x (by (try simp only [lsz]); omega); rw [lay_nil h'])
  repeat' ( simp -implicitDefEqProofs only [syms, symx, seval, c29, q1.lay, ↓cut_atom, agg_atom, valE_atom])
  refine ok_text b hb _ _ (fun h' x => ?_)
  (( ((with_reducible refine KOpsX_call ?_ ?_ ?_); (· exact (by (try simp only [lsz]); have := z.size; omega)); (·  exact x )) ); replace z := z.overW x (by (try simp only [lsz]); omega); rw [lay_nil h'])
  repeat' ( simp -implicitDefEqProofs only [syms, symx, seval, c29])
  refine Ok.over (g := compareA) rfl rfl ?_
  refine KOpsX_call (by have := z.size; rw [lay_size]; omega) (by simpa only [lay_lay, lay_size, List.append_nil, List.length_nil, Nat.add_zero] using Ext.refl (h'.lay [] h'.size)) ?_
  repeat' (first | simp -implicitDefEqProofs only [syms, symx, seval, c29] | ((with_reducible refine ⟨z.grw.lay _ _, ?_⟩); (intro _ h' zz x _); (try simp only [lay_lay, List.append_nil] at x); (replace z := zz); (clear zz); rw [lay_nil h']))
  exact hk _ (z.upW _ _ (by omega))
end Go.Proofs.YtemapihoobmonaaDoor
namespace Go.Am
set_option linter.unusedVariables false
def atR (l : List ReasonD) (a : AtomD) : Int := idxP (fun x => decide (x.atom = a)) l
end Go.Am

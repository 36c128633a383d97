/- The code of some functions, node by node, for simp. Written by a program (mkcode.py). No condition. -/
import Derived.Test.YtompindebndddaaG30
import Derived.Test.YtompindebndddaaG27
import Derived.KernelRfl
import Derived.Test.YtompindebndddaaG31
import Derived.Test.YtompindebndddaaG17
namespace Go.Proofs.Ytompindebndddaa
open Go.Am
set_option linter.unusedVariables false
set_option linter.unusedSimpArgs false
set_option maxRecDepth 100000
set_option maxHeartbeats 0
noncomputable def N112 := nodeF Try.f112
noncomputable def x112 := PLift.up (by have c := factsOf N112 Try.f112; simp only [codeOf, Try.f112, Option.getD_some, factsF, opsF, opsX, ncount, wantG, dstL, quietS, List.append_eq, List.cons_append, List.nil_append, seval] at c; exact nd c <| nd @al36 <| nd @bs60 <| nd @fa36_1 <| nd @fa39_0 <| nd @fa39_1 <| nd @ix159 <| nd @ld36 <| nd @ld39 <| nd @ld9 <| nd @ln159 <| @fi112)
theorem c112 : type_of% x112.down := x112.down
noncomputable def N43 := nodeF Try.f43
noncomputable def x43 := PLift.up (by have c := factsOf N43 Try.f43; simp only [codeOf, Try.f43, Option.getD_some, factsF, opsF, opsX, ncount, wantG, dstL, quietS, List.append_eq, List.cons_append, List.nil_append, seval] at c; exact nd c <| nd @ld39 <| @fi43)
theorem c43 : type_of% x43.down := x43.down
noncomputable def N178 := nodeF Try.f178
noncomputable def x178 := PLift.up (by have c := factsOf N178 Try.f178; simp only [codeOf, Try.f178, Option.getD_some, factsF, opsF, opsX, ncount, wantG, dstL, quietS, List.append_eq, List.cons_append, List.nil_append, seval] at c; exact nd c <| nd @ix23 <| nd @ld39 <| nd @fi178 <| @fj178)
theorem c178 : type_of% x178.down := x178.down
noncomputable def N223 := nodeF Try.f223
noncomputable def x223 := PLift.up (by have c := factsOf N223 Try.f223; simp only [codeOf, Try.f223, Option.getD_some, factsF, opsF, opsX, ncount, wantG, dstL, quietS, List.append_eq, List.cons_append, List.nil_append, seval] at c; exact nd c <| nd @ix23 <| nd @ld39 <| nd @fi223 <| @fj223)
theorem c223 : type_of% x223.down := x223.down
noncomputable def N211 := nodeF Try.f211
noncomputable def x211 := PLift.up (by have c := factsOf N211 Try.f211; simp only [codeOf, Try.f211, Option.getD_some, factsF, opsF, opsX, ncount, wantG, dstL, quietS, List.append_eq, List.cons_append, List.nil_append, seval] at c; exact nd c <| nd @fi211 <| @fj211)
theorem c211 : type_of% x211.down := x211.down
noncomputable def N179 := nodeF Try.f179
noncomputable def x179 := PLift.up (by have c := factsOf N179 Try.f179; simp only [codeOf, Try.f179, Option.getD_some, factsF, opsF, opsX, ncount, wantG, dstL, quietS, List.append_eq, List.cons_append, List.nil_append, seval] at c; exact nd c <| nd @ix23 <| nd @ld39 <| nd @fi179 <| @fj179)
theorem c179 : type_of% x179.down := x179.down
noncomputable def N145 := nodeF Try.f145
noncomputable def x145 := PLift.up (by have c := factsOf N145 Try.f145; simp only [codeOf, Try.f145, Option.getD_some, factsF, opsF, opsX, ncount, wantG, dstL, quietS, List.append_eq, List.cons_append, List.nil_append, seval] at c; exact nd c <| nd @fi145 <| @fj145)
theorem c145 : type_of% x145.down := x145.down
noncomputable def N90 := nodeF Try.f90
noncomputable def x90 := PLift.up (by have c := factsOf N90 Try.f90; simp only [codeOf, Try.f90, Option.getD_some, factsF, opsF, opsX, ncount, wantG, dstL, quietS, List.append_eq, List.cons_append, List.nil_append, seval] at c; exact nd c <| nd @ln23 <| nd @fi90 <| @fj90)
theorem c90 : type_of% x90.down := x90.down
noncomputable def N89 := nodeF Try.f89
noncomputable def x89 := PLift.up (by have c := factsOf N89 Try.f89; simp only [codeOf, Try.f89, Option.getD_some, factsF, opsF, opsX, ncount, wantG, dstL, quietS, List.append_eq, List.cons_append, List.nil_append, seval] at c; exact nd c <| nd @bs23 <| @fi89)
theorem c89 : type_of% x89.down := x89.down
noncomputable def N91 := nodeF Try.f91
noncomputable def x91 := PLift.up (by have c := factsOf N91 Try.f91; simp only [codeOf, Try.f91, Option.getD_some, factsF, opsF, opsX, ncount, wantG, dstL, quietS, List.append_eq, List.cons_append, List.nil_append, seval] at c; exact nd c <| nd @ix23 <| nd @ld39 <| nd @ln23 <| @fi91)
theorem c91 : type_of% x91.down := x91.down
noncomputable def N92 := nodeF Try.f92
noncomputable def x92 := PLift.up (by have c := factsOf N92 Try.f92; simp only [codeOf, Try.f92, Option.getD_some, factsF, opsF, opsX, ncount, wantG, dstL, quietS, List.append_eq, List.cons_append, List.nil_append, seval] at c; exact nd c <| nd @ld39 <| @fi92)
theorem c92 : type_of% x92.down := x92.down
noncomputable def N33 := nodeF Try.f33
noncomputable def x33 := PLift.up (by have c := factsOf N33 Try.f33; simp only [codeOf, Try.f33, Option.getD_some, factsF, opsF, opsX, ncount, wantG, dstL, quietS, List.append_eq, List.cons_append, List.nil_append, seval] at c; exact nd c <| @fi33)
theorem c33 : type_of% x33.down := x33.down
noncomputable def N31 := nodeF Try.f31
noncomputable def x31 := PLift.up (by have c := factsOf N31 Try.f31; simp only [codeOf, Try.f31, Option.getD_some, factsF, opsF, opsX, ncount, wantG, dstL, quietS, List.append_eq, List.cons_append, List.nil_append, seval] at c; exact nd c <| nd @ix23 <| nd @ld39 <| nd @ln23 <| @fi31)
theorem c31 : type_of% x31.down := x31.down
noncomputable def N93 := nodeF Try.f93
noncomputable def x93 := PLift.up (by have c := factsOf N93 Try.f93; simp only [codeOf, Try.f93, Option.getD_some, factsF, opsF, opsX, ncount, wantG, dstL, quietS, List.append_eq, List.cons_append, List.nil_append, seval] at c; exact nd c <| @fi93)
theorem c93 : type_of% x93.down := x93.down
noncomputable def N146 := nodeF Try.f146
noncomputable def x146 := PLift.up (by have c := factsOf N146 Try.f146; simp only [codeOf, Try.f146, Option.getD_some, factsF, opsF, opsX, ncount, wantG, dstL, quietS, List.append_eq, List.cons_append, List.nil_append, seval] at c; exact nd c <| nd @ix23 <| nd @ld39 <| nd @ln23 <| @fi146)
theorem c146 : type_of% x146.down := x146.down
noncomputable def N96 := nodeF Try.f96
noncomputable def x96 := PLift.up (by have c := factsOf N96 Try.f96; simp only [codeOf, Try.f96, Option.getD_some, factsF, opsF, opsX, ncount, wantG, dstL, quietS, List.append_eq, List.cons_append, List.nil_append, seval] at c; exact nd c <| nd @ld39 <| @fi96)
theorem c96 : type_of% x96.down := x96.down
noncomputable def N35 := nodeF Try.f35
noncomputable def x35 := PLift.up (by have c := factsOf N35 Try.f35; simp only [codeOf, Try.f35, Option.getD_some, factsF, opsF, opsX, ncount, wantG, dstL, quietS, List.append_eq, List.cons_append, List.nil_append, seval] at c; exact nd c <| nd @ld39 <| @fi35)
theorem c35 : type_of% x35.down := x35.down
end Go.Proofs.Ytompindebndddaa
namespace Go.Proofs.Ytompindebndddaa
open Go.Am
set_option linter.unusedSimpArgs false
set_option linter.unusedVariables false
set_option maxRecDepth 100000
set_option maxHeartbeats 0
theorem sty60 : srcTyA tab 60 60 = true := by kernel_rfl
theorem cell_a0 (a : AtomD) : a.cells[0]? = some (.string a.says) := rfl
theorem cell_a1 (a : AtomD) : a.cells[1]? = some (.string a.pred) := rfl
theorem ok_text (a : AtomD) (ha : a.light = true) (h : Heap) (K : Value → Heap → Prop)
    (hk : ∀ h', Ext h h' → K (.string ⟨(textL a).toArray⟩) h') : Ok Try.prog tab ov 112 [a.val] h K := by
  rw [lay_nil h]
  have z := Ext.refl h
  obtain ⟨hs1, hs2⟩ := light_says ha
  refine Ok.into rfl tab_fn112 (bodyF N112) rfl (m := 37) rfl ?_
  simp -implicitDefEqProofs only [syms, symx, seval, c112, cells_atom, cell_a0, cell_a1, ↓cut_atom, agg_atom, valE_atom]
  refine cat_ruleX ?_ (fun S1 hS1 hz1 => ?_)
  · show a.says.size + 6 ≤ _
    omega
  simp -implicitDefEqProofs only [syms, symx, seval, c112, cell_a0, cell_a1, ↓cut_atom, agg_atom, valE_atom]
  refine cat_ruleX ?_ (fun S hS hz2 => ?_)
  · rw [hz1]
    show a.says.size + 6 + _ ≤ _
    omega
  have hSl : S.data.toList = a.says.data.toList ++ saysB ++ a.pred.data.toList := by rw [hS, hS1, ba_app, ba_app]; rfl
  have hSz : S.size ≤ 700 := by
    rw [hz2, hz1]
    show a.says.size + 6 + _ ≤ _
    omega
  clear hS hS1 hz1 hz2
  simp -implicitDefEqProofs only [syms, symx, seval, c112, ↓cut_atom, agg_atom, valE_atom]
  refine ok_args a _ _ (fun v H0 x hv => ?_)
  (replace z := z.overW x (by (try simp only [lay_size, List.length_cons, List.length_nil]); omega); rw [lay_nil H0])
  have hz0 := z.size
  have hva := vSelf v
  simp -implicitDefEqProofs only [syms, symx, seval, c112, hva]
  repeat' ((first | ((with_reducible  apply forkB ) <;> intro _) | with_reducible_and_instances refine ln_rule hv ds159 ?_) <;> simp -implicitDefEqProofs only [syms, symx, seval, c112, hva])
  · have hS2 : S = ⟨(textL a).toArray⟩ := ba_mk (by rw [hSl, text_none (by omega)])
    rw [hS2]
    exact hk _ (z.upW _ _ (by omega))
  obtain ⟨I1, hI1⟩ : ∃ I : Nat → Env → Heap → Prop, I = (fun n e h' => ∃ (i : Nat) (w : Value) (A : Nat) (h1 : Heap), h' = h1.lay [] h1.low ∧ Ext h h1 ∧ (n = a.args.length - i ∧ i ≤ a.args.length ∧ Ow Rep.str H0 h1 9 A w ((a.args.take i).map (·.s)) ∧ Inc H0 h1) ∧ ∃ J : Nat → Value, e = (jr J 0 3 (.string S :: J 4 :: w :: jr J 6 14 (v :: .int .i64 a.args.length :: .int .i64 i :: jr J 23 15 ([]))))) := ⟨_, rfl⟩
  refine W_loopN I1 _ (by rw [hI1]; exact ⟨0, .slice none 0 0, H0.size, _, rfl, z, ⟨rfl, by omega, Ow.nil (Nat.le_refl _), Inc.refl _⟩, junk (by kernel_rfl)⟩) ?_
  intro n e h' hin
  rw [hI1] at hin
  obtain ⟨i, w, A, h1', rfl, z, hinv, J, rfl⟩ := hin
  obtain ⟨rfl, hi, ho, i1⟩ := hinv
  have hal : a.args.length ≤ 4 := by rw [args_length]; unfold AtomD.cnt; omega
  have hw : IntKind.i64.wrap ((i : Int) + 1) = ((i + 1 : Nat) : Int) := by rw [wrap_i64 (by omega) (by omega)]; omega
  have hz := z.size
  simp -implicitDefEqProofs only [syms, symx, seval, c112]
  refine forkD (fun hlt => ?_) (fun hlt => ?_)
  rotate_left
  · simp -implicitDefEqProofs only [syms, symx, seval, c112]
    rw [List.take_of_length_le (by omega)] at ho
    have hJ := join_light ha
    have hnm : (a.args.map (·.s)).map (·.data.toList) = namesL a := by rw [List.map_map]; rfl
    have hva2 := vSelf w
    refine cat_ruleX ?_ (fun S3 hS3 hz3 => ?_)
    · show S.size + 1 ≤ _
      omega
    have hz3' : S3.size ≤ 701 := by
      rw [hz3]
      show S.size + 1 ≤ _
      omega
    have hS3l : S3.data.toList = S.data.toList ++ [40] := by rw [hS3, ba_app]
    simp -implicitDefEqProofs only [syms, symx, seval, c112, hva2]
    refine Ok.over (g := joinA) rfl (join_sl ((ho.sl (by decide)).lay _ _) (fun e => by have := congrArg List.length e; rw [List.length_map, List.length_nil] at this; omega) (by rw [List.length_map]; omega) (by rw [hnm]; exact Nat.le_trans hJ (by decide))) ?_
    rw [hnm]
    obtain ⟨J2, hJ2⟩ : ∃ J2 : ByteArray, J2 = ⟨(Lib.join (namesL a) (ByteArray.mk #[44, 32]).data.toList).toArray⟩ := ⟨_, rfl⟩
    rw [← hJ2]
    have hJl : J2.data.toList = Lib.join (namesL a) commaB := by rw [hJ2]; rfl
    have hJz : J2.size ≤ 1300 := by rw [← bsz2, hJl]; exact hJ
    simp -implicitDefEqProofs only [syms, symx, seval, c112]
    refine cat_ruleX ?_ (fun S4 hS4 hz4 => ?_)
    · omega
    simp -implicitDefEqProofs only [syms, symx, seval, c112]
    refine cat_ruleX ?_ (fun S5 hS5 hz5 => ?_)
    · rw [hz4]
      show S3.size + J2.size + 1 ≤ _
      omega
    repeat' ( simp -implicitDefEqProofs only [syms, symx, seval, c112])
    have hS6 : S5 = ⟨(textL a).toArray⟩ := ba_mk (by rw [hS5, ba_app, hS4, ba_app, hS3l, hSl, hJl, text_some (by omega)])
    rw [hS6]
    exact hk _ (z.upW _ _ (by omega))
  obtain ⟨r, hr, hr'⟩ := amElem (l := a.args) (i := i) hlt
  simp -implicitDefEqProofs only [syms, symx, seval, c112]
  repeat' ((first | with_reducible_and_instances refine ixt_at (hv.mono i1) ds159 sz36 (by omega) hr (fun p hp => ?_) | with_reducible_and_instances refine ldt hp ag36 sz36 ?_) <;> simp -implicitDefEqProofs only [syms, symx, seval, c112, lay_set, storeO_row, List.all_cons, List.all_nil, Am.one, Bool.and_true, Bool.true_and, Bool.and_self, List.set_cons_zero, List.set_cons_succ, st4, st3, st9, st36, st39, st47, st41, st192, TermD.val, TermD.cells])
  simp -implicitDefEqProofs only [syms, symx, seval, c112, w_append, sty60]
  obtain ⟨hs1', hsr1⟩ := src_row (A := A) (B := h1'.size + 1) (r := Rep.str) (c := 1) (y := r.s) (by decide) (show (h1'.lay [Blk.row [Value.bool r.v, Value.string r.s] 36 false, Blk.row [Value.string r.s] 9 false] (min h1'.low (h1'.size + 0))).get (h1'.size + 1) = some (.row [Value.string r.s] 9 false) by rw [lay_get]; rfl) rfl
  have hfr := ho.fresh
  have hln : ((a.args.take i).map (·.s)).length ≤ 4 := by rw [List.length_map, List.length_take]; omega
  refine ap_rule (r := Rep.str) ds60 tab_info9 rfl (by decide) i1.size ho hs1' hsr1 (by omega) (by omega) (fun w' h2 A' o2 c2 hA2 => ?_)
  replace z := (z.upW _ _ (by omega)).step c2 (by omega)
  have i2 := inc_chg (i1.trans (Inc.lay _ _ _)) c2 hfr
  have htk : (a.args.take (i + 1)).map (·.s) = (a.args.take i).map (·.s) ++ [r.s] := by rw [List.take_add_one, hr', List.map_append]; rfl
  rw [← htk] at o2
  rw [lay_nil h2]
  have hva2 : ∀ (h : Heap) (K : Value → Heap → Prop), valE (some w') h K = K w' h := fun _ _ => rfl
  repeat' ( simp -implicitDefEqProofs only [syms, symx, seval, c112, hva2])
  rw [hw]
  (rw [hI1]; with_reducible refine loopN_normal (m := _) ?_ ⟨i + 1, w', A', _, rfl, z, ⟨rfl, by omega, o2, i2⟩, junk (by kernel_rfl)⟩; omega)
  trace_state
theorem ok_cmp (a b : AtomD) (ha : a.light = true) (hb : b.light = true) (h : Heap) (K : Value → Heap → Prop)
    (hk : ∀ h', Ext h h' → K (.int .i64 (cmpD a b)) h') : Ok Try.prog tab ov 43 [a.val, b.val] h K := by
  rw [lay_nil h]
  have z := Ext.refl h
  refine Ok.into rfl tab_fn43 (bodyF N43) rfl (m := 8) rfl ?_
  repeat' ( simp -implicitDefEqProofs only [syms, symx, seval, c43, cells_atom])
  refine (drawN (by simp only [c43])) (z.upW _ _ (by omega)) ?_
  simp -implicitDefEqProofs only [syms, symx, seval, c43, ↓cut_atom, agg_atom, valE_atom]
  refine ok_text a ha _ _ (fun h' x => ?_)
  have q1 := Holds.top (i := 1) x rfl
  (( ((with_reducible refine KOpsX_call ?_ ?_ ?_); (· exact (by (try simp only [lsz]); have := z.size; omega)); (·  exact x )) ); replace z := z.overW x (by (try simp only [lsz]); omega); rw [lay_nil h'])
  repeat' ( simp -implicitDefEqProofs only [syms, symx, seval, c43, q1.lay, ↓cut_atom, agg_atom, valE_atom])
  refine ok_text b hb _ _ (fun h' x => ?_)
  (( ((with_reducible refine KOpsX_call ?_ ?_ ?_); (· exact (by (try simp only [lsz]); have := z.size; omega)); (·  exact x )) ); replace z := z.overW x (by (try simp only [lsz]); omega); rw [lay_nil h'])
  repeat' ( simp -implicitDefEqProofs only [syms, symx, seval, c43])
  refine Ok.over (g := compareA) rfl rfl ?_
  refine KOpsX_call (by have := z.size; rw [lay_size]; omega) (by simpa only [lay_lay, lay_size, List.append_nil, List.length_nil, Nat.add_zero] using Ext.refl (h'.lay [] h'.size)) ?_
  repeat' (first | simp -implicitDefEqProofs only [syms, symx, seval, c43] | ((with_reducible refine ⟨z.grw.lay _ _, ?_⟩); (intro _ h' zz x _); (try simp only [lay_lay, List.append_nil] at x); (replace z := zz); (clear zz); rw [lay_nil h']))
  exact hk _ (z.upW _ _ (by omega))
end Go.Proofs.Ytompindebndddaa

/- The code of some functions, node by node, for simp. Written by a program (mkcode.py). No condition. -/
import Derived.Test.YtemapihoobmonaaDoorG18
import Derived.Test.YtemapihoobmonaaDoorG15
import Derived.KernelRfl
import Derived.Test.YtemapihoobmonaaDoorG16
import Derived.Test.YtemapihoobmonaaDoorG19
namespace Go.Proofs.YtemapihoobmonaaDoor
open Go.Am
set_option linter.unusedVariables false
set_option linter.unusedSimpArgs false
set_option maxRecDepth 100000
set_option maxHeartbeats 0
noncomputable def N15 := nodeF Tryd.f15
noncomputable def x15 := PLift.up (by have c := factsOf N15 Tryd.f15; simp only [codeOf, Tryd.f15, Option.getD_some, factsF, opsF, opsX, ncount, wantG, dstL, quietS, List.append_eq, List.cons_append, List.nil_append, seval] at c; exact nd c <| nd @fa33_1 <| nd @fa36_0 <| nd @fa36_1 <| nd @fa36_3 <| nd @ix34 <| nd @ld9 <| nd @ln9 <| @fi15)
theorem c15 : type_of% x15.down := x15.down
noncomputable def N14 := nodeF Tryd.f14
noncomputable def x14 := PLift.up (by have c := factsOf N14 Tryd.f14; simp only [codeOf, Tryd.f14, Option.getD_some, factsF, opsF, opsX, ncount, wantG, dstL, quietS, List.append_eq, List.cons_append, List.nil_append, seval] at c; exact nd c <| nd @ix23 <| nd @ld36 <| nd @ln23 <| @fi14)
theorem c14 : type_of% x14.down := x14.down
noncomputable def N5 := nodeF Tryd.f5
noncomputable def x5 := PLift.up (by have c := factsOf N5 Tryd.f5; simp only [codeOf, Tryd.f5, Option.getD_some, factsF, opsF, opsX, ncount, wantG, dstL, quietS, List.append_eq, List.cons_append, List.nil_append, seval] at c; exact nd c <| nd @fa46_0 <| nd @fa46_1 <| nd @ix22 <| nd @ld23 <| nd @ld36 <| nd @ln22 <| @fi5)
theorem c5 : type_of% x5.down := x5.down
noncomputable def N7 := nodeF Tryd.f7
noncomputable def x7 := PLift.up (by have c := factsOf N7 Tryd.f7; simp only [codeOf, Tryd.f7, Option.getD_some, factsF, opsF, opsX, ncount, wantG, dstL, quietS, List.append_eq, List.cons_append, List.nil_append, seval] at c; exact nd c <| @fi7)
theorem c7 : type_of% x7.down := x7.down
noncomputable def N9 := nodeF Tryd.f9
noncomputable def x9 := PLift.up (by have c := factsOf N9 Tryd.f9; simp only [codeOf, Tryd.f9, Option.getD_some, factsF, opsF, opsX, ncount, wantG, dstL, quietS, List.append_eq, List.cons_append, List.nil_append, seval] at c; exact nd c <| nd @bs23 <| @fi9)
theorem c9 : type_of% x9.down := x9.down
noncomputable def N8 := nodeF Tryd.f8
noncomputable def x8 := PLift.up (by have c := factsOf N8 Tryd.f8; simp only [codeOf, Tryd.f8, Option.getD_some, factsF, opsF, opsX, ncount, wantG, dstL, quietS, List.append_eq, List.cons_append, List.nil_append, seval] at c; exact nd c <| nd @bs22 <| nd @fa46_0 <| nd @fa46_1 <| nd @ix22 <| nd @ld23 <| nd @ld36 <| nd @ln22 <| @fi8)
theorem c8 : type_of% x8.down := x8.down
end Go.Proofs.YtemapihoobmonaaDoor
namespace Go.Proofs.YtemapihoobmonaaDoor
open Go.Am
set_option linter.unusedSimpArgs false
set_option linter.unusedVariables false
set_option maxRecDepth 100000
set_option maxHeartbeats 0
/-! ### Light -/
theorem ok_light (a : AtomD) (h : Heap) (K : Value → Heap → Prop) (h1 : a.light = true → ∀ h', Ext h h' → K (.bool true) h') (h2 : a.light = false → ∀ h', Ext h h' → K (.bool false) h') : Ok Tryd.prog tab ov 15 [a.val] h K := by
  rw [lay_nil h]
  have z := Ext.refl h
  unfold AtomD.val AtomD.cells
  refine Ok.into rfl tab_fn15 (bodyF N15) rfl (m := 29) rfl ?_
  simp -implicitDefEqProofs only [syms, symx, seval, c15]
  repeat' ((first | ((with_reducible  apply forkD ) <;> intro _) | with_reducible_and_instances refine W_unroll ?_) <;> simp -implicitDefEqProofs only [syms, symx, seval, c15])
  all_goals first
    | with_reducible exact h2 (by simp [AtomD.light]; omega) _ (z.upW _ _ (by omega))
    | with_reducible exact h1 (by simp [AtomD.light]; omega) _ (z.upW _ _ (by omega))
theorem ok_lights (l : List AtomD) (v : Value) (m : Int) (h : Heap) (hl : Sl Rep.atom h v l) (K : Value → Heap → Prop) (h1 : (l.length : Int) ≤ m → (∀ a ∈ l, a.light = true) → ∀ h', Ext h h' → K (.bool true) h') (h2 : ∀ h', Ext h h' → K (.bool false) h') : Ok Tryd.prog tab ov 14 [v, .int .i64 m] h K := by
  rw [lay_nil h]
  have z := Ext.refl h
  have hle := hl.le
  refine Ok.into rfl tab_fn14 (bodyF N14) rfl (m := 20) rfl ?_
  simp -implicitDefEqProofs only [syms, symx, seval, c14]
  repeat' ((first | ((with_reducible  apply forkD ) <;> intro _) | with_reducible_and_instances refine ln_rule hl ds23 ?_) <;> simp -implicitDefEqProofs only [syms, symx, seval, c14])
  · exact h2 _ (z.upW _ _ (by omega))
  refine W_loop (fun e h' => ∃ (i : Nat) (h1 : Heap) (x1 x2 x3 x4 x6 x7 x8 x9 x10 x11 x12 x13 x14 x15 x16 x17 x18 x19 x20 x21 : Value), h' = h1.lay [] h1.low ∧ Ext h h1 ∧ i ≤ l.length ∧ (∀ a ∈ l.take i, a.light = true) ∧ e = [v, x1, x2, x3, x4, .int .i64 i, x6, x7, x8, x9, x10, x11, x12, x13, x14, x15, x16, x17, x18, x19, x20, x21]) (fun e _ => match e.get 5 with | .int _ i => l.length - i.toNat | _ => 0) ?_ ?_
  · exact ⟨0, h, _, _, _, _, _, _, _, _, _, _, _, _, _, _, _, _, _, _, _, _, rfl, z, by omega, by simp, rfl⟩
  rintro e h' ⟨i, h1', x1, x2, x3, x4, x6, x7, x8, x9, x10, x11, x12, x13, x14, x15, x16, x17, x18, x19, x20, x21, rfl, z, hi, hall, rfl⟩
  have hw : i < l.length → IntKind.i64.wrap ((i : Int) + 1) = ((i + 1 : Nat) : Int) := fun hh => by unfold maxLen at hle; rw [wrap_i64 (by omega) (by omega)]; omega
  simp -implicitDefEqProofs only [syms, symx, seval, c14]
  repeat' ((first | ((with_reducible  apply forkD ) <;> intro _) | with_reducible_and_instances refine ln_rule hl ds23 ?_ | with_reducible_and_instances refine ixa (hl.mono z.inc) ds23 sz36 (by omega) (by omega) (fun a p ha hp => ?_) | with_reducible_and_instances refine lda hp ag36 sz36 ?_ | ((with_reducible_and_instances refine ok_light _ _ _ (fun hlx h' x => ?_) (fun hlx h' x => ?_)) <;> ((skip); replace z := z.overW x (by (try simp only [lsz]); omega); rw [lay_nil h'])) | ((with_reducible_and_instances apply unop_not); (· rfl))) <;> simp -implicitDefEqProofs only [syms, symx, seval, c14])
  all_goals first
    | with_reducible exact h2 _ (z.upW _ _ (by omega))
    | with_reducible exact h1 (by omega) (by rw [List.take_of_length_le (by omega)] at hall; exact hall) _ (z.upW _ _ (by omega))
    | (rw [hw (by omega)]
       with_reducible refine loopE_normal ?_ ?_
       · exact ⟨i + 1, h', _, _, _, _, _, _, _, _, _, _, _, _, _, _, _, _, _, _, _, _, rfl, z, by omega, take_all ha hall hlx, rfl⟩
       · show l.length - ((i + 1 : Nat) : Int).toNat < l.length - (i : Int).toNat
         omega)
def pickD (n m : Int) : Int := if m < 1 then 0 else if n.tmod m < 0 then n.tmod m + m else n.tmod m
theorem pickD_lt (n m : Int) (hm : 1 ≤ m) : 0 ≤ pickD n m ∧ pickD n m < m := by
  unfold pickD
  rw [if_neg (by omega)]
  have h1 := Int.tmod_lt_of_pos n (show 0 < m by omega)
  have h2 := Int.lt_tmod_of_pos n (show 0 < m by omega)
  split <;> omega
theorem ok_pick (n m : Int) (h : Heap) (K : Value → Heap → Prop) (hm : m ≤ 4611686018427387904) (hk : K (.int .i64 (pickD n m)) h) : Ok Tryd.prog tab ov 7 [.int .i64 n, .int .i64 m] h K := by
  refine Ok.into rfl tab_fn7 (bodyF N7) rfl (m := 15) rfl ?_
  simp -implicitDefEqProofs only [syms, symx, seval, c7]
  refine forkD (fun c => ?_) (fun c => ?_)
  · simp -implicitDefEqProofs only [syms, symx, seval, c7]
    have : pickD n m = 0 := by unfold pickD; rw [if_pos c]
    rw [this] at hk
    exact hk
  have hb := pickD_lt n m (by omega)
  have hd : pickD n m = if n.tmod m < 0 then n.tmod m + m else n.tmod m := by unfold pickD; rw [if_neg c]
  simp -implicitDefEqProofs only [syms, symx, seval, c7]
  rw [bin_rem (by omega)]
  simp -implicitDefEqProofs only [syms, symx, seval, c7]
  refine forkD (fun c2 => ?_) (fun c2 => ?_)
  · rw [if_pos c2] at hd
    rw [hd] at hk hb
    simp -implicitDefEqProofs only [syms, symx, seval, c7]
    rw [wrap_i64 (by omega) (by omega)]
    exact hk
  · rw [if_neg c2] at hd
    rw [hd] at hk
    simp -implicitDefEqProofs only [syms, symx, seval, c7]
    exact hk
theorem ok_own (l : List AtomD) (v : Value) (h : Heap) (hl : Sl Rep.atom h v l) (hn : l.length ≤ 1000000) (K : Value → Heap → Prop) (hk : ∀ w A h', Ext h h' → Ow Rep.atom h h' 36 A w l → (A < h.size → False) → K w h') : Ok Tryd.prog tab ov 9 [v] h K := by
  rw [lay_nil h]
  refine Ok.into rfl tab_fn9 (bodyF N9) rfl (m := 5) rfl ?_
  simp -implicitDefEqProofs only [syms, symx, seval, c9, w_append, sty23]
  obtain ⟨news, hs, hsr⟩ := src_sl (A := h.size + 1) (r := Rep.atom) (by decide) (hl.lay [.row [] 36 false] h.low) (fun cs y hr => hr)
  have f : Ow Rep.atom h (h.lay [.row [] 36 false] h.low) 36 (h.size + 1) (.slice (some ⟨h.size + 0, 0, none⟩) 0 0) [] :=
    .inl ⟨by omega, rfl, .inr ⟨h.size + 0, 0, rfl, by omega, by rw [lay_size]; simp, [], 36, false, by rw [lay_get]; rfl⟩⟩
  obtain ⟨w, h', A', e1, e2, e3, e4, e5⟩ := app_ow (t := 23) ds23 tab_info36 rfl (by decide) (by rw [lay_size]; omega) f hs hsr (by simp only [List.length_nil]; omega) (by simp only [List.length_nil]; omega)
  rw [e1]
  simp -implicitDefEqProofs only [syms, symx, seval, c9]
  exact hk _ _ _ ((Ext.refl h).stepW e3 (by omega) (by omega)) e2 (by omega)
theorem ok_lightClauses (l : List ClauseD) (facts : List AtomD) (v w : Value) (h : Heap) (hl : Sl Rep.clause h v l) (hf : Sl Rep.atom h w facts) (K : Value → Heap → Prop)
    (h1 : l.length ≤ 6 → facts.length ≤ 12 → (∀ r ∈ l, r.body.length ≤ 3) → ∀ h', Ext h h' → K (.bool true) h') (h2 : ∀ h', Ext h h' → K (.bool false) h') : Ok Tryd.prog tab ov 5 [v, w] h K := by
  rw [lay_nil h]
  have z := Ext.refl h
  refine Ok.into rfl tab_fn5 (bodyF N5) rfl (m := 34) rfl ?_
  simp -implicitDefEqProofs only [syms, symx, seval, c5]
  repeat' ((first | ((with_reducible  apply forkD ) <;> intro _) | with_reducible_and_instances refine ln_rule hl ds22 ?_ | ((with_reducible_and_instances refine ok_lights _ _ _ _ ((hf.mono z.inc).lay _ _) _ (fun hlf hfl h' x => ?_) (fun h' x => ?_)) <;> ((skip); replace z := z.overW x (by (try simp only [lsz]); omega); rw [lay_nil h'])) | ((with_reducible_and_instances apply unop_not); (· rfl))) <;> simp -implicitDefEqProofs only [syms, symx, seval, c5])
  all_goals try exact h2 _ (z.upW _ _ (by omega))
  obtain ⟨I1, hI1⟩ : ∃ I : Nat → Env → Heap → Prop, I = (fun n e h' => ∃ (i : Nat) (h1 : Heap), h' = h1.lay [] h1.low ∧ Ext h h1 ∧ (n = l.length - i ∧ i ≤ l.length ∧ ∀ r ∈ l.take i, r.body.length ≤ 3) ∧ ∃ J : Nat → Value, e = (v :: jr J 1 4 (.int .i64 i :: jr J 6 30 ([])))) := ⟨_, rfl⟩
  refine W_loopN I1 _ (by rw [hI1]; exact ⟨0, _, rfl, z, ⟨rfl, by omega, by simp⟩, junk (by kernel_rfl)⟩) ?_
  intro n e h' hin
  rw [hI1] at hin
  obtain ⟨i, h1', rfl, z, hinv, J, rfl⟩ := hin
  obtain ⟨rfl, hi, hall⟩ := hinv
  have hw : IntKind.i64.wrap ((i : Int) + 1) = ((i + 1 : Nat) : Int) := by rw [wrap_i64 (by omega) (by omega)]; omega
  repeat' (first | simp -implicitDefEqProofs only [syms, symx, seval, c5] | ((with_reducible  apply forkD ) <;> intro _) | with_reducible_and_instances refine ln_rule hl ds22 ?_)
  rotate_left
  · exact h1 (by omega) (by omega) (by rw [List.take_of_length_le (by omega)] at hall; exact hall) _ (z.upW _ _ (by omega))
  obtain ⟨r, hr, hr'⟩ := amElem (l := l) (i := i) (by assumption)
  repeat' ((first | with_reducible_and_instances refine ixc_at (hl.mono z.inc) ds22 sz46 (by omega) hr (fun p bd hbd hp => ?_) | with_reducible_and_instances refine fdc0 hp fa46_0 (fun p hp => ?_) | with_reducible_and_instances refine fdc1 hp fa46_1 (fun q hq => ?_) | with_reducible_and_instances refine lda hp ag36 sz36 ?_ | with_reducible_and_instances refine ld_one hq ag23 ?_ | ((with_reducible_and_instances refine ok_light _ _ _ (fun hla h' x => ?_) (fun hla h' x => ?_)) <;> ((skip); replace z := z.overW x (by (try simp only [lsz]); omega); rw [lay_nil h'])) | ((with_reducible_and_instances refine ok_lights _ _ _ _ (hbd.mono (Inc.lay _ _ _)) _ (fun hlen hlb h' x => ?_) (fun h' x => ?_)) <;> ((skip); replace z := z.overW x (by (try simp only [lsz]); omega); rw [lay_nil h'])) | ((with_reducible_and_instances apply unop_not); (· rfl))) <;> simp -implicitDefEqProofs only [syms, symx, seval, c5])
  all_goals first
    | with_reducible exact h2 _ (z.upW _ _ (by omega))
    | (rw [hw]; (rw [hI1]; with_reducible refine loopN_normal (m := _) ?_ ⟨i + 1, _, rfl, z, ⟨rfl, by omega, take_all (i := i) (P := fun r : ClauseD => r.body.length ≤ 3) hr' hall (by show r.body.length ≤ 3; omega)⟩, junk (by kernel_rfl)⟩; omega))
theorem bld_clause (a : AtomD) (b : Option Addr) (n c : Nat) : buildA tab 46 [(0, a.val), (1, .slice b n c)] = some (.agg ⟨a.cells ++ [.slice b n c]⟩) := by kernel_rfl
theorem ok_ownClauses (l : List ClauseD) (v : Value) (h : Heap) (hl : Sl Rep.clause h v l) (hn : l.length ≤ 1000) (hbn : ∀ c ∈ l, c.body.length ≤ 1000) (K : Value → Heap → Prop) (hk : ∀ w A h', Ext h h' → Ow Rep.clause h h' 46 A w l → K w h') : Ok Tryd.prog tab ov 8 [v] h K := by
  rw [lay_nil h]
  have z := Ext.refl h
  refine Ok.into rfl tab_fn8 (bodyF N8) rfl (m := 26) rfl ?_
  simp -implicitDefEqProofs only [syms, symx, seval, c8]
  obtain ⟨I1, hI1⟩ : ∃ I : Nat → Env → Heap → Prop, I = (fun n e h' => ∃ (i : Nat) (w : Value) (A : Nat) (h1 : Heap), h' = h1.lay [] h1.low ∧ Ext h h1 ∧ (n = l.length - i ∧ i ≤ l.length ∧ Ow Rep.clause h h1 46 A w (l.take i)) ∧ ∃ J : Nat → Value, e = (v :: jr J 1 2 (w :: .int .i64 i :: jr J 5 22 ([])))) := ⟨_, rfl⟩
  refine W_loopN I1 _ (by rw [hI1]; exact ⟨0, .slice none 0 0, h.size, _, rfl, z, ⟨rfl, by omega, Ow.nil (Nat.le_refl _)⟩, junk (by kernel_rfl)⟩) ?_
  intro n e h' hin
  rw [hI1] at hin
  obtain ⟨i, w, A, h1', rfl, z, hinv, J, rfl⟩ := hin
  obtain ⟨rfl, hi, ho⟩ := hinv
  have hw : IntKind.i64.wrap ((i : Int) + 1) = ((i + 1 : Nat) : Int) := by rw [wrap_i64 (by omega) (by omega)]; omega
  have hz := z.size
  simp -implicitDefEqProofs only [syms, symx, seval, c8]
  repeat' ((first | ((with_reducible  apply forkD ) <;> intro _) | with_reducible_and_instances refine ln_rule hl ds22 ?_) <;> simp -implicitDefEqProofs only [syms, symx, seval, c8])
  rotate_left
  · rw [List.take_of_length_le (by omega)] at ho
    exact hk _ _ _ (z.upW _ _ (by omega)) (ho.mono (Inc.lay _ _ _))
  obtain ⟨r, hr, hr'⟩ := amElem (l := l) (i := i) (by assumption)
  have hrb := hbn r (List.mem_of_getElem? hr')
  have hlt := ho.lt
  repeat' ((first | with_reducible_and_instances refine ixc_at (hl.mono z.inc) ds22 sz46 (by omega) hr (fun p bd hbd hp => ?_) | with_reducible_and_instances refine fdc0 hp fa46_0 (fun p hp => ?_) | with_reducible_and_instances refine fdc1 hp fa46_1 (fun q hq => ?_) | with_reducible_and_instances refine lda hp ag36 sz36 ?_ | with_reducible_and_instances refine ld_one hq ag23 ?_ | with_reducible refine drawN (by simp only [c8]) (z.upW _ _ (by omega)) ?_) <;> simp -implicitDefEqProofs only [syms, symx, seval, c8])
  refine ok_own _ _ _ (hbd.lay _ _) (by omega) _ (fun w2 A2 h' x o2 hA2 => ?_)
  (( ((with_reducible refine KOpsX_call ?_ ?_ ?_); (· exact (by (try simp only [lsz]); have := z.size; omega)); (·  exact x )) ); replace z := z.overW x (by (try simp only [lsz]); omega); (try replace ho := ho.over x); rw [lay_nil h'])
  obtain ⟨wa, wn, wc, rfl⟩ := o2.slice
  simp -implicitDefEqProofs only [syms, symx, seval, c8, bld_clause, fill_clause]
  refine KOpsX_alloc (by have := z.size; omega) (by omega) ?_
  simp -implicitDefEqProofs only [syms, symx, seval, c8, w_append, sty22]
  have hlen : (l.take i).length ≤ 1000 := by rw [List.length_take]; omega
  have hHs : (h'.lay [Blk.row (r.head.cells ++ [Value.slice wa wn wc]) 46 false] (h'.size + 1)).size = h'.size + 1 := by rw [lay_size]; rfl
  have hzz := z.size
  have hzx : h1'.size ≤ h'.size := by have := x.size; rw [lay_size] at this; simpa using this
  obtain ⟨A', hoA, hA'⟩ : ∃ A', Ow Rep.clause h (h'.lay [Blk.row (r.head.cells ++ [Value.slice wa wn wc]) 46 false] (h'.size + 1)) 46 A' w (l.take i) ∧ (A' < h1'.size ∨ h'.size + 1 ≤ A') := by
    rcases hlt with hlt | hlt
    · exact ⟨A, ho.mono (Inc.lay _ _ _), .inl hlt⟩
    · rw [hlt] at ho
      refine ⟨h'.size + 1, ?_, .inr (Nat.le_refl _)⟩
      rw [hlt]
      exact (ho.mono (Inc.lay _ _ _)).any _ (by omega)
  have hR : Rep.clause.R (kill A' (h'.lay [Blk.row (r.head.cells ++ [Value.slice wa wn wc]) 46 false] (h'.size + 1))) (r.head.cells ++ [Value.slice wa wn wc]) r :=
    ⟨_, rfl, (o2.mono (Inc.lay _ _ _)).under (by decide) (fun _ _ _ _ h => h) (by rw [lay_size, hHs]; simpa using hA')⟩
  obtain ⟨hs, hsr⟩ := src_row (r := Rep.clause) (c := 1) (by decide) (show (h'.lay [Blk.row (r.head.cells ++ [Value.slice wa wn wc]) 46 false] (h'.size + 1)).get (h'.size + 0) = some (.row (r.head.cells ++ [Value.slice wa wn wc]) 46 false) by rw [lay_get]; rfl) hR
  obtain ⟨w', h'', A'', e1, e2, e3, e4, e5⟩ := app_ow (t := 22) ds22 tab_info46 rfl (by decide) (by rw [hHs]; omega) hoA hs hsr (by omega) (by omega)
  have hfA := hoA.fresh
  rw [e1]
  simp -implicitDefEqProofs only [syms, symx, seval, c8]
  refine KOpsX_chg (A := A') (by kernel_rfl) (by rw [lay_size]; omega) (by omega) (by simpa only [lay_lay, lay_size, List.append_nil, List.length_cons, List.length_nil, Nat.zero_add] using e3) ?_
  replace z := (z.upW [Blk.row (r.head.cells ++ [Value.slice wa wn wc]) 46 false] (h'.size + 1) (by omega)).step e3 hfA
  have htk : l.take (i + 1) = l.take i ++ [r] := by rw [List.take_add_one, hr']; rfl
  rw [← htk] at e2
  clear ho o2 hoA
  rw [lay_nil h'']
  repeat' (first | simp -implicitDefEqProofs only [syms, symx, seval, c8] | ((with_reducible refine ⟨z.grw.lay _ _, ?_⟩); (intro _ h' zz x _); (try simp only [lay_lay, List.append_nil] at x); (try replace e2 := e2.over x); (replace z := zz); (clear zz); rw [lay_nil h']))
  rw [hw]
  (rw [hI1]; with_reducible refine loopN_normal (m := _) ?_ ⟨i + 1, _, _, _, rfl, z, ⟨rfl, by omega, e2⟩, junk (by kernel_rfl)⟩; omega)
end Go.Proofs.YtemapihoobmonaaDoor

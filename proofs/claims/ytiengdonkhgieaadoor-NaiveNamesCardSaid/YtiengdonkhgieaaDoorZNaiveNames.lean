/- The law NaiveNames returns true, the package's variables as the program's text lays them. No condition beyond the card's. -/
import Derived.Test.YtiengdonkhgieaaDoorGGlob
import Derived.Test.YtiengdonkhgieaaDoorZOv
import Derived.Test.YtiengdonkhgieaaDoorRows
import Derived.Test.YtiengdonkhgieaaDoorCards
import Derived.Test.YtiengdonkhgieaaDoorTie
import Derived.SevenTiedAt
import Derived.Lay
import Derived.LaidHandle
namespace Go.Proofs.YtiengdonkhgieaaDoor
open Go.ChangeShapes Go.WideShapes Go.ChangeAt Go.RowKit Go.Am
theorem Tryd.naiveNames_own : ownKnob Tryd.prog.godebug = none := by kernel_rfl
theorem naiveNames_run : fcall Tryd.prog tab ov 100000 200 (.func 3) [] (spaceHeap 1) (isTrueLow 2) = true := by kernel_rfl
theorem naiveNames_any (w : World) (ht : ∀ c, c < 256 → w.cell? ⟨1, c, none⟩ = some (.int .u8 (Lib.asciiSpaceTab.getD c 0))) : Calls Tryd.prog 3 #[] w fun e w' => e = .returned (.bool true) ∧ Below w.heap.size w w' :=
  space_true mixed tab_fits rfl ov_ok rfl naiveNames_run w ht
theorem naiveNames_tab {W : World} (hL : laidMetH Tryd.prog Rows.naiveNamesRow.laid W) : ∀ c, c < 256 → W.cell? ⟨1, c, none⟩ = some (.int .u8 (Lib.asciiSpaceTab.getD c 0)) :=
  space_of_laid hL (by kernel_rfl) (d := Rows.laid_strings_asciiSpace) (by simp [Rows.naiveNamesRow]) (by kernel_rfl) (by kernel_rfl) (by kernel_rfl) (t := 120) (by kernel_rfl) (e := 5) (by kernel_rfl) (by kernel_rfl) (by kernel_rfl)
noncomputable def naiveNames_world (os : Os) : World := World.laidAll Tryd.prog os Rows.naiveNamesRow.laid
theorem naiveNames_met (os : Os) (args : Array Value) : laidMetH Tryd.prog Rows.naiveNamesRow.laid ((naiveNames_world os).forCall (fun _ _ => 0) ⟨#[], args, []⟩).memory := by
  rw [MakeChecks.laidMetH_plain _ _ _ (by kernel_rfl)]
  exact laidMet_laidAll args (by kernel_rfl) (by kernel_rfl)
set_option maxRecDepth 100000 in
theorem naiveNames_lifted (os : Os) (started : os.Started) (H : Type) (enc : TypeId × Value → H) :
    ReturnsInHanded {} Tryd.checked os 3 .any (fun w args => (Rows.naiveNamesSpec.pre enc Tryd.prog Tryd.f3 Rows.naiveNamesRow.domain false w args ∧ laidMetH Tryd.prog Rows.naiveNamesRow.laid w) ∧ sizedMet enc Tryd.prog Tryd.f3 (OpenSpec.ofChange Rows.naiveNamesSpec) false w args)
      (Rows.naiveNamesSpec.post enc Tryd.prog Tryd.f3 Rows.naiveNamesRow.apart Rows.naiveNamesRow.fresh Rows.naiveNamesRow.handsOn Rows.naiveNamesRow.again) := by
  refine returnsInHanded_of_change_and (C := Tryd.checked) (X := fun w _ => laidMetH Tryd.prog Rows.naiveNamesRow.laid w) (fun _ _ _ hh h => h.of_heap hh) Tryd.naiveNames_own started (by kernel_rfl) Tryd.func3
    (witness_zip (enc := enc) (C := Tryd.checked) (os := os) (X := fun w _ => laidMetH Tryd.prog Rows.naiveNamesRow.laid w) (naiveNames_world os) #[] 8 (World.laidAll_os _ _ _) (by kernel_rfl) (by kernel_rfl) (by kernel_rfl) (by kernel_rfl) (by kernel_rfl) (naiveNames_met os _)) ?_
  intro W base args ds gs before hval0 hW hcnd _ hL _
  have hW' := hW
  obtain ⟨p, q, hA0, hV, rfl, hfz, hnd⟩ := hW
  have hA : DataW.TrodAll enc Tryd.prog W 0 (fun _ => true) true Tryd.f3.params.toList args.toList ds p := hA0
  rw [Tryd.params3] at hA
  obtain ⟨rfl, rfl, rfl⟩ := trodAll_none hA
  obtain ⟨rfl, rfl⟩ := trodVars_none hV
  refine (naiveNames_any W (naiveNames_tab hL)).mono fun e W' ⟨he, hb⟩ => ?_
  subst he
  exact ⟨_, rfl, endBelow (pa := []) (pv := []) hW' (fun _ _ _ => trodAll_mk1 (shut_bool Tryd.underlying4 true)) (fun sp _ => trodAll_mk0) (fun _ _ => rfl) rfl hb
    (ok_one (by kernel_rfl) rfl (okWide_bool_mk Tryd.underlying4 true))⟩
theorem naiveNames_row : Rows.NaiveNamesSaid :=
  OpenClaim.holds_of_wide 3 Tryd.f3 rfl rfl rfl rfl rfl rfl rfl ⟨rfl, rfl, rfl, rfl, rfl⟩ rfl rfl rfl rfl rfl (by kernel_rfl) Tryd.func3 (by kernel_rfl)
    (of_decide_eq_true (by kernel_rfl)) (by unfold Func.isWrapper; first | (rw [if_pos (by decide +kernel)]; kernel_rfl) | (rw [if_neg (by decide +kernel)]; exact ⟨rfl, rfl⟩))
    (fun os started H enc _ => naiveNames_lifted os started H enc)
theorem naiveNames_holds : Rows.NaiveNamesCardSaid :=
  Claim7.holds_tied_plain_at .later [] [.listed, .data] true (true, "ce1b6a7c100fac97e403c6adf062ea80fd656b02ffef44fbadd84cb0170969eb") false
    naiveNames_row (fun _ h => by cases h) (by kernel_rfl) (fun _ h => by cases h) naiveNames_row_tie rfl ⟨rfl, rfl⟩ (by kernel_rfl) rfl
    (fun f fn hf hfn => by
      obtain rfl : f = 3 := Option.some.inj ((show Tryd.prog.funcNamed "vouchsafe/vouchsafelaw16.NaiveNames" = some 3 by kernel_rfl).symm.trans hf) |>.symm
      obtain rfl : fn = Tryd.f3 := (Option.some.inj (Tryd.func3.symm.trans hfn)).symm
      exact ⟨by kernel_rfl, fun j t ht => by rw [Tryd.params3] at ht; simp at ht⟩)
    (by kernel_rfl)
#print axioms naiveNames_holds
end Go.Proofs.YtiengdonkhgieaaDoor

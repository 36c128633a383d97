/- The law ProjectNames returns true, the package's variables as the program's text lays them. No condition beyond the card's. -/
import Derived.Test.YtoaomnbekchpnaaGreatDoorGGlob
import Derived.Test.YtoaomnbekchpnaaGreatDoorZOv
import Derived.Test.YtoaomnbekchpnaaGreatDoorRows
import Derived.Test.YtoaomnbekchpnaaGreatDoorCards
import Derived.Test.YtoaomnbekchpnaaGreatDoorTie
import Derived.Test.YtoaomnbekchpnaaGreatDoorZRunProjectNames
import Derived.Test.YtoaomnbekchpnaaGreatDoorZJfProjectNames
import Derived.SevenTiedAt
import Derived.Lay
import Derived.LaidHandle
namespace Go.Proofs.YtoaomnbekchpnaaGreatDoor
open Go.ChangeShapes Go.WideShapes Go.ChangeAt Go.RowKit Go.Am
theorem Tryz.projectNames_own : ownKnob Tryz.prog.godebug = none := by kernel_rfl
theorem projectNames_any (w : World) (ht : ∀ c, c < 256 → w.cell? ⟨1, c, none⟩ = some (.int .u8 (Lib.asciiSpaceTab.getD c 0))) : Calls Tryz.prog 3 #[] w fun e w' => e = .returned (.bool true) ∧ Below w.heap.size w w' :=
  space_true mixed tab_fits rfl ov_ok rfl projectNames_run w ht
theorem projectNames_tab {W : World} (hL : laidMetH Tryz.prog Rows.projectNamesRow.laid W) : ∀ c, c < 256 → W.cell? ⟨1, c, none⟩ = some (.int .u8 (Lib.asciiSpaceTab.getD c 0)) :=
  space_of_laid hL (by kernel_rfl) (d := Rows.laid_strings_asciiSpace) (by simp [Rows.projectNamesRow]) (by kernel_rfl) (by kernel_rfl) (by kernel_rfl) (t := 384) (by kernel_rfl) (e := 5) (by kernel_rfl) (by kernel_rfl) (by kernel_rfl)
noncomputable def projectNames_world (os : Os) : World := World.laidAll Tryz.prog os Rows.projectNamesRow.laid
theorem projectNames_met (os : Os) (args : Array Value) : laidMetH Tryz.prog Rows.projectNamesRow.laid ((projectNames_world os).forCall (fun _ _ => 0) ⟨#[], args, []⟩).memory := by
  rw [MakeChecks.laidMetH_plain _ _ _ (by kernel_rfl)]
  exact laidMet_laidAll args (by kernel_rfl) (by kernel_rfl)
set_option maxRecDepth 100000 in
theorem projectNames_lifted (os : Os) (started : os.Started) (H : Type) (enc : TypeId × Value → H) :
    ReturnsInHanded {} Tryz.checked os 3 .any (fun w args => (Rows.projectNamesSpec.pre enc Tryz.prog Tryz.f3 Rows.projectNamesRow.domain false w args ∧ laidMetH Tryz.prog Rows.projectNamesRow.laid w) ∧ sizedMet enc Tryz.prog Tryz.f3 (OpenSpec.ofChange Rows.projectNamesSpec) false w args)
      (Rows.projectNamesSpec.post enc Tryz.prog Tryz.f3 Rows.projectNamesRow.apart Rows.projectNamesRow.fresh Rows.projectNamesRow.handsOn Rows.projectNamesRow.again) := by
  refine returnsInHanded_of_change_and (C := Tryz.checked) (X := fun w _ => laidMetH Tryz.prog Rows.projectNamesRow.laid w) (fun _ _ _ hh h => h.of_heap hh) Tryz.projectNames_own started (by kernel_rfl) Tryz.func3
    (witness_zip (enc := enc) (C := Tryz.checked) (os := os) (X := fun w _ => laidMetH Tryz.prog Rows.projectNamesRow.laid w) (projectNames_world os) #[] 8 (World.laidAll_os _ _ _) (by kernel_rfl) (by kernel_rfl) (by kernel_rfl) (by kernel_rfl) (by kernel_rfl) (projectNames_met os _)) ?_
  intro W base args ds gs before hval0 hW hcnd _ hL _
  have hW' := hW
  obtain ⟨p, q, hA0, hV, rfl, hfz, hnd⟩ := hW
  have hA : DataW.TrodAll enc Tryz.prog W 0 (fun _ => true) true Tryz.f3.params.toList args.toList ds p := hA0
  rw [Tryz.params3] at hA
  obtain ⟨rfl, rfl, rfl⟩ := trodAll_none hA
  obtain ⟨rfl, rfl⟩ := trodVars_none hV
  refine (projectNames_any W (projectNames_tab hL)).mono fun e W' ⟨he, hb⟩ => ?_
  subst he
  exact ⟨_, rfl, endBelow (pa := []) (pv := []) hW' (fun _ _ _ => trodAll_mk1 (shut_bool Tryz.underlying4 true)) (fun sp _ => trodAll_mk0) (fun _ _ => rfl) rfl hb
    (ok_one (by kernel_rfl) rfl (okWide_bool_mk Tryz.underlying4 true))⟩
theorem projectNames_row : Rows.ProjectNamesSaid :=
  OpenClaim.holds_of_wide 3 Tryz.f3 rfl rfl rfl rfl rfl rfl rfl ⟨rfl, rfl, rfl, rfl, rfl⟩ rfl rfl rfl rfl rfl (by kernel_rfl) Tryz.func3 projectNames_jf
    (of_decide_eq_true (by kernel_rfl)) (by unfold Func.isWrapper; first | (rw [if_pos (by decide +kernel)]; kernel_rfl) | (rw [if_neg (by decide +kernel)]; exact ⟨rfl, rfl⟩))
    (fun os started H enc _ => projectNames_lifted os started H enc)
theorem projectNames_holds : Rows.ProjectNamesCardSaid :=
  Claim7.holds_tied_plain_at .later [] [.listed, .data] true (true, "43e29b2173ed42ada5944f0238d2178a88d47311d993959768ecf7e5e26f6cc0") true
    projectNames_row (fun _ h => by cases h) (by kernel_rfl) (fun _ h => by cases h) projectNames_row_tie rfl ⟨rfl, rfl⟩ (by kernel_rfl) rfl
    (fun f fn hf hfn => by
      obtain rfl : f = 3 := Option.some.inj ((show Tryz.prog.funcNamed "vouchsafe/vouchsafelaw28.ProjectNames" = some 3 by kernel_rfl).symm.trans hf) |>.symm
      obtain rfl : fn = Tryz.f3 := (Option.some.inj (Tryz.func3.symm.trans hfn)).symm
      exact ⟨by kernel_rfl, fun j t ht => by rw [Tryz.params3] at ht; simp at ht⟩)
    (by kernel_rfl)
#print axioms projectNames_holds
end Go.Proofs.YtoaomnbekchpnaaGreatDoor

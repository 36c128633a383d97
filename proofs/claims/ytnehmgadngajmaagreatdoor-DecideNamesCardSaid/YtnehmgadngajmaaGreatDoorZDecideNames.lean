/- The law DecideNames returns true, the package's variables as the program's text lays them. No condition beyond the card's. -/
import Derived.Test.YtnehmgadngajmaaGreatDoorGGlob
import Derived.Test.YtnehmgadngajmaaGreatDoorZOv
import Derived.Test.YtnehmgadngajmaaGreatDoorRows
import Derived.Test.YtnehmgadngajmaaGreatDoorCards
import Derived.Test.YtnehmgadngajmaaGreatDoorTie
import Derived.Test.YtnehmgadngajmaaGreatDoorZRunDecideNames
import Derived.Test.YtnehmgadngajmaaGreatDoorZJfDecideNames
import Derived.SevenTiedAt
import Derived.Lay
import Derived.LaidHandle
namespace Go.Proofs.YtnehmgadngajmaaGreatDoor
open Go.ChangeShapes Go.WideShapes Go.ChangeAt Go.RowKit Go.Am
theorem Tryz.decideNames_own : ownKnob Tryz.prog.godebug = none := by kernel_rfl
theorem decideNames_any (w : World) (ht : ∀ c, c < 256 → w.cell? ⟨1, c, none⟩ = some (.int .u8 (Lib.asciiSpaceTab.getD c 0))) : Calls Tryz.prog 3 #[] w fun e w' => e = .returned (.bool true) ∧ Below w.heap.size w w' :=
  space_true mixed tab_fits rfl ov_ok rfl decideNames_run w ht
theorem decideNames_tab {W : World} (hL : laidMetH Tryz.prog Rows.decideNamesRow.laid W) : ∀ c, c < 256 → W.cell? ⟨1, c, none⟩ = some (.int .u8 (Lib.asciiSpaceTab.getD c 0)) :=
  space_of_laid hL (by kernel_rfl) (d := Rows.laid_strings_asciiSpace) (by simp [Rows.decideNamesRow]) (by kernel_rfl) (by kernel_rfl) (by kernel_rfl) (t := 292) (by kernel_rfl) (e := 5) (by kernel_rfl) (by kernel_rfl) (by kernel_rfl)
noncomputable def decideNames_world (os : Os) : World := World.laidAll Tryz.prog os Rows.decideNamesRow.laid
theorem decideNames_met (os : Os) (args : Array Value) : laidMetH Tryz.prog Rows.decideNamesRow.laid ((decideNames_world os).forCall (fun _ _ => 0) ⟨#[], args, []⟩).memory := by
  rw [MakeChecks.laidMetH_plain _ _ _ (by kernel_rfl)]
  exact laidMet_laidAll args (by kernel_rfl) (by kernel_rfl)
set_option maxRecDepth 100000 in
theorem decideNames_lifted (os : Os) (started : os.Started) (H : Type) (enc : TypeId × Value → H) :
    ReturnsInHanded {} Tryz.checked os 3 .any (fun w args => (Rows.decideNamesSpec.pre enc Tryz.prog Tryz.f3 Rows.decideNamesRow.domain false w args ∧ laidMetH Tryz.prog Rows.decideNamesRow.laid w) ∧ sizedMet enc Tryz.prog Tryz.f3 (OpenSpec.ofChange Rows.decideNamesSpec) false w args)
      (Rows.decideNamesSpec.post enc Tryz.prog Tryz.f3 Rows.decideNamesRow.apart Rows.decideNamesRow.fresh Rows.decideNamesRow.handsOn Rows.decideNamesRow.again) := by
  refine returnsInHanded_of_change_and (C := Tryz.checked) (X := fun w _ => laidMetH Tryz.prog Rows.decideNamesRow.laid w) (fun _ _ _ hh h => h.of_heap hh) Tryz.decideNames_own started (by kernel_rfl) Tryz.func3
    (witness_zip (enc := enc) (C := Tryz.checked) (os := os) (X := fun w _ => laidMetH Tryz.prog Rows.decideNamesRow.laid w) (decideNames_world os) #[] 8 (World.laidAll_os _ _ _) (by kernel_rfl) (by kernel_rfl) (by kernel_rfl) (by kernel_rfl) (by kernel_rfl) (decideNames_met os _)) ?_
  intro W base args ds gs before hval0 hW hcnd _ hL _
  have hW' := hW
  obtain ⟨p, q, hA0, hV, rfl, hfz, hnd⟩ := hW
  have hA : DataW.TrodAll enc Tryz.prog W 0 (fun _ => true) true Tryz.f3.params.toList args.toList ds p := hA0
  rw [Tryz.params3] at hA
  obtain ⟨rfl, rfl, rfl⟩ := trodAll_none hA
  obtain ⟨rfl, rfl⟩ := trodVars_none hV
  refine (decideNames_any W (decideNames_tab hL)).mono fun e W' ⟨he, hb⟩ => ?_
  subst he
  exact ⟨_, rfl, endBelow (pa := []) (pv := []) hW' (fun _ _ _ => trodAll_mk1 (shut_bool Tryz.underlying4 true)) (fun sp _ => trodAll_mk0) (fun _ _ => rfl) rfl hb
    (ok_one (by kernel_rfl) rfl (okWide_bool_mk Tryz.underlying4 true))⟩
theorem decideNames_row : Rows.DecideNamesSaid :=
  OpenClaim.holds_of_wide 3 Tryz.f3 rfl rfl rfl rfl rfl rfl rfl ⟨rfl, rfl, rfl, rfl, rfl⟩ rfl rfl rfl rfl rfl (by kernel_rfl) Tryz.func3 decideNames_jf
    (of_decide_eq_true (by kernel_rfl)) (by unfold Func.isWrapper; first | (rw [if_pos (by decide +kernel)]; kernel_rfl) | (rw [if_neg (by decide +kernel)]; exact ⟨rfl, rfl⟩))
    (fun os started H enc _ => decideNames_lifted os started H enc)
theorem decideNames_holds : Rows.DecideNamesCardSaid :=
  Claim7.holds_tied_plain_at .later [] [.data, .data, .data, .listed, .data] true (true, "e9af28a1da3bafb9ee38fc17f0c4aee99b34a609cff1b79c6bad54e4e52c407a") false
    decideNames_row (fun _ h => by cases h) (by kernel_rfl) (fun _ h => by cases h) decideNames_row_tie rfl ⟨rfl, rfl⟩ (by kernel_rfl) rfl
    (fun f fn hf hfn => by
      obtain rfl : f = 3 := Option.some.inj ((show Tryz.prog.funcNamed "vouchsafe/vouchsafelaw25.DecideNames" = some 3 by kernel_rfl).symm.trans hf) |>.symm
      obtain rfl : fn = Tryz.f3 := (Option.some.inj (Tryz.func3.symm.trans hfn)).symm
      exact ⟨by kernel_rfl, fun j t ht => by rw [Tryz.params3] at ht; simp at ht⟩)
    (by kernel_rfl)
#print axioms decideNames_holds
end Go.Proofs.YtnehmgadngajmaaGreatDoor

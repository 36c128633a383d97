/- The law ViewNames returns true, the package's variables as the program's text lays them. No condition beyond the card's. -/
import Derived.Test.YtoaomnbekchpnaaGreatDoorGGlob
import Derived.Test.YtoaomnbekchpnaaGreatDoorZOv
import Derived.Test.YtoaomnbekchpnaaGreatDoorRows
import Derived.Test.YtoaomnbekchpnaaGreatDoorCards
import Derived.Test.YtoaomnbekchpnaaGreatDoorTie
import Derived.Test.YtoaomnbekchpnaaGreatDoorZRunViewNames
import Derived.Test.YtoaomnbekchpnaaGreatDoorZJfViewNames
import Derived.SevenTiedAt
import Derived.Lay
import Derived.LaidHandle
namespace Go.Proofs.YtoaomnbekchpnaaGreatDoor
open Go.ChangeShapes Go.WideShapes Go.ChangeAt Go.RowKit Go.Am
theorem Tryz.viewNames_own : ownKnob Tryz.prog.godebug = none := by kernel_rfl
theorem viewNames_any (w : World) (ht : ∀ c, c < 256 → w.cell? ⟨1, c, none⟩ = some (.int .u8 (Lib.asciiSpaceTab.getD c 0))) : Calls Tryz.prog 7 #[] w fun e w' => e = .returned (.bool true) ∧ Below w.heap.size w w' :=
  space_true mixed tab_fits rfl ov_ok rfl viewNames_run w ht
theorem viewNames_tab {W : World} (hL : laidMetH Tryz.prog Rows.viewNamesRow.laid W) : ∀ c, c < 256 → W.cell? ⟨1, c, none⟩ = some (.int .u8 (Lib.asciiSpaceTab.getD c 0)) :=
  space_of_laid hL (by kernel_rfl) (d := Rows.laid_strings_asciiSpace) (by simp [Rows.viewNamesRow]) (by kernel_rfl) (by kernel_rfl) (by kernel_rfl) (t := 384) (by kernel_rfl) (e := 5) (by kernel_rfl) (by kernel_rfl) (by kernel_rfl)
noncomputable def viewNames_world (os : Os) : World := World.laidAll Tryz.prog os Rows.viewNamesRow.laid
theorem viewNames_met (os : Os) (args : Array Value) : laidMetH Tryz.prog Rows.viewNamesRow.laid ((viewNames_world os).forCall (fun _ _ => 0) ⟨#[], args, []⟩).memory := by
  rw [MakeChecks.laidMetH_plain _ _ _ (by kernel_rfl)]
  exact laidMet_laidAll args (by kernel_rfl) (by kernel_rfl)
set_option maxRecDepth 100000 in
theorem viewNames_lifted (os : Os) (started : os.Started) (H : Type) (enc : TypeId × Value → H) :
    ReturnsInHanded {} Tryz.checked os 7 .any (fun w args => (Rows.viewNamesSpec.pre enc Tryz.prog Tryz.f7 Rows.viewNamesRow.domain false w args ∧ laidMetH Tryz.prog Rows.viewNamesRow.laid w) ∧ sizedMet enc Tryz.prog Tryz.f7 (OpenSpec.ofChange Rows.viewNamesSpec) false w args)
      (Rows.viewNamesSpec.post enc Tryz.prog Tryz.f7 Rows.viewNamesRow.apart Rows.viewNamesRow.fresh Rows.viewNamesRow.handsOn Rows.viewNamesRow.again) := by
  refine returnsInHanded_of_change_and (C := Tryz.checked) (X := fun w _ => laidMetH Tryz.prog Rows.viewNamesRow.laid w) (fun _ _ _ hh h => h.of_heap hh) Tryz.viewNames_own started (by kernel_rfl) Tryz.func7
    (witness_zip (enc := enc) (C := Tryz.checked) (os := os) (X := fun w _ => laidMetH Tryz.prog Rows.viewNamesRow.laid w) (viewNames_world os) #[] 8 (World.laidAll_os _ _ _) (by kernel_rfl) (by kernel_rfl) (by kernel_rfl) (by kernel_rfl) (by kernel_rfl) (viewNames_met os _)) ?_
  intro W base args ds gs before hval0 hW hcnd _ hL _
  have hW' := hW
  obtain ⟨p, q, hA0, hV, rfl, hfz, hnd⟩ := hW
  have hA : DataW.TrodAll enc Tryz.prog W 0 (fun _ => true) true Tryz.f7.params.toList args.toList ds p := hA0
  rw [Tryz.params7] at hA
  obtain ⟨rfl, rfl, rfl⟩ := trodAll_none hA
  obtain ⟨rfl, rfl⟩ := trodVars_none hV
  refine (viewNames_any W (viewNames_tab hL)).mono fun e W' ⟨he, hb⟩ => ?_
  subst he
  exact ⟨_, rfl, endBelow (pa := []) (pv := []) hW' (fun _ _ _ => trodAll_mk1 (shut_bool Tryz.underlying4 true)) (fun sp _ => trodAll_mk0) (fun _ _ => rfl) rfl hb
    (ok_one (by kernel_rfl) rfl (okWide_bool_mk Tryz.underlying4 true))⟩
theorem viewNames_row : Rows.ViewNamesSaid :=
  OpenClaim.holds_of_wide 7 Tryz.f7 rfl rfl rfl rfl rfl rfl rfl ⟨rfl, rfl, rfl, rfl, rfl⟩ rfl rfl rfl rfl rfl (by kernel_rfl) Tryz.func7 viewNames_jf
    (of_decide_eq_true (by kernel_rfl)) (by unfold Func.isWrapper; first | (rw [if_pos (by decide +kernel)]; kernel_rfl) | (rw [if_neg (by decide +kernel)]; exact ⟨rfl, rfl⟩))
    (fun os started H enc _ => viewNames_lifted os started H enc)
theorem viewNames_holds : Rows.ViewNamesCardSaid :=
  Claim7.holds_tied_plain_at .later [] [.listed, .data] true (true, "43e29b2173ed42ada5944f0238d2178a88d47311d993959768ecf7e5e26f6cc0") true
    viewNames_row (fun _ h => by cases h) (by kernel_rfl) (fun _ h => by cases h) viewNames_row_tie rfl ⟨rfl, rfl⟩ (by kernel_rfl) rfl
    (fun f fn hf hfn => by
      obtain rfl : f = 7 := Option.some.inj ((show Tryz.prog.funcNamed "vouchsafe/vouchsafelaw15.ViewNames" = some 7 by kernel_rfl).symm.trans hf) |>.symm
      obtain rfl : fn = Tryz.f7 := (Option.some.inj (Tryz.func7.symm.trans hfn)).symm
      exact ⟨by kernel_rfl, fun j t ht => by rw [Tryz.params7] at ht; simp at ht⟩)
    (by kernel_rfl)
#print axioms viewNames_holds
end Go.Proofs.YtoaomnbekchpnaaGreatDoor

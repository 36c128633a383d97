/- The law ProofNames returns true. No condition. -/
import Derived.Test.YtiengdonkhgieaaGEnd
import Derived.Test.YtiengdonkhgieaaZOv
import Derived.Test.YtiengdonkhgieaaRows
namespace Go.Proofs.Ytiengdonkhgieaa
open Go.ChangeShapes Go.WideShapes Go.ChangeAt Go.RowKit Go.Am
theorem Try.proofNames_own : ownKnob Try.prog.godebug = none := by kernel_rfl
theorem proofNames_run : fcall Try.prog tab ov 100000 200 (.func 3) [] .empty isTrue = true := by kernel_rfl
theorem proofNames_any (w : World) : Calls Try.prog 3 #[] w fun e w' => e = .returned (.bool true) ∧ Below w.heap.size w w' := closed_true mixed tab_fits ov_ok rfl proofNames_run w
set_option maxRecDepth 100000 in
theorem proofNames_lifted (os : Os) (started : os.Started) (H : Type) (enc : TypeId × Value → H) :
    ReturnsInHanded {} Try.checked os 3 .any (Rows.proofNamesSpec.pre6 enc Try.prog Try.f3 Rows.proofNamesRow.domain false) (Rows.proofNamesSpec.post enc Try.prog Try.f3 Rows.proofNamesRow.apart Rows.proofNamesRow.fresh Rows.proofNamesRow.handsOn Rows.proofNamesRow.again) := by
  refine returnsInHanded_of_change (C := Try.checked) Try.proofNames_own started (by kernel_rfl) Try.func3
    (ChangeSpec.witness6 (enc := enc) (C := Try.checked) false ⟨#[], #[], []⟩ 8 (by kernel_rfl) (by kernel_rfl) (by kernel_rfl) (by kernel_rfl)) ?_
  intro W base args ds gs before hval0 hW hcnd _
  have hW' := hW
  obtain ⟨p, q, hA0, hV, rfl, hfz, hnd⟩ := hW
  have hA : DataW.TrodAll enc Try.prog W 0 (fun _ => true) true Try.f3.params.toList args.toList ds p := hA0
  rw [Try.params3] at hA
  obtain ⟨rfl, rfl, rfl⟩ := trodAll_none hA
  obtain ⟨rfl, rfl⟩ := trodVars_none hV
  refine (proofNames_any W).mono fun e W' ⟨he, hb⟩ => ?_
  subst he
  exact ⟨_, rfl, endBelow (pa := []) (pv := []) hW' (fun _ _ _ => trodAll_mk1 (shut_bool Try.underlying4 true)) (fun sp _ => trodAll_mk0) (fun _ _ => rfl) rfl hb
    (ok_one (by kernel_rfl) rfl (okWide_bool_mk Try.underlying4 true))⟩
theorem proofNames_holds : Rows.ProofNamesSaid :=
  OpenClaim.holds_of_wide 3 Try.f3 rfl rfl rfl rfl rfl rfl rfl ⟨rfl, rfl, rfl, rfl, rfl⟩ rfl rfl rfl rfl rfl (by kernel_rfl) Try.func3 (by kernel_rfl)
    (of_decide_eq_true (by kernel_rfl)) (by unfold Func.isWrapper; first | (rw [if_pos (by decide +kernel)]; kernel_rfl) | (rw [if_neg (by decide +kernel)]; exact ⟨rfl, rfl⟩))
    (fun os started H enc _ => proofNames_lifted os started H enc)
#print axioms proofNames_holds
end Go.Proofs.Ytiengdonkhgieaa

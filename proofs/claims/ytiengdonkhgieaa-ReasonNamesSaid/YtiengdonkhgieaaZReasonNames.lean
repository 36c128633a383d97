/- The law ReasonNames returns true. No condition. -/
import Derived.Test.YtiengdonkhgieaaGEnd
import Derived.Test.YtiengdonkhgieaaZOv
import Derived.Test.YtiengdonkhgieaaRows
namespace Go.Proofs.Ytiengdonkhgieaa
open Go.ChangeShapes Go.WideShapes Go.ChangeAt Go.RowKit Go.Am
theorem Try.reasonNames_own : ownKnob Try.prog.godebug = none := by kernel_rfl
theorem reasonNames_run : fcall Try.prog tab ov 100000 200 (.func 4) [] .empty isTrue = true := by kernel_rfl
theorem reasonNames_any (w : World) : Calls Try.prog 4 #[] w fun e w' => e = .returned (.bool true) ∧ Below w.heap.size w w' := closed_true mixed tab_fits ov_ok rfl reasonNames_run w
set_option maxRecDepth 100000 in
theorem reasonNames_lifted (os : Os) (started : os.Started) (H : Type) (enc : TypeId × Value → H) :
    ReturnsInHanded {} Try.checked os 4 .any (Rows.reasonNamesSpec.pre6 enc Try.prog Try.f4 Rows.reasonNamesRow.domain false) (Rows.reasonNamesSpec.post enc Try.prog Try.f4 Rows.reasonNamesRow.apart Rows.reasonNamesRow.fresh Rows.reasonNamesRow.handsOn Rows.reasonNamesRow.again) := by
  refine returnsInHanded_of_change (C := Try.checked) Try.reasonNames_own started (by kernel_rfl) Try.func4
    (ChangeSpec.witness6 (enc := enc) (C := Try.checked) false ⟨#[], #[], []⟩ 8 (by kernel_rfl) (by kernel_rfl) (by kernel_rfl) (by kernel_rfl)) ?_
  intro W base args ds gs before hval0 hW hcnd _
  have hW' := hW
  obtain ⟨p, q, hA0, hV, rfl, hfz, hnd⟩ := hW
  have hA : DataW.TrodAll enc Try.prog W 0 (fun _ => true) true Try.f4.params.toList args.toList ds p := hA0
  rw [Try.params4] at hA
  obtain ⟨rfl, rfl, rfl⟩ := trodAll_none hA
  obtain ⟨rfl, rfl⟩ := trodVars_none hV
  refine (reasonNames_any W).mono fun e W' ⟨he, hb⟩ => ?_
  subst he
  exact ⟨_, rfl, endBelow (pa := []) (pv := []) hW' (fun _ _ _ => trodAll_mk1 (shut_bool Try.underlying4 true)) (fun sp _ => trodAll_mk0) (fun _ _ => rfl) rfl hb
    (ok_one (by kernel_rfl) rfl (okWide_bool_mk Try.underlying4 true))⟩
theorem reasonNames_holds : Rows.ReasonNamesSaid :=
  OpenClaim.holds_of_wide 4 Try.f4 rfl rfl rfl rfl rfl rfl rfl ⟨rfl, rfl, rfl, rfl, rfl⟩ rfl rfl rfl rfl rfl (by kernel_rfl) Try.func4 (by kernel_rfl)
    (of_decide_eq_true (by kernel_rfl)) (by unfold Func.isWrapper; first | (rw [if_pos (by decide +kernel)]; kernel_rfl) | (rw [if_neg (by decide +kernel)]; exact ⟨rfl, rfl⟩))
    (fun os started H enc _ => reasonNames_lifted os started H enc)
#print axioms reasonNames_holds
end Go.Proofs.Ytiengdonkhgieaa

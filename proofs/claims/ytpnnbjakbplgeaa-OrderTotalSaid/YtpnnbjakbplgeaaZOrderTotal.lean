/- The law OrderTotal returns true, whatever the three atoms. No condition. -/
import Derived.Test.YtpnnbjakbplgeaaZX1
import Derived.Test.YtpnnbjakbplgeaaRows
namespace Go.Proofs.Ytpnnbjakbplgeaa
open Go.ChangeShapes Go.WideShapes Go.ChangeAt Go.RowKit Go.Am
theorem orderTotal_own : ownKnob Try.prog.godebug = none := by kernel_rfl
theorem orderTotal_laidOut : laidOutB Try.prog = true := by kernel_rfl
theorem orderTotal_ok (h : Heap) (args : List Value) (_ : h.low = h.size) (hs : ArgsShp Try.prog h 8 Try.f3.params.toList args) : Ok Try.prog tab ov 3 args h fun v h' => v = .bool true ∧ Ext h h' := by
  have hp : Try.f3.params.toList = [26, 26, 26] := by rw [Try.params3]
  rw [hp] at hs
  match args, hs with
  | [x, y, z], ⟨h1, h2, h3, _⟩ =>
    obtain ⟨a, rfl⟩ := arg_atom h1
    obtain ⟨b, rfl⟩ := arg_atom h2
    obtain ⟨c, rfl⟩ := arg_atom h3
    exact (ok_law a b c h).mono fun v h' g => ⟨g.v, g.x⟩
set_option maxRecDepth 100000 in
theorem orderTotal_lifted (os : Os) (started : os.Started) (H : Type) (enc : TypeId × Value → H) :
    ReturnsInHanded {} Try.checked os 3 .any (Rows.orderTotalSpec.pre6 enc Try.prog Try.f3 Rows.orderTotalRow.domain false) (Rows.orderTotalSpec.post enc Try.prog Try.f3 Rows.orderTotalRow.apart Rows.orderTotalRow.fresh Rows.orderTotalRow.handsOn Rows.orderTotalRow.again) := by
  refine returnsInHanded_of_change_shaped (C := Try.checked) orderTotal_own started (by kernel_rfl) Try.func3
    (ChangeSpec.witness6 (enc := enc) (C := Try.checked) false ⟨#[], #[(⟨⟨#[]⟩, ⟨#[]⟩, 0, false, ⟨#[]⟩, false, ⟨#[]⟩, false, ⟨#[]⟩, false, ⟨#[]⟩⟩ : AtomD).val, (⟨⟨#[]⟩, ⟨#[]⟩, 0, false, ⟨#[]⟩, false, ⟨#[]⟩, false, ⟨#[]⟩, false, ⟨#[]⟩⟩ : AtomD).val, (⟨⟨#[]⟩, ⟨#[]⟩, 0, false, ⟨#[]⟩, false, ⟨#[]⟩, false, ⟨#[]⟩, false, ⟨#[]⟩⟩ : AtomD).val], []⟩ 8 (by kernel_rfl) (by kernel_rfl) (by kernel_rfl) (by kernel_rfl)) ?_
  intro W base args ds gs before hval hW _ _ hsh _
  exact law_contract (n := 8) (boolT := 4) mixed tab_fits rfl ov_ok rfl (of_decide_eq_true (by kernel_rfl)) orderTotal_laidOut rfl (by kernel_rfl) (by kernel_rfl) Try.underlying4 (by kernel_rfl) (by kernel_rfl)
    (fun ds hd => by
      have hp : Try.f3.params.size = 3 := by kernel_rfl
      rw [hp] at hd
      match ds, hd with
      | [_, _, _], _ => rfl)
    orderTotal_ok hval hW hsh
theorem orderTotal_holds : Rows.OrderTotalSaid :=
  OpenClaim.holds_of_wide 3 Try.f3 rfl rfl rfl rfl rfl rfl rfl ⟨rfl, rfl, rfl, rfl, rfl⟩ rfl rfl rfl rfl rfl (by kernel_rfl) Try.func3 (by kernel_rfl)
    (of_decide_eq_true (by kernel_rfl)) (by unfold Func.isWrapper; first | (rw [if_pos (by decide +kernel)]; kernel_rfl) | (rw [if_neg (by decide +kernel)]; exact ⟨rfl, rfl⟩))
    (fun os started H enc _ => orderTotal_lifted os started H enc)
#print axioms orderTotal_holds
end Go.Proofs.Ytpnnbjakbplgeaa

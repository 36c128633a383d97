/- The library's functions with a contract of the kit's, at this seat; the chapter's example. No condition. -/
import Derived.Test.YtpnnbjakbplgeaaGOv
import Derived.Test.YtpnnbjakbplgeaaGEnd
import Derived.Test.YtpnnbjakbplgeaaZAmTab
import Derived.Test.YtpnnbjakbplgeaaZShelf
namespace Go.Proofs.Ytpnnbjakbplgeaa
open Go.RowKit Go.Am
def ov0 : Ov := fun f => match f with
  | 53 => some joinA
  | 34 => some compareA
  | _ => none
theorem ov0_ok : OvS Try.prog tab.gs ov0 := by
  intro f g hg
  unfold ov0 at hg
  split at hg
  · cases hg
    exact ov1_join (run_enter tab_fits tab_fn53 rfl) Try.strings_Join_none Try.strings_Join
  · cases hg
    exact ov1_compare (run_enter tab_fits tab_fn34 rfl) Try.strings_Compare
  · cases hg
theorem lives_run : fcall Try.prog tab ov0 100000 200 (.func 8) [] .empty isTrue = true := by kernel_rfl
theorem lives_any (w : World) : Calls Try.prog 8 #[] w fun e w' => e = .returned (.bool true) ∧ Below w.heap.size w w' := closed_true mixed tab_fits rfl ov0_ok rfl lives_run w
def ov : Ov := fun f => match f with
  | 53 => some joinA
  | 34 => some compareA
  | 8 => some trueA
  | _ => none
theorem ov_ok : OvS Try.prog tab.gs ov := by
  intro f g hg
  unfold ov at hg
  split at hg
  · cases hg
    exact ov1_join (run_enter tab_fits tab_fn53 rfl) Try.strings_Join_none Try.strings_Join
  · cases hg
    exact ov1_compare (run_enter tab_fits tab_fn34 rfl) Try.strings_Compare
  · cases hg
    exact ov1_true (run_enter tab_fits tab_fn8 rfl) lives_any
  · cases hg
#print axioms ov_ok
end Go.Proofs.Ytpnnbjakbplgeaa

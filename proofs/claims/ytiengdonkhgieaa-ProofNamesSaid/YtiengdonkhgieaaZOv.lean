/- The library's functions with a contract of the kit's, at this seat. No condition. -/
import Derived.Test.YtiengdonkhgieaaGOv
import Derived.Test.YtiengdonkhgieaaZAmTab
import Derived.Test.YtiengdonkhgieaaZShelf
namespace Go.Proofs.Ytiengdonkhgieaa
open Go.Am
def ov : Ov := fun f => match f with
  | 91 => some joinA
  | 76 => some compareA
  | _ => none
theorem ov_ok : OvS Try.prog ov := by
  intro f g hg
  unfold ov at hg
  split at hg
  · cases hg
    exact ov1_join (run_enter tab_fits tab_fn91 rfl) Try.strings_Join_none Try.strings_Join
  · cases hg
    exact ov1_compare (run_enter tab_fits tab_fn76 rfl) Try.strings_Compare
  · cases hg
#print axioms ov_ok
end Go.Proofs.Ytiengdonkhgieaa

/- The library's functions with a contract of the kit's, at this seat. No condition. -/
import Derived.Test.YtnehmgadngajmaaGreatDoorGGlob
import Derived.Test.YtnehmgadngajmaaGreatDoorZAmTab
import Derived.Test.YtnehmgadngajmaaGreatDoorZShelf
namespace Go.Proofs.YtnehmgadngajmaaGreatDoor
open Go.Am
def ov : Ov := fun f => match f with
  | 180 => some joinA
  | 124 => some compareA
  | 226 => some (fieldsA 1 9)
  | _ => none
theorem ov_ok : OvS Tryz.prog tab.gs ov := by
  intro f g hg
  unfold ov at hg
  split at hg
  · cases hg
    exact ov1_join (run_enter tab_fits tab_fn180 rfl) Tryz.strings_Join_none Tryz.strings_Join
  · cases hg
    exact ov1_compare (run_enter tab_fits tab_fn124 rfl) Tryz.strings_Compare
  · cases hg
    exact ov1_fields (g := 1) (by decide) (run_enter tab_fits tab_fn226 rfl) (fun s w hs ha hc => Any.strings_Fields_core Tryz.lays157 (by kernel_rfl) s w hs ha hc)
  · cases hg
#print axioms ov_ok
end Go.Proofs.YtnehmgadngajmaaGreatDoor

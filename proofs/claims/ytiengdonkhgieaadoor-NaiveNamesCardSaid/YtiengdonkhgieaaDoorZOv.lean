/- The library's functions with a contract of the kit's, at this seat. No condition. -/
import Derived.Test.YtiengdonkhgieaaDoorGGlob
import Derived.Test.YtiengdonkhgieaaDoorZAmTab
import Derived.Test.YtiengdonkhgieaaDoorZShelf
namespace Go.Proofs.YtiengdonkhgieaaDoor
open Go.Am
def ov : Ov := fun f => match f with
  | 76 => some joinA
  | 55 => some compareA
  | 90 => some (fieldsA 1 9)
  | _ => none
theorem ov_ok : OvS Tryd.prog tab.gs ov := by
  intro f g hg
  unfold ov at hg
  split at hg
  · cases hg
    exact ov1_join (run_enter tab_fits tab_fn76 rfl) Tryd.strings_Join_none Tryd.strings_Join
  · cases hg
    exact ov1_compare (run_enter tab_fits tab_fn55 rfl) Tryd.strings_Compare
  · cases hg
    exact ov1_fields (g := 1) (by decide) (run_enter tab_fits tab_fn90 rfl) (fun s w hs ha hc => Any.strings_Fields_core Tryd.lays157 (by kernel_rfl) s w hs ha hc)
  · cases hg
#print axioms ov_ok
end Go.Proofs.YtiengdonkhgieaaDoor

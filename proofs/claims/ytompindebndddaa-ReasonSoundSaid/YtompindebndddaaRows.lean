/-
  No cell of these rows narrows 'for every input' (looked for: loops, veiled, ifaces, maps, wideKeys, modest, calm, conditions, laid).
  DERIVED. THE GIVEN ROWS OF THIS SEAT. 10 by the template 'for every input the law returns true; each argument reads behind the call as it read before'; 0 by the template 'total and deterministic' (their statements: YtompindebndddaaTotals.lean).
  GIVEN WITH THE SEED: the statements are not yours to turn. If you find one false, say at which input.
  Laid BY PROGRAM, IN A SANDBOX (cutbox-rows.mjs): the forced cells as the released guide's own fill.sh prints them over the translation 85dfcaa32afeffed… (all of the seat's roots in one cut). By AI agents, Wed Nov 11 2026. No macro, syntax, notation, axiom, sorry.
-/
import Derived.Test.YtompindebndddaaChecked
import GoSem.Claim
import GoSem.ClaimJoined
import GoSem.ClaimMapViews
import Derived.JoinedTies
import Derived.KernelRfl
namespace Go.Proofs.Ytompindebndddaa
/- THE CELL 'sum', in the pinned program and in every row, IS THE sha256 OF THE DUMP (.gsa) THAT YtompindebndddaaProg.lean LOADS. Nothing in Lean hashes anything: it is a label: what it is worth is what the hold of that sum in a sandbox is worth. -/
noncomputable def Try.pinned : Pinned := { name := "ytompindebndddaa", sum := "85dfcaa32afeffedabeac448d81aae31f37389d88d1189ab49ead9863602fdac", checked := Try.checked }
namespace Rows
def none {H : Type} : Left H := { results := [], args := [] }

/-- 'vouchsafelaw20.ReasonSound': WHATEVER THE INPUT: true; the input reads as it did. -/
def reasonSoundSpec : ChangeSpec := { name := "reasonSound", fn := fun _ => fun
  | [d1, d2, d3] => { results := [.lit (.bool true)], args := [d1, d2, d3] }
  | _ => none }
def reasonSoundRow : OpenClaim := { program := "ytompindebndddaa", sum := "85dfcaa32afeffedabeac448d81aae31f37389d88d1189ab49ead9863602fdac", func := "vouchsafe/vouchsafelaw20.ReasonSound", spec := "reasonSound", unfollowed := true, recurses := true, plainKeys := false, apart := false }
def ReasonSoundSaid : Prop := reasonSoundRow.holds Try.pinned (OpenSpec.ofChange reasonSoundSpec)

/-- ITS FALSE NEIGHBOUR: 'it returns false'. Refute it at one input. -/
def reasonSoundWrong : ChangeSpec := { name := "reasonSound", fn := fun _ => fun
  | [d1, d2, d3] => { results := [.lit (.bool false)], args := [d1, d2, d3] }
  | _ => none }
def ReasonSoundWrongFalsely : Prop := reasonSoundRow.holds Try.pinned (OpenSpec.ofChange reasonSoundWrong)

/-- 'vouchsafelaw20.ReasonFronts': WHATEVER THE INPUT: true; the input reads as it did. -/
def reasonFrontsSpec : ChangeSpec := { name := "reasonFronts", fn := fun _ => fun
  | [d1, d2, d3, d4, d5, d6] => { results := [.lit (.bool true)], args := [d1, d2, d3, d4, d5, d6] }
  | _ => none }
def reasonFrontsRow : OpenClaim := { program := "ytompindebndddaa", sum := "85dfcaa32afeffedabeac448d81aae31f37389d88d1189ab49ead9863602fdac", func := "vouchsafe/vouchsafelaw20.ReasonFronts", spec := "reasonFronts", unfollowed := true, recurses := true, plainKeys := false, apart := false }
def ReasonFrontsSaid : Prop := reasonFrontsRow.holds Try.pinned (OpenSpec.ofChange reasonFrontsSpec)

/-- ITS FALSE NEIGHBOUR: 'it returns false'. Refute it at one input. -/
def reasonFrontsWrong : ChangeSpec := { name := "reasonFronts", fn := fun _ => fun
  | [d1, d2, d3, d4, d5, d6] => { results := [.lit (.bool false)], args := [d1, d2, d3, d4, d5, d6] }
  | _ => none }
def ReasonFrontsWrongFalsely : Prop := reasonFrontsRow.holds Try.pinned (OpenSpec.ofChange reasonFrontsWrong)

/-- 'vouchsafelaw08.OrderMerges': WHATEVER THE INPUT: true; the input reads as it did. -/
def orderMergesSpec : ChangeSpec := { name := "orderMerges", fn := fun _ => fun
  | [d1, d2, d3] => { results := [.lit (.bool true)], args := [d1, d2, d3] }
  | _ => none }
def orderMergesRow : OpenClaim := { program := "ytompindebndddaa", sum := "85dfcaa32afeffedabeac448d81aae31f37389d88d1189ab49ead9863602fdac", func := "vouchsafe/vouchsafelaw08.OrderMerges", spec := "orderMerges", inPlace := ["internal/abi.NoEscape", "internal/bytealg.MakeNoZero", "internal/bytealg.abigen_runtime_cmpstring"], unfollowed := true, recurses := true, plainKeys := false, apart := false }
def OrderMergesSaid : Prop := orderMergesRow.holds Try.pinned (OpenSpec.ofChange orderMergesSpec)

/-- ITS FALSE NEIGHBOUR: 'it returns false'. Refute it at one input. -/
def orderMergesWrong : ChangeSpec := { name := "orderMerges", fn := fun _ => fun
  | [d1, d2, d3] => { results := [.lit (.bool false)], args := [d1, d2, d3] }
  | _ => none }
def OrderMergesWrongFalsely : Prop := orderMergesRow.holds Try.pinned (OpenSpec.ofChange orderMergesWrong)

/-- 'vouchsafelaw15.ViewMembers': WHATEVER THE INPUT: true; the input reads as it did. -/
def viewMembersSpec : ChangeSpec := { name := "viewMembers", fn := fun _ => fun
  | [d1, d2, d3] => { results := [.lit (.bool true)], args := [d1, d2, d3] }
  | _ => none }
def viewMembersRow : OpenClaim := { program := "ytompindebndddaa", sum := "85dfcaa32afeffedabeac448d81aae31f37389d88d1189ab49ead9863602fdac", func := "vouchsafe/vouchsafelaw15.ViewMembers", spec := "viewMembers", unfollowed := true, recurses := true, plainKeys := false, apart := false }
def ViewMembersSaid : Prop := viewMembersRow.holds Try.pinned (OpenSpec.ofChange viewMembersSpec)

/-- ITS FALSE NEIGHBOUR: 'it returns false'. Refute it at one input. -/
def viewMembersWrong : ChangeSpec := { name := "viewMembers", fn := fun _ => fun
  | [d1, d2, d3] => { results := [.lit (.bool false)], args := [d1, d2, d3] }
  | _ => none }
def ViewMembersWrongFalsely : Prop := viewMembersRow.holds Try.pinned (OpenSpec.ofChange viewMembersWrong)

/-- 'vouchsafelaw08.OrderSorts': WHATEVER THE INPUT: true; the input reads as it did. -/
def orderSortsSpec : ChangeSpec := { name := "orderSorts", fn := fun _ => fun
  | [d1, d2] => { results := [.lit (.bool true)], args := [d1, d2] }
  | _ => none }
def orderSortsRow : OpenClaim := { program := "ytompindebndddaa", sum := "85dfcaa32afeffedabeac448d81aae31f37389d88d1189ab49ead9863602fdac", func := "vouchsafe/vouchsafelaw08.OrderSorts", spec := "orderSorts", inPlace := ["internal/abi.NoEscape", "internal/bytealg.MakeNoZero", "internal/bytealg.abigen_runtime_cmpstring", "slices.overlaps[vouchsafe/api.Atom]"], unfollowed := true, recurses := true, plainKeys := false, apart := false }
def OrderSortsSaid : Prop := orderSortsRow.holds Try.pinned (OpenSpec.ofChange orderSortsSpec)

/-- ITS FALSE NEIGHBOUR: 'it returns false'. Refute it at one input. -/
def orderSortsWrong : ChangeSpec := { name := "orderSorts", fn := fun _ => fun
  | [d1, d2] => { results := [.lit (.bool false)], args := [d1, d2] }
  | _ => none }
def OrderSortsWrongFalsely : Prop := orderSortsRow.holds Try.pinned (OpenSpec.ofChange orderSortsWrong)

/-- 'vouchsafelaw20.ReasonNeeds': WHATEVER THE INPUT: true; the input reads as it did. -/
def reasonNeedsSpec : ChangeSpec := { name := "reasonNeeds", fn := fun _ => fun
  | [d1, d2] => { results := [.lit (.bool true)], args := [d1, d2] }
  | _ => none }
def reasonNeedsRow : OpenClaim := { program := "ytompindebndddaa", sum := "85dfcaa32afeffedabeac448d81aae31f37389d88d1189ab49ead9863602fdac", func := "vouchsafe/vouchsafelaw20.ReasonNeeds", spec := "reasonNeeds", inPlace := ["internal/abi.NoEscape", "internal/bytealg.MakeNoZero", "internal/bytealg.abigen_runtime_cmpstring", "slices.overlaps[vouchsafe/api.Atom]"], unfollowed := true, recurses := true, plainKeys := false, apart := false }
def ReasonNeedsSaid : Prop := reasonNeedsRow.holds Try.pinned (OpenSpec.ofChange reasonNeedsSpec)

/-- ITS FALSE NEIGHBOUR: 'it returns false'. Refute it at one input. -/
def reasonNeedsWrong : ChangeSpec := { name := "reasonNeeds", fn := fun _ => fun
  | [d1, d2] => { results := [.lit (.bool false)], args := [d1, d2] }
  | _ => none }
def ReasonNeedsWrongFalsely : Prop := reasonNeedsRow.holds Try.pinned (OpenSpec.ofChange reasonNeedsWrong)

/-- 'vouchsafelaw08.OrderCalls': WHATEVER THE INPUT: true; the input reads as it did. -/
def orderCallsSpec : ChangeSpec := { name := "orderCalls", fn := fun _ => fun
  | [d1, d2, d3, d4] => { results := [.lit (.bool true)], args := [d1, d2, d3, d4] }
  | _ => none }
def orderCallsRow : OpenClaim := { program := "ytompindebndddaa", sum := "85dfcaa32afeffedabeac448d81aae31f37389d88d1189ab49ead9863602fdac", func := "vouchsafe/vouchsafelaw08.OrderCalls", spec := "orderCalls", inPlace := ["internal/abi.NoEscape", "internal/bytealg.MakeNoZero", "internal/bytealg.abigen_runtime_cmpstring", "slices.overlaps[vouchsafe/api.Atom]"], unfollowed := true, recurses := true, plainKeys := false, apart := false }
def OrderCallsSaid : Prop := orderCallsRow.holds Try.pinned (OpenSpec.ofChange orderCallsSpec)

/-- ITS FALSE NEIGHBOUR: 'it returns false'. Refute it at one input. -/
def orderCallsWrong : ChangeSpec := { name := "orderCalls", fn := fun _ => fun
  | [d1, d2, d3, d4] => { results := [.lit (.bool false)], args := [d1, d2, d3, d4] }
  | _ => none }
def OrderCallsWrongFalsely : Prop := orderCallsRow.holds Try.pinned (OpenSpec.ofChange orderCallsWrong)

/-- 'vouchsafelaw21.ProofFewer': WHATEVER THE INPUT: true; the input reads as it did. -/
def proofFewerSpec : ChangeSpec := { name := "proofFewer", fn := fun _ => fun
  | [d1, d2] => { results := [.lit (.bool true)], args := [d1, d2] }
  | _ => none }
def proofFewerRow : OpenClaim := { program := "ytompindebndddaa", sum := "85dfcaa32afeffedabeac448d81aae31f37389d88d1189ab49ead9863602fdac", func := "vouchsafe/vouchsafelaw21.ProofFewer", spec := "proofFewer", inPlace := ["internal/abi.NoEscape", "internal/bytealg.MakeNoZero", "internal/bytealg.abigen_runtime_cmpstring", "slices.overlaps[vouchsafe/api.Atom]"], unfollowed := true, recurses := true, plainKeys := false, apart := false }
def ProofFewerSaid : Prop := proofFewerRow.holds Try.pinned (OpenSpec.ofChange proofFewerSpec)

/-- ITS FALSE NEIGHBOUR: 'it returns false'. Refute it at one input. -/
def proofFewerWrong : ChangeSpec := { name := "proofFewer", fn := fun _ => fun
  | [d1, d2] => { results := [.lit (.bool false)], args := [d1, d2] }
  | _ => none }
def ProofFewerWrongFalsely : Prop := proofFewerRow.holds Try.pinned (OpenSpec.ofChange proofFewerWrong)

/-- 'vouchsafelaw21.ProofWhole': WHATEVER THE INPUT: true; the input reads as it did. -/
def proofWholeSpec : ChangeSpec := { name := "proofWhole", fn := fun _ => fun
  | [d1, d2] => { results := [.lit (.bool true)], args := [d1, d2] }
  | _ => none }
def proofWholeRow : OpenClaim := { program := "ytompindebndddaa", sum := "85dfcaa32afeffedabeac448d81aae31f37389d88d1189ab49ead9863602fdac", func := "vouchsafe/vouchsafelaw21.ProofWhole", spec := "proofWhole", inPlace := ["internal/abi.NoEscape", "internal/bytealg.MakeNoZero", "internal/bytealg.abigen_runtime_cmpstring", "slices.overlaps[vouchsafe/api.Atom]"], unfollowed := true, recurses := true, plainKeys := false, apart := false }
def ProofWholeSaid : Prop := proofWholeRow.holds Try.pinned (OpenSpec.ofChange proofWholeSpec)

/-- ITS FALSE NEIGHBOUR: 'it returns false'. Refute it at one input. -/
def proofWholeWrong : ChangeSpec := { name := "proofWhole", fn := fun _ => fun
  | [d1, d2] => { results := [.lit (.bool false)], args := [d1, d2] }
  | _ => none }
def ProofWholeWrongFalsely : Prop := proofWholeRow.holds Try.pinned (OpenSpec.ofChange proofWholeWrong)

/-- 'vouchsafelaw21.ProofCalls': WHATEVER THE INPUT: true; the input reads as it did. -/
def proofCallsSpec : ChangeSpec := { name := "proofCalls", fn := fun _ => fun
  | [d1, d2, d3, d4] => { results := [.lit (.bool true)], args := [d1, d2, d3, d4] }
  | _ => none }
def proofCallsRow : OpenClaim := { program := "ytompindebndddaa", sum := "85dfcaa32afeffedabeac448d81aae31f37389d88d1189ab49ead9863602fdac", func := "vouchsafe/vouchsafelaw21.ProofCalls", spec := "proofCalls", inPlace := ["internal/abi.NoEscape", "internal/bytealg.MakeNoZero", "internal/bytealg.abigen_runtime_cmpstring", "slices.overlaps[vouchsafe/api.Atom]"], unfollowed := true, recurses := true, plainKeys := false, apart := false }
def ProofCallsSaid : Prop := proofCallsRow.holds Try.pinned (OpenSpec.ofChange proofCallsSpec)

/-- ITS FALSE NEIGHBOUR: 'it returns false'. Refute it at one input. -/
def proofCallsWrong : ChangeSpec := { name := "proofCalls", fn := fun _ => fun
  | [d1, d2, d3, d4] => { results := [.lit (.bool false)], args := [d1, d2, d3, d4] }
  | _ => none }
def ProofCallsWrongFalsely : Prop := proofCallsRow.holds Try.pinned (OpenSpec.ofChange proofCallsWrong)

/- THE SECOND FORM. 'bulk': how many values and letters a reading holds, each counted each time it is reached (what is shared counts as often as it is met; a slice's spare places count too). A statement '..UptoSaid' is the law's where the arguments, and the package variables that the reading takes, are together of bulk at most 1048576: NARROWER than '..Said'. Prove '..Said' where nothing that the law and all that it calls make is longer than what came in: it says more and counts as full. Else prove '..UptoSaid'. A law counts once. -/
mutual
def uptoBulk {H : Type} : DataW H → Nat
  | .lit (.string bytes) => bytes.length + 1
  | .lit _ => 1
  | .nil => 1
  | .ptr d => uptoBulk d + 1
  | .slice elems spare => uptoBulkAll elems + uptoBulkAll spare + 1
  | .agg parts => uptoBulkAll parts + 1
  | .iface _ d => uptoBulk d + 1
  | .map entries => uptoBulkEntries entries + 1
  | .held _ => 1
def uptoBulkAll {H : Type} : List (DataW H) → Nat
  | [] => 0
  | d :: r => uptoBulk d + uptoBulkAll r
def uptoBulkEntries {H : Type} : List (Lit × DataW H) → Nat
  | [] => 0
  | x :: r => uptoBulkEntry x + uptoBulkEntries r
def uptoBulkEntry {H : Type} : Lit × DataW H → Nat
  | (.string bytes, d) => bytes.length + uptoBulk d + 1
  | (_, d) => uptoBulk d + 1
 end
def uptoSmall : (H : Type) → List (DataW H) → Bool := fun _ ds => decide (uptoBulkAll ds ≤ 1048576)
def OpenSpec.upto (s : _root_.Go.ChangeSpec) : _root_.Go.OpenSpec := { _root_.Go.OpenSpec.ofChange s with cond := some uptoSmall }

/-- 'vouchsafelaw20.ReasonSound', WHERE WHAT IT READS IS OF BULK AT MOST 1048576: true; the input reads as it did. -/
def reasonSoundUptoRow : OpenClaim := { program := "ytompindebndddaa", sum := "85dfcaa32afeffedabeac448d81aae31f37389d88d1189ab49ead9863602fdac", func := "vouchsafe/vouchsafelaw20.ReasonSound", spec := "reasonSound", unfollowed := true, recurses := true, plainKeys := false, apart := false, narrowed := true }
def ReasonSoundUptoSaid : Prop := reasonSoundUptoRow.holds Try.pinned (OpenSpec.upto reasonSoundSpec)

/-- 'vouchsafelaw20.ReasonFronts', WHERE WHAT IT READS IS OF BULK AT MOST 1048576: true; the input reads as it did. -/
def reasonFrontsUptoRow : OpenClaim := { program := "ytompindebndddaa", sum := "85dfcaa32afeffedabeac448d81aae31f37389d88d1189ab49ead9863602fdac", func := "vouchsafe/vouchsafelaw20.ReasonFronts", spec := "reasonFronts", unfollowed := true, recurses := true, plainKeys := false, apart := false, narrowed := true }
def ReasonFrontsUptoSaid : Prop := reasonFrontsUptoRow.holds Try.pinned (OpenSpec.upto reasonFrontsSpec)

/-- 'vouchsafelaw08.OrderMerges', WHERE WHAT IT READS IS OF BULK AT MOST 1048576: true; the input reads as it did. -/
def orderMergesUptoRow : OpenClaim := { program := "ytompindebndddaa", sum := "85dfcaa32afeffedabeac448d81aae31f37389d88d1189ab49ead9863602fdac", func := "vouchsafe/vouchsafelaw08.OrderMerges", spec := "orderMerges", inPlace := ["internal/abi.NoEscape", "internal/bytealg.MakeNoZero", "internal/bytealg.abigen_runtime_cmpstring"], unfollowed := true, recurses := true, plainKeys := false, apart := false, narrowed := true }
def OrderMergesUptoSaid : Prop := orderMergesUptoRow.holds Try.pinned (OpenSpec.upto orderMergesSpec)

/-- 'vouchsafelaw15.ViewMembers', WHERE WHAT IT READS IS OF BULK AT MOST 1048576: true; the input reads as it did. -/
def viewMembersUptoRow : OpenClaim := { program := "ytompindebndddaa", sum := "85dfcaa32afeffedabeac448d81aae31f37389d88d1189ab49ead9863602fdac", func := "vouchsafe/vouchsafelaw15.ViewMembers", spec := "viewMembers", unfollowed := true, recurses := true, plainKeys := false, apart := false, narrowed := true }
def ViewMembersUptoSaid : Prop := viewMembersUptoRow.holds Try.pinned (OpenSpec.upto viewMembersSpec)

/-- 'vouchsafelaw08.OrderSorts', WHERE WHAT IT READS IS OF BULK AT MOST 1048576: true; the input reads as it did. -/
def orderSortsUptoRow : OpenClaim := { program := "ytompindebndddaa", sum := "85dfcaa32afeffedabeac448d81aae31f37389d88d1189ab49ead9863602fdac", func := "vouchsafe/vouchsafelaw08.OrderSorts", spec := "orderSorts", inPlace := ["internal/abi.NoEscape", "internal/bytealg.MakeNoZero", "internal/bytealg.abigen_runtime_cmpstring", "slices.overlaps[vouchsafe/api.Atom]"], unfollowed := true, recurses := true, plainKeys := false, apart := false, narrowed := true }
def OrderSortsUptoSaid : Prop := orderSortsUptoRow.holds Try.pinned (OpenSpec.upto orderSortsSpec)

/-- 'vouchsafelaw20.ReasonNeeds', WHERE WHAT IT READS IS OF BULK AT MOST 1048576: true; the input reads as it did. -/
def reasonNeedsUptoRow : OpenClaim := { program := "ytompindebndddaa", sum := "85dfcaa32afeffedabeac448d81aae31f37389d88d1189ab49ead9863602fdac", func := "vouchsafe/vouchsafelaw20.ReasonNeeds", spec := "reasonNeeds", inPlace := ["internal/abi.NoEscape", "internal/bytealg.MakeNoZero", "internal/bytealg.abigen_runtime_cmpstring", "slices.overlaps[vouchsafe/api.Atom]"], unfollowed := true, recurses := true, plainKeys := false, apart := false, narrowed := true }
def ReasonNeedsUptoSaid : Prop := reasonNeedsUptoRow.holds Try.pinned (OpenSpec.upto reasonNeedsSpec)

/-- 'vouchsafelaw08.OrderCalls', WHERE WHAT IT READS IS OF BULK AT MOST 1048576: true; the input reads as it did. -/
def orderCallsUptoRow : OpenClaim := { program := "ytompindebndddaa", sum := "85dfcaa32afeffedabeac448d81aae31f37389d88d1189ab49ead9863602fdac", func := "vouchsafe/vouchsafelaw08.OrderCalls", spec := "orderCalls", inPlace := ["internal/abi.NoEscape", "internal/bytealg.MakeNoZero", "internal/bytealg.abigen_runtime_cmpstring", "slices.overlaps[vouchsafe/api.Atom]"], unfollowed := true, recurses := true, plainKeys := false, apart := false, narrowed := true }
def OrderCallsUptoSaid : Prop := orderCallsUptoRow.holds Try.pinned (OpenSpec.upto orderCallsSpec)

/-- 'vouchsafelaw21.ProofFewer', WHERE WHAT IT READS IS OF BULK AT MOST 1048576: true; the input reads as it did. -/
def proofFewerUptoRow : OpenClaim := { program := "ytompindebndddaa", sum := "85dfcaa32afeffedabeac448d81aae31f37389d88d1189ab49ead9863602fdac", func := "vouchsafe/vouchsafelaw21.ProofFewer", spec := "proofFewer", inPlace := ["internal/abi.NoEscape", "internal/bytealg.MakeNoZero", "internal/bytealg.abigen_runtime_cmpstring", "slices.overlaps[vouchsafe/api.Atom]"], unfollowed := true, recurses := true, plainKeys := false, apart := false, narrowed := true }
def ProofFewerUptoSaid : Prop := proofFewerUptoRow.holds Try.pinned (OpenSpec.upto proofFewerSpec)

/-- 'vouchsafelaw21.ProofWhole', WHERE WHAT IT READS IS OF BULK AT MOST 1048576: true; the input reads as it did. -/
def proofWholeUptoRow : OpenClaim := { program := "ytompindebndddaa", sum := "85dfcaa32afeffedabeac448d81aae31f37389d88d1189ab49ead9863602fdac", func := "vouchsafe/vouchsafelaw21.ProofWhole", spec := "proofWhole", inPlace := ["internal/abi.NoEscape", "internal/bytealg.MakeNoZero", "internal/bytealg.abigen_runtime_cmpstring", "slices.overlaps[vouchsafe/api.Atom]"], unfollowed := true, recurses := true, plainKeys := false, apart := false, narrowed := true }
def ProofWholeUptoSaid : Prop := proofWholeUptoRow.holds Try.pinned (OpenSpec.upto proofWholeSpec)

/-- 'vouchsafelaw21.ProofCalls', WHERE WHAT IT READS IS OF BULK AT MOST 1048576: true; the input reads as it did. -/
def proofCallsUptoRow : OpenClaim := { program := "ytompindebndddaa", sum := "85dfcaa32afeffedabeac448d81aae31f37389d88d1189ab49ead9863602fdac", func := "vouchsafe/vouchsafelaw21.ProofCalls", spec := "proofCalls", inPlace := ["internal/abi.NoEscape", "internal/bytealg.MakeNoZero", "internal/bytealg.abigen_runtime_cmpstring", "slices.overlaps[vouchsafe/api.Atom]"], unfollowed := true, recurses := true, plainKeys := false, apart := false, narrowed := true }
def ProofCallsUptoSaid : Prop := proofCallsUptoRow.holds Try.pinned (OpenSpec.upto proofCallsSpec)

end Rows
end Go.Proofs.Ytompindebndddaa

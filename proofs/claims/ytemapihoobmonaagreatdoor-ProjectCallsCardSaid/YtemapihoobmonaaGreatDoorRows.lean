/-
  NARROWER THAN 'FOR EVERY INPUT', by the rows' own cells (each row's printed sentence says how): NaiveJoins: laid · NaiveMore: laid · ProjectWho: laid · ProjectCleared: laid · NaiveLeast: laid · ProjectMixed: laid · ProjectCalls: laid.
  DERIVED. THE GIVEN ROWS OF THIS SEAT. 7 by the template 'for every input the law returns true; each argument reads behind the call as it read before'; 0 by the template 'total and deterministic' (their statements: YtemapihoobmonaaGreatDoorTotals.lean).
  GIVEN WITH THE SEED: the statements are not yours to turn. If you find one false, say at which input.
  Laid BY PROGRAM, IN A SANDBOX (cutbox-rows.mjs): the forced cells as the released guide's own fill.sh prints them over the translation a5369667bbd9d0a9… (all of the seat's roots in one cut). By AI agents, Wed Nov 11 2026. No macro, syntax, notation, axiom, sorry.
-/
import Derived.Test.YtemapihoobmonaaGreatDoorChecked
import GoSem.Claim
import GoSem.ClaimJoined
import GoSem.ClaimMapViews
import Derived.JoinedTies
import Derived.KernelRfl
namespace Go.Proofs.YtemapihoobmonaaGreatDoor
/- THE CELL 'sum', in the pinned program and in every row, IS THE sha256 OF THE DUMP (.gsa) THAT YtemapihoobmonaaGreatDoorProg.lean LOADS. Nothing in Lean hashes anything: it is a label: what it is worth is what the hold of that sum in a sandbox is worth. -/
noncomputable def Tryz.pinned : Pinned := { name := "ytemapihoobmonaagreatdoor", sum := "a5369667bbd9d0a9e09ae7ac9777710dbed9e6225f3e53796fda8df001f59bf4", checked := Tryz.checked }
namespace Rows
def none {H : Type} : Left H := { results := [], args := [] }

/- WHAT THE LISTED PACKAGE-LEVEL VARIABLES READ AS WHEN THE CALL BEGINS. Each datum BY PROGRAM (the guide's laid-datum.mjs) off the statement by which the dump's own 'gosem.cut.vars' lays the variable. In a bare row this is a premise. The card (YtemapihoobmonaaGreatDoorCards.lean) ties it to the program's text. -/
def laid_unicode_White_Space {H : Type} : DataW H := .ptr (.agg [.slice [.agg [.lit (.int .u16 9), .lit (.int .u16 13), .lit (.int .u16 1)], .agg [.lit (.int .u16 32), .lit (.int .u16 133), .lit (.int .u16 101)], .agg [.lit (.int .u16 160), .lit (.int .u16 5760), .lit (.int .u16 5600)], .agg [.lit (.int .u16 8192), .lit (.int .u16 8202), .lit (.int .u16 1)], .agg [.lit (.int .u16 8232), .lit (.int .u16 8233), .lit (.int .u16 1)], .agg [.lit (.int .u16 8239), .lit (.int .u16 8287), .lit (.int .u16 48)], .agg [.lit (.int .u16 12288), .lit (.int .u16 12288), .lit (.int .u16 1)]] [], .nil, .lit (.int .i64 2)])
def laid_strings_asciiSpace {H : Type} : DataW H := .agg [.lit (.int .u8 0), .lit (.int .u8 0), .lit (.int .u8 0), .lit (.int .u8 0), .lit (.int .u8 0), .lit (.int .u8 0), .lit (.int .u8 0), .lit (.int .u8 0), .lit (.int .u8 0), .lit (.int .u8 1), .lit (.int .u8 1), .lit (.int .u8 1), .lit (.int .u8 1), .lit (.int .u8 1), .lit (.int .u8 0), .lit (.int .u8 0), .lit (.int .u8 0), .lit (.int .u8 0), .lit (.int .u8 0), .lit (.int .u8 0), .lit (.int .u8 0), .lit (.int .u8 0), .lit (.int .u8 0), .lit (.int .u8 0), .lit (.int .u8 0), .lit (.int .u8 0), .lit (.int .u8 0), .lit (.int .u8 0), .lit (.int .u8 0), .lit (.int .u8 0), .lit (.int .u8 0), .lit (.int .u8 0), .lit (.int .u8 1), .lit (.int .u8 0), .lit (.int .u8 0), .lit (.int .u8 0), .lit (.int .u8 0), .lit (.int .u8 0), .lit (.int .u8 0), .lit (.int .u8 0), .lit (.int .u8 0), .lit (.int .u8 0), .lit (.int .u8 0), .lit (.int .u8 0), .lit (.int .u8 0), .lit (.int .u8 0), .lit (.int .u8 0), .lit (.int .u8 0), .lit (.int .u8 0), .lit (.int .u8 0), .lit (.int .u8 0), .lit (.int .u8 0), .lit (.int .u8 0), .lit (.int .u8 0), .lit (.int .u8 0), .lit (.int .u8 0), .lit (.int .u8 0), .lit (.int .u8 0), .lit (.int .u8 0), .lit (.int .u8 0), .lit (.int .u8 0), .lit (.int .u8 0), .lit (.int .u8 0), .lit (.int .u8 0), .lit (.int .u8 0), .lit (.int .u8 0), .lit (.int .u8 0), .lit (.int .u8 0), .lit (.int .u8 0), .lit (.int .u8 0), .lit (.int .u8 0), .lit (.int .u8 0), .lit (.int .u8 0), .lit (.int .u8 0), .lit (.int .u8 0), .lit (.int .u8 0), .lit (.int .u8 0), .lit (.int .u8 0), .lit (.int .u8 0), .lit (.int .u8 0), .lit (.int .u8 0), .lit (.int .u8 0), .lit (.int .u8 0), .lit (.int .u8 0), .lit (.int .u8 0), .lit (.int .u8 0), .lit (.int .u8 0), .lit (.int .u8 0), .lit (.int .u8 0), .lit (.int .u8 0), .lit (.int .u8 0), .lit (.int .u8 0), .lit (.int .u8 0), .lit (.int .u8 0), .lit (.int .u8 0), .lit (.int .u8 0), .lit (.int .u8 0), .lit (.int .u8 0), .lit (.int .u8 0), .lit (.int .u8 0), .lit (.int .u8 0), .lit (.int .u8 0), .lit (.int .u8 0), .lit (.int .u8 0), .lit (.int .u8 0), .lit (.int .u8 0), .lit (.int .u8 0), .lit (.int .u8 0), .lit (.int .u8 0), .lit (.int .u8 0), .lit (.int .u8 0), .lit (.int .u8 0), .lit (.int .u8 0), .lit (.int .u8 0), .lit (.int .u8 0), .lit (.int .u8 0), .lit (.int .u8 0), .lit (.int .u8 0), .lit (.int .u8 0), .lit (.int .u8 0), .lit (.int .u8 0), .lit (.int .u8 0), .lit (.int .u8 0), .lit (.int .u8 0), .lit (.int .u8 0), .lit (.int .u8 0), .lit (.int .u8 0), .lit (.int .u8 0), .lit (.int .u8 0), .lit (.int .u8 0), .lit (.int .u8 0), .lit (.int .u8 0), .lit (.int .u8 0), .lit (.int .u8 0), .lit (.int .u8 0), .lit (.int .u8 0), .lit (.int .u8 0), .lit (.int .u8 0), .lit (.int .u8 0), .lit (.int .u8 0), .lit (.int .u8 0), .lit (.int .u8 0), .lit (.int .u8 0), .lit (.int .u8 0), .lit (.int .u8 0), .lit (.int .u8 0), .lit (.int .u8 0), .lit (.int .u8 0), .lit (.int .u8 0), .lit (.int .u8 0), .lit (.int .u8 0), .lit (.int .u8 0), .lit (.int .u8 0), .lit (.int .u8 0), .lit (.int .u8 0), .lit (.int .u8 0), .lit (.int .u8 0), .lit (.int .u8 0), .lit (.int .u8 0), .lit (.int .u8 0), .lit (.int .u8 0), .lit (.int .u8 0), .lit (.int .u8 0), .lit (.int .u8 0), .lit (.int .u8 0), .lit (.int .u8 0), .lit (.int .u8 0), .lit (.int .u8 0), .lit (.int .u8 0), .lit (.int .u8 0), .lit (.int .u8 0), .lit (.int .u8 0), .lit (.int .u8 0), .lit (.int .u8 0), .lit (.int .u8 0), .lit (.int .u8 0), .lit (.int .u8 0), .lit (.int .u8 0), .lit (.int .u8 0), .lit (.int .u8 0), .lit (.int .u8 0), .lit (.int .u8 0), .lit (.int .u8 0), .lit (.int .u8 0), .lit (.int .u8 0), .lit (.int .u8 0), .lit (.int .u8 0), .lit (.int .u8 0), .lit (.int .u8 0), .lit (.int .u8 0), .lit (.int .u8 0), .lit (.int .u8 0), .lit (.int .u8 0), .lit (.int .u8 0), .lit (.int .u8 0), .lit (.int .u8 0), .lit (.int .u8 0), .lit (.int .u8 0), .lit (.int .u8 0), .lit (.int .u8 0), .lit (.int .u8 0), .lit (.int .u8 0), .lit (.int .u8 0), .lit (.int .u8 0), .lit (.int .u8 0), .lit (.int .u8 0), .lit (.int .u8 0), .lit (.int .u8 0), .lit (.int .u8 0), .lit (.int .u8 0), .lit (.int .u8 0), .lit (.int .u8 0), .lit (.int .u8 0), .lit (.int .u8 0), .lit (.int .u8 0), .lit (.int .u8 0), .lit (.int .u8 0), .lit (.int .u8 0), .lit (.int .u8 0), .lit (.int .u8 0), .lit (.int .u8 0), .lit (.int .u8 0), .lit (.int .u8 0), .lit (.int .u8 0), .lit (.int .u8 0), .lit (.int .u8 0), .lit (.int .u8 0), .lit (.int .u8 0), .lit (.int .u8 0), .lit (.int .u8 0), .lit (.int .u8 0), .lit (.int .u8 0), .lit (.int .u8 0), .lit (.int .u8 0), .lit (.int .u8 0), .lit (.int .u8 0), .lit (.int .u8 0), .lit (.int .u8 0), .lit (.int .u8 0), .lit (.int .u8 0), .lit (.int .u8 0), .lit (.int .u8 0), .lit (.int .u8 0), .lit (.int .u8 0), .lit (.int .u8 0), .lit (.int .u8 0), .lit (.int .u8 0), .lit (.int .u8 0), .lit (.int .u8 0), .lit (.int .u8 0), .lit (.int .u8 0), .lit (.int .u8 0), .lit (.int .u8 0), .lit (.int .u8 0), .lit (.int .u8 0), .lit (.int .u8 0)]

/-- 'vouchsafelaw16.NaiveJoins': WHATEVER THE INPUT: true; the input reads as it did. -/
def naiveJoinsSpec : ChangeSpec := { name := "naiveJoins", fn := fun _ => fun
  | [d1, d2, d3] => { results := [.lit (.bool true)], args := [d1, d2, d3] }
  | _ => none }
def naiveJoinsRow : OpenClaim := { program := "ytemapihoobmonaagreatdoor", sum := "a5369667bbd9d0a9e09ae7ac9777710dbed9e6225f3e53796fda8df001f59bf4", func := "vouchsafe/vouchsafelaw16.NaiveJoins", spec := "naiveJoins", inPlace := ["internal/abi.NoEscape", "internal/bytealg.MakeNoZero", "internal/bytealg.abigen_runtime_cmpstring"], unfollowed := true, recurses := true, named := ["strings.asciiSpace", "unicode.White_Space"], plainKeys := false, apart := false, laid := [("unicode.White_Space", laid_unicode_White_Space), ("strings.asciiSpace", laid_strings_asciiSpace)] }
def NaiveJoinsSaid : Prop := naiveJoinsRow.holds Tryz.pinned (OpenSpec.ofChange naiveJoinsSpec)

/-- ITS FALSE NEIGHBOUR: 'it returns false'. Refute it at one input. -/
def naiveJoinsWrong : ChangeSpec := { name := "naiveJoins", fn := fun _ => fun
  | [d1, d2, d3] => { results := [.lit (.bool false)], args := [d1, d2, d3] }
  | _ => none }
def NaiveJoinsWrongFalsely : Prop := naiveJoinsRow.holds Tryz.pinned (OpenSpec.ofChange naiveJoinsWrong)

/-- 'vouchsafelaw16.NaiveMore': WHATEVER THE INPUT: true; the input reads as it did. -/
def naiveMoreSpec : ChangeSpec := { name := "naiveMore", fn := fun _ => fun
  | [d1, d2, d3] => { results := [.lit (.bool true)], args := [d1, d2, d3] }
  | _ => none }
def naiveMoreRow : OpenClaim := { program := "ytemapihoobmonaagreatdoor", sum := "a5369667bbd9d0a9e09ae7ac9777710dbed9e6225f3e53796fda8df001f59bf4", func := "vouchsafe/vouchsafelaw16.NaiveMore", spec := "naiveMore", inPlace := ["internal/abi.NoEscape", "internal/bytealg.MakeNoZero", "internal/bytealg.abigen_runtime_cmpstring"], unfollowed := true, recurses := true, named := ["strings.asciiSpace", "unicode.White_Space"], plainKeys := false, apart := false, laid := [("unicode.White_Space", laid_unicode_White_Space), ("strings.asciiSpace", laid_strings_asciiSpace)] }
def NaiveMoreSaid : Prop := naiveMoreRow.holds Tryz.pinned (OpenSpec.ofChange naiveMoreSpec)

/-- ITS FALSE NEIGHBOUR: 'it returns false'. Refute it at one input. -/
def naiveMoreWrong : ChangeSpec := { name := "naiveMore", fn := fun _ => fun
  | [d1, d2, d3] => { results := [.lit (.bool false)], args := [d1, d2, d3] }
  | _ => none }
def NaiveMoreWrongFalsely : Prop := naiveMoreRow.holds Tryz.pinned (OpenSpec.ofChange naiveMoreWrong)

/-- 'vouchsafelaw28.ProjectWho': WHATEVER THE INPUT: true; the input reads as it did. -/
def projectWhoSpec : ChangeSpec := { name := "projectWho", fn := fun _ => fun
  | [d1, d2, d3, d4, d5] => { results := [.lit (.bool true)], args := [d1, d2, d3, d4, d5] }
  | _ => none }
def projectWhoRow : OpenClaim := { program := "ytemapihoobmonaagreatdoor", sum := "a5369667bbd9d0a9e09ae7ac9777710dbed9e6225f3e53796fda8df001f59bf4", func := "vouchsafe/vouchsafelaw28.ProjectWho", spec := "projectWho", unfollowed := true, recurses := true, named := ["strings.asciiSpace", "unicode.White_Space"], plainKeys := false, apart := false, laid := [("unicode.White_Space", laid_unicode_White_Space), ("strings.asciiSpace", laid_strings_asciiSpace)] }
def ProjectWhoSaid : Prop := projectWhoRow.holds Tryz.pinned (OpenSpec.ofChange projectWhoSpec)

/-- ITS FALSE NEIGHBOUR: 'it returns false'. Refute it at one input. -/
def projectWhoWrong : ChangeSpec := { name := "projectWho", fn := fun _ => fun
  | [d1, d2, d3, d4, d5] => { results := [.lit (.bool false)], args := [d1, d2, d3, d4, d5] }
  | _ => none }
def ProjectWhoWrongFalsely : Prop := projectWhoRow.holds Tryz.pinned (OpenSpec.ofChange projectWhoWrong)

/-- 'vouchsafelaw28.ProjectCleared': WHATEVER THE INPUT: true; the input reads as it did. -/
def projectClearedSpec : ChangeSpec := { name := "projectCleared", fn := fun _ => fun
  | [d1, d2, d3, d4] => { results := [.lit (.bool true)], args := [d1, d2, d3, d4] }
  | _ => none }
def projectClearedRow : OpenClaim := { program := "ytemapihoobmonaagreatdoor", sum := "a5369667bbd9d0a9e09ae7ac9777710dbed9e6225f3e53796fda8df001f59bf4", func := "vouchsafe/vouchsafelaw28.ProjectCleared", spec := "projectCleared", unfollowed := true, recurses := true, named := ["strings.asciiSpace", "unicode.White_Space"], plainKeys := false, apart := false, laid := [("unicode.White_Space", laid_unicode_White_Space), ("strings.asciiSpace", laid_strings_asciiSpace)] }
def ProjectClearedSaid : Prop := projectClearedRow.holds Tryz.pinned (OpenSpec.ofChange projectClearedSpec)

/-- ITS FALSE NEIGHBOUR: 'it returns false'. Refute it at one input. -/
def projectClearedWrong : ChangeSpec := { name := "projectCleared", fn := fun _ => fun
  | [d1, d2, d3, d4] => { results := [.lit (.bool false)], args := [d1, d2, d3, d4] }
  | _ => none }
def ProjectClearedWrongFalsely : Prop := projectClearedRow.holds Tryz.pinned (OpenSpec.ofChange projectClearedWrong)

/-- 'vouchsafelaw16.NaiveLeast': WHATEVER THE INPUT: true; the input reads as it did. -/
def naiveLeastSpec : ChangeSpec := { name := "naiveLeast", fn := fun _ => fun
  | [d1, d2, d3] => { results := [.lit (.bool true)], args := [d1, d2, d3] }
  | _ => none }
def naiveLeastRow : OpenClaim := { program := "ytemapihoobmonaagreatdoor", sum := "a5369667bbd9d0a9e09ae7ac9777710dbed9e6225f3e53796fda8df001f59bf4", func := "vouchsafe/vouchsafelaw16.NaiveLeast", spec := "naiveLeast", inPlace := ["internal/abi.NoEscape", "internal/bytealg.MakeNoZero", "internal/bytealg.abigen_runtime_cmpstring"], unfollowed := true, recurses := true, named := ["strings.asciiSpace", "unicode.White_Space"], plainKeys := false, apart := false, laid := [("unicode.White_Space", laid_unicode_White_Space), ("strings.asciiSpace", laid_strings_asciiSpace)] }
def NaiveLeastSaid : Prop := naiveLeastRow.holds Tryz.pinned (OpenSpec.ofChange naiveLeastSpec)

/-- ITS FALSE NEIGHBOUR: 'it returns false'. Refute it at one input. -/
def naiveLeastWrong : ChangeSpec := { name := "naiveLeast", fn := fun _ => fun
  | [d1, d2, d3] => { results := [.lit (.bool false)], args := [d1, d2, d3] }
  | _ => none }
def NaiveLeastWrongFalsely : Prop := naiveLeastRow.holds Tryz.pinned (OpenSpec.ofChange naiveLeastWrong)

/-- 'vouchsafelaw28.ProjectMixed': WHATEVER THE INPUT: true; the input reads as it did. -/
def projectMixedSpec : ChangeSpec := { name := "projectMixed", fn := fun _ => fun
  | [d1, d2, d3, d4, d5] => { results := [.lit (.bool true)], args := [d1, d2, d3, d4, d5] }
  | _ => none }
def projectMixedRow : OpenClaim := { program := "ytemapihoobmonaagreatdoor", sum := "a5369667bbd9d0a9e09ae7ac9777710dbed9e6225f3e53796fda8df001f59bf4", func := "vouchsafe/vouchsafelaw28.ProjectMixed", spec := "projectMixed", unfollowed := true, recurses := true, named := ["strings.asciiSpace", "unicode.White_Space"], plainKeys := false, apart := false, laid := [("unicode.White_Space", laid_unicode_White_Space), ("strings.asciiSpace", laid_strings_asciiSpace)] }
def ProjectMixedSaid : Prop := projectMixedRow.holds Tryz.pinned (OpenSpec.ofChange projectMixedSpec)

/-- ITS FALSE NEIGHBOUR: 'it returns false'. Refute it at one input. -/
def projectMixedWrong : ChangeSpec := { name := "projectMixed", fn := fun _ => fun
  | [d1, d2, d3, d4, d5] => { results := [.lit (.bool false)], args := [d1, d2, d3, d4, d5] }
  | _ => none }
def ProjectMixedWrongFalsely : Prop := projectMixedRow.holds Tryz.pinned (OpenSpec.ofChange projectMixedWrong)

/-- 'vouchsafelaw28.ProjectCalls': WHATEVER THE INPUT: true; the input reads as it did. -/
def projectCallsSpec : ChangeSpec := { name := "projectCalls", fn := fun _ => fun
  | [d1, d2, d3, d4, d5, d6] => { results := [.lit (.bool true)], args := [d1, d2, d3, d4, d5, d6] }
  | _ => none }
def projectCallsRow : OpenClaim := { program := "ytemapihoobmonaagreatdoor", sum := "a5369667bbd9d0a9e09ae7ac9777710dbed9e6225f3e53796fda8df001f59bf4", func := "vouchsafe/vouchsafelaw28.ProjectCalls", spec := "projectCalls", unfollowed := true, recurses := true, named := ["strings.asciiSpace", "unicode.White_Space"], plainKeys := false, apart := false, laid := [("unicode.White_Space", laid_unicode_White_Space), ("strings.asciiSpace", laid_strings_asciiSpace)] }
def ProjectCallsSaid : Prop := projectCallsRow.holds Tryz.pinned (OpenSpec.ofChange projectCallsSpec)

/-- ITS FALSE NEIGHBOUR: 'it returns false'. Refute it at one input. -/
def projectCallsWrong : ChangeSpec := { name := "projectCalls", fn := fun _ => fun
  | [d1, d2, d3, d4, d5, d6] => { results := [.lit (.bool false)], args := [d1, d2, d3, d4, d5, d6] }
  | _ => none }
def ProjectCallsWrongFalsely : Prop := projectCallsRow.holds Tryz.pinned (OpenSpec.ofChange projectCallsWrong)

/- THE SECOND FORM. 'bulk': how many values and letters a reading holds, each counted each time it is reached (what is shared counts as often as it is met; a slice's spare places count too). A statement '..UptoSaid' is the law's where the arguments, and the package variables that the reading takes, are together of bulk at most 1048576: NARROWER than '..Said'. Prove '..Said' where nothing that the law and all that it calls make is longer than what came in: it says more and counts as full. Else prove '..UptoSaid'. A law counts once. -/
mutual
def uptoBulk {H : Type} : DataW H → Nat
  | .lit (.string bytes) => bytes.length + 1
  | .lit _ => 1
  | .nil => 1
  | .ptr d => uptoBulk d + 1
  | .slice elems spare => uptoBulkAll elems + uptoBulkAll spare + 1
  | .agg parts => uptoBulkAll parts + 1
  | .iface _ d => uptoBulk d + 1
  | .map entries => uptoBulkEntries entries + 1
  | .held _ => 1
def uptoBulkAll {H : Type} : List (DataW H) → Nat
  | [] => 0
  | d :: r => uptoBulk d + uptoBulkAll r
def uptoBulkEntries {H : Type} : List (Lit × DataW H) → Nat
  | [] => 0
  | x :: r => uptoBulkEntry x + uptoBulkEntries r
def uptoBulkEntry {H : Type} : Lit × DataW H → Nat
  | (.string bytes, d) => bytes.length + uptoBulk d + 1
  | (_, d) => uptoBulk d + 1
 end
def uptoSmall : (H : Type) → List (DataW H) → Bool := fun _ ds => decide (uptoBulkAll ds ≤ 1048576)
def OpenSpec.upto (s : _root_.Go.ChangeSpec) : _root_.Go.OpenSpec := { _root_.Go.OpenSpec.ofChange s with cond := some uptoSmall }

/-- 'vouchsafelaw16.NaiveJoins', WHERE WHAT IT READS IS OF BULK AT MOST 1048576: true; the input reads as it did. -/
def naiveJoinsUptoRow : OpenClaim := { program := "ytemapihoobmonaagreatdoor", sum := "a5369667bbd9d0a9e09ae7ac9777710dbed9e6225f3e53796fda8df001f59bf4", func := "vouchsafe/vouchsafelaw16.NaiveJoins", spec := "naiveJoins", inPlace := ["internal/abi.NoEscape", "internal/bytealg.MakeNoZero", "internal/bytealg.abigen_runtime_cmpstring"], unfollowed := true, recurses := true, named := ["strings.asciiSpace", "unicode.White_Space"], plainKeys := false, apart := false, laid := [("unicode.White_Space", laid_unicode_White_Space), ("strings.asciiSpace", laid_strings_asciiSpace)], narrowed := true }
def NaiveJoinsUptoSaid : Prop := naiveJoinsUptoRow.holds Tryz.pinned (OpenSpec.upto naiveJoinsSpec)

/-- 'vouchsafelaw16.NaiveMore', WHERE WHAT IT READS IS OF BULK AT MOST 1048576: true; the input reads as it did. -/
def naiveMoreUptoRow : OpenClaim := { program := "ytemapihoobmonaagreatdoor", sum := "a5369667bbd9d0a9e09ae7ac9777710dbed9e6225f3e53796fda8df001f59bf4", func := "vouchsafe/vouchsafelaw16.NaiveMore", spec := "naiveMore", inPlace := ["internal/abi.NoEscape", "internal/bytealg.MakeNoZero", "internal/bytealg.abigen_runtime_cmpstring"], unfollowed := true, recurses := true, named := ["strings.asciiSpace", "unicode.White_Space"], plainKeys := false, apart := false, laid := [("unicode.White_Space", laid_unicode_White_Space), ("strings.asciiSpace", laid_strings_asciiSpace)], narrowed := true }
def NaiveMoreUptoSaid : Prop := naiveMoreUptoRow.holds Tryz.pinned (OpenSpec.upto naiveMoreSpec)

/-- 'vouchsafelaw28.ProjectWho', WHERE WHAT IT READS IS OF BULK AT MOST 1048576: true; the input reads as it did. -/
def projectWhoUptoRow : OpenClaim := { program := "ytemapihoobmonaagreatdoor", sum := "a5369667bbd9d0a9e09ae7ac9777710dbed9e6225f3e53796fda8df001f59bf4", func := "vouchsafe/vouchsafelaw28.ProjectWho", spec := "projectWho", unfollowed := true, recurses := true, named := ["strings.asciiSpace", "unicode.White_Space"], plainKeys := false, apart := false, laid := [("unicode.White_Space", laid_unicode_White_Space), ("strings.asciiSpace", laid_strings_asciiSpace)], narrowed := true }
def ProjectWhoUptoSaid : Prop := projectWhoUptoRow.holds Tryz.pinned (OpenSpec.upto projectWhoSpec)

/-- 'vouchsafelaw28.ProjectCleared', WHERE WHAT IT READS IS OF BULK AT MOST 1048576: true; the input reads as it did. -/
def projectClearedUptoRow : OpenClaim := { program := "ytemapihoobmonaagreatdoor", sum := "a5369667bbd9d0a9e09ae7ac9777710dbed9e6225f3e53796fda8df001f59bf4", func := "vouchsafe/vouchsafelaw28.ProjectCleared", spec := "projectCleared", unfollowed := true, recurses := true, named := ["strings.asciiSpace", "unicode.White_Space"], plainKeys := false, apart := false, laid := [("unicode.White_Space", laid_unicode_White_Space), ("strings.asciiSpace", laid_strings_asciiSpace)], narrowed := true }
def ProjectClearedUptoSaid : Prop := projectClearedUptoRow.holds Tryz.pinned (OpenSpec.upto projectClearedSpec)

/-- 'vouchsafelaw16.NaiveLeast', WHERE WHAT IT READS IS OF BULK AT MOST 1048576: true; the input reads as it did. -/
def naiveLeastUptoRow : OpenClaim := { program := "ytemapihoobmonaagreatdoor", sum := "a5369667bbd9d0a9e09ae7ac9777710dbed9e6225f3e53796fda8df001f59bf4", func := "vouchsafe/vouchsafelaw16.NaiveLeast", spec := "naiveLeast", inPlace := ["internal/abi.NoEscape", "internal/bytealg.MakeNoZero", "internal/bytealg.abigen_runtime_cmpstring"], unfollowed := true, recurses := true, named := ["strings.asciiSpace", "unicode.White_Space"], plainKeys := false, apart := false, laid := [("unicode.White_Space", laid_unicode_White_Space), ("strings.asciiSpace", laid_strings_asciiSpace)], narrowed := true }
def NaiveLeastUptoSaid : Prop := naiveLeastUptoRow.holds Tryz.pinned (OpenSpec.upto naiveLeastSpec)

/-- 'vouchsafelaw28.ProjectMixed', WHERE WHAT IT READS IS OF BULK AT MOST 1048576: true; the input reads as it did. -/
def projectMixedUptoRow : OpenClaim := { program := "ytemapihoobmonaagreatdoor", sum := "a5369667bbd9d0a9e09ae7ac9777710dbed9e6225f3e53796fda8df001f59bf4", func := "vouchsafe/vouchsafelaw28.ProjectMixed", spec := "projectMixed", unfollowed := true, recurses := true, named := ["strings.asciiSpace", "unicode.White_Space"], plainKeys := false, apart := false, laid := [("unicode.White_Space", laid_unicode_White_Space), ("strings.asciiSpace", laid_strings_asciiSpace)], narrowed := true }
def ProjectMixedUptoSaid : Prop := projectMixedUptoRow.holds Tryz.pinned (OpenSpec.upto projectMixedSpec)

/-- 'vouchsafelaw28.ProjectCalls', WHERE WHAT IT READS IS OF BULK AT MOST 1048576: true; the input reads as it did. -/
def projectCallsUptoRow : OpenClaim := { program := "ytemapihoobmonaagreatdoor", sum := "a5369667bbd9d0a9e09ae7ac9777710dbed9e6225f3e53796fda8df001f59bf4", func := "vouchsafe/vouchsafelaw28.ProjectCalls", spec := "projectCalls", unfollowed := true, recurses := true, named := ["strings.asciiSpace", "unicode.White_Space"], plainKeys := false, apart := false, laid := [("unicode.White_Space", laid_unicode_White_Space), ("strings.asciiSpace", laid_strings_asciiSpace)], narrowed := true }
def ProjectCallsUptoSaid : Prop := projectCallsUptoRow.holds Tryz.pinned (OpenSpec.upto projectCallsSpec)

end Rows
end Go.Proofs.YtemapihoobmonaaGreatDoor

/-
  DERIVED: THE SHELF's CONTRACTS AT THIS DUMP, IN PLAIN WORDS (tools/lay-plain.mjs out of 'TrydShelf.lean', which tools/lay-shelf.mjs wrote): THE SAME DECLARATIONS UNDER THE SAME NAMES: 'import', 'namespace', 'open', 'def', 'theorem' AND NOTHING ELSE: no command of the shelf's: FOR A HAND-IN. Each laying: the table of numbers ('.._ren') and one theorem, a field a fact of the dump's own or the kernel's comparison; each contract: ONE APPLICATION.
-/
import Derived.Shelf.Strings.Builder1
import Derived.Shelf.Strings.Builder2
import Derived.Shelf.Strings.OnBuilder
import Derived.Shelf.Small.Strs
import Derived.Shelf.Strings.Fields
import Derived.Shelf.LaysM
import Derived.Shelf.Strings.SplitShaped
import Derived.Shelf.Unicode.Latin
import Derived.Shelf.Unicode.Is16White
import Derived.Shelf.Unicode.IsSpaceAny
import Derived.Shelf.Unicode.Is16Any
import Derived.Shelf.Unicode.Is32Any
import Derived.Shelf.Unicode.ExclAny
import Derived.Test.YtemapihoobmonaaDoorProg
import Derived.Test.YtemapihoobmonaaDoorGOv
import Derived.Test.YtemapihoobmonaaDoorG7
import Derived.Test.YtemapihoobmonaaDoorG11
import Derived.Test.YtemapihoobmonaaDoorG10
import Derived.Test.YtemapihoobmonaaDoorG15
import Derived.Test.YtemapihoobmonaaDoorG13
namespace Go.Proofs
open Go.Shelf
def Tryd.lays156_ren : Go.Shelf.Ren := ⟨fun | 156 => 63 | 165 => 75 | 166 => 76 | 169 => 77 | 240 => 85 | 241 => 86 | 276 => 89 | 277 => 90 | n => n, fun | 31 => 84 | 9 => 9 | 3 => 3 | 4 => 4 | 0 => 0 | 20 => 20 | 72 => 102 | 76 => 106 | 70 => 99 | 37 => 100 | 75 => 105 | 127 => 111 | 164 => 114 | 5 => 5 | 80 => 108 | n => n, fun | n => n⟩
theorem Tryd.lays156 : Go.Proofs.Lays.n156 Tryd.prog Tryd.lays156_ren := {
  mixed := by kernel_rfl
  f156 := Tryd.func63.trans (congrArg some (by kernel_rfl))
  f165 := Tryd.func75.trans (congrArg some (by kernel_rfl))
  f166 := Tryd.func76.trans (congrArg some (by kernel_rfl))
  f169 := Tryd.func77.trans (congrArg some (by kernel_rfl))
  f240 := Tryd.func85.trans (congrArg some (by kernel_rfl))
  f241 := Tryd.func86.trans (congrArg some (by kernel_rfl))
  f276 := Tryd.func89.trans (congrArg some (by kernel_rfl))
  f277 := Tryd.func90.trans (congrArg some (by kernel_rfl))
  t0 := Tryd.underlying0
  a0 := Tryd.isAgg0
  z0 := Tryd.sizeOf0
  v0 := Tryd.zeroValue0
  t3 := Tryd.underlying3
  a3 := Tryd.isAgg3
  z3 := Tryd.sizeOf3
  v3 := Tryd.zeroValue3
  t4 := Tryd.underlying4
  a4 := Tryd.isAgg4
  z4 := Tryd.sizeOf4
  v4 := Tryd.zeroValue4
  t9 := Tryd.underlying9
  a9 := Tryd.isAgg9
  z9 := Tryd.sizeOf9
  v9 := Tryd.zeroValue9
  t20 := Tryd.underlying20
  a20 := Tryd.isAgg20
  z20 := Tryd.sizeOf20
  v20 := Tryd.zeroValue20
  t31 := Tryd.underlying84
  a31 := Tryd.isAgg84
  z31 := Tryd.sizeOf84
  v31 := Tryd.zeroValue84
  t37 := Tryd.underlying100
  a37 := Tryd.isAgg100
  z37 := Tryd.sizeOf100
  v37 := Tryd.zeroValue100
  t70 := Tryd.underlying99
  a70 := Tryd.isAgg99
  z70 := Tryd.sizeOf99
  v70 := Tryd.zeroValue99
  t72 := Tryd.underlying102
  a72 := Tryd.isAgg102
  z72 := Tryd.sizeOf102
  v72 := Tryd.zeroValue102
  t75 := Tryd.underlying105
  a75 := Tryd.isAgg105
  z75 := Tryd.sizeOf105
  v75 := Tryd.zeroValue105
  t76 := Tryd.underlying106
  a76 := Tryd.isAgg106
  z76 := Tryd.sizeOf106
  v76 := Tryd.zeroValue106
  t127 := Tryd.underlying111
  a127 := Tryd.isAgg111
  z127 := Tryd.sizeOf111
  v127 := Tryd.zeroValue111
  t164 := Tryd.underlying114
  a164 := Tryd.isAgg114
  z164 := Tryd.sizeOf114
  v164 := Tryd.zeroValue114 }
theorem Tryd.Builder_Extra_156 : Builder.Extra Tryd.prog Tryd.lays156_ren := {
  sizeBuilder := by kernel_rfl
  liesBuilder := by kernel_rfl
  t5 := Tryd.underlying5
  a5 := Tryd.isAgg5
  z5 := Tryd.sizeOf5
  v5 := Tryd.zeroValue5
  infoByte := by kernel_rfl
  cellsByte := by kernel_rfl
  sizeByte := by kernel_rfl
  neB5 := by decide }
open Go.RowKit in
theorem Tryd.strings_Join_none (a : Option Addr) (c : Nat) (sep : ByteArray) (w : World) :
    Calls Tryd.prog 63 #[.slice a 0 c, .string sep] w fun e w' => e = .returned (.string ⟨#[]⟩) ∧ w' = w := Any.strings_Join_none Tryd.lays156 Tryd.Builder_Extra_156 a c sep w
open Go.RowKit in
theorem Tryd.strings_Join (bk o c : Nat) (xs : List ByteArray) (sep : ByteArray) (w : World) (hcells : ∀ (j : Nat) x, xs[j]? = some x → w.cell? ⟨bk, o + j, none⟩ = some (.string x)) (hbk : bk < w.heap.size) (hN : xs.length ≤ 140737488355328) (hcap : xs.length ≤ c) (hlen : (Lib.join (xs.map (·.data.toList)) sep.data.toList).length ≤ 140737488355328) :
    Calls Tryd.prog 63 #[.slice (some ⟨bk, o, none⟩) xs.length c, .string sep] w fun e w' => e = .returned (.string ⟨(Lib.join (xs.map (·.data.toList)) sep.data.toList).toArray⟩) ∧ Below w.heap.size w w' := Any.strings_Join Tryd.lays156 Tryd.Builder_Extra_156 bk o c xs sep w hcells hbk hN hcap hlen
def Tryd.lays106_ren : Go.Shelf.Ren := ⟨fun | 106 => 43 | 213 => 62 | 265 => 74 | n => n, fun | 9 => 9 | 3 => 3 | n => n, fun | n => n⟩
theorem Tryd.lays106 : Go.Proofs.Lays.n106 Tryd.prog Tryd.lays106_ren := {
  mixed := by kernel_rfl
  f106 := Tryd.func43.trans (congrArg some (by kernel_rfl))
  f213 := Tryd.func62.trans (congrArg some (by kernel_rfl))
  f265 := Tryd.func74.trans (congrArg some (by kernel_rfl))
  t3 := Tryd.underlying3
  a3 := Tryd.isAgg3
  z3 := Tryd.sizeOf3
  v3 := Tryd.zeroValue3
  t9 := Tryd.underlying9
  a9 := Tryd.isAgg9
  z9 := Tryd.sizeOf9
  v9 := Tryd.zeroValue9 }
open Go.RowKit in
theorem Tryd.strings_Compare (a b : ByteArray) (w : World) :
    Calls Tryd.prog 43 #[.string a, .string b] w fun e w' => e = .returned (.int .i64 (Lib.compareBytes a.data.toList b.data.toList)) ∧ w' = w := Any.strings_Compare Tryd.lays106 a b w
def Tryd.lays157_ren : Go.Shelf.Ren := ⟨fun | 157 => 88 | 229 => 91 | 199 => 92 | 261 => 93 | 311 => 94 | 312 => 95 | n => n, fun | 9 => 9 | 31 => 84 | 3 => 3 | 5 => 5 | 4 => 4 | 119 => 117 | 0 => 0 | 40 => 119 | 152 => 120 | 21 => 21 | 154 => 122 | 51 => 123 | 141 => 125 | 196 => 129 | 193 => 126 | 198 => 132 | 49 => 130 | 194 => 127 | 201 => 135 | 226 => 137 | 46 => 98 | 227 => 138 | n => n, fun | 0 => 1 | 6 => 2 | n => n⟩
theorem Tryd.lays157 : Go.Proofs.Lays.n157 Tryd.prog Tryd.lays157_ren := {
  mixed := by kernel_rfl
  f157 := Tryd.func88.trans (congrArg some (by kernel_rfl))
  f199 := Tryd.func92.trans (congrArg some (by kernel_rfl))
  f229 := Tryd.func91.trans (congrArg some (by kernel_rfl))
  f261 := Tryd.func93.trans (congrArg some (by kernel_rfl))
  f311 := Tryd.func94.trans (congrArg some (by kernel_rfl))
  f312 := Tryd.func95.trans (congrArg some (by kernel_rfl))
  t0 := Tryd.underlying0
  a0 := Tryd.isAgg0
  z0 := Tryd.sizeOf0
  v0 := Tryd.zeroValue0
  t3 := Tryd.underlying3
  a3 := Tryd.isAgg3
  z3 := Tryd.sizeOf3
  v3 := Tryd.zeroValue3
  t4 := Tryd.underlying4
  a4 := Tryd.isAgg4
  z4 := Tryd.sizeOf4
  v4 := Tryd.zeroValue4
  t5 := Tryd.underlying5
  a5 := Tryd.isAgg5
  z5 := Tryd.sizeOf5
  v5 := Tryd.zeroValue5
  t9 := Tryd.underlying9
  a9 := Tryd.isAgg9
  z9 := Tryd.sizeOf9
  v9 := Tryd.zeroValue9
  t21 := Tryd.underlying21
  a21 := Tryd.isAgg21
  z21 := Tryd.sizeOf21
  v21 := Tryd.zeroValue21
  t31 := Tryd.underlying84
  a31 := Tryd.isAgg84
  z31 := Tryd.sizeOf84
  v31 := Tryd.zeroValue84
  t40 := Tryd.underlying119
  a40 := Tryd.isAgg119
  z40 := Tryd.sizeOf119
  v40 := Tryd.zeroValue119
  t46 := Tryd.underlying98
  a46 := Tryd.isAgg98
  z46 := Tryd.sizeOf98
  v46 := Tryd.zeroValue98
  t49 := Tryd.underlying130
  a49 := Tryd.isAgg130
  z49 := Tryd.sizeOf130
  v49 := Tryd.zeroValue130
  t51 := Tryd.underlying123
  a51 := Tryd.isAgg123
  z51 := Tryd.sizeOf123
  v51 := Tryd.zeroValue123
  t119 := Tryd.underlying117
  a119 := Tryd.isAgg117
  z119 := Tryd.sizeOf117
  t141 := Tryd.underlying125
  a141 := Tryd.isAgg125
  z141 := Tryd.sizeOf125
  v141 := Tryd.zeroValue125
  t152 := Tryd.underlying120
  a152 := Tryd.isAgg120
  z152 := Tryd.sizeOf120
  v152 := Tryd.zeroValue120
  t154 := Tryd.underlying122
  a154 := Tryd.isAgg122
  z154 := Tryd.sizeOf122
  v154 := Tryd.zeroValue122
  t193 := Tryd.underlying126
  a193 := Tryd.isAgg126
  z193 := Tryd.sizeOf126
  v193 := Tryd.zeroValue126
  t194 := Tryd.underlying127
  a194 := Tryd.isAgg127
  z194 := Tryd.sizeOf127
  v194 := Tryd.zeroValue127
  t196 := Tryd.underlying129
  a196 := Tryd.isAgg129
  z196 := Tryd.sizeOf129
  v196 := Tryd.zeroValue129
  t198 := Tryd.underlying132
  a198 := Tryd.isAgg132
  z198 := Tryd.sizeOf132
  v198 := Tryd.zeroValue132
  t201 := Tryd.underlying135
  a201 := Tryd.isAgg135
  z201 := Tryd.sizeOf135
  v201 := Tryd.zeroValue135
  t226 := Tryd.underlying137
  a226 := Tryd.isAgg137
  z226 := Tryd.sizeOf137
  v226 := Tryd.zeroValue137
  t227 := Tryd.underlying138
  a227 := Tryd.isAgg138
  z227 := Tryd.sizeOf138
  v227 := Tryd.zeroValue138
  g0 := by kernel_rfl
  g6 := by kernel_rfl }
end Go.Proofs
namespace Go.Proofs.YtemapihoobmonaaDoor
open Go.RowKit Go.Am
noncomputable def ov0 : Ov := fun f => match f with
  | 88 => some (fieldsA 1 9)
  | 63 => some joinA
  | 43 => some compareA
  | _ => none
theorem ov0_ok : OvS Tryd.prog tab.gs ov0 := by
  intro f g hg
  unfold ov0 at hg
  split at hg
  · cases hg
    exact ov1_fields (g := 1) (by decide) (run_enter tab_fits tab_fn88 rfl) (fun s w hs ha hc => Any.strings_Fields_core Tryd.lays157 (by kernel_rfl) s w hs ha hc)
  · cases hg
    exact ov1_join (run_enter tab_fits tab_fn63 rfl) Tryd.strings_Join_none Tryd.strings_Join
  · cases hg
    exact ov1_compare (run_enter tab_fits tab_fn43 rfl) Tryd.strings_Compare
  · cases hg
theorem lives4_run : fcall Tryd.prog tab ov0 100000 200 (.func 4) [] (spaceHeap 1) (isTrueLow 2) = true := by kernel_rfl
theorem lives4_any (w : World) (ht : ∀ c, c < 256 → w.cell? ⟨1, c, none⟩ = some (.int .u8 (Lib.asciiSpaceTab.getD c 0))) : Calls Tryd.prog 4 #[] w fun e w' => e = .returned (.bool true) ∧ Below w.heap.size w w' := space_true mixed tab_fits rfl ov0_ok rfl lives4_run w ht
noncomputable def ov : Ov := fun f => match f with
  | 88 => some (fieldsA 1 9)
  | 63 => some joinA
  | 43 => some compareA
  | 4 => some (trueS 1)
  | _ => none
theorem ov_ok : OvS Tryd.prog tab.gs ov := by
  intro f g hg
  unfold ov at hg
  split at hg
  · cases hg
    exact ov1_fields (g := 1) (by decide) (run_enter tab_fits tab_fn88 rfl) (fun s w hs ha hc => Any.strings_Fields_core Tryd.lays157 (by kernel_rfl) s w hs ha hc)
  · cases hg
    exact ov1_join (run_enter tab_fits tab_fn63 rfl) Tryd.strings_Join_none Tryd.strings_Join
  · cases hg
    exact ov1_compare (run_enter tab_fits tab_fn43 rfl) Tryd.strings_Compare
  · cases hg
    exact ov1_trueS (g := 1) (by decide) (run_enter tab_fits tab_fn4 rfl) lives4_any
  · cases hg
end Go.Proofs.YtemapihoobmonaaDoor
namespace Go.Proofs.YtemapihoobmonaaDoor
open Go.Am
theorem st4 (h : Heap) (l : List Blk) (w i o : Nat) (v : Value) (hi : i < l.length) : storeA tab 4 (.pointer (some ⟨h.size + i, o, none⟩)) v (h.lay l w) = if v.cells.size = 1 then storeO l[i]? i o v.cells.toList h l w else none := st_lay sz4 h l w i o v hi
theorem st3 (h : Heap) (l : List Blk) (w i o : Nat) (v : Value) (hi : i < l.length) : storeA tab 3 (.pointer (some ⟨h.size + i, o, none⟩)) v (h.lay l w) = if v.cells.size = 1 then storeO l[i]? i o v.cells.toList h l w else none := st_lay sz3 h l w i o v hi
theorem st9 (h : Heap) (l : List Blk) (w i o : Nat) (v : Value) (hi : i < l.length) : storeA tab 9 (.pointer (some ⟨h.size + i, o, none⟩)) v (h.lay l w) = if v.cells.size = 1 then storeO l[i]? i o v.cells.toList h l w else none := st_lay sz9 h l w i o v hi
theorem st33 (h : Heap) (l : List Blk) (w i o : Nat) (v : Value) (hi : i < l.length) : storeA tab 33 (.pointer (some ⟨h.size + i, o, none⟩)) v (h.lay l w) = if v.cells.size = 2 then storeO l[i]? i o v.cells.toList h l w else none := st_lay sz33 h l w i o v hi
theorem st36 (h : Heap) (l : List Blk) (w i o : Nat) (v : Value) (hi : i < l.length) : storeA tab 36 (.pointer (some ⟨h.size + i, o, none⟩)) v (h.lay l w) = if v.cells.size = 11 then storeO l[i]? i o v.cells.toList h l w else none := st_lay sz36 h l w i o v hi
theorem st46 (h : Heap) (l : List Blk) (w i o : Nat) (v : Value) (hi : i < l.length) : storeA tab 46 (.pointer (some ⟨h.size + i, o, none⟩)) v (h.lay l w) = if v.cells.size = 12 then storeO l[i]? i o v.cells.toList h l w else none := st_lay sz46 h l w i o v hi
theorem st71 (h : Heap) (l : List Blk) (w i o : Nat) (v : Value) (hi : i < l.length) : storeA tab 71 (.pointer (some ⟨h.size + i, o, none⟩)) v (h.lay l w) = if v.cells.size = 3 then storeO l[i]? i o v.cells.toList h l w else none := st_lay sz71 h l w i o v hi
theorem bin_atomN (a b : AtomD) : binA Tryd.prog tab .neq 36 a.val b.val = some (.bool (!decide (a = b))) := by
  have h1 : binA Tryd.prog tab .neq 36 a.val b.val = (eqA a b).map fun b => .bool !b := by kernel_rfl
  rw [h1, eqA_some]; rfl
theorem bin_termE (a b : TermD) : binA Tryd.prog tab .eql 33 a.val b.val = some (.bool (decide (a = b))) := by
  have h1 : binA Tryd.prog tab .eql 33 a.val b.val = (eqT a b).map fun b => .bool b := by kernel_rfl
  rw [h1, eqT_some]; rfl
theorem bin_termN (a b : TermD) : binA Tryd.prog tab .neq 33 a.val b.val = some (.bool (!decide (a = b))) := by
  have h1 : binA Tryd.prog tab .neq 33 a.val b.val = (eqT a b).map fun b => .bool !b := by kernel_rfl
  rw [h1, eqT_some]; rfl
theorem bool_eql (p q : Bool) : binA Tryd.prog tab .eql 4 (.bool p) (.bool q) = some (.bool (p == q)) := by cases p <;> cases q <;> kernel_rfl
theorem cat_ruleX {t : TypeId} {a b : ByteArray} {h : Heap} {K : Value → Heap → Prop} (hs : a.size + b.size ≤ 9223372036854775807) (hk : ∀ S : ByteArray, S = a ++ b → S.size = a.size + b.size → K (.string S) h) : valE (binA Tryd.prog tab .add t (.string a) (.string b)) h K := by
  rw [bin_cat hs]; exact hk _ rfl (ByteArray.size_append)
theorem bin_termN2 (v w : Bool) (s u : ByteArray) : binA Tryd.prog tab .neq 33 (.agg ⟨[.bool v, .string s]⟩) (.agg ⟨[.bool w, .string u]⟩) = some (.bool (!decide (TermD.mk v s = TermD.mk w u))) := bin_termN ⟨v, s⟩ ⟨w, u⟩
theorem bin_termE2 (v w : Bool) (s u : ByteArray) : binA Tryd.prog tab .eql 33 (.agg ⟨[.bool v, .string s]⟩) (.agg ⟨[.bool w, .string u]⟩) = some (.bool (decide (TermD.mk v s = TermD.mk w u))) := bin_termE ⟨v, s⟩ ⟨w, u⟩
theorem build_term2 : buildA tab 33 [] = some (.agg ⟨[.bool false, .string ⟨#[]⟩]⟩) := by kernel_rfl
theorem sty23 : srcTyA tab 23 23 = true := by kernel_rfl
theorem sty22 : srcTyA tab 22 22 = true := by kernel_rfl
end Go.Proofs.YtemapihoobmonaaDoor

/-
  DERIVED: THE SHELF's CONTRACTS AT THIS DUMP, IN PLAIN WORDS (tools/lay-plain.mjs out of 'TryShelf.lean', which tools/lay-shelf.mjs wrote): THE SAME DECLARATIONS UNDER THE SAME NAMES: 'import', 'namespace', 'open', 'def', 'theorem' AND NOTHING ELSE: no command of the shelf's: FOR A HAND-IN. Each laying: the table of numbers ('.._ren') and one theorem, a field a fact of the dump's own or the kernel's comparison; each contract: ONE APPLICATION.
-/
import Derived.Shelf.Strings.Builder1
import Derived.Shelf.Strings.Builder2
import Derived.Shelf.Strings.OnBuilder
import Derived.Shelf.Small.Strs
import Derived.Test.YtompindebndddaaProg
import Derived.Test.YtompindebndddaaGOv
import Derived.Test.YtompindebndddaaG8
import Derived.Test.YtompindebndddaaG2
import Derived.Test.YtompindebndddaaG14
import Derived.Test.YtompindebndddaaG11
namespace Go.Proofs
open Go.Shelf
def Try.lays169_ren : Go.Shelf.Ren := ⟨fun | 169 => 195 | n => n, fun | 70 => 209 | 9 => 9 | 0 => 0 | 72 => 212 | 37 => 210 | 127 => 233 | 3 => 3 | 5 => 5 | n => n, fun | n => n⟩
theorem Try.lays169 : Go.Proofs.Lays.n169 Try.prog Try.lays169_ren := {
  mixed := by kernel_rfl
  f169 := Try.func195.trans (congrArg some (by kernel_rfl))
  t0 := Try.underlying0
  a0 := Try.isAgg0
  z0 := Try.sizeOf0
  v0 := Try.zeroValue0
  t3 := Try.underlying3
  a3 := Try.isAgg3
  z3 := Try.sizeOf3
  v3 := Try.zeroValue3
  t9 := Try.underlying9
  a9 := Try.isAgg9
  z9 := Try.sizeOf9
  v9 := Try.zeroValue9
  t37 := Try.underlying210
  a37 := Try.isAgg210
  z37 := Try.sizeOf210
  v37 := Try.zeroValue210
  t70 := Try.underlying209
  a70 := Try.isAgg209
  z70 := Try.sizeOf209
  v70 := Try.zeroValue209
  t72 := Try.underlying212
  a72 := Try.isAgg212
  z72 := Try.sizeOf212
  v72 := Try.zeroValue212
  t127 := Try.underlying233
  a127 := Try.isAgg233
  z127 := Try.sizeOf233
  v127 := Try.zeroValue233 }
theorem Try.Builder_Extra_169 : Builder.Extra Try.prog Try.lays169_ren := {
  sizeBuilder := by kernel_rfl
  liesBuilder := by kernel_rfl
  t5 := Try.underlying5
  a5 := Try.isAgg5
  z5 := Try.sizeOf5
  v5 := Try.zeroValue5
  infoByte := by kernel_rfl
  cellsByte := by kernel_rfl
  sizeByte := by kernel_rfl
  neB5 := by decide }
open Go.RowKit in
/-- (*strings.Builder).String: "String returns the accumulated string.": OF A BUILDER THAT HOLDS AT LEAST ONE BYTE. ✋ THE MODEL FREEZES THOSE BYTES IN THE BUFFER (unsafe.String): a later write INTO them ends the model's run without an answer; a later append BEHIND them goes on. The statement's order of evaluation is drawn: one draw. (LAID: no walk: one application.) -/
theorem Try.Builder_String (B b : Nat) (l : List UInt8) (w : World) (h : Lib.IsBuilder 212 5 B b (Lib.byteCells l) w) (h0 : l ≠ []) :
    Calls Try.prog 195 #[.pointer (some ⟨b, 0, none⟩)] w fun e w' => e = .returned (.string ⟨l.toArray⟩) ∧ Below B w w' := Any.Builder_String Try.lays169 Try.Builder_Extra_169 B b l w h h0
open Go.RowKit in
/-- (*strings.Builder).String OF A BUILDER THAT HOLDS NO BYTE: the empty string. (Its buffer is nil, or a row of which it has taken nothing yet; where that row has NO capacity the model lays one new block for unsafe.SliceData's 'some address'.) One draw. (LAID: no walk: one application.) -/
theorem Try.Builder_String_empty (B b : Nat) (w : World) (h : Lib.IsBuilder 212 5 B b [] w) (hBw : B ≤ w.heap.size) :
    Calls Try.prog 195 #[.pointer (some ⟨b, 0, none⟩)] w fun e w' => e = .returned (.string ⟨#[]⟩) ∧ Below B w w' := Any.Builder_String_empty Try.lays169 Try.Builder_Extra_169 B b w h hBw
open Go.RowKit in
/-- (*strings.Builder).String: "String returns the accumulated string.": WHATEVER THE BUILDER HOLDS. (LAID: no walk: one application.) -/
theorem Try.Builder_String_any (B b : Nat) (l : List UInt8) (w : World) (h : Lib.IsBuilder 212 5 B b (Lib.byteCells l) w) (hBw : B ≤ w.heap.size) :
    Calls Try.prog 195 #[.pointer (some ⟨b, 0, none⟩)] w fun e w' => e = .returned (.string ⟨l.toArray⟩) ∧ Below B w w' := Any.Builder_String_any Try.lays169 Try.Builder_Extra_169 B b l w h hBw
def Try.lays241_ren : Go.Shelf.Ren := ⟨fun | 241 => 219 | 277 => 226 | n => n, fun | 70 => 209 | 3 => 3 | 0 => 0 | 72 => 212 | 37 => 210 | 5 => 5 | n => n, fun | n => n⟩
theorem Try.lays241 : Go.Proofs.Lays.n241 Try.prog Try.lays241_ren := {
  mixed := by kernel_rfl
  f241 := Try.func219.trans (congrArg some (by kernel_rfl))
  f277 := Try.func226.trans (congrArg some (by kernel_rfl))
  t0 := Try.underlying0
  a0 := Try.isAgg0
  z0 := Try.sizeOf0
  v0 := Try.zeroValue0
  t3 := Try.underlying3
  a3 := Try.isAgg3
  z3 := Try.sizeOf3
  v3 := Try.zeroValue3
  t37 := Try.underlying210
  a37 := Try.isAgg210
  z37 := Try.sizeOf210
  v37 := Try.zeroValue210
  t70 := Try.underlying209
  a70 := Try.isAgg209
  z70 := Try.sizeOf209
  v70 := Try.zeroValue209
  t72 := Try.underlying212
  a72 := Try.isAgg212
  z72 := Try.sizeOf212
  v72 := Try.zeroValue212 }
theorem Try.Builder_Extra_241 : Builder.Extra Try.prog Try.lays241_ren := {
  sizeBuilder := by kernel_rfl
  liesBuilder := by kernel_rfl
  t5 := Try.underlying5
  a5 := Try.isAgg5
  z5 := Try.sizeOf5
  v5 := Try.zeroValue5
  infoByte := by kernel_rfl
  cellsByte := by kernel_rfl
  sizeByte := by kernel_rfl
  neB5 := by decide }
open Go.RowKit in
/-- (*strings.Builder).grow (no doc but "grow copies the buffer to a new, larger buffer so that there are at least n bytes of capacity beyond len(b.buf)."): AT A BUILDER WITHOUT A BUFFER: a new row of whatever bytes for its buffer, none of them its own yet. Three draws. (LAID: no walk: one application.) -/
theorem Try.Builder_grow_fresh (B b n : Nat) (w : World) (hB : B ≤ b) (hbk : w.heap[b]? = some (.cells #[.pointer (some ⟨b, 0, none⟩), .slice none 0 0] 212 (0, 0))) (hBw : B ≤ w.heap.size) (hn : n ≤ 281474976710656) :
    Calls Try.prog 219 #[.pointer (some ⟨b, 0, none⟩), .int .i64 n] w fun e w' => e = .returned (.tuple #[]) ∧ (Lib.BuilderAt 212 5 B b (.pointer (some ⟨b, 0, none⟩)) [] w' ∧ Below B w w') := Any.Builder_grow_fresh Try.lays241 Try.Builder_Extra_241 B b n w hB hbk hBw hn
def Try.lays165_ren : Go.Shelf.Ren := ⟨fun | 165 => 193 | 240 => 218 | 241 => 219 | 276 => 225 | 277 => 226 | n => n, fun | 70 => 209 | 3 => 3 | 0 => 0 | 4 => 4 | 9 => 9 | 20 => 20 | 72 => 212 | 37 => 210 | 164 => 238 | 5 => 5 | n => n, fun | n => n⟩
theorem Try.lays165 : Go.Proofs.Lays.n165 Try.prog Try.lays165_ren := {
  mixed := by kernel_rfl
  f165 := Try.func193.trans (congrArg some (by kernel_rfl))
  f240 := Try.func218.trans (congrArg some (by kernel_rfl))
  f241 := Try.func219.trans (congrArg some (by kernel_rfl))
  f276 := Try.func225.trans (congrArg some (by kernel_rfl))
  f277 := Try.func226.trans (congrArg some (by kernel_rfl))
  t0 := Try.underlying0
  a0 := Try.isAgg0
  z0 := Try.sizeOf0
  v0 := Try.zeroValue0
  t3 := Try.underlying3
  a3 := Try.isAgg3
  z3 := Try.sizeOf3
  v3 := Try.zeroValue3
  t4 := Try.underlying4
  a4 := Try.isAgg4
  z4 := Try.sizeOf4
  v4 := Try.zeroValue4
  t9 := Try.underlying9
  a9 := Try.isAgg9
  z9 := Try.sizeOf9
  v9 := Try.zeroValue9
  t20 := Try.underlying20
  a20 := Try.isAgg20
  z20 := Try.sizeOf20
  v20 := Try.zeroValue20
  t37 := Try.underlying210
  a37 := Try.isAgg210
  z37 := Try.sizeOf210
  v37 := Try.zeroValue210
  t70 := Try.underlying209
  a70 := Try.isAgg209
  z70 := Try.sizeOf209
  v70 := Try.zeroValue209
  t72 := Try.underlying212
  a72 := Try.isAgg212
  z72 := Try.sizeOf212
  v72 := Try.zeroValue212
  t164 := Try.underlying238
  a164 := Try.isAgg238
  z164 := Try.sizeOf238
  v164 := Try.zeroValue238 }
theorem Try.Builder_Extra_165 : Builder.Extra Try.prog Try.lays165_ren := {
  sizeBuilder := by kernel_rfl
  liesBuilder := by kernel_rfl
  t5 := Try.underlying5
  a5 := Try.isAgg5
  z5 := Try.sizeOf5
  v5 := Try.zeroValue5
  infoByte := by kernel_rfl
  cellsByte := by kernel_rfl
  sizeByte := by kernel_rfl
  neB5 := by decide }
open Go.RowKit in
/-- (*strings.Builder).Grow AT A BUILDER THAT HAS NOT BEEN WRITTEN ('var b strings.Builder; b.Grow(n)'): "Grow grows b's capacity, if necessary, to guarantee space for another n bytes.": it holds no byte behind it as before it. (LAID: no walk: one application.) -/
theorem Try.Builder_Grow_fresh (B b n : Nat) (w : World) (hB : B ≤ b) (hbk : w.heap[b]? = some (.cells #[.pointer none, .slice none 0 0] 212 (0, 0))) (hBw : B ≤ w.heap.size) (hn : n ≤ 281474976710656) :
    Calls Try.prog 193 #[.pointer (some ⟨b, 0, none⟩), .int .i64 n] w fun e w' => e = .returned (.tuple #[]) ∧ (Lib.BuilderAt 212 5 B b (.pointer (some ⟨b, 0, none⟩)) [] w' ∧ Below B w w') := Any.Builder_Grow_fresh Try.lays165 Try.Builder_Extra_165 B b n w hB hbk hBw hn
def Try.lays156_ren : Go.Shelf.Ren := ⟨fun | 156 => 155 | 165 => 193 | 166 => 194 | 169 => 195 | 240 => 218 | 241 => 219 | 276 => 225 | 277 => 226 | n => n, fun | 31 => 60 | 9 => 9 | 3 => 3 | 4 => 4 | 0 => 0 | 20 => 20 | 72 => 212 | 76 => 216 | 70 => 209 | 37 => 210 | 75 => 215 | 127 => 233 | 164 => 238 | 5 => 5 | 80 => 218 | n => n, fun | n => n⟩
theorem Try.lays156 : Go.Proofs.Lays.n156 Try.prog Try.lays156_ren := {
  mixed := by kernel_rfl
  f156 := Try.func155.trans (congrArg some (by kernel_rfl))
  f165 := Try.func193.trans (congrArg some (by kernel_rfl))
  f166 := Try.func194.trans (congrArg some (by kernel_rfl))
  f169 := Try.func195.trans (congrArg some (by kernel_rfl))
  f240 := Try.func218.trans (congrArg some (by kernel_rfl))
  f241 := Try.func219.trans (congrArg some (by kernel_rfl))
  f276 := Try.func225.trans (congrArg some (by kernel_rfl))
  f277 := Try.func226.trans (congrArg some (by kernel_rfl))
  t0 := Try.underlying0
  a0 := Try.isAgg0
  z0 := Try.sizeOf0
  v0 := Try.zeroValue0
  t3 := Try.underlying3
  a3 := Try.isAgg3
  z3 := Try.sizeOf3
  v3 := Try.zeroValue3
  t4 := Try.underlying4
  a4 := Try.isAgg4
  z4 := Try.sizeOf4
  v4 := Try.zeroValue4
  t9 := Try.underlying9
  a9 := Try.isAgg9
  z9 := Try.sizeOf9
  v9 := Try.zeroValue9
  t20 := Try.underlying20
  a20 := Try.isAgg20
  z20 := Try.sizeOf20
  v20 := Try.zeroValue20
  t31 := Try.underlying60
  a31 := Try.isAgg60
  z31 := Try.sizeOf60
  v31 := Try.zeroValue60
  t37 := Try.underlying210
  a37 := Try.isAgg210
  z37 := Try.sizeOf210
  v37 := Try.zeroValue210
  t70 := Try.underlying209
  a70 := Try.isAgg209
  z70 := Try.sizeOf209
  v70 := Try.zeroValue209
  t72 := Try.underlying212
  a72 := Try.isAgg212
  z72 := Try.sizeOf212
  v72 := Try.zeroValue212
  t75 := Try.underlying215
  a75 := Try.isAgg215
  z75 := Try.sizeOf215
  v75 := Try.zeroValue215
  t76 := Try.underlying216
  a76 := Try.isAgg216
  z76 := Try.sizeOf216
  v76 := Try.zeroValue216
  t127 := Try.underlying233
  a127 := Try.isAgg233
  z127 := Try.sizeOf233
  v127 := Try.zeroValue233
  t164 := Try.underlying238
  a164 := Try.isAgg238
  z164 := Try.sizeOf238
  v164 := Try.zeroValue238 }
theorem Try.Builder_Extra_156 : Builder.Extra Try.prog Try.lays156_ren := {
  sizeBuilder := by kernel_rfl
  liesBuilder := by kernel_rfl
  t5 := Try.underlying5
  a5 := Try.isAgg5
  z5 := Try.sizeOf5
  v5 := Try.zeroValue5
  infoByte := by kernel_rfl
  cellsByte := by kernel_rfl
  sizeByte := by kernel_rfl
  neB5 := by decide }
open Go.RowKit in
/-- No element: the empty string; the world is as it was. (Whatever the slice's address and capacity: a nil slice too.) (LAID: no walk: one application.) -/
theorem Try.strings_Join_none (a : Option Addr) (c : Nat) (sep : ByteArray) (w : World) :
    Calls Try.prog 155 #[.slice a 0 c, .string sep] w fun e w' => e = .returned (.string ⟨#[]⟩) ∧ w' = w := Any.strings_Join_none Try.lays156 Try.Builder_Extra_156 a c sep w
open Go.RowKit in
/-- strings.Join: "Join concatenates the elements of its first argument to create a single string. The separator string sep is placed between elements in the resulting string.": HOWEVER MANY ELEMENTS. Below the heap's end the world is as it was. (LAID: no walk: one application.) -/
theorem Try.strings_Join (bk o c : Nat) (xs : List ByteArray) (sep : ByteArray) (w : World) (hcells : ∀ (j : Nat) x, xs[j]? = some x → w.cell? ⟨bk, o + j, none⟩ = some (.string x)) (hbk : bk < w.heap.size) (hN : xs.length ≤ 140737488355328) (hcap : xs.length ≤ c) (hlen : (Lib.join (xs.map (·.data.toList)) sep.data.toList).length ≤ 140737488355328) :
    Calls Try.prog 155 #[.slice (some ⟨bk, o, none⟩) xs.length c, .string sep] w fun e w' => e = .returned (.string ⟨(Lib.join (xs.map (·.data.toList)) sep.data.toList).toArray⟩) ∧ Below w.heap.size w w' := Any.strings_Join Try.lays156 Try.Builder_Extra_156 bk o c xs sep w hcells hbk hN hcap hlen
def Try.lays213_ren : Go.Shelf.Ren := ⟨fun | 213 => 154 | 265 => 192 | n => n, fun | 9 => 9 | 3 => 3 | n => n, fun | n => n⟩
theorem Try.lays213 : Go.Proofs.Lays.n213 Try.prog Try.lays213_ren := {
  mixed := by kernel_rfl
  f213 := Try.func154.trans (congrArg some (by kernel_rfl))
  f265 := Try.func192.trans (congrArg some (by kernel_rfl))
  t3 := Try.underlying3
  a3 := Try.isAgg3
  z3 := Try.sizeOf3
  v3 := Try.zeroValue3
  t9 := Try.underlying9
  a9 := Try.isAgg9
  z9 := Try.sizeOf9
  v9 := Try.zeroValue9 }
open Go.RowKit in
/-- internal/bytealg.CompareString (what strings.Compare calls): IT RETURNS 'Lib.compareBytes a b'; the world is as it was. (LAID: no walk: one application.) -/
theorem Try.bytealg_CompareString (a b : ByteArray) (w : World) :
    Calls Try.prog 154 #[.string a, .string b] w fun e w' => e = .returned (.int .i64 (Lib.compareBytes a.data.toList b.data.toList)) ∧ w' = w := Any.bytealg_CompareString Try.lays213 a b w
def Try.lays106_ren : Go.Shelf.Ren := ⟨fun | 106 => 111 | 213 => 154 | 265 => 192 | n => n, fun | 9 => 9 | 3 => 3 | n => n, fun | n => n⟩
theorem Try.lays106 : Go.Proofs.Lays.n106 Try.prog Try.lays106_ren := {
  mixed := by kernel_rfl
  f106 := Try.func111.trans (congrArg some (by kernel_rfl))
  f213 := Try.func154.trans (congrArg some (by kernel_rfl))
  f265 := Try.func192.trans (congrArg some (by kernel_rfl))
  t3 := Try.underlying3
  a3 := Try.isAgg3
  z3 := Try.sizeOf3
  v3 := Try.zeroValue3
  t9 := Try.underlying9
  a9 := Try.isAgg9
  z9 := Try.sizeOf9
  v9 := Try.zeroValue9 }
open Go.RowKit in
/-- strings.Compare: "Compare returns an integer comparing two strings lexicographically. The result will be 0 if a == b, -1 if a < b, and +1 if a > b.": IT RETURNS 'Lib.compareBytes a b'; the world is as it was. (LAID: no walk: one application.) -/
theorem Try.strings_Compare (a b : ByteArray) (w : World) :
    Calls Try.prog 111 #[.string a, .string b] w fun e w' => e = .returned (.int .i64 (Lib.compareBytes a.data.toList b.data.toList)) ∧ w' = w := Any.strings_Compare Try.lays106 a b w
end Go.Proofs
namespace Go.Proofs.Ytompindebndddaa
open Go.RowKit Go.Am
def ov0 : Ov := fun f => match f with
  | 155 => some joinA
  | 111 => some compareA
  | _ => none
theorem ov0_ok : OvS Try.prog tab.gs ov0 := by
  intro f g hg
  unfold ov0 at hg
  split at hg
  · cases hg
    exact ov1_join (run_enter tab_fits tab_fn155 rfl) Try.strings_Join_none Try.strings_Join
  · cases hg
    exact ov1_compare (run_enter tab_fits tab_fn111 rfl) Try.strings_Compare
  · cases hg
theorem lives13_run : fcall Try.prog tab ov0 100000 200 (.func 13) [] .empty isTrue = true := by kernel_rfl
theorem lives13_any (w : World) : Calls Try.prog 13 #[] w fun e w' => e = .returned (.bool true) ∧ Below w.heap.size w w' := closed_true mixed tab_fits rfl ov0_ok rfl lives13_run w
theorem lives28_run : fcall Try.prog tab ov0 100000 200 (.func 28) [] .empty isTrue = true := by kernel_rfl
theorem lives28_any (w : World) : Calls Try.prog 28 #[] w fun e w' => e = .returned (.bool true) ∧ Below w.heap.size w w' := closed_true mixed tab_fits rfl ov0_ok rfl lives28_run w
theorem lives36_run : fcall Try.prog tab ov0 100000 200 (.func 36) [] .empty isTrue = true := by kernel_rfl
theorem lives36_any (w : World) : Calls Try.prog 36 #[] w fun e w' => e = .returned (.bool true) ∧ Below w.heap.size w w' := closed_true mixed tab_fits rfl ov0_ok rfl lives36_run w
theorem lives55_run : fcall Try.prog tab ov0 100000 200 (.func 55) [] .empty isTrue = true := by kernel_rfl
theorem lives55_any (w : World) : Calls Try.prog 55 #[] w fun e w' => e = .returned (.bool true) ∧ Below w.heap.size w w' := closed_true mixed tab_fits rfl ov0_ok rfl lives55_run w
def ov : Ov := fun f => match f with
  | 155 => some joinA
  | 111 => some compareA
  | 13 => some trueA
  | 28 => some trueA
  | 36 => some trueA
  | 55 => some trueA
  | _ => none
theorem ov_ok : OvS Try.prog tab.gs ov := by
  intro f g hg
  unfold ov at hg
  split at hg
  · cases hg
    exact ov1_join (run_enter tab_fits tab_fn155 rfl) Try.strings_Join_none Try.strings_Join
  · cases hg
    exact ov1_compare (run_enter tab_fits tab_fn111 rfl) Try.strings_Compare
  · cases hg
    exact ov1_true (run_enter tab_fits tab_fn13 rfl) lives13_any
  · cases hg
    exact ov1_true (run_enter tab_fits tab_fn28 rfl) lives28_any
  · cases hg
    exact ov1_true (run_enter tab_fits tab_fn36 rfl) lives36_any
  · cases hg
    exact ov1_true (run_enter tab_fits tab_fn55 rfl) lives55_any
  · cases hg
#print axioms ov_ok
end Go.Proofs.Ytompindebndddaa
namespace Go.Proofs.Ytompindebndddaa
open Go.Am
theorem st4 (h : Heap) (l : List Blk) (w i o : Nat) (v : Value) (hi : i < l.length) : storeA tab 4 (.pointer (some ⟨h.size + i, o, none⟩)) v (h.lay l w) = if v.cells.size = 1 then storeO l[i]? i o v.cells.toList h l w else none := st_lay sz4 h l w i o v hi
theorem st3 (h : Heap) (l : List Blk) (w i o : Nat) (v : Value) (hi : i < l.length) : storeA tab 3 (.pointer (some ⟨h.size + i, o, none⟩)) v (h.lay l w) = if v.cells.size = 1 then storeO l[i]? i o v.cells.toList h l w else none := st_lay sz3 h l w i o v hi
theorem st9 (h : Heap) (l : List Blk) (w i o : Nat) (v : Value) (hi : i < l.length) : storeA tab 9 (.pointer (some ⟨h.size + i, o, none⟩)) v (h.lay l w) = if v.cells.size = 1 then storeO l[i]? i o v.cells.toList h l w else none := st_lay sz9 h l w i o v hi
theorem st36 (h : Heap) (l : List Blk) (w i o : Nat) (v : Value) (hi : i < l.length) : storeA tab 36 (.pointer (some ⟨h.size + i, o, none⟩)) v (h.lay l w) = if v.cells.size = 2 then storeO l[i]? i o v.cells.toList h l w else none := st_lay sz36 h l w i o v hi
theorem st39 (h : Heap) (l : List Blk) (w i o : Nat) (v : Value) (hi : i < l.length) : storeA tab 39 (.pointer (some ⟨h.size + i, o, none⟩)) v (h.lay l w) = if v.cells.size = 11 then storeO l[i]? i o v.cells.toList h l w else none := st_lay sz39 h l w i o v hi
theorem st47 (h : Heap) (l : List Blk) (w i o : Nat) (v : Value) (hi : i < l.length) : storeA tab 47 (.pointer (some ⟨h.size + i, o, none⟩)) v (h.lay l w) = if v.cells.size = 12 then storeO l[i]? i o v.cells.toList h l w else none := st_lay sz47 h l w i o v hi
theorem st41 (h : Heap) (l : List Blk) (w i o : Nat) (v : Value) (hi : i < l.length) : storeA tab 41 (.pointer (some ⟨h.size + i, o, none⟩)) v (h.lay l w) = if v.cells.size = 13 then storeO l[i]? i o v.cells.toList h l w else none := st_lay sz41 h l w i o v hi
theorem st192 (h : Heap) (l : List Blk) (w i o : Nat) (v : Value) (hi : i < l.length) : storeA tab 192 (.pointer (some ⟨h.size + i, o, none⟩)) v (h.lay l w) = if v.cells.size = 3 then storeO l[i]? i o v.cells.toList h l w else none := st_lay sz192 h l w i o v hi
theorem bin_atomE (a b : AtomD) : binA Try.prog tab .eql 39 a.val b.val = some (.bool (decide (a = b))) := by
  have h1 : binA Try.prog tab .eql 39 a.val b.val = (eqA a b).map fun b => .bool b := by kernel_rfl
  rw [h1, eqA_some]; rfl
theorem bin_termE (a b : TermD) : binA Try.prog tab .eql 36 a.val b.val = some (.bool (decide (a = b))) := by
  have h1 : binA Try.prog tab .eql 36 a.val b.val = (eqT a b).map fun b => .bool b := by kernel_rfl
  rw [h1, eqT_some]; rfl
theorem bin_termN (a b : TermD) : binA Try.prog tab .neq 36 a.val b.val = some (.bool (!decide (a = b))) := by
  have h1 : binA Try.prog tab .neq 36 a.val b.val = (eqT a b).map fun b => .bool !b := by kernel_rfl
  rw [h1, eqT_some]; rfl
theorem bool_neq (p q : Bool) : binA Try.prog tab .neq 4 (.bool p) (.bool q) = some (.bool (p != q)) := by cases p <;> cases q <;> kernel_rfl
theorem cat_ruleX {t : TypeId} {a b : ByteArray} {h : Heap} {K : Value → Heap → Prop} (hs : a.size + b.size ≤ 9223372036854775807) (hk : ∀ S : ByteArray, S = a ++ b → S.size = a.size + b.size → K (.string S) h) : valE (binA Try.prog tab .add t (.string a) (.string b)) h K := by
  rw [bin_cat hs]; exact hk _ rfl (ByteArray.size_append)
theorem bin_termN2 (v w : Bool) (s u : ByteArray) : binA Try.prog tab .neq 36 (.agg ⟨[.bool v, .string s]⟩) (.agg ⟨[.bool w, .string u]⟩) = some (.bool (!decide (TermD.mk v s = TermD.mk w u))) := bin_termN ⟨v, s⟩ ⟨w, u⟩
theorem bin_termE2 (v w : Bool) (s u : ByteArray) : binA Try.prog tab .eql 36 (.agg ⟨[.bool v, .string s]⟩) (.agg ⟨[.bool w, .string u]⟩) = some (.bool (decide (TermD.mk v s = TermD.mk w u))) := bin_termE ⟨v, s⟩ ⟨w, u⟩
theorem build_term2 : buildA tab 36 [] = some (.agg ⟨[.bool false, .string ⟨#[]⟩]⟩) := by kernel_rfl
theorem sty23 : srcTyA tab 23 23 = true := by kernel_rfl
theorem sty22 : srcTyA tab 22 22 = true := by kernel_rfl
end Go.Proofs.Ytompindebndddaa

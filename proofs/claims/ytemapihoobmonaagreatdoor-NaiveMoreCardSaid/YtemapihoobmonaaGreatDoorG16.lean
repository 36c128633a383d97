/-
  DERIVED: THE SHELF's CONTRACTS AT THIS DUMP, IN PLAIN WORDS (tools/lay-plain.mjs out of 'TryzShelf.lean', which tools/lay-shelf.mjs wrote): THE SAME DECLARATIONS UNDER THE SAME NAMES: 'import', 'namespace', 'open', 'def', 'theorem' AND NOTHING ELSE: no command of the shelf's: FOR A HAND-IN. Each laying: the table of numbers ('.._ren') and one theorem, a field a fact of the dump's own or the kernel's comparison; each contract: ONE APPLICATION.
-/
import Derived.Shelf.Strings.Builder1
import Derived.Shelf.Strings.Builder2
import Derived.Shelf.Strings.OnBuilder
import Derived.Shelf.Small.Strs
import Derived.Shelf.Sort.Plain
import Derived.Shelf.Strings.Fields
import Derived.Shelf.Unicode.Latin
import Derived.Shelf.Unicode.Is16White
import Derived.Shelf.Unicode.IsSpaceAny
import Derived.Shelf.Unicode.Is16Any
import Derived.Shelf.Unicode.Is32Any
import Derived.Shelf.Unicode.ExclAny
import Derived.Shelf.Slices.CompactS
import Derived.Shelf.Slices.In.SortNone
import Derived.Test.YtemapihoobmonaaGreatDoorProg
import Derived.Test.YtemapihoobmonaaGreatDoorGOv
import Derived.Test.YtemapihoobmonaaGreatDoorGEnd
import Derived.Test.YtemapihoobmonaaGreatDoorG11
import Derived.Test.YtemapihoobmonaaGreatDoorG10
import Derived.Test.YtemapihoobmonaaGreatDoorG15
import Derived.Test.YtemapihoobmonaaGreatDoorG13
import Derived.Test.YtemapihoobmonaaGreatDoorG12
namespace Go.Proofs
open Go.Shelf
def Tryz.lays156_ren : Go.Shelf.Ren := ⟨fun | 156 => 176 | 165 => 196 | 166 => 197 | 169 => 198 | 240 => 221 | 241 => 222 | 276 => 231 | 277 => 232 | n => n, fun | 31 => 49 | 9 => 9 | 3 => 3 | 4 => 4 | 0 => 0 | 20 => 20 | 72 => 206 | 76 => 210 | 70 => 204 | 37 => 118 | 75 => 209 | 127 => 222 | 164 => 231 | 5 => 5 | 80 => 150 | n => n, fun | n => n⟩
theorem Tryz.lays156 : Go.Proofs.Lays.n156 Tryz.prog Tryz.lays156_ren := {
  mixed := by kernel_rfl
  f156 := Tryz.func176.trans (congrArg some (by kernel_rfl))
  f165 := Tryz.func196.trans (congrArg some (by kernel_rfl))
  f166 := Tryz.func197.trans (congrArg some (by kernel_rfl))
  f169 := Tryz.func198.trans (congrArg some (by kernel_rfl))
  f240 := Tryz.func221.trans (congrArg some (by kernel_rfl))
  f241 := Tryz.func222.trans (congrArg some (by kernel_rfl))
  f276 := Tryz.func231.trans (congrArg some (by kernel_rfl))
  f277 := Tryz.func232.trans (congrArg some (by kernel_rfl))
  t0 := Tryz.underlying0
  a0 := Tryz.isAgg0
  z0 := Tryz.sizeOf0
  v0 := Tryz.zeroValue0
  t3 := Tryz.underlying3
  a3 := Tryz.isAgg3
  z3 := Tryz.sizeOf3
  v3 := Tryz.zeroValue3
  t4 := Tryz.underlying4
  a4 := Tryz.isAgg4
  z4 := Tryz.sizeOf4
  v4 := Tryz.zeroValue4
  t9 := Tryz.underlying9
  a9 := Tryz.isAgg9
  z9 := Tryz.sizeOf9
  v9 := Tryz.zeroValue9
  t20 := Tryz.underlying20
  a20 := Tryz.isAgg20
  z20 := Tryz.sizeOf20
  v20 := Tryz.zeroValue20
  t31 := Tryz.underlying49
  a31 := Tryz.isAgg49
  z31 := Tryz.sizeOf49
  v31 := Tryz.zeroValue49
  t37 := Tryz.underlying118
  a37 := Tryz.isAgg118
  z37 := Tryz.sizeOf118
  v37 := Tryz.zeroValue118
  t70 := Tryz.underlying204
  a70 := Tryz.isAgg204
  z70 := Tryz.sizeOf204
  v70 := Tryz.zeroValue204
  t72 := Tryz.underlying206
  a72 := Tryz.isAgg206
  z72 := Tryz.sizeOf206
  v72 := Tryz.zeroValue206
  t75 := Tryz.underlying209
  a75 := Tryz.isAgg209
  z75 := Tryz.sizeOf209
  v75 := Tryz.zeroValue209
  t76 := Tryz.underlying210
  a76 := Tryz.isAgg210
  z76 := Tryz.sizeOf210
  v76 := Tryz.zeroValue210
  t127 := Tryz.underlying222
  a127 := Tryz.isAgg222
  z127 := Tryz.sizeOf222
  v127 := Tryz.zeroValue222
  t164 := Tryz.underlying231
  a164 := Tryz.isAgg231
  z164 := Tryz.sizeOf231
  v164 := Tryz.zeroValue231 }
theorem Tryz.Builder_Extra_156 : Builder.Extra Tryz.prog Tryz.lays156_ren := {
  sizeBuilder := by kernel_rfl
  liesBuilder := by kernel_rfl
  t5 := Tryz.underlying5
  a5 := Tryz.isAgg5
  z5 := Tryz.sizeOf5
  v5 := Tryz.zeroValue5
  infoByte := by kernel_rfl
  cellsByte := by kernel_rfl
  sizeByte := by kernel_rfl
  neB5 := by decide }
open Go.RowKit in
theorem Tryz.strings_Join_none (a : Option Addr) (c : Nat) (sep : ByteArray) (w : World) :
    Calls Tryz.prog 176 #[.slice a 0 c, .string sep] w fun e w' => e = .returned (.string ⟨#[]⟩) ∧ w' = w := Any.strings_Join_none Tryz.lays156 Tryz.Builder_Extra_156 a c sep w
open Go.RowKit in
theorem Tryz.strings_Join (bk o c : Nat) (xs : List ByteArray) (sep : ByteArray) (w : World) (hcells : ∀ (j : Nat) x, xs[j]? = some x → w.cell? ⟨bk, o + j, none⟩ = some (.string x)) (hbk : bk < w.heap.size) (hN : xs.length ≤ 140737488355328) (hcap : xs.length ≤ c) (hlen : (Lib.join (xs.map (·.data.toList)) sep.data.toList).length ≤ 140737488355328) :
    Calls Tryz.prog 176 #[.slice (some ⟨bk, o, none⟩) xs.length c, .string sep] w fun e w' => e = .returned (.string ⟨(Lib.join (xs.map (·.data.toList)) sep.data.toList).toArray⟩) ∧ Below w.heap.size w w' := Any.strings_Join Tryz.lays156 Tryz.Builder_Extra_156 bk o c xs sep w hcells hbk hN hcap hlen
def Tryz.lays106_ren : Go.Shelf.Ren := ⟨fun | 106 => 135 | 213 => 175 | 265 => 195 | n => n, fun | 9 => 9 | 3 => 3 | n => n, fun | n => n⟩
theorem Tryz.lays106 : Go.Proofs.Lays.n106 Tryz.prog Tryz.lays106_ren := {
  mixed := by kernel_rfl
  f106 := Tryz.func135.trans (congrArg some (by kernel_rfl))
  f213 := Tryz.func175.trans (congrArg some (by kernel_rfl))
  f265 := Tryz.func195.trans (congrArg some (by kernel_rfl))
  t3 := Tryz.underlying3
  a3 := Tryz.isAgg3
  z3 := Tryz.sizeOf3
  v3 := Tryz.zeroValue3
  t9 := Tryz.underlying9
  a9 := Tryz.isAgg9
  z9 := Tryz.sizeOf9
  v9 := Tryz.zeroValue9 }
open Go.RowKit in
theorem Tryz.strings_Compare (a b : ByteArray) (w : World) :
    Calls Tryz.prog 135 #[.string a, .string b] w fun e w' => e = .returned (.int .i64 (Lib.compareBytes a.data.toList b.data.toList)) ∧ w' = w := Any.strings_Compare Tryz.lays106 a b w
def Tryz.lays157_ren : Go.Shelf.Ren := ⟨fun | 157 => 230 | 229 => 234 | 199 => 235 | 261 => 236 | 311 => 237 | 312 => 238 | n => n, fun | 9 => 9 | 31 => 49 | 3 => 3 | 5 => 5 | 4 => 4 | 119 => 237 | 0 => 0 | 40 => 239 | 152 => 240 | 21 => 21 | 154 => 242 | 51 => 151 | 141 => 244 | 196 => 248 | 193 => 245 | 198 => 251 | 49 => 249 | 194 => 246 | 201 => 254 | 226 => 256 | 46 => 200 | 227 => 257 | n => n, fun | 0 => 1 | 6 => 2 | n => n⟩
theorem Tryz.lays157 : Go.Proofs.Lays.n157 Tryz.prog Tryz.lays157_ren := {
  mixed := by kernel_rfl
  f157 := Tryz.func230.trans (congrArg some (by kernel_rfl))
  f199 := Tryz.func235.trans (congrArg some (by kernel_rfl))
  f229 := Tryz.func234.trans (congrArg some (by kernel_rfl))
  f261 := Tryz.func236.trans (congrArg some (by kernel_rfl))
  f311 := Tryz.func237.trans (congrArg some (by kernel_rfl))
  f312 := Tryz.func238.trans (congrArg some (by kernel_rfl))
  t0 := Tryz.underlying0
  a0 := Tryz.isAgg0
  z0 := Tryz.sizeOf0
  v0 := Tryz.zeroValue0
  t3 := Tryz.underlying3
  a3 := Tryz.isAgg3
  z3 := Tryz.sizeOf3
  v3 := Tryz.zeroValue3
  t4 := Tryz.underlying4
  a4 := Tryz.isAgg4
  z4 := Tryz.sizeOf4
  v4 := Tryz.zeroValue4
  t5 := Tryz.underlying5
  a5 := Tryz.isAgg5
  z5 := Tryz.sizeOf5
  v5 := Tryz.zeroValue5
  t9 := Tryz.underlying9
  a9 := Tryz.isAgg9
  z9 := Tryz.sizeOf9
  v9 := Tryz.zeroValue9
  t21 := Tryz.underlying21
  a21 := Tryz.isAgg21
  z21 := Tryz.sizeOf21
  v21 := Tryz.zeroValue21
  t31 := Tryz.underlying49
  a31 := Tryz.isAgg49
  z31 := Tryz.sizeOf49
  v31 := Tryz.zeroValue49
  t40 := Tryz.underlying239
  a40 := Tryz.isAgg239
  z40 := Tryz.sizeOf239
  v40 := Tryz.zeroValue239
  t46 := Tryz.underlying200
  a46 := Tryz.isAgg200
  z46 := Tryz.sizeOf200
  v46 := Tryz.zeroValue200
  t49 := Tryz.underlying249
  a49 := Tryz.isAgg249
  z49 := Tryz.sizeOf249
  v49 := Tryz.zeroValue249
  t51 := Tryz.underlying151
  a51 := Tryz.isAgg151
  z51 := Tryz.sizeOf151
  v51 := Tryz.zeroValue151
  t119 := Tryz.underlying237
  a119 := Tryz.isAgg237
  z119 := Tryz.sizeOf237
  t141 := Tryz.underlying244
  a141 := Tryz.isAgg244
  z141 := Tryz.sizeOf244
  v141 := Tryz.zeroValue244
  t152 := Tryz.underlying240
  a152 := Tryz.isAgg240
  z152 := Tryz.sizeOf240
  v152 := Tryz.zeroValue240
  t154 := Tryz.underlying242
  a154 := Tryz.isAgg242
  z154 := Tryz.sizeOf242
  v154 := Tryz.zeroValue242
  t193 := Tryz.underlying245
  a193 := Tryz.isAgg245
  z193 := Tryz.sizeOf245
  v193 := Tryz.zeroValue245
  t194 := Tryz.underlying246
  a194 := Tryz.isAgg246
  z194 := Tryz.sizeOf246
  v194 := Tryz.zeroValue246
  t196 := Tryz.underlying248
  a196 := Tryz.isAgg248
  z196 := Tryz.sizeOf248
  v196 := Tryz.zeroValue248
  t198 := Tryz.underlying251
  a198 := Tryz.isAgg251
  z198 := Tryz.sizeOf251
  v198 := Tryz.zeroValue251
  t201 := Tryz.underlying254
  a201 := Tryz.isAgg254
  z201 := Tryz.sizeOf254
  v201 := Tryz.zeroValue254
  t226 := Tryz.underlying256
  a226 := Tryz.isAgg256
  z226 := Tryz.sizeOf256
  v226 := Tryz.zeroValue256
  t227 := Tryz.underlying257
  a227 := Tryz.isAgg257
  z227 := Tryz.sizeOf257
  v227 := Tryz.zeroValue257
  g0 := by kernel_rfl
  g6 := by kernel_rfl }
end Go.Proofs
namespace Go.Proofs.YtemapihoobmonaaGreatDoor
open Go.RowKit Go.Am
noncomputable def ov0 : Ov := fun f => match f with
  | 230 => some (zfa 1 9)
  | 176 => some znr
  | 135 => some zfW
  | _ => none
theorem zys : OvS Tryz.prog tab.gs ov0 := by
  intro f g hg
  unfold ov0 at hg
  split at hg
  · cases hg
    exact zjs (g := 1) (by decide) (zc4 zcM zk9 rfl) (fun s w hs ha hc => Any.strings_Fields_core Tryz.lays157 (by kernel_rfl) s w hs ha hc)
  · cases hg
    exact zoD (zc4 zcM zlE rfl) Tryz.strings_Join_none Tryz.strings_Join
  · cases hg
    exact zhp (zc4 zcM zk1 rfl) Tryz.strings_Compare
  · cases hg
theorem znY : zmX Tryz.prog tab ov0 100000 200 (.func 10) [] (zbs 1) (zho 2) = true := by kernel_rfl
theorem zn3 (w : World) (ht : ∀ c, c < 256 → w.cell? ⟨1, c, none⟩ = some (.int .u8 (Lib.asciiSpaceTab.getD c 0))) : Calls Tryz.prog 10 #[] w fun e w' => e = .returned (.bool true) ∧ Below w.heap.size w w' := zqr mixed zcM rfl zys rfl znY w ht
noncomputable def ov : Ov := fun f => match f with
  | 230 => some (zfa 1 9)
  | 176 => some znr
  | 135 => some zfW
  | 10 => some (zpY 1)
  | _ => none
theorem zzk : OvS Tryz.prog tab.gs ov := by
  intro f g hg
  unfold ov at hg
  split at hg
  · cases hg
    exact zjs (g := 1) (by decide) (zc4 zcM zk9 rfl) (fun s w hs ha hc => Any.strings_Fields_core Tryz.lays157 (by kernel_rfl) s w hs ha hc)
  · cases hg
    exact zoD (zc4 zcM zlE rfl) Tryz.strings_Join_none Tryz.strings_Join
  · cases hg
    exact zhp (zc4 zcM zk1 rfl) Tryz.strings_Compare
  · cases hg
    exact ztS (g := 1) (by decide) (zc4 zcM zuR rfl) zn3
  · cases hg
end Go.Proofs.YtemapihoobmonaaGreatDoor
namespace Go.Proofs.YtemapihoobmonaaGreatDoor
open Go.Am
theorem st4 (h : Heap) (l : List Blk) (w i o : Nat) (v : Value) (hi : i < l.length) : za4 tab 4 (.pointer (some ⟨h.size + i, o, none⟩)) v (h.lay l w) = if v.cells.size = 1 then zey l[i]? i o v.cells.toList h l w else none := zgR sz4 h l w i o v hi
theorem st3 (h : Heap) (l : List Blk) (w i o : Nat) (v : Value) (hi : i < l.length) : za4 tab 3 (.pointer (some ⟨h.size + i, o, none⟩)) v (h.lay l w) = if v.cells.size = 1 then zey l[i]? i o v.cells.toList h l w else none := zgR sz3 h l w i o v hi
theorem st9 (h : Heap) (l : List Blk) (w i o : Nat) (v : Value) (hi : i < l.length) : za4 tab 9 (.pointer (some ⟨h.size + i, o, none⟩)) v (h.lay l w) = if v.cells.size = 1 then zey l[i]? i o v.cells.toList h l w else none := zgR sz9 h l w i o v hi
theorem st23 (h : Heap) (l : List Blk) (w i o : Nat) (v : Value) (hi : i < l.length) : za4 tab 23 (.pointer (some ⟨h.size + i, o, none⟩)) v (h.lay l w) = if v.cells.size = 2 then zey l[i]? i o v.cells.toList h l w else none := zgR sz23 h l w i o v hi
theorem st26 (h : Heap) (l : List Blk) (w i o : Nat) (v : Value) (hi : i < l.length) : za4 tab 26 (.pointer (some ⟨h.size + i, o, none⟩)) v (h.lay l w) = if v.cells.size = 11 then zey l[i]? i o v.cells.toList h l w else none := zgR sz26 h l w i o v hi
theorem st29 (h : Heap) (l : List Blk) (w i o : Nat) (v : Value) (hi : i < l.length) : za4 tab 29 (.pointer (some ⟨h.size + i, o, none⟩)) v (h.lay l w) = if v.cells.size = 12 then zey l[i]? i o v.cells.toList h l w else none := zgR sz29 h l w i o v hi
theorem zcj (h : Heap) (l : List Blk) (w i o : Nat) (v : Value) (hi : i < l.length) : za4 tab 141 (.pointer (some ⟨h.size + i, o, none⟩)) v (h.lay l w) = if v.cells.size = 3 then zey l[i]? i o v.cells.toList h l w else none := zgR zfv h l w i o v hi
theorem zrY (a b : AtomD) : binA Tryz.prog tab .neq 26 a.val b.val = some (.bool (!decide (a = b))) := by
  have h1 : binA Tryz.prog tab .neq 26 a.val b.val = (eqA a b).map fun b => .bool !b := by kernel_rfl
  rw [h1, zo6]; rfl
theorem zlO (a b : TermD) : binA Tryz.prog tab .eql 23 a.val b.val = some (.bool (decide (a = b))) := by
  have h1 : binA Tryz.prog tab .eql 23 a.val b.val = (eqT a b).map fun b => .bool b := by kernel_rfl
  rw [h1, zkM]; rfl
theorem zlJ (a b : TermD) : binA Tryz.prog tab .neq 23 a.val b.val = some (.bool (!decide (a = b))) := by
  have h1 : binA Tryz.prog tab .neq 23 a.val b.val = (eqT a b).map fun b => .bool !b := by kernel_rfl
  rw [h1, zkM]; rfl
theorem zvo (p q : Bool) : binA Tryz.prog tab .eql 4 (.bool p) (.bool q) = some (.bool (p == q)) := by cases p <;> cases q <;> kernel_rfl
theorem zbw {t : TypeId} {a b : ByteArray} {h : Heap} {K : Value → Heap → Prop} (hs : a.size + b.size ≤ 9223372036854775807) (hk : ∀ S : ByteArray, S = a ++ b → S.size = a.size + b.size → K (.string S) h) : valE (binA Tryz.prog tab .add t (.string a) (.string b)) h K := by
  rw [zwD hs]; exact hk _ rfl (ByteArray.size_append)
theorem zqN (v w : Bool) (s u : ByteArray) : binA Tryz.prog tab .neq 23 (.agg ⟨[.bool v, .string s]⟩) (.agg ⟨[.bool w, .string u]⟩) = some (.bool (!decide (TermD.mk v s = TermD.mk w u))) := zlJ ⟨v, s⟩ ⟨w, u⟩
theorem zpQ (v w : Bool) (s u : ByteArray) : binA Tryz.prog tab .eql 23 (.agg ⟨[.bool v, .string s]⟩) (.agg ⟨[.bool w, .string u]⟩) = some (.bool (decide (TermD.mk v s = TermD.mk w u))) := zlO ⟨v, s⟩ ⟨w, u⟩
theorem znL : zdk tab 23 [] = some (.agg ⟨[.bool false, .string ⟨#[]⟩]⟩) := by kernel_rfl
theorem zqF : ze6 tab 27 27 = true := by kernel_rfl
theorem zmL : ze6 tab 32 32 = true := by kernel_rfl
end Go.Proofs.YtemapihoobmonaaGreatDoor
namespace Go.Am
theorem znv (b : Bool) : zf6 undef b = false := rfl
theorem zvt (e : Env) (d : Nat) (v : Value) : put e (some d) v = Env.set e d v := rfl
theorem zuf (e : Env) (v : Value) : put e none v = e := rfl
theorem zvb (v : Value) (r : Env) : Env.get (v :: r) 0 = v := rfl
theorem zvq (v : Value) (r : Env) (n : Nat) : Env.get (v :: r) (n + 1) = Env.get r n := rfl
theorem zvR (x v : Value) (r : Env) : Env.set (x :: r) 0 v = v :: r := rfl
theorem zvc (x v : Value) (r : Env) (n : Nat) : Env.set (x :: r) (n + 1) v = x :: Env.set r n v := rfl
theorem zx3 (e : Env) (t : Nat) : zab e (.tmp t) = e.get t := rfl
theorem zvL (e : Env) (v : Value) : zab e (.const v) = v := rfl
theorem zrO (e : Env) (g : Nat) : zab e (.global g) = .pointer (some ⟨g, 0, none⟩) := rfl
theorem zxA (e : Env) (f : FuncId) : zab e (.func f) = .func (.func f) #[] #[] := rfl
theorem zqh (b : Bool) : (Value.bool b).cells = #[.bool b] := rfl
theorem ztr (k : IntKind) (i : Int) : (Value.int k i).cells = #[.int k i] := rfl
theorem zmr (s : ByteArray) : (Value.string s).cells = #[.string s] := rfl
theorem znh (a : Option Addr) (n c : Nat) : (Value.slice a n c).cells = #[.slice a n c] := rfl
theorem zj9 (a : Option Addr) : (Value.pointer a).cells = #[.pointer a] := rfl
theorem zs0 (a : Option Nat) : (Value.map a).cells = #[.map a] := rfl
theorem zqd (f : Fn) (a b : Array Value) : (Value.func f a b).cells = #[.func f a b] := rfl
theorem znj (t : TypeId) (v : Value) : (Value.iface t v).cells = #[.iface t v] := rfl
theorem ztD (cs : Array Value) : (Value.agg cs).cells = cs := rfl
theorem zrP (z : List Value) (n : Nat) : zbC z n = (List.replicate n z).flatten := rfl
theorem zqB (cs : List Value) (o : Nat) (vs : List Value) : splice cs o vs = cs.take o ++ vs ++ cs.drop (o + vs.length) := rfl
theorem zxd (cs : List Value) (o n : Nat) : cut cs o n = if o + n ≤ cs.length then some ((cs.drop o).take n) else none := rfl
def jr (J : Nat → Value) : Nat → Nat → Env → Env
  | _, 0, r => r
  | a, n + 1, r => J a :: jr J (a + 1) n r
theorem zxE (J : Nat → Value) (a : Nat) (r : Env) : jr J a 0 r = r := rfl
theorem zwq (J : Nat → Value) (a n : Nat) (r : Env) : jr J a (n + 1) r = J a :: jr J (a + 1) n r := rfl
noncomputable def ysymx := PLift.up (And.intro @zxE <| And.intro @zwq <| And.intro @znv <| And.intro @zvt <| And.intro @zuf <| And.intro @zvb <| And.intro @zvq <| And.intro @zvR <| And.intro @zvc <| And.intro @zx3 <| And.intro @zvL <| And.intro @zrO <| And.intro @zxA <| And.intro @zqh <| And.intro @ztr <| And.intro @zmr <| And.intro @znh <| And.intro @zj9 <| And.intro @zs0 <| And.intro @zqd <| And.intro @znj <| And.intro @ztD <| And.intro @zrP <| And.intro @zqB <| And.intro @zxd <| And.intro @Option.map_some.{0,0} <| And.intro @Option.bind_some.{0,0} <| And.intro @List.length_cons.{0} <| And.intro @List.length_nil.{0} <| And.intro @List.cons_append.{0} <| And.intro @List.nil_append.{0} <| And.intro @List.getElem?_cons_zero.{0} <| And.intro @List.getElem?_cons_succ.{0} <| And.intro @decide_true <| And.intro @decide_false <| And.intro @Int.cast_ofNat_Int <| And.intro @Int.zero_le_ofNat <| And.intro @Int.le_refl <| And.intro @and_self <| And.intro @and_true <| And.intro @true_and <| And.intro @if_true.{1} <| And.intro @if_false.{1} <| And.intro @Nat.zero_add <| And.intro @Bool.not_true <| And.intro @Bool.not_false <| And.intro @Int.toNat_natCast <| And.intro @zrS <| And.intro @zrN <| And.intro @List.replicate_zero.{0} <| And.intro @List.replicate_succ.{0} <| And.intro @List.flatten_cons.{0} <| And.intro @List.flatten_nil.{0} <| And.intro @List.take_succ_cons.{0} <| And.intro @List.take_zero.{0} <| And.intro @List.drop_succ_cons.{0} <| And.intro @List.drop_zero.{0} <| And.intro @List.append_nil.{0} <| And.intro @Bool.or_self <| And.intro @Bool.false_eq_true <| And.intro @beq_self_eq_true.{0} <| And.intro @List.size_toArray.{0} <| And.intro @List.append_assoc.{0} <| And.intro @zw7 <| And.intro @zwM <| And.intro @zdy <| And.intro @ztC <| And.intro @zrG <| And.intro @zmO <| And.intro @zla <| And.intro @zjZ <| And.intro @zlI <| And.intro @zkQ <| And.intro @zk4 <| And.intro @zmZ <| And.intro @znT <| And.intro @zs8 <| And.intro @zap <| @zad)
theorem symx : type_of% ysymx.down := ysymx.down
end Go.Am

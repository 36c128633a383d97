/-
  DERIVED: THE SHELF's CONTRACTS AT THIS DUMP, IN PLAIN WORDS (tools/lay-plain.mjs out of 'TryzShelf.lean', which tools/lay-shelf.mjs wrote): THE SAME DECLARATIONS UNDER THE SAME NAMES: 'import', 'namespace', 'open', 'def', 'theorem' AND NOTHING ELSE: no command of the shelf's: FOR A HAND-IN. Each laying: the table of numbers ('.._ren') and one theorem, a field a fact of the dump's own or the kernel's comparison; each contract: ONE APPLICATION.
-/
import Derived.Shelf.Strings.Builder1
import Derived.Shelf.Strings.Builder2
import Derived.Shelf.Strings.OnBuilder
import Derived.Shelf.Small.Strs
import Derived.Shelf.Sort.Plain
import Derived.Shelf.Strings.Fields
import Derived.Shelf.Unicode.Latin
import Derived.Shelf.Unicode.Is16White
import Derived.Shelf.Unicode.IsSpaceAny
import Derived.Shelf.Unicode.Is16Any
import Derived.Shelf.Unicode.Is32Any
import Derived.Shelf.Unicode.ExclAny
import Derived.Shelf.Slices.CompactS
import Derived.Shelf.Slices.In.SortNone
import Derived.Test.YtemapihoobmonaaGreatDoorProg
import Derived.Test.YtemapihoobmonaaGreatDoorG9
import Derived.Test.YtemapihoobmonaaGreatDoorGEnd
import Derived.Test.YtemapihoobmonaaGreatDoorG10
import Derived.Test.YtemapihoobmonaaGreatDoorG14
import Derived.Test.YtemapihoobmonaaGreatDoorG25
import Derived.Test.YtemapihoobmonaaGreatDoorG12
namespace Go.Proofs
open Go.Shelf
def Tryz.lays156_ren:Go.Shelf.Ren:=⟨fun | 156=>176 | 165=>196 | 166=>197 | 169=>198 | 240=>221 | 241=>222 | 276=>231 | 277=>232 | n=>n,fun | 31=>49 | 9=>9 | 3=>3 | 4=>4 | 0=>0 | 20=>20 | 72=>206 | 76=>210 | 70=>204 | 37=>118 | 75=>209 | 127=>222 | 164=>231 | 5=>5 | 80=>150 | n=>n,fun | n=>n⟩
theorem Tryz.lays156:Go.Proofs.Lays.n156 Tryz.prog Tryz.lays156_ren:={
  mixed:=by kernel_rfl
  f156:=Tryz.func176.trans (congrArg some (by kernel_rfl))
  f165:=Tryz.func196.trans (congrArg some (by kernel_rfl))
  f166:=Tryz.func197.trans (congrArg some (by kernel_rfl))
  f169:=Tryz.func198.trans (congrArg some (by kernel_rfl))
  f240:=Tryz.func221.trans (congrArg some (by kernel_rfl))
  f241:=Tryz.func222.trans (congrArg some (by kernel_rfl))
  f276:=Tryz.func231.trans (congrArg some (by kernel_rfl))
  f277:=Tryz.func232.trans (congrArg some (by kernel_rfl))
  t0:=Tryz.underlying0
  a0:=Tryz.isAgg0
  z0:=Tryz.sizeOf0
  v0:=Tryz.zeroValue0
  t3:=Tryz.underlying3
  a3:=Tryz.isAgg3
  z3:=Tryz.sizeOf3
  v3:=Tryz.zeroValue3
  t4:=Tryz.underlying4
  a4:=Tryz.isAgg4
  z4:=Tryz.sizeOf4
  v4:=Tryz.zeroValue4
  t9:=Tryz.underlying9
  a9:=Tryz.isAgg9
  z9:=Tryz.sizeOf9
  v9:=Tryz.zeroValue9
  t20:=Tryz.underlying20
  a20:=Tryz.isAgg20
  z20:=Tryz.sizeOf20
  v20:=Tryz.zeroValue20
  t31:=Tryz.underlying49
  a31:=Tryz.isAgg49
  z31:=Tryz.sizeOf49
  v31:=Tryz.zeroValue49
  t37:=Tryz.underlying118
  a37:=Tryz.isAgg118
  z37:=Tryz.sizeOf118
  v37:=Tryz.zeroValue118
  t70:=Tryz.underlying204
  a70:=Tryz.isAgg204
  z70:=Tryz.sizeOf204
  v70:=Tryz.zeroValue204
  t72:=Tryz.underlying206
  a72:=Tryz.isAgg206
  z72:=Tryz.sizeOf206
  v72:=Tryz.zeroValue206
  t75:=Tryz.underlying209
  a75:=Tryz.isAgg209
  z75:=Tryz.sizeOf209
  v75:=Tryz.zeroValue209
  t76:=Tryz.underlying210
  a76:=Tryz.isAgg210
  z76:=Tryz.sizeOf210
  v76:=Tryz.zeroValue210
  t127:=Tryz.underlying222
  a127:=Tryz.isAgg222
  z127:=Tryz.sizeOf222
  v127:=Tryz.zeroValue222
  t164:=Tryz.underlying231
  a164:=Tryz.isAgg231
  z164:=Tryz.sizeOf231
  v164:=Tryz.zeroValue231 }
theorem Tryz.Builder_Extra_156:Builder.Extra Tryz.prog Tryz.lays156_ren:={
  sizeBuilder:=by kernel_rfl
  liesBuilder:=by kernel_rfl
  t5:=Tryz.underlying5
  a5:=Tryz.isAgg5
  z5:=Tryz.sizeOf5
  v5:=Tryz.zeroValue5
  infoByte:=by kernel_rfl
  cellsByte:=by kernel_rfl
  sizeByte:=by kernel_rfl
  neB5:=by decide }
open Go.RowKit in
theorem Tryz.strings_Join_none (a:Option Addr) (c:Nat) (sep:ByteArray) (w:World) :
    Calls Tryz.prog 176 #[.slice a 0 c,.string sep] w fun e w'=>e=.returned (.string ⟨#[]⟩)∧w'=w:=Any.strings_Join_none Tryz.lays156 Tryz.Builder_Extra_156 a c sep w
open Go.RowKit in
theorem Tryz.strings_Join (bk o c:Nat) (xs:List ByteArray) (sep:ByteArray) (w:World) (hcells:∀ (j:Nat) x,xs[j]? = some x→w.cell? ⟨bk,o+j,none⟩=some (.string x)) (hbk:bk < w.heap.size) (hN:xs.length≤140737488355328) (hcap:xs.length≤c) (hlen:(Lib.join (xs.map (·.data.toList)) sep.data.toList).length≤140737488355328) :
    Calls Tryz.prog 176 #[.slice (some ⟨bk,o,none⟩) xs.length c,.string sep] w fun e w'=>e=.returned (.string ⟨(Lib.join (xs.map (·.data.toList)) sep.data.toList).toArray⟩)∧Below w.heap.size w w':=Any.strings_Join Tryz.lays156 Tryz.Builder_Extra_156 bk o c xs sep w hcells hbk hN hcap hlen
def Tryz.lays106_ren:Go.Shelf.Ren:=⟨fun | 106=>135 | 213=>175 | 265=>195 | n=>n,fun | 9=>9 | 3=>3 | n=>n,fun | n=>n⟩
theorem Tryz.lays106:Go.Proofs.Lays.n106 Tryz.prog Tryz.lays106_ren:={
  mixed:=by kernel_rfl
  f106:=Tryz.func135.trans (congrArg some (by kernel_rfl))
  f213:=Tryz.func175.trans (congrArg some (by kernel_rfl))
  f265:=Tryz.func195.trans (congrArg some (by kernel_rfl))
  t3:=Tryz.underlying3
  a3:=Tryz.isAgg3
  z3:=Tryz.sizeOf3
  v3:=Tryz.zeroValue3
  t9:=Tryz.underlying9
  a9:=Tryz.isAgg9
  z9:=Tryz.sizeOf9
  v9:=Tryz.zeroValue9 }
open Go.RowKit in
theorem Tryz.strings_Compare (a b:ByteArray) (w:World) :
    Calls Tryz.prog 135 #[.string a,.string b] w fun e w'=>e=.returned (.int .i64 (Lib.compareBytes a.data.toList b.data.toList))∧w'=w:=Any.strings_Compare Tryz.lays106 a b w
def Tryz.lays190_ren:Go.Shelf.Ren:=⟨fun | 190=>144 | 125=>179 | 258=>178 | 128=>211 | 129=>212 | 302=>202 | 303=>203 | 304=>204 | 305=>205 | 306=>206 | 307=>207 | 308=>208 | 309=>209 | 310=>210 | 333=>224 | 329=>225 | 330=>226 | 334=>227 | 335=>228 | 336=>229 | 344=>233 | n=>n,fun | 31=>49 | 9=>9 | 3=>3 | 46=>200 | 0=>0 | 51=>151 | 53=>201 | 4=>4 | 183=>214 | 182=>213 | 131=>154 | 5=>5 | 218=>224 | 222=>228 | 228=>234 | 229=>235 | n=>n,fun | n=>n⟩
theorem Tryz.lays190:Go.Proofs.Lays.n190 Tryz.prog Tryz.lays190_ren:={
  mixed:=by kernel_rfl
  f125:=Tryz.func179.trans (congrArg some (by kernel_rfl))
  f128:=Tryz.func211.trans (congrArg some (by kernel_rfl))
  f129:=Tryz.func212.trans (congrArg some (by kernel_rfl))
  f190:=Tryz.func144.trans (congrArg some (by kernel_rfl))
  f258:=Tryz.func178.trans (congrArg some (by kernel_rfl))
  f302:=Tryz.func202.trans (congrArg some (by kernel_rfl))
  f303:=Tryz.func203.trans (congrArg some (by kernel_rfl))
  f304:=Tryz.func204.trans (congrArg some (by kernel_rfl))
  f305:=Tryz.func205.trans (congrArg some (by kernel_rfl))
  f306:=Tryz.func206.trans (congrArg some (by kernel_rfl))
  f307:=Tryz.func207.trans (congrArg some (by kernel_rfl))
  f308:=Tryz.func208.trans (congrArg some (by kernel_rfl))
  f309:=Tryz.func209.trans (congrArg some (by kernel_rfl))
  f310:=Tryz.func210.trans (congrArg some (by kernel_rfl))
  f329:=Tryz.func225.trans (congrArg some (by kernel_rfl))
  f330:=Tryz.func226.trans (congrArg some (by kernel_rfl))
  f333:=Tryz.func224.trans (congrArg some (by kernel_rfl))
  f334:=Tryz.func227.trans (congrArg some (by kernel_rfl))
  f335:=Tryz.func228.trans (congrArg some (by kernel_rfl))
  f336:=Tryz.func229.trans (congrArg some (by kernel_rfl))
  f344:=Tryz.func233.trans (congrArg some (by kernel_rfl))
  t0:=Tryz.underlying0
  a0:=Tryz.isAgg0
  z0:=Tryz.sizeOf0
  v0:=Tryz.zeroValue0
  t3:=Tryz.underlying3
  a3:=Tryz.isAgg3
  z3:=Tryz.sizeOf3
  v3:=Tryz.zeroValue3
  t4:=Tryz.underlying4
  a4:=Tryz.isAgg4
  z4:=Tryz.sizeOf4
  v4:=Tryz.zeroValue4
  t5:=Tryz.underlying5
  a5:=Tryz.isAgg5
  z5:=Tryz.sizeOf5
  v5:=Tryz.zeroValue5
  t9:=Tryz.underlying9
  a9:=Tryz.isAgg9
  z9:=Tryz.sizeOf9
  v9:=Tryz.zeroValue9
  t31:=Tryz.underlying49
  a31:=Tryz.isAgg49
  z31:=Tryz.sizeOf49
  v31:=Tryz.zeroValue49
  t46:=Tryz.underlying200
  a46:=Tryz.isAgg200
  z46:=Tryz.sizeOf200
  v46:=Tryz.zeroValue200
  t51:=Tryz.underlying151
  a51:=Tryz.isAgg151
  z51:=Tryz.sizeOf151
  v51:=Tryz.zeroValue151
  t53:=Tryz.underlying201
  a53:=Tryz.isAgg201
  z53:=Tryz.sizeOf201
  v53:=Tryz.zeroValue201
  t131:=Tryz.underlying154
  a131:=Tryz.isAgg154
  z131:=Tryz.sizeOf154
  v131:=Tryz.zeroValue154
  t182:=Tryz.underlying213
  a182:=Tryz.isAgg213
  z182:=Tryz.sizeOf213
  v182:=Tryz.zeroValue213
  t183:=Tryz.underlying214
  a183:=Tryz.isAgg214
  z183:=Tryz.sizeOf214
  v183:=Tryz.zeroValue214
  t218:=Tryz.underlying224
  a218:=Tryz.isAgg224
  z218:=Tryz.sizeOf224
  v218:=Tryz.zeroValue224
  t222:=Tryz.underlying228
  a222:=Tryz.isAgg228
  z222:=Tryz.sizeOf228
  v222:=Tryz.zeroValue228
  t228:=Tryz.underlying234
  a228:=Tryz.isAgg234
  z228:=Tryz.sizeOf234
  v228:=Tryz.zeroValue234
  t229:=Tryz.underlying235
  a229:=Tryz.isAgg235
  z229:=Tryz.sizeOf235
  v229:=Tryz.zeroValue235 }
open Go.Sort Go.RowKit in
theorem Tryz.slices_Sort_string (blk off cap:Nat) (ss:List (List UInt8)) (w:World) (hH:Holds encStr w blk off ss.toArray) (hblk:blk < w.heap.size) (hsz:ss.length < 4611686018427387904) :
    Calls Tryz.prog 144 #[.slice (some ⟨blk,off,none⟩) ss.length cap] w fun e w' =>
      e=.returned (.tuple #[])∧∃ n os,w'=grow (putRow encStr (Sort.ahead w n) blk off (ss.mergeSort fun x y=>decide (x≤y)).toArray) os:=Any.slices_Sort_string Tryz.lays190 blk off cap ss w hH hblk hsz
def Tryz.lays157_ren:Go.Shelf.Ren:=⟨fun | 157=>230 | 229=>234 | 199=>235 | 261=>236 | 311=>237 | 312=>238 | n=>n,fun | 9=>9 | 31=>49 | 3=>3 | 5=>5 | 4=>4 | 119=>237 | 0=>0 | 40=>239 | 152=>240 | 21=>21 | 154=>242 | 51=>151 | 141=>244 | 196=>248 | 193=>245 | 198=>251 | 49=>249 | 194=>246 | 201=>254 | 226=>256 | 46=>200 | 227=>257 | n=>n,fun | 0=>1 | 6=>2 | n=>n⟩
theorem Tryz.lays157:Go.Proofs.Lays.n157 Tryz.prog Tryz.lays157_ren:={
  mixed:=by kernel_rfl
  f157:=Tryz.func230.trans (congrArg some (by kernel_rfl))
  f199:=Tryz.func235.trans (congrArg some (by kernel_rfl))
  f229:=Tryz.func234.trans (congrArg some (by kernel_rfl))
  f261:=Tryz.func236.trans (congrArg some (by kernel_rfl))
  f311:=Tryz.func237.trans (congrArg some (by kernel_rfl))
  f312:=Tryz.func238.trans (congrArg some (by kernel_rfl))
  t0:=Tryz.underlying0
  a0:=Tryz.isAgg0
  z0:=Tryz.sizeOf0
  v0:=Tryz.zeroValue0
  t3:=Tryz.underlying3
  a3:=Tryz.isAgg3
  z3:=Tryz.sizeOf3
  v3:=Tryz.zeroValue3
  t4:=Tryz.underlying4
  a4:=Tryz.isAgg4
  z4:=Tryz.sizeOf4
  v4:=Tryz.zeroValue4
  t5:=Tryz.underlying5
  a5:=Tryz.isAgg5
  z5:=Tryz.sizeOf5
  v5:=Tryz.zeroValue5
  t9:=Tryz.underlying9
  a9:=Tryz.isAgg9
  z9:=Tryz.sizeOf9
  v9:=Tryz.zeroValue9
  t21:=Tryz.underlying21
  a21:=Tryz.isAgg21
  z21:=Tryz.sizeOf21
  v21:=Tryz.zeroValue21
  t31:=Tryz.underlying49
  a31:=Tryz.isAgg49
  z31:=Tryz.sizeOf49
  v31:=Tryz.zeroValue49
  t40:=Tryz.underlying239
  a40:=Tryz.isAgg239
  z40:=Tryz.sizeOf239
  v40:=Tryz.zeroValue239
  t46:=Tryz.underlying200
  a46:=Tryz.isAgg200
  z46:=Tryz.sizeOf200
  v46:=Tryz.zeroValue200
  t49:=Tryz.underlying249
  a49:=Tryz.isAgg249
  z49:=Tryz.sizeOf249
  v49:=Tryz.zeroValue249
  t51:=Tryz.underlying151
  a51:=Tryz.isAgg151
  z51:=Tryz.sizeOf151
  v51:=Tryz.zeroValue151
  t119:=Tryz.underlying237
  a119:=Tryz.isAgg237
  z119:=Tryz.sizeOf237
  t141:=Tryz.underlying244
  a141:=Tryz.isAgg244
  z141:=Tryz.sizeOf244
  v141:=Tryz.zeroValue244
  t152:=Tryz.underlying240
  a152:=Tryz.isAgg240
  z152:=Tryz.sizeOf240
  v152:=Tryz.zeroValue240
  t154:=Tryz.underlying242
  a154:=Tryz.isAgg242
  z154:=Tryz.sizeOf242
  v154:=Tryz.zeroValue242
  t193:=Tryz.underlying245
  a193:=Tryz.isAgg245
  z193:=Tryz.sizeOf245
  v193:=Tryz.zeroValue245
  t194:=Tryz.underlying246
  a194:=Tryz.isAgg246
  z194:=Tryz.sizeOf246
  v194:=Tryz.zeroValue246
  t196:=Tryz.underlying248
  a196:=Tryz.isAgg248
  z196:=Tryz.sizeOf248
  v196:=Tryz.zeroValue248
  t198:=Tryz.underlying251
  a198:=Tryz.isAgg251
  z198:=Tryz.sizeOf251
  v198:=Tryz.zeroValue251
  t201:=Tryz.underlying254
  a201:=Tryz.isAgg254
  z201:=Tryz.sizeOf254
  v201:=Tryz.zeroValue254
  t226:=Tryz.underlying256
  a226:=Tryz.isAgg256
  z226:=Tryz.sizeOf256
  v226:=Tryz.zeroValue256
  t227:=Tryz.underlying257
  a227:=Tryz.isAgg257
  z227:=Tryz.sizeOf257
  v227:=Tryz.zeroValue257
  g0:=by kernel_rfl
  g6:=by kernel_rfl }
def Tryz.lays194_ren:Go.Shelf.Ren:=⟨fun | 194=>145 | n=>n,fun | 31=>49 | 9=>9 | 3=>3 | 4=>4 | 0=>0 | n=>n,fun | n=>n⟩
theorem Tryz.lays194:Go.Proofs.Lays.n194 Tryz.prog Tryz.lays194_ren:={
  mixed:=by kernel_rfl
  f194:=Tryz.func145.trans (congrArg some (by kernel_rfl))
  t0:=Tryz.underlying0
  a0:=Tryz.isAgg0
  z0:=Tryz.sizeOf0
  v0:=Tryz.zeroValue0
  t3:=Tryz.underlying3
  a3:=Tryz.isAgg3
  z3:=Tryz.sizeOf3
  v3:=Tryz.zeroValue3
  t4:=Tryz.underlying4
  a4:=Tryz.isAgg4
  z4:=Tryz.sizeOf4
  v4:=Tryz.zeroValue4
  t9:=Tryz.underlying9
  a9:=Tryz.isAgg9
  z9:=Tryz.sizeOf9
  v9:=Tryz.zeroValue9
  t31:=Tryz.underlying49
  a31:=Tryz.isAgg49
  z31:=Tryz.sizeOf49
  v31:=Tryz.zeroValue49 }
open Go.RowKit Go.Lib Go.Sort in
theorem Tryz.slices_Compact_string (blk off cap:Nat) (zs:List (List UInt8)) (w:World) (hH:Holds encStr w blk off zs.toArray) (hsz:zs.length≤9223372036854775807) (hcap:zs.length≤cap) :
    Calls Tryz.prog 145 #[.slice (some ⟨blk,off,none⟩) zs.length cap] w fun e w'=>e=.returned (.slice (some ⟨blk,off,none⟩) (Lib.compact zs).length cap)∧∃ q,w'=putRow encStr (Sort.ahead w q) blk off (Lib.compact zs++List.replicate (zs.length - (Lib.compact zs).length) []).toArray:=Any.slices_Compact_string Tryz.lays194 blk off cap zs w hH hsz hcap
open Go.RowKit Go.Lib Go.Sort in
theorem Tryz.slices_Compact_string_empty (a:Option Addr) (cap:Nat) (w:World) :
    Calls Tryz.prog 145 #[.slice a 0 cap] w fun e w'=>e=.returned (.slice a 0 cap)∧w'=w:=Any.slices_Compact_string_empty Tryz.lays194 a cap w
open Go.RowKit Go.Sort in
theorem Tryz.slices_Sort_string_none (p:Option Addr) (cap:Nat) (w:World) :
    Calls Tryz.prog 144 #[.slice p 0 cap] w fun e w'=>e=.returned (.tuple #[])∧w'=w:=Any.slices_Sort_string_none Tryz.lays190 p cap w
end Go.Proofs
namespace Go.Proofs.YtemapihoobmonaaGreatDoor
open Go.RowKit Go.Am
noncomputable def ov0:Ov:=fun f=>match f with
  | 230=>some (zfL 1 9)
  | 176=>some zyd
  | 135=>some ziC
  | _=>none
theorem zA3:OvS Tryz.prog tab.gs ov0:=by
  intro f g hg
  unfold ov0 at hg
  split at hg
  · cases hg
    exact zla (g:=1) (by decide) (zcA zcD zoy rfl) (fun s w hs ha hc=>Any.strings_Fields_core Tryz.lays157 (by kernel_rfl) s w hs ha hc)
  · cases hg
    exact zqH (zcA zcD zn8 rfl) Tryz.strings_Join_none Tryz.strings_Join
  · cases hg
    exact zjb (zcA zcD zmW rfl) Tryz.strings_Compare
  · cases hg
theorem zo5:zo3 Tryz.prog tab ov0 100000 200 (.func 22) [] (zbG 1) (zjo 2)=true:=by kernel_rfl
theorem zoY (w:World) (ht:∀ c,c < 256→w.cell? ⟨1,c,none⟩=some (.int .u8 (Lib.asciiSpaceTab.getD c 0))):Calls Tryz.prog 22 #[] w fun e w'=>e=.returned (.bool true)∧Below w.heap.size w w':=zsa mixed zcD rfl zA3 rfl zo5 w ht
noncomputable def ov:Ov:=fun f=>match f with
  | 230=>some (zfL 1 9)
  | 176=>some zyd
  | 135=>some ziC
  | 144=>some ziP
  | 145=>some zjn
  | 22=>some (zsm 1)
  | _=>none
theorem zBR:OvS Tryz.prog tab.gs ov:=by
  intro f g hg
  unfold ov at hg
  split at hg
  · cases hg
    exact zla (g:=1) (by decide) (zcA zcD zoy rfl) (fun s w hs ha hc=>Any.strings_Fields_core Tryz.lays157 (by kernel_rfl) s w hs ha hc)
  · cases hg
    exact zqH (zcA zcD zn8 rfl) Tryz.strings_Join_none Tryz.strings_Join
  · cases hg
    exact zjb (zcA zcD zmW rfl) Tryz.strings_Compare
  · cases hg
    exact zwv (zcA zcD ztU rfl) Tryz.slices_Sort_string_none Tryz.slices_Sort_string
  · cases hg
    exact zoh (zcA zcD zve rfl) Tryz.slices_Compact_string_empty (fun b o c s w h h1 h2=>Tryz.slices_Compact_string b o c s w h h1 h2)
  · cases hg
    exact zun (g:=1) (by decide) (zcA zcD zxE rfl) zoY
  · cases hg
end Go.Proofs.YtemapihoobmonaaGreatDoor
namespace Go.Proofs.YtemapihoobmonaaGreatDoor
open Go.Am
theorem st4 (h:Heap) (l:List Blk) (w i o:Nat) (v:Value) (hi:i < l.length):zbd tab 4 (.pointer (some ⟨h.size+i,o,none⟩)) v (h.lay l w)=if v.cells.size=1 then ze4 l[i]? i o v.cells.toList h l w else none:=zhQ sz4 h l w i o v hi
theorem st3 (h:Heap) (l:List Blk) (w i o:Nat) (v:Value) (hi:i < l.length):zbd tab 3 (.pointer (some ⟨h.size+i,o,none⟩)) v (h.lay l w)=if v.cells.size=1 then ze4 l[i]? i o v.cells.toList h l w else none:=zhQ sz3 h l w i o v hi
theorem st9 (h:Heap) (l:List Blk) (w i o:Nat) (v:Value) (hi:i < l.length):zbd tab 9 (.pointer (some ⟨h.size+i,o,none⟩)) v (h.lay l w)=if v.cells.size=1 then ze4 l[i]? i o v.cells.toList h l w else none:=zhQ sz9 h l w i o v hi
theorem st23 (h:Heap) (l:List Blk) (w i o:Nat) (v:Value) (hi:i < l.length):zbd tab 23 (.pointer (some ⟨h.size+i,o,none⟩)) v (h.lay l w)=if v.cells.size=2 then ze4 l[i]? i o v.cells.toList h l w else none:=zhQ sz23 h l w i o v hi
theorem st26 (h:Heap) (l:List Blk) (w i o:Nat) (v:Value) (hi:i < l.length):zbd tab 26 (.pointer (some ⟨h.size+i,o,none⟩)) v (h.lay l w)=if v.cells.size=11 then ze4 l[i]? i o v.cells.toList h l w else none:=zhQ sz26 h l w i o v hi
theorem st29 (h:Heap) (l:List Blk) (w i o:Nat) (v:Value) (hi:i < l.length):zbd tab 29 (.pointer (some ⟨h.size+i,o,none⟩)) v (h.lay l w)=if v.cells.size=12 then ze4 l[i]? i o v.cells.toList h l w else none:=zhQ sz29 h l w i o v hi
theorem zeo (h:Heap) (l:List Blk) (w i o:Nat) (v:Value) (hi:i < l.length):zbd tab 141 (.pointer (some ⟨h.size+i,o,none⟩)) v (h.lay l w)=if v.cells.size=3 then ze4 l[i]? i o v.cells.toList h l w else none:=zhQ zBP h l w i o v hi
theorem zoI (a b:TermD):binA Tryz.prog tab .neq 23 a.val b.val=some (.bool (!decide (a=b))):=by
  have h1:binA Tryz.prog tab .neq 23 a.val b.val=(eqT a b).map fun b=>.bool !b:=by kernel_rfl
  rw [h1,zx3]; rfl
theorem zr4 (v w:Bool) (s u:ByteArray):binA Tryz.prog tab .neq 23 (.agg ⟨[.bool v,.string s]⟩) (.agg ⟨[.bool w,.string u]⟩)=some (.bool (!decide (TermD.mk v s=TermD.mk w u))):=zoI ⟨v,s⟩ ⟨w,u⟩
theorem zps:zcv tab 23 []=some (.agg ⟨[.bool false,.string ⟨#[]⟩]⟩):=by kernel_rfl
end Go.Proofs.YtemapihoobmonaaGreatDoor

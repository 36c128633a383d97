/-
  DERIVED: THE SHELF's CONTRACTS AT THIS DUMP, IN PLAIN WORDS (tools/lay-plain.mjs out of 'TryzShelf.lean', which tools/lay-shelf.mjs wrote): THE SAME DECLARATIONS UNDER THE SAME NAMES: 'import', 'namespace', 'open', 'def', 'theorem' AND NOTHING ELSE: no command of the shelf's: FOR A HAND-IN. Each laying: the table of numbers ('.._ren') and one theorem, a field a fact of the dump's own or the kernel's comparison; each contract: ONE APPLICATION.
-/
import Derived.Shelf.Strings.Builder1
import Derived.Shelf.Strings.Builder2
import Derived.Shelf.Strings.OnBuilder
import Derived.Shelf.Small.Strs
import Derived.Shelf.Strings.Fields
import Derived.Shelf.Unicode.Latin
import Derived.Shelf.Unicode.Is16White
import Derived.Shelf.Unicode.IsSpaceAny
import Derived.Shelf.Unicode.Is16Any
import Derived.Shelf.Unicode.Is32Any
import Derived.Shelf.Unicode.ExclAny
import Derived.Test.YtjildadoepadeaaGreatDoorProg
namespace Go.Proofs
open Go.Shelf
def Tryz.lays156_ren:Go.Shelf.Ren:=⟨fun|156=>219|165=>251|166=>252|169=>253|240=>271|241=>272|276=>279|277=>280|n=>n,fun|31=>23|9=>9|3=>3|4=>4|0=>0|20=>20|72=>311|76=>314|70=>309|37=>100|75=>313|127=>328|164=>339|5=>5|80=>215|n=>n,fun|n=>n⟩
theorem Tryz.lays156:Go.Proofs.Lays.n156 Tryz.prog Tryz.lays156_ren:={
 mixed:=by kernel_rfl
 f156:=Tryz.func219.trans (congrArg some (by kernel_rfl))
 f165:=Tryz.func251.trans (congrArg some (by kernel_rfl))
 f166:=Tryz.func252.trans (congrArg some (by kernel_rfl))
 f169:=Tryz.func253.trans (congrArg some (by kernel_rfl))
 f240:=Tryz.func271.trans (congrArg some (by kernel_rfl))
 f241:=Tryz.func272.trans (congrArg some (by kernel_rfl))
 f276:=Tryz.func279.trans (congrArg some (by kernel_rfl))
 f277:=Tryz.func280.trans (congrArg some (by kernel_rfl))
 t0:=Tryz.underlying0
 a0:=Tryz.isAgg0
 z0:=Tryz.sizeOf0
 v0:=Tryz.zeroValue0
 t3:=Tryz.underlying3
 a3:=Tryz.isAgg3
 z3:=Tryz.sizeOf3
 v3:=Tryz.zeroValue3
 t4:=Tryz.underlying4
 a4:=Tryz.isAgg4
 z4:=Tryz.sizeOf4
 v4:=Tryz.zeroValue4
 t9:=Tryz.underlying9
 a9:=Tryz.isAgg9
 z9:=Tryz.sizeOf9
 v9:=Tryz.zeroValue9
 t20:=Tryz.underlying20
 a20:=Tryz.isAgg20
 z20:=Tryz.sizeOf20
 v20:=Tryz.zeroValue20
 t31:=Tryz.underlying23
 a31:=Tryz.isAgg23
 z31:=Tryz.sizeOf23
 v31:=Tryz.zeroValue23
 t37:=Tryz.underlying100
 a37:=Tryz.isAgg100
 z37:=Tryz.sizeOf100
 v37:=Tryz.zeroValue100
 t70:=Tryz.underlying309
 a70:=Tryz.isAgg309
 z70:=Tryz.sizeOf309
 v70:=Tryz.zeroValue309
 t72:=Tryz.underlying311
 a72:=Tryz.isAgg311
 z72:=Tryz.sizeOf311
 v72:=Tryz.zeroValue311
 t75:=Tryz.underlying313
 a75:=Tryz.isAgg313
 z75:=Tryz.sizeOf313
 v75:=Tryz.zeroValue313
 t76:=Tryz.underlying314
 a76:=Tryz.isAgg314
 z76:=Tryz.sizeOf314
 v76:=Tryz.zeroValue314
 t127:=Tryz.underlying328
 a127:=Tryz.isAgg328
 z127:=Tryz.sizeOf328
 v127:=Tryz.zeroValue328
 t164:=Tryz.underlying339
 a164:=Tryz.isAgg339
 z164:=Tryz.sizeOf339
 v164:=Tryz.zeroValue339 }
theorem Tryz.Builder_Extra_156:Builder.Extra Tryz.prog Tryz.lays156_ren:={
 sizeBuilder:=by kernel_rfl
 liesBuilder:=by kernel_rfl
 t5:=Tryz.underlying5
 a5:=Tryz.isAgg5
 z5:=Tryz.sizeOf5
 v5:=Tryz.zeroValue5
 infoByte:=by kernel_rfl
 cellsByte:=by kernel_rfl
 sizeByte:=by kernel_rfl
 neB5:=by decide }
open Go.RowKit in
theorem Tryz.strings_Join_none (a:Option Addr) (c:Nat) (sep:ByteArray) (w:World) :
 Calls Tryz.prog 219 #[.slice a 0 c,.string sep] w λe w'=>e=.returned (.string ⟨#[]⟩)/\w'=w:=Any.strings_Join_none Tryz.lays156 Tryz.Builder_Extra_156 a c sep w
open Go.RowKit in
theorem Tryz.strings_Join (bk o c:Nat) (xs:List ByteArray) (sep:ByteArray) (w:World) (nq:∀ (j:Nat) x,xs[j]? = some x->w.cell? ⟨bk,o+j,none⟩=some (.string x)) (De:bk < w.heap.size) (hN:xs.length<=140737488355328) (np:xs.length<=c) (hlen:(Lib.join (xs.map (·.data.toList)) sep.data.toList).length<=140737488355328) :
 Calls Tryz.prog 219 #[.slice (some ⟨bk,o,none⟩) xs.length c,.string sep] w λe w'=>e=.returned (.string ⟨(Lib.join (xs.map (·.data.toList)) sep.data.toList).toArray⟩)/\Below w.heap.size w w':=Any.strings_Join Tryz.lays156 Tryz.Builder_Extra_156 bk o c xs sep w nq De hN np hlen
def Tryz.lays106_ren:Go.Shelf.Ren:=⟨fun|106=>178|213=>218|265=>250|n=>n,fun|9=>9|3=>3|n=>n,fun|n=>n⟩
theorem Tryz.lays106:Go.Proofs.Lays.n106 Tryz.prog Tryz.lays106_ren:={
 mixed:=by kernel_rfl
 f106:=Tryz.func178.trans (congrArg some (by kernel_rfl))
 f213:=Tryz.func218.trans (congrArg some (by kernel_rfl))
 f265:=Tryz.func250.trans (congrArg some (by kernel_rfl))
 t3:=Tryz.underlying3
 a3:=Tryz.isAgg3
 z3:=Tryz.sizeOf3
 v3:=Tryz.zeroValue3
 t9:=Tryz.underlying9
 a9:=Tryz.isAgg9
 z9:=Tryz.sizeOf9
 v9:=Tryz.zeroValue9 }
open Go.RowKit in
theorem Tryz.strings_Compare (a b:ByteArray) (w:World) :
 Calls Tryz.prog 178 #[.string a,.string b] w λe w'=>e=.returned (.int .i64 (Lib.compareBytes a.data.toList b.data.toList))/\w'=w:=Any.strings_Compare Tryz.lays106 a b w
def Tryz.lays157_ren:Go.Shelf.Ren:=⟨fun|157=>249|229=>269|199=>270|261=>278|311=>286|312=>287|n=>n,fun|9=>9|31=>23|3=>3|5=>5|4=>4|119=>325|0=>0|40=>327|152=>334|21=>21|154=>336|51=>144|141=>338|196=>350|193=>347|198=>353|49=>351|194=>348|201=>356|226=>359|46=>231|227=>360|n=>n,fun|0=>1|6=>2|n=>n⟩
theorem Tryz.lays157:Go.Proofs.Lays.n157 Tryz.prog Tryz.lays157_ren:={
 mixed:=by kernel_rfl
 f157:=Tryz.func249.trans (congrArg some (by kernel_rfl))
 f199:=Tryz.func270.trans (congrArg some (by kernel_rfl))
 f229:=Tryz.func269.trans (congrArg some (by kernel_rfl))
 f261:=Tryz.func278.trans (congrArg some (by kernel_rfl))
 f311:=Tryz.func286.trans (congrArg some (by kernel_rfl))
 f312:=Tryz.func287.trans (congrArg some (by kernel_rfl))
 t0:=Tryz.underlying0
 a0:=Tryz.isAgg0
 z0:=Tryz.sizeOf0
 v0:=Tryz.zeroValue0
 t3:=Tryz.underlying3
 a3:=Tryz.isAgg3
 z3:=Tryz.sizeOf3
 v3:=Tryz.zeroValue3
 t4:=Tryz.underlying4
 a4:=Tryz.isAgg4
 z4:=Tryz.sizeOf4
 v4:=Tryz.zeroValue4
 t5:=Tryz.underlying5
 a5:=Tryz.isAgg5
 z5:=Tryz.sizeOf5
 v5:=Tryz.zeroValue5
 t9:=Tryz.underlying9
 a9:=Tryz.isAgg9
 z9:=Tryz.sizeOf9
 v9:=Tryz.zeroValue9
 t21:=Tryz.underlying21
 a21:=Tryz.isAgg21
 z21:=Tryz.sizeOf21
 v21:=Tryz.zeroValue21
 t31:=Tryz.underlying23
 a31:=Tryz.isAgg23
 z31:=Tryz.sizeOf23
 v31:=Tryz.zeroValue23
 t40:=Tryz.underlying327
 a40:=Tryz.isAgg327
 z40:=Tryz.sizeOf327
 v40:=Tryz.zeroValue327
 t46:=Tryz.underlying231
 a46:=Tryz.isAgg231
 z46:=Tryz.sizeOf231
 v46:=Tryz.zeroValue231
 t49:=Tryz.underlying351
 a49:=Tryz.isAgg351
 z49:=Tryz.sizeOf351
 v49:=Tryz.zeroValue351
 t51:=Tryz.underlying144
 a51:=Tryz.isAgg144
 z51:=Tryz.sizeOf144
 v51:=Tryz.zeroValue144
 t119:=Tryz.underlying325
 a119:=Tryz.isAgg325
 z119:=Tryz.sizeOf325
 t141:=Tryz.underlying338
 a141:=Tryz.isAgg338
 z141:=Tryz.sizeOf338
 v141:=Tryz.zeroValue338
 t152:=Tryz.underlying334
 a152:=Tryz.isAgg334
 z152:=Tryz.sizeOf334
 v152:=Tryz.zeroValue334
 t154:=Tryz.underlying336
 a154:=Tryz.isAgg336
 z154:=Tryz.sizeOf336
 v154:=Tryz.zeroValue336
 t193:=Tryz.underlying347
 a193:=Tryz.isAgg347
 z193:=Tryz.sizeOf347
 v193:=Tryz.zeroValue347
 t194:=Tryz.underlying348
 a194:=Tryz.isAgg348
 z194:=Tryz.sizeOf348
 v194:=Tryz.zeroValue348
 t196:=Tryz.underlying350
 a196:=Tryz.isAgg350
 z196:=Tryz.sizeOf350
 v196:=Tryz.zeroValue350
 t198:=Tryz.underlying353
 a198:=Tryz.isAgg353
 z198:=Tryz.sizeOf353
 v198:=Tryz.zeroValue353
 t201:=Tryz.underlying356
 a201:=Tryz.isAgg356
 z201:=Tryz.sizeOf356
 v201:=Tryz.zeroValue356
 t226:=Tryz.underlying359
 a226:=Tryz.isAgg359
 z226:=Tryz.sizeOf359
 v226:=Tryz.zeroValue359
 t227:=Tryz.underlying360
 a227:=Tryz.isAgg360
 z227:=Tryz.sizeOf360
 v227:=Tryz.zeroValue360
 g0:=by kernel_rfl
 g6:=by kernel_rfl }
end Go.Proofs

/-
  DERIVED: THE SHELF's CONTRACTS AT THIS DUMP, IN PLAIN WORDS (tools/lay-plain.mjs out of 'TryzShelf.lean', which tools/lay-shelf.mjs wrote): THE SAME DECLARATIONS UNDER THE SAME NAMES: 'import', 'namespace', 'open', 'def', 'theorem' AND NOTHING ELSE: no command of the shelf's: FOR A HAND-IN. Each laying: the table of numbers ('.._ren') and one theorem, a field a fact of the dump's own or the kernel's comparison; each contract: ONE APPLICATION.
-/
import Derived.Shelf.Strings.Builder1
import Derived.Shelf.Strings.Builder2
import Derived.Shelf.Strings.OnBuilder
import Derived.Shelf.Small.Bits
import Derived.Shelf.Strings.BuilderF
import Derived.Shelf.Strings.BuilderK
import Derived.Shelf.Strings.Builder2Cap
import Derived.Shelf.Strconv.Itoa0
import Derived.Shelf.Strings.Fields
import Derived.Shelf.LaysM
import Derived.Shelf.Strings.SplitShaped
import Derived.Shelf.Unicode.Latin
import Derived.Shelf.Unicode.Is16White
import Derived.Shelf.Unicode.IsSpaceAny
import Derived.Shelf.Unicode.Is16WhiteD
import Derived.Shelf.Unicode.Is16Any
import Derived.Shelf.Unicode.Is32Any
import Derived.Shelf.Unicode.ExclAny
import Derived.Shelf.Slices.Turned
import Derived.Ground.Names2Prog
import Derived.Shelf.Slices.Clone
import Derived.Shelf.Slices.Cells
import Derived.Ground.SlgnProg
import Derived.Shelf.SlicesE.Clone
import Derived.WalkKit
import Derived.Lib.Walk
import Derived.Lib.SliceRun
import Derived.Lib.AppendZeros
import Derived.Laws.Externs
import Derived.Laws.IdiomCopy
import Derived.Deep.RegionLaw
import Derived.OwnWalk
import Derived.Test.YtiapegieocgmfaaGreatDoorG20
set_option linter.unusedSimpArgs false
set_option linter.unusedVariables false
namespace Go.Proofs
open Go.Shelf
def Tryz.lays156_ren:Go.Shelf.Ren:=⟨fun|156=>170|165=>184|166=>185|169=>186|240=>194|241=>195|276=>201|277=>202|n=>n,fun|31=>22|9=>9|3=>3|4=>4|0=>0|20=>20|72=>224|76=>228|70=>221|37=>222|75=>227|127=>232|164=>236|5=>5|80=>230|n=>n,fun|n=>n⟩
theorem Tryz.lays156:Go.Proofs.Lays.n156 Tryz.prog Tryz.lays156_ren:={
 mixed:=by kernel_rfl
 f156:=Tryz.func170.trans (congrArg some (by kernel_rfl))
 f165:=Tryz.func184.trans (congrArg some (by kernel_rfl))
 f166:=Tryz.func185.trans (congrArg some (by kernel_rfl))
 f169:=Tryz.func186.trans (congrArg some (by kernel_rfl))
 f240:=Tryz.func194.trans (congrArg some (by kernel_rfl))
 f241:=Tryz.func195.trans (congrArg some (by kernel_rfl))
 f276:=Tryz.func201.trans (congrArg some (by kernel_rfl))
 f277:=Tryz.func202.trans (congrArg some (by kernel_rfl))
 t0:=Tryz.underlying0
 a0:=Tryz.isAgg0
 z0:=Tryz.sizeOf0
 v0:=Tryz.zeroValue0
 t3:=Tryz.underlying3
 a3:=Tryz.isAgg3
 z3:=Tryz.sizeOf3
 v3:=Tryz.zeroValue3
 t4:=Tryz.underlying4
 a4:=Tryz.isAgg4
 z4:=Tryz.sizeOf4
 v4:=Tryz.zeroValue4
 t9:=Tryz.underlying9
 a9:=Tryz.isAgg9
 z9:=Tryz.sizeOf9
 v9:=Tryz.zeroValue9
 t20:=Tryz.underlying20
 a20:=Tryz.isAgg20
 z20:=Tryz.sizeOf20
 v20:=Tryz.zeroValue20
 t31:=Tryz.underlying22
 a31:=Tryz.isAgg22
 z31:=Tryz.sizeOf22
 v31:=Tryz.zeroValue22
 t37:=Tryz.underlying222
 a37:=Tryz.isAgg222
 z37:=Tryz.sizeOf222
 v37:=Tryz.zeroValue222
 t70:=Tryz.underlying221
 a70:=Tryz.isAgg221
 z70:=Tryz.sizeOf221
 v70:=Tryz.zeroValue221
 t72:=Tryz.underlying224
 a72:=Tryz.isAgg224
 z72:=Tryz.sizeOf224
 v72:=Tryz.zeroValue224
 t75:=Tryz.underlying227
 a75:=Tryz.isAgg227
 z75:=Tryz.sizeOf227
 v75:=Tryz.zeroValue227
 t76:=Tryz.underlying228
 a76:=Tryz.isAgg228
 z76:=Tryz.sizeOf228
 v76:=Tryz.zeroValue228
 t127:=Tryz.underlying232
 a127:=Tryz.isAgg232
 z127:=Tryz.sizeOf232
 v127:=Tryz.zeroValue232
 t164:=Tryz.underlying236
 a164:=Tryz.isAgg236
 z164:=Tryz.sizeOf236
 v164:=Tryz.zeroValue236 }
theorem Tryz.Builder_Extra_156:Builder.Extra Tryz.prog Tryz.lays156_ren:={
 sizeBuilder:=by kernel_rfl
 liesBuilder:=by kernel_rfl
 t5:=Tryz.underlying5
 a5:=Tryz.isAgg5
 z5:=Tryz.sizeOf5
 v5:=Tryz.zeroValue5
 infoByte:=by kernel_rfl
 cellsByte:=by kernel_rfl
 sizeByte:=by kernel_rfl
 neB5:=by decide }
open Go.RowKit in
theorem Tryz.strings_Join_none (a:Option Addr) (c:Nat) (sep:ByteArray) (w:World) :
 Calls Tryz.prog 170 #[.slice a 0 c,.string sep] w λe w'=>e=.returned (.string ⟨#[]⟩)/\w'=w:=Any.strings_Join_none Tryz.lays156 Tryz.Builder_Extra_156 a c sep w
open Go.RowKit in
theorem Tryz.strings_Join (bk o c:Nat) (xs:List ByteArray) (sep:ByteArray) (w:World) (nC:∀ (j:Nat) x,xs[j]? = some x->w.cell? ⟨bk,o+j,none⟩=some (.string x)) (yc:bk < w.heap.size) (hN:xs.length<=140737488355328) (pV:xs.length<=c) (hlen:(Lib.join (xs.map (·.data.toList)) sep.data.toList).length<=140737488355328) :
 Calls Tryz.prog 170 #[.slice (some ⟨bk,o,none⟩) xs.length c,.string sep] w λe w'=>e=.returned (.string ⟨(Lib.join (xs.map (·.data.toList)) sep.data.toList).toArray⟩)/\Below w.heap.size w w':=Any.strings_Join Tryz.lays156 Tryz.Builder_Extra_156 bk o c xs sep w nC yc hN pV hlen
def Tryz.lays106_ren:Go.Shelf.Ren:=⟨fun|106=>137|213=>169|265=>183|n=>n,fun|9=>9|3=>3|n=>n,fun|n=>n⟩
theorem Tryz.lays106:Go.Proofs.Lays.n106 Tryz.prog Tryz.lays106_ren:={
 mixed:=by kernel_rfl
 f106:=Tryz.func137.trans (congrArg some (by kernel_rfl))
 f213:=Tryz.func169.trans (congrArg some (by kernel_rfl))
 f265:=Tryz.func183.trans (congrArg some (by kernel_rfl))
 t3:=Tryz.underlying3
 a3:=Tryz.isAgg3
 z3:=Tryz.sizeOf3
 v3:=Tryz.zeroValue3
 t9:=Tryz.underlying9
 a9:=Tryz.isAgg9
 z9:=Tryz.sizeOf9
 v9:=Tryz.zeroValue9 }
open Go.RowKit in
theorem Tryz.strings_Compare (a b:ByteArray) (w:World) :
 Calls Tryz.prog 137 #[.string a,.string b] w λe w'=>e=.returned (.int .i64 (Lib.compareBytes a.data.toList b.data.toList))/\w'=w:=Any.strings_Compare Tryz.lays106 a b w
def Tryz.lays190_ren:Go.Shelf.Ren:=⟨fun|190=>41|125=>67|258=>66|128=>115|129=>116|302=>106|303=>107|304=>108|305=>109|306=>110|307=>111|308=>112|309=>113|310=>114|333=>147|329=>148|330=>149|334=>150|335=>151|336=>152|344=>175|n=>n,fun|31=>22|9=>9|3=>3|46=>131|0=>0|51=>175|53=>49|4=>4|183=>169|182=>168|131=>122|5=>5|218=>201|222=>205|228=>216|229=>217|n=>n,fun|n=>n⟩
theorem Tryz.lays190:Go.Proofs.Lays.n190 Tryz.prog Tryz.lays190_ren:={
 mixed:=by kernel_rfl
 f125:=Tryz.func67.trans (congrArg some (by kernel_rfl))
 f128:=Tryz.func115.trans (congrArg some (by kernel_rfl))
 f129:=Tryz.func116.trans (congrArg some (by kernel_rfl))
 f190:=Tryz.func41.trans (congrArg some (by kernel_rfl))
 f258:=Tryz.func66.trans (congrArg some (by kernel_rfl))
 f302:=Tryz.func106.trans (congrArg some (by kernel_rfl))
 f303:=Tryz.func107.trans (congrArg some (by kernel_rfl))
 f304:=Tryz.func108.trans (congrArg some (by kernel_rfl))
 f305:=Tryz.func109.trans (congrArg some (by kernel_rfl))
 f306:=Tryz.func110.trans (congrArg some (by kernel_rfl))
 f307:=Tryz.func111.trans (congrArg some (by kernel_rfl))
 f308:=Tryz.func112.trans (congrArg some (by kernel_rfl))
 f309:=Tryz.func113.trans (congrArg some (by kernel_rfl))
 f310:=Tryz.func114.trans (congrArg some (by kernel_rfl))
 f329:=Tryz.func148.trans (congrArg some (by kernel_rfl))
 f330:=Tryz.func149.trans (congrArg some (by kernel_rfl))
 f333:=Tryz.func147.trans (congrArg some (by kernel_rfl))
 f334:=Tryz.func150.trans (congrArg some (by kernel_rfl))
 f335:=Tryz.func151.trans (congrArg some (by kernel_rfl))
 f336:=Tryz.func152.trans (congrArg some (by kernel_rfl))
 f344:=Tryz.func175.trans (congrArg some (by kernel_rfl))
 t0:=Tryz.underlying0
 a0:=Tryz.isAgg0
 z0:=Tryz.sizeOf0
 v0:=Tryz.zeroValue0
 t3:=Tryz.underlying3
 a3:=Tryz.isAgg3
 z3:=Tryz.sizeOf3
 v3:=Tryz.zeroValue3
 t4:=Tryz.underlying4
 a4:=Tryz.isAgg4
 z4:=Tryz.sizeOf4
 v4:=Tryz.zeroValue4
 t5:=Tryz.underlying5
 a5:=Tryz.isAgg5
 z5:=Tryz.sizeOf5
 v5:=Tryz.zeroValue5
 t9:=Tryz.underlying9
 a9:=Tryz.isAgg9
 z9:=Tryz.sizeOf9
 v9:=Tryz.zeroValue9
 t31:=Tryz.underlying22
 a31:=Tryz.isAgg22
 z31:=Tryz.sizeOf22
 v31:=Tryz.zeroValue22
 t46:=Tryz.underlying131
 a46:=Tryz.isAgg131
 z46:=Tryz.sizeOf131
 v46:=Tryz.zeroValue131
 t51:=Tryz.underlying175
 a51:=Tryz.isAgg175
 z51:=Tryz.sizeOf175
 v51:=Tryz.zeroValue175
 t53:=Tryz.underlying49
 a53:=Tryz.isAgg49
 z53:=Tryz.sizeOf49
 v53:=Tryz.zeroValue49
 t131:=Tryz.underlying122
 a131:=Tryz.isAgg122
 z131:=Tryz.sizeOf122
 v131:=Tryz.zeroValue122
 t182:=Tryz.underlying168
 a182:=Tryz.isAgg168
 z182:=Tryz.sizeOf168
 v182:=Tryz.zeroValue168
 t183:=Tryz.underlying169
 a183:=Tryz.isAgg169
 z183:=Tryz.sizeOf169
 v183:=Tryz.zeroValue169
 t218:=Tryz.underlying201
 a218:=Tryz.isAgg201
 z218:=Tryz.sizeOf201
 v218:=Tryz.zeroValue201
 t222:=Tryz.underlying205
 a222:=Tryz.isAgg205
 z222:=Tryz.sizeOf205
 v222:=Tryz.zeroValue205
 t228:=Tryz.underlying216
 a228:=Tryz.isAgg216
 z228:=Tryz.sizeOf216
 v228:=Tryz.zeroValue216
 t229:=Tryz.underlying217
 a229:=Tryz.isAgg217
 z229:=Tryz.sizeOf217
 v229:=Tryz.zeroValue217 }
open Go.Sort Go.RowKit in
theorem Tryz.slices_Sort_string (ff off cap:Nat) (ss:List (List UInt8)) (w:World) (hH:Holds encStr w ff off ss.toArray) (vh:ff < w.heap.size) (dx:ss.length < 4611686018427387904) :
 Calls Tryz.prog 41 #[.slice (some ⟨ff,off,none⟩) ss.length cap] w λe w' =>
  e=.returned (.tuple #[])/\∃ n os,w'=grow (putRow encStr (Sort.ahead w n) ff off (ss.mergeSort λx y=>decide (x<=y)).toArray) os:=Any.slices_Sort_string Tryz.lays190 ff off cap ss w hH vh dx
def Tryz.lays157_ren:Go.Shelf.Ren:=⟨fun|157=>189|229=>199|199=>200|261=>203|311=>204|312=>205|n=>n,fun|9=>9|31=>22|3=>3|5=>5|4=>4|119=>233|0=>0|40=>235|152=>239|21=>21|154=>241|51=>175|141=>243|196=>247|193=>244|198=>250|49=>248|194=>245|201=>253|226=>255|46=>131|227=>256|n=>n,fun|0=>1|6=>2|n=>n⟩
theorem Tryz.lays157:Go.Proofs.Lays.n157 Tryz.prog Tryz.lays157_ren:={
 mixed:=by kernel_rfl
 f157:=Tryz.func189.trans (congrArg some (by kernel_rfl))
 f199:=Tryz.func200.trans (congrArg some (by kernel_rfl))
 f229:=Tryz.func199.trans (congrArg some (by kernel_rfl))
 f261:=Tryz.func203.trans (congrArg some (by kernel_rfl))
 f311:=Tryz.func204.trans (congrArg some (by kernel_rfl))
 f312:=Tryz.func205.trans (congrArg some (by kernel_rfl))
 t0:=Tryz.underlying0
 a0:=Tryz.isAgg0
 z0:=Tryz.sizeOf0
 v0:=Tryz.zeroValue0
 t3:=Tryz.underlying3
 a3:=Tryz.isAgg3
 z3:=Tryz.sizeOf3
 v3:=Tryz.zeroValue3
 t4:=Tryz.underlying4
 a4:=Tryz.isAgg4
 z4:=Tryz.sizeOf4
 v4:=Tryz.zeroValue4
 t5:=Tryz.underlying5
 a5:=Tryz.isAgg5
 z5:=Tryz.sizeOf5
 v5:=Tryz.zeroValue5
 t9:=Tryz.underlying9
 a9:=Tryz.isAgg9
 z9:=Tryz.sizeOf9
 v9:=Tryz.zeroValue9
 t21:=Tryz.underlying21
 a21:=Tryz.isAgg21
 z21:=Tryz.sizeOf21
 v21:=Tryz.zeroValue21
 t31:=Tryz.underlying22
 a31:=Tryz.isAgg22
 z31:=Tryz.sizeOf22
 v31:=Tryz.zeroValue22
 t40:=Tryz.underlying235
 a40:=Tryz.isAgg235
 z40:=Tryz.sizeOf235
 v40:=Tryz.zeroValue235
 t46:=Tryz.underlying131
 a46:=Tryz.isAgg131
 z46:=Tryz.sizeOf131
 v46:=Tryz.zeroValue131
 t49:=Tryz.underlying248
 a49:=Tryz.isAgg248
 z49:=Tryz.sizeOf248
 v49:=Tryz.zeroValue248
 t51:=Tryz.underlying175
 a51:=Tryz.isAgg175
 z51:=Tryz.sizeOf175
 v51:=Tryz.zeroValue175
 t119:=Tryz.underlying233
 a119:=Tryz.isAgg233
 z119:=Tryz.sizeOf233
 t141:=Tryz.underlying243
 a141:=Tryz.isAgg243
 z141:=Tryz.sizeOf243
 v141:=Tryz.zeroValue243
 t152:=Tryz.underlying239
 a152:=Tryz.isAgg239
 z152:=Tryz.sizeOf239
 v152:=Tryz.zeroValue239
 t154:=Tryz.underlying241
 a154:=Tryz.isAgg241
 z154:=Tryz.sizeOf241
 v154:=Tryz.zeroValue241
 t193:=Tryz.underlying244
 a193:=Tryz.isAgg244
 z193:=Tryz.sizeOf244
 v193:=Tryz.zeroValue244
 t194:=Tryz.underlying245
 a194:=Tryz.isAgg245
 z194:=Tryz.sizeOf245
 v194:=Tryz.zeroValue245
 t196:=Tryz.underlying247
 a196:=Tryz.isAgg247
 z196:=Tryz.sizeOf247
 v196:=Tryz.zeroValue247
 t198:=Tryz.underlying250
 a198:=Tryz.isAgg250
 z198:=Tryz.sizeOf250
 v198:=Tryz.zeroValue250
 t201:=Tryz.underlying253
 a201:=Tryz.isAgg253
 z201:=Tryz.sizeOf253
 v201:=Tryz.zeroValue253
 t226:=Tryz.underlying255
 a226:=Tryz.isAgg255
 z226:=Tryz.sizeOf255
 v226:=Tryz.zeroValue255
 t227:=Tryz.underlying256
 a227:=Tryz.isAgg256
 z227:=Tryz.sizeOf256
 v227:=Tryz.zeroValue256
 g0:=by kernel_rfl
 g6:=by kernel_rfl }
def Tryz.lays194_ren:Go.Shelf.Ren:=⟨fun|194=>42|n=>n,fun|31=>22|9=>9|3=>3|4=>4|0=>0|n=>n,fun|n=>n⟩
theorem Tryz.lays194:Go.Proofs.Lays.n194 Tryz.prog Tryz.lays194_ren:={
 mixed:=by kernel_rfl
 f194:=Tryz.func42.trans (congrArg some (by kernel_rfl))
 t0:=Tryz.underlying0
 a0:=Tryz.isAgg0
 z0:=Tryz.sizeOf0
 v0:=Tryz.zeroValue0
 t3:=Tryz.underlying3
 a3:=Tryz.isAgg3
 z3:=Tryz.sizeOf3
 v3:=Tryz.zeroValue3
 t4:=Tryz.underlying4
 a4:=Tryz.isAgg4
 z4:=Tryz.sizeOf4
 v4:=Tryz.zeroValue4
 t9:=Tryz.underlying9
 a9:=Tryz.isAgg9
 z9:=Tryz.sizeOf9
 v9:=Tryz.zeroValue9
 t31:=Tryz.underlying22
 a31:=Tryz.isAgg22
 z31:=Tryz.sizeOf22
 v31:=Tryz.zeroValue22 }
open Go.RowKit Go.Lib Go.Sort in
theorem Tryz.slices_Compact_string (ff off cap:Nat) (zs:List (List UInt8)) (w:World) (hH:Holds encStr w ff off zs.toArray) (dx:zs.length<=9223372036854775807) (pV:zs.length<=cap) :
 Calls Tryz.prog 42 #[.slice (some ⟨ff,off,none⟩) zs.length cap] w λe w'=>e=.returned (.slice (some ⟨ff,off,none⟩) (Lib.compact zs).length cap)/\∃ q,w'=putRow encStr (Sort.ahead w q) ff off (Lib.compact zs++List.replicate (zs.length - (Lib.compact zs).length) []).toArray:=Any.slices_Compact_string Tryz.lays194 ff off cap zs w hH dx pV
open Go.RowKit Go.Lib Go.Sort in
theorem Tryz.slices_Compact_string_empty (a:Option Addr) (cap:Nat) (w:World) :
 Calls Tryz.prog 42 #[.slice a 0 cap] w λe w'=>e=.returned (.slice a 0 cap)/\w'=w:=Any.slices_Compact_string_empty Tryz.lays194 a cap w
open Go.RowKit Go.Sort in
theorem Tryz.slices_Sort_string_none (p:Option Addr) (cap:Nat) (w:World) :
 Calls Tryz.prog 41 #[.slice p 0 cap] w λe w'=>e=.returned (.tuple #[])/\w'=w:=Any.slices_Sort_string_none Tryz.lays190 p cap w
end Go.Proofs
namespace Go.Proofs
open Go.RowKit Go.Lib
variable {w':World} {v':Value} {o:Oper} {P:Program}
namespace YtiapegieocgmfaaGreatDoor
theorem zpW (w:World) {a:Act} {K:Act->World->Prop} {Q:Exit->Act->World->Prop} (d s:Operand) (t t':TypeId)
 (ho:o.op=.call { callee:=.builtin .copy,args:=#[d,s],argTypes:=#[t,t'] }) (v u:Value) (hd:a.eval d=v) (hs:a.eval s=u) 
 (hr:(Builtin.copy_ #[t,t'] o.type #[v,u]).run P w=.ok v' w') (h:K (a.put o.dst v') w'):o.wp P a w K Q:=by
 unfold Oper.wp execOp
 simp only [ho,resolve,invoke,builtin,Sem.run_bind,Sem.run_pure,Result.andThen_ok,List.map_toArray,List.map_cons,List.map_nil,hd,hs,hr]
 exact h
theorem zeV (w:World) {ops:Array Oper} {rest:List Oper} {a:Act} {Q:Exit->Act->World->Prop} (XM:o.guard=none) (d s:Operand) (t t':TypeId)
 (ho:o.op=.call { callee:=.builtin .copy,args:=#[d,s],argTypes:=#[t,t'] }) (v u:Value) (hd:a.eval d=v) (hs:a.eval s=u) 
 (hr:(Builtin.copy_ #[t,t'] o.type #[v,u]).run P w=.ok v' w') (h:wpList P ops Q rest (a.put o.dst v') w'):wpList P ops Q (o::rest) a w :=
 wpList_plain XM λ_ hK=>zpW w d s t t' ho v u hd hs hr (hK _ _ h)
theorem zf5 {ops:Array Oper} {a:Act} {w:World} {K:Act->World->Prop} {Q:Exit->Act->World->Prop} {E:Prop}
 (hg:o.guard=none) (d x:Operand) (dT sT:TypeId) (aV:o.op=Op.call { callee:=Callee.builtin Builtin.copy,args:=#[d,x],argTypes:=#[dT,sT] })
 (v u:Value) (hd:a.eval d=v) (hx:a.eval x=u) (hr:(Builtin.copy_ #[dT,sT] o.type #[v,u]).run P w=.ok v' w') (hK:K (a.put o.dst v') w') :
 if Region.wanted o (yielded ops a.tmps)=true then Oper.wp P o a w K Q else E:=by
 have hw:Region.wanted o (yielded ops a.tmps)=true:=by simp [Region.wanted,hg]
 rw [if_pos hw]
 unfold Oper.wp
 simp [execOp,aV,resolve,invoke,builtin,hd,hx,hr,Result.andThen]
 exact hK
set_option maxHeartbeats 4000000 in
set_option maxRecDepth 100000 in
theorem y7 (a:Option Addr) (n c:Nat) (av:Option Addr) (cv:Nat) (w w':World) (r:Value) (pn:n<=c)
 (hr:∀ ty,(Builtin.append_ #[38,38] ty #[.slice a n c,.slice av 1 cv]).run Tryz.prog w=.ok r w') :
 Calls Tryz.prog 61 #[.slice a n c,.int .i64 n,.slice av 1 cv] w λe W=>e=.returned r/\W=w':=by
 have h1:(0:Int)<=(n:Int)/\(n:Int)<=(n:Int):=by omega
 cases a
 all_goals
  go_enter Tryz.func61,Tryz.ntmps61
  go_wp2_with (at_builtin;refine Lib.wpList_append_run _ rfl _ _ _ _ rfl _ _ rfl rfl _ _ (hr _) ?_)
  all_goals
   go_ret
   exact ⟨rfl,rfl⟩
set_option maxHeartbeats 4000000 in
set_option maxRecDepth 100000 in
theorem vM (b off n c i:Nat) (av:Option Addr) (cv:Nat) (w w1 w2:World) (x1 x2:Value) (hi:i < n) (iY:n+1<=c) (hc:c<=9223372036854775807)
 (r6:∀ lb cb,(callFunc 101 #[.slice av 1 cv,.slice (some ⟨b,off+(i+1)*11,none⟩) lb cb]).run Tryz.prog w=.ok (.value (.bool false)) w)
 (FX:∀ ty dc sc,(Builtin.copy_ #[38,38] ty #[.slice (some ⟨b,off+(i+1)*11,none⟩) (n - i) dc,.slice (some ⟨b,off+i*11,none⟩) (n+1 - i) sc]).run Tryz.prog w.drew=.ok x1 w1)
 (FY:∀ ty dc,(Builtin.copy_ #[38,38] ty #[.slice (some ⟨b,off+i*11,none⟩) (n+1 - i) dc,.slice av 1 cv]).run Tryz.prog w1=.ok x2 w2) :
 Calls Tryz.prog 61 #[.slice (some ⟨b,off,none⟩) n c,.int .i64 i,.slice av 1 cv] w λe W=>e=.returned (.slice (some ⟨b,off,none⟩) (n+1) c)/\W=w2:=by
 have mG:¬ ((i:Int)=(n:Int)):=by omega
 have yZ:IntKind.i64.wrap ((i:Int)+1)=(i:Int)+1:=by rw [IntKind.wrap_i64];omega
 have vG:IntKind.i64.wrap ((n:Int)+1)=(n:Int)+1:=by rw [IntKind.wrap_i64];omega
 have Df:(0:Int)<=(i:Int)+1:=by omega
 have aO:i<=n:=by omega
 have htn:((i:Int)+1).toNat=i+1:=by omega
 have qA:¬ (c=i+1):=by omega
 have R2:(i:Int)<=(n:Int)+1:=by omega
 have hb4:¬ (c=i):=by omega
 go_enter Tryz.func61,Tryz.ntmps61
 go_wp2_with (simp only [r6])
 go_region_law (refine zf5 rfl _ _ 38 38 rfl _ _ (by simp [Act.eval,Act.put]) (by simp [Act.eval,Act.put]) (FX _ _ _) ?_)
 go_wp2_with (at_builtin;refine zeV _ rfl _ _ 38 38 rfl _ _ rfl rfl (FY _ _) ?_)
 go_ret
 exact ⟨rfl,rfl⟩
set_option maxHeartbeats 4000000 in
set_option maxRecDepth 100000 in
theorem vL (b off n c i nb g:Nat) (av:Option Addr) (cv:Nat) (w w1 w2 w3:World) (x1 x2:Value) (hi:i < n) (pn:n<=c) (iY:c < n+1) (hg:n+1<=g) (amD:g<=9223372036854775807)
 (nX:∀ ty,(Builtin.append_ #[38,3] ty #[.slice (some ⟨b,off,none⟩) i c,.int .i64 ((n:Int)+1 - (i:Int))]).run Tryz.prog w=.ok (.slice (some ⟨nb,0,none⟩) (n+1) g) w1)
 (FX:∀ ty dc,(Builtin.copy_ #[38,38] ty #[.slice (some ⟨nb,i*11,none⟩) (n+1 - i) dc,.slice av 1 cv]).run Tryz.prog w1=.ok x1 w2)
 (FY:∀ ty dc sc,(Builtin.copy_ #[38,38] ty #[.slice (some ⟨nb,(i+1)*11,none⟩) (n - i) dc,.slice (some ⟨b,off+i*11,none⟩) (n - i) sc]).run Tryz.prog w2.drew=.ok x2 w3) :
 Calls Tryz.prog 61 #[.slice (some ⟨b,off,none⟩) n c,.int .i64 i,.slice av 1 cv] w λe W=>e=.returned (.slice (some ⟨nb,0,none⟩) (n+1) g)/\W=w3:=by
 have mG:¬ ((i:Int)=(n:Int)):=by omega
 have Al:(c:Int) < (n:Int)+1:=by omega
 have yZ:IntKind.i64.wrap ((i:Int)+1)=(i:Int)+1:=by rw [IntKind.wrap_i64];omega
 have vG:IntKind.i64.wrap ((n:Int)+1)=(n:Int)+1:=by rw [IntKind.wrap_i64];omega
 have Df:(0:Int)<=(i:Int)+1:=by omega
 have aO:i<=n:=by omega
 have htn:((i:Int)+1).toNat=i+1:=by omega
 have hGi:¬ (g=i):=by omega
 have alW:¬ (g=i+1):=by omega
 have hci:¬ (c=i):=by omega
 have R2:(i:Int)<=(n:Int):=by omega
 go_enter Tryz.func61,Tryz.ntmps61
 go_wp2_with (first|(at_builtin;refine Lib.wpList_append_run _ rfl _ _ _ _ rfl _ _ rfl rfl _ _ (nX _) ?_)|(at_builtin;refine zeV _ rfl _ _ 38 38 rfl _ _ rfl rfl (FX _ _) ?_))
 go_region_law (refine zf5 rfl _ _ 38 38 rfl _ _ (by simp [Act.eval,Act.put]) (by simp [Act.eval,Act.put]) (FY _ _ _) ?_)
 go_wp2
 go_ret
 exact ⟨rfl,rfl⟩
end YtiapegieocgmfaaGreatDoor
end Go.Proofs
namespace Go.Proofs.YtiapegieocgmfaaGreatDoor
open Go.RowKit Go.Am
theorem zoJ (x y:ab) (w:World) (h:(Extern.SlicesOverlaps.overlaps #[38,38] #[4] #[x,y]).run Tryz.prog w=.ok (.bool false) w):(callFunc 101 #[x,y]).run Tryz.prog w=.ok (.value (.bool false)) w:=by
 rw [run_callFunc_extern Tryz.func101 (by kernel_rfl) (by kernel_rfl) (by kernel_rfl) (e:=Extern.SlicesOverlaps.overlaps #[38,38] #[4]) (by kernel_rfl),h]
 rfl
theorem zso:aD.desc 38=some (.slice 47):=by kernel_rfl
theorem TI:aD.info 47=some (11,136,ae.cells):=by kernel_rfl
theorem zz7:AV Tryz.prog aD.gs 61 (rM aD 38) :=
 zus (k:=11) tB zso TI Tryz.underlying3 (Ax tB zzA rfl) zoJ Go.Proofs.YtiapegieocgmfaaGreatDoor.y7 Go.Proofs.YtiapegieocgmfaaGreatDoor.vM Go.Proofs.YtiapegieocgmfaaGreatDoor.vL
noncomputable def Zk:Ov:=λf=>match f with
 |189=>some (HD 1 9)
 |170=>some H5
 |137=>some Qn
 |61=>some (rM aD 38)
 |_=>none
theorem zCH:CV Tryz.prog aD.gs Zk:=by
 intro f g hg
 unfold Zk at hg
 split at hg
 .cases hg
  exact zlF (g:=1) (by decide) (Ax tB zpP rfl) (λs w hs ha hc=>Any.strings_Fields_core Tryz.lays157 (by kernel_rfl) s w hs ha hc)
 .cases hg
  exact zsK (Ax tB zpO rfl) Tryz.strings_Join_none Tryz.strings_Join
 .cases hg
  exact zjy (Ax tB zpN rfl) Tryz.strings_Compare
 .cases hg
  exact zz7
 .cases hg
theorem ztR:zi2 2 (call Tryz.prog aD Zk 200 (.func 4) [] (vU 1))=true:=by kernel_rfl
theorem ztQ (w:World) (ht:∀ c,c < 256->w.cell? ⟨1,c,none⟩=some (.int .u8 (Lib.asciiSpaceTab.getD c 0))):Calls Tryz.prog 4 #[] w λe w'=>e=.returned (.bool true)/\Below w.heap.size w w':=zrr mixed tB rfl zCH rfl ztR w ht
noncomputable def ov:Ov:=λf=>match f with
 |189=>some (HD 1 9)
 |170=>some H5
 |137=>some Qn
 |61=>some (rM aD 38)
 |41=>some HW
 |42=>some HP
 |4=>some (J3 1)
 |_=>none
theorem zCI:CV Tryz.prog aD.gs ov:=by
 intro f g hg
 unfold ov at hg
 split at hg
 .cases hg
  exact zlF (g:=1) (by decide) (Ax tB zpP rfl) (λs w hs ha hc=>Any.strings_Fields_core Tryz.lays157 (by kernel_rfl) s w hs ha hc)
 .cases hg
  exact zsK (Ax tB zpO rfl) Tryz.strings_Join_none Tryz.strings_Join
 .cases hg
  exact zjy (Ax tB zpN rfl) Tryz.strings_Compare
 .cases hg
  exact zz7
 .cases hg
  exact zza (Ax tB zzy rfl) Tryz.slices_Sort_string_none Tryz.slices_Sort_string
 .cases hg
  exact zpf (Ax tB zzz rfl) Tryz.slices_Compact_string_empty (λb o c s w h h1 h2=>Tryz.slices_Compact_string b o c s w h h1 h2)
 .cases hg
  exact zxf (g:=1) (by decide) (Ax tB zBJ rfl) ztQ
 .cases hg
end Go.Proofs.YtiapegieocgmfaaGreatDoor
namespace Go.Proofs.YtiapegieocgmfaaGreatDoor
open Go.Am Tryz
theorem DO (h:Heap) (l:List ba) (w i o:Nat) (v:ab) (hi:i < l.length):iH aD 4 (.pointer (some ⟨h.size+i,o,none⟩)) v (h.lay l w)=if v.cells.size=1 then tI l[i]? i o v.cells.toList h l w else none:=xk sz4 h l w i o v hi
theorem kK (h:Heap) (l:List ba) (w i o:Nat) (v:ab) (hi:i < l.length):iH aD 3 (.pointer (some ⟨h.size+i,o,none⟩)) v (h.lay l w)=if v.cells.size=1 then tI l[i]? i o v.cells.toList h l w else none:=xk zl h l w i o v hi
theorem st9 (h:Heap) (l:List ba) (w i o:Nat) (v:ab) (hi:i < l.length):iH aD 9 (.pointer (some ⟨h.size+i,o,none⟩)) v (h.lay l w)=if v.cells.size=1 then tI l[i]? i o v.cells.toList h l w else none:=xk px h l w i o v hi
theorem vO (h:Heap) (l:List ba) (w i o:Nat) (v:ab) (hi:i < l.length):iH aD 44 (.pointer (some ⟨h.size+i,o,none⟩)) v (h.lay l w)=if v.cells.size=2 then tI l[i]? i o v.cells.toList h l w else none:=xk kL h l w i o v hi
theorem Cf (h:Heap) (l:List ba) (w i o:Nat) (v:ab) (hi:i < l.length):iH aD 47 (.pointer (some ⟨h.size+i,o,none⟩)) v (h.lay l w)=if v.cells.size=11 then tI l[i]? i o v.cells.toList h l w else none:=xk bH h l w i o v hi
theorem zvA (a b:ak):cz prog aD .neq 47 a.val b.val=some (.bool (!decide (a=b))):=by
 have h1:cz prog aD .neq 47 a.val b.val=(Vd a b).map λb=>.bool !b:=by kernel_rfl
 rw [h1,zyn];rfl
theorem zn3 (a b:aZ):cz prog aD .eql 44 a.val b.val=some (.bool (decide (a=b))):=by
 have h1:cz prog aD .eql 44 a.val b.val=(wD a b).map λb=>.bool b:=by kernel_rfl
 rw [h1,zmE];rfl
theorem zn4 (a b:aZ):cz prog aD .neq 44 a.val b.val=some (.bool (!decide (a=b))):=by
 have h1:cz prog aD .neq 44 a.val b.val=(wD a b).map λb=>.bool !b:=by kernel_rfl
 rw [h1,zmE];rfl
theorem zr7 (p q:Bool):cz prog aD .eql 4 (.bool p) (.bool q)=some (.bool (p == q)):=by cases p <;> cases q <;> kernel_rfl
theorem wY {t:TypeId} {a b:au} {h:Heap} {K:aF} (hs:a.size+b.size<=9223372036854775807) (hk:∀ S:au,S=a++b->S.size=a.size+b.size->K (.string S) h):aC (cz prog aD .add t (.string a) (.string b)) h K:=by
 rw [zAx hs];exact hk _ rfl (ByteArray.size_append)
theorem zto (v w:Bool) (s u:au):cz prog aD .neq 44 (.agg ⟨[.bool v,.string s]⟩) (.agg ⟨[.bool w,.string u]⟩)=some (.bool (!decide (aZ.mk v s=aZ.mk w u))):=zn4 ⟨v,s⟩ ⟨w,u⟩
theorem zqt:qp aD 44 []=some (.agg ⟨[.bool false,.string ⟨#[]⟩]⟩):=by kernel_rfl
theorem xp:su aD 38 38=true:=by kernel_rfl
end Go.Proofs.YtiapegieocgmfaaGreatDoor

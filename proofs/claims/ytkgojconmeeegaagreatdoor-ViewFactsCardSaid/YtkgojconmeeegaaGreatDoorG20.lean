/-
  DERIVED: THE SHELF's CONTRACTS AT THIS DUMP, IN PLAIN WORDS (tools/lay-plain.mjs out of 'TryzShelf.lean', which tools/lay-shelf.mjs wrote): THE SAME DECLARATIONS UNDER THE SAME NAMES: 'import', 'namespace', 'open', 'def', 'theorem' AND NOTHING ELSE: no command of the shelf's: FOR A HAND-IN. Each laying: the table of numbers ('.._ren') and one theorem, a field a fact of the dump's own or the kernel's comparison; each contract: ONE APPLICATION.
-/
import Derived.Shelf.Strings.Builder1
import Derived.Shelf.Strings.Builder2
import Derived.Shelf.Strings.OnBuilder
import Derived.Shelf.Strings.Fields
import Derived.Shelf.Unicode.Latin
import Derived.Shelf.Unicode.Is16White
import Derived.Shelf.Unicode.IsSpaceAny
import Derived.Shelf.Unicode.Is16Any
import Derived.Shelf.Unicode.Is32Any
import Derived.Shelf.Unicode.ExclAny
import Derived.WalkKit
import Derived.Lib.Walk
import Derived.Lib.SliceRun
import Derived.Lib.AppendZeros
import Derived.Laws.Externs
import Derived.Laws.IdiomCopy
import Derived.Deep.RegionLaw
import Derived.OwnWalk
import Derived.Test.YtkgojconmeeegaaGreatDoorG19
set_option linter.unusedSimpArgs false
set_option linter.unusedVariables false
namespace Go.Proofs
open Go.Shelf
def Tryz.lays156_ren:Go.Shelf.Ren:=⟨fun|156=>196|165=>217|166=>218|169=>219|240=>228|241=>229|276=>235|277=>236|n=>n,fun|31=>22|9=>9|3=>3|4=>4|0=>0|20=>20|72=>248|76=>252|70=>245|37=>246|75=>251|127=>256|164=>260|5=>5|80=>254|n=>n,fun|n=>n⟩
theorem Tryz.lays156:Go.Proofs.Lays.n156 Tryz.prog Tryz.lays156_ren:={
 mixed:=by kernel_rfl
 f156:=Tryz.func196.trans (congrArg some (by kernel_rfl))
 f165:=Tryz.func217.trans (congrArg some (by kernel_rfl))
 f166:=Tryz.func218.trans (congrArg some (by kernel_rfl))
 f169:=Tryz.func219.trans (congrArg some (by kernel_rfl))
 f240:=Tryz.func228.trans (congrArg some (by kernel_rfl))
 f241:=Tryz.func229.trans (congrArg some (by kernel_rfl))
 f276:=Tryz.func235.trans (congrArg some (by kernel_rfl))
 f277:=Tryz.func236.trans (congrArg some (by kernel_rfl))
 t0:=Tryz.underlying0
 a0:=Tryz.isAgg0
 z0:=Tryz.sizeOf0
 v0:=Tryz.zeroValue0
 t3:=Tryz.underlying3
 a3:=Tryz.isAgg3
 z3:=Tryz.sizeOf3
 v3:=Tryz.zeroValue3
 t4:=Tryz.underlying4
 a4:=Tryz.isAgg4
 z4:=Tryz.sizeOf4
 v4:=Tryz.zeroValue4
 t9:=Tryz.underlying9
 a9:=Tryz.isAgg9
 z9:=Tryz.sizeOf9
 v9:=Tryz.zeroValue9
 t20:=Tryz.underlying20
 a20:=Tryz.isAgg20
 z20:=Tryz.sizeOf20
 v20:=Tryz.zeroValue20
 t31:=Tryz.underlying22
 a31:=Tryz.isAgg22
 z31:=Tryz.sizeOf22
 v31:=Tryz.zeroValue22
 t37:=Tryz.underlying246
 a37:=Tryz.isAgg246
 z37:=Tryz.sizeOf246
 v37:=Tryz.zeroValue246
 t70:=Tryz.underlying245
 a70:=Tryz.isAgg245
 z70:=Tryz.sizeOf245
 v70:=Tryz.zeroValue245
 t72:=Tryz.underlying248
 a72:=Tryz.isAgg248
 z72:=Tryz.sizeOf248
 v72:=Tryz.zeroValue248
 t75:=Tryz.underlying251
 a75:=Tryz.isAgg251
 z75:=Tryz.sizeOf251
 v75:=Tryz.zeroValue251
 t76:=Tryz.underlying252
 a76:=Tryz.isAgg252
 z76:=Tryz.sizeOf252
 v76:=Tryz.zeroValue252
 t127:=Tryz.underlying256
 a127:=Tryz.isAgg256
 z127:=Tryz.sizeOf256
 v127:=Tryz.zeroValue256
 t164:=Tryz.underlying260
 a164:=Tryz.isAgg260
 z164:=Tryz.sizeOf260
 v164:=Tryz.zeroValue260 }
theorem Tryz.Builder_Extra_156:Builder.Extra Tryz.prog Tryz.lays156_ren:={
 sizeBuilder:=by kernel_rfl
 liesBuilder:=by kernel_rfl
 t5:=Tryz.underlying5
 a5:=Tryz.isAgg5
 z5:=Tryz.sizeOf5
 v5:=Tryz.zeroValue5
 infoByte:=by kernel_rfl
 cellsByte:=by kernel_rfl
 sizeByte:=by kernel_rfl
 neB5:=by decide }
open Go.RowKit in
theorem Tryz.strings_Join_none (a:Option Addr) (c:Nat) (sep:ByteArray) (w:World) :
 Calls Tryz.prog 196 #[.slice a 0 c,.string sep] w λe w'=>e=.returned (.string ⟨#[]⟩)/\w'=w:=Any.strings_Join_none Tryz.lays156 Tryz.Builder_Extra_156 a c sep w
open Go.RowKit in
theorem Tryz.strings_Join (bk o c:Nat) (xs:List ByteArray) (sep:ByteArray) (w:World) (nq:∀ (j:Nat) x,xs[j]? = some x->w.cell? ⟨bk,o+j,none⟩=some (.string x)) (BD:bk < w.heap.size) (hN:xs.length<=140737488355328) (pP:xs.length<=c) (hlen:(Lib.join (xs.map (·.data.toList)) sep.data.toList).length<=140737488355328) :
 Calls Tryz.prog 196 #[.slice (some ⟨bk,o,none⟩) xs.length c,.string sep] w λe w'=>e=.returned (.string ⟨(Lib.join (xs.map (·.data.toList)) sep.data.toList).toArray⟩)/\Below w.heap.size w w':=Any.strings_Join Tryz.lays156 Tryz.Builder_Extra_156 bk o c xs sep w nq BD hN pP hlen
def Tryz.lays106_ren:Go.Shelf.Ren:=⟨fun|106=>157|213=>195|265=>216|n=>n,fun|9=>9|3=>3|n=>n,fun|n=>n⟩
theorem Tryz.lays106:Go.Proofs.Lays.n106 Tryz.prog Tryz.lays106_ren:={
 mixed:=by kernel_rfl
 f106:=Tryz.func157.trans (congrArg some (by kernel_rfl))
 f213:=Tryz.func195.trans (congrArg some (by kernel_rfl))
 f265:=Tryz.func216.trans (congrArg some (by kernel_rfl))
 t3:=Tryz.underlying3
 a3:=Tryz.isAgg3
 z3:=Tryz.sizeOf3
 v3:=Tryz.zeroValue3
 t9:=Tryz.underlying9
 a9:=Tryz.isAgg9
 z9:=Tryz.sizeOf9
 v9:=Tryz.zeroValue9 }
open Go.RowKit in
theorem Tryz.strings_Compare (a b:ByteArray) (w:World) :
 Calls Tryz.prog 157 #[.string a,.string b] w λe w'=>e=.returned (.int .i64 (Lib.compareBytes a.data.toList b.data.toList))/\w'=w:=Any.strings_Compare Tryz.lays106 a b w
def Tryz.lays190_ren:Go.Shelf.Ren:=⟨fun|190=>48|125=>79|258=>78|128=>134|129=>135|302=>125|303=>126|304=>127|305=>128|306=>129|307=>130|308=>131|309=>132|310=>133|333=>169|329=>170|330=>171|334=>172|335=>173|336=>174|344=>201|n=>n,fun|31=>22|9=>9|3=>3|46=>142|0=>0|51=>192|53=>55|4=>4|183=>186|182=>185|131=>130|5=>5|218=>220|222=>224|228=>236|229=>237|n=>n,fun|n=>n⟩
theorem Tryz.lays190:Go.Proofs.Lays.n190 Tryz.prog Tryz.lays190_ren:={
 mixed:=by kernel_rfl
 f125:=Tryz.func79.trans (congrArg some (by kernel_rfl))
 f128:=Tryz.func134.trans (congrArg some (by kernel_rfl))
 f129:=Tryz.func135.trans (congrArg some (by kernel_rfl))
 f190:=Tryz.func48.trans (congrArg some (by kernel_rfl))
 f258:=Tryz.func78.trans (congrArg some (by kernel_rfl))
 f302:=Tryz.func125.trans (congrArg some (by kernel_rfl))
 f303:=Tryz.func126.trans (congrArg some (by kernel_rfl))
 f304:=Tryz.func127.trans (congrArg some (by kernel_rfl))
 f305:=Tryz.func128.trans (congrArg some (by kernel_rfl))
 f306:=Tryz.func129.trans (congrArg some (by kernel_rfl))
 f307:=Tryz.func130.trans (congrArg some (by kernel_rfl))
 f308:=Tryz.func131.trans (congrArg some (by kernel_rfl))
 f309:=Tryz.func132.trans (congrArg some (by kernel_rfl))
 f310:=Tryz.func133.trans (congrArg some (by kernel_rfl))
 f329:=Tryz.func170.trans (congrArg some (by kernel_rfl))
 f330:=Tryz.func171.trans (congrArg some (by kernel_rfl))
 f333:=Tryz.func169.trans (congrArg some (by kernel_rfl))
 f334:=Tryz.func172.trans (congrArg some (by kernel_rfl))
 f335:=Tryz.func173.trans (congrArg some (by kernel_rfl))
 f336:=Tryz.func174.trans (congrArg some (by kernel_rfl))
 f344:=Tryz.func201.trans (congrArg some (by kernel_rfl))
 t0:=Tryz.underlying0
 a0:=Tryz.isAgg0
 z0:=Tryz.sizeOf0
 v0:=Tryz.zeroValue0
 t3:=Tryz.underlying3
 a3:=Tryz.isAgg3
 z3:=Tryz.sizeOf3
 v3:=Tryz.zeroValue3
 t4:=Tryz.underlying4
 a4:=Tryz.isAgg4
 z4:=Tryz.sizeOf4
 v4:=Tryz.zeroValue4
 t5:=Tryz.underlying5
 a5:=Tryz.isAgg5
 z5:=Tryz.sizeOf5
 v5:=Tryz.zeroValue5
 t9:=Tryz.underlying9
 a9:=Tryz.isAgg9
 z9:=Tryz.sizeOf9
 v9:=Tryz.zeroValue9
 t31:=Tryz.underlying22
 a31:=Tryz.isAgg22
 z31:=Tryz.sizeOf22
 v31:=Tryz.zeroValue22
 t46:=Tryz.underlying142
 a46:=Tryz.isAgg142
 z46:=Tryz.sizeOf142
 v46:=Tryz.zeroValue142
 t51:=Tryz.underlying192
 a51:=Tryz.isAgg192
 z51:=Tryz.sizeOf192
 v51:=Tryz.zeroValue192
 t53:=Tryz.underlying55
 a53:=Tryz.isAgg55
 z53:=Tryz.sizeOf55
 v53:=Tryz.zeroValue55
 t131:=Tryz.underlying130
 a131:=Tryz.isAgg130
 z131:=Tryz.sizeOf130
 v131:=Tryz.zeroValue130
 t182:=Tryz.underlying185
 a182:=Tryz.isAgg185
 z182:=Tryz.sizeOf185
 v182:=Tryz.zeroValue185
 t183:=Tryz.underlying186
 a183:=Tryz.isAgg186
 z183:=Tryz.sizeOf186
 v183:=Tryz.zeroValue186
 t218:=Tryz.underlying220
 a218:=Tryz.isAgg220
 z218:=Tryz.sizeOf220
 v218:=Tryz.zeroValue220
 t222:=Tryz.underlying224
 a222:=Tryz.isAgg224
 z222:=Tryz.sizeOf224
 v222:=Tryz.zeroValue224
 t228:=Tryz.underlying236
 a228:=Tryz.isAgg236
 z228:=Tryz.sizeOf236
 v228:=Tryz.zeroValue236
 t229:=Tryz.underlying237
 a229:=Tryz.isAgg237
 z229:=Tryz.sizeOf237
 v229:=Tryz.zeroValue237 }
open Go.Sort Go.RowKit in
theorem Tryz.slices_Sort_string (fL off cap:Nat) (ss:List (List UInt8)) (w:World) (hH:Holds encStr w fL off ss.toArray) (BE:fL < w.heap.size) (dS:ss.length < 4611686018427387904) :
 Calls Tryz.prog 48 #[.slice (some ⟨fL,off,none⟩) ss.length cap] w λe w' =>
  e=.returned (.tuple #[])/\∃ n os,w'=grow (putRow encStr (Sort.ahead w n) fL off (ss.mergeSort λx y=>decide (x<=y)).toArray) os:=Any.slices_Sort_string Tryz.lays190 fL off cap ss w hH BE dS
def Tryz.lays157_ren:Go.Shelf.Ren:=⟨fun|157=>223|229=>233|199=>234|261=>237|311=>238|312=>239|n=>n,fun|9=>9|31=>22|3=>3|5=>5|4=>4|119=>257|0=>0|40=>259|152=>263|21=>21|154=>265|51=>192|141=>267|196=>271|193=>268|198=>274|49=>272|194=>269|201=>277|226=>279|46=>142|227=>280|n=>n,fun|0=>1|6=>2|n=>n⟩
theorem Tryz.lays157:Go.Proofs.Lays.n157 Tryz.prog Tryz.lays157_ren:={
 mixed:=by kernel_rfl
 f157:=Tryz.func223.trans (congrArg some (by kernel_rfl))
 f199:=Tryz.func234.trans (congrArg some (by kernel_rfl))
 f229:=Tryz.func233.trans (congrArg some (by kernel_rfl))
 f261:=Tryz.func237.trans (congrArg some (by kernel_rfl))
 f311:=Tryz.func238.trans (congrArg some (by kernel_rfl))
 f312:=Tryz.func239.trans (congrArg some (by kernel_rfl))
 t0:=Tryz.underlying0
 a0:=Tryz.isAgg0
 z0:=Tryz.sizeOf0
 v0:=Tryz.zeroValue0
 t3:=Tryz.underlying3
 a3:=Tryz.isAgg3
 z3:=Tryz.sizeOf3
 v3:=Tryz.zeroValue3
 t4:=Tryz.underlying4
 a4:=Tryz.isAgg4
 z4:=Tryz.sizeOf4
 v4:=Tryz.zeroValue4
 t5:=Tryz.underlying5
 a5:=Tryz.isAgg5
 z5:=Tryz.sizeOf5
 v5:=Tryz.zeroValue5
 t9:=Tryz.underlying9
 a9:=Tryz.isAgg9
 z9:=Tryz.sizeOf9
 v9:=Tryz.zeroValue9
 t21:=Tryz.underlying21
 a21:=Tryz.isAgg21
 z21:=Tryz.sizeOf21
 v21:=Tryz.zeroValue21
 t31:=Tryz.underlying22
 a31:=Tryz.isAgg22
 z31:=Tryz.sizeOf22
 v31:=Tryz.zeroValue22
 t40:=Tryz.underlying259
 a40:=Tryz.isAgg259
 z40:=Tryz.sizeOf259
 v40:=Tryz.zeroValue259
 t46:=Tryz.underlying142
 a46:=Tryz.isAgg142
 z46:=Tryz.sizeOf142
 v46:=Tryz.zeroValue142
 t49:=Tryz.underlying272
 a49:=Tryz.isAgg272
 z49:=Tryz.sizeOf272
 v49:=Tryz.zeroValue272
 t51:=Tryz.underlying192
 a51:=Tryz.isAgg192
 z51:=Tryz.sizeOf192
 v51:=Tryz.zeroValue192
 t119:=Tryz.underlying257
 a119:=Tryz.isAgg257
 z119:=Tryz.sizeOf257
 t141:=Tryz.underlying267
 a141:=Tryz.isAgg267
 z141:=Tryz.sizeOf267
 v141:=Tryz.zeroValue267
 t152:=Tryz.underlying263
 a152:=Tryz.isAgg263
 z152:=Tryz.sizeOf263
 v152:=Tryz.zeroValue263
 t154:=Tryz.underlying265
 a154:=Tryz.isAgg265
 z154:=Tryz.sizeOf265
 v154:=Tryz.zeroValue265
 t193:=Tryz.underlying268
 a193:=Tryz.isAgg268
 z193:=Tryz.sizeOf268
 v193:=Tryz.zeroValue268
 t194:=Tryz.underlying269
 a194:=Tryz.isAgg269
 z194:=Tryz.sizeOf269
 v194:=Tryz.zeroValue269
 t196:=Tryz.underlying271
 a196:=Tryz.isAgg271
 z196:=Tryz.sizeOf271
 v196:=Tryz.zeroValue271
 t198:=Tryz.underlying274
 a198:=Tryz.isAgg274
 z198:=Tryz.sizeOf274
 v198:=Tryz.zeroValue274
 t201:=Tryz.underlying277
 a201:=Tryz.isAgg277
 z201:=Tryz.sizeOf277
 v201:=Tryz.zeroValue277
 t226:=Tryz.underlying279
 a226:=Tryz.isAgg279
 z226:=Tryz.sizeOf279
 v226:=Tryz.zeroValue279
 t227:=Tryz.underlying280
 a227:=Tryz.isAgg280
 z227:=Tryz.sizeOf280
 v227:=Tryz.zeroValue280
 g0:=by kernel_rfl
 g6:=by kernel_rfl }
def Tryz.lays194_ren:Go.Shelf.Ren:=⟨fun|194=>49|n=>n,fun|31=>22|9=>9|3=>3|4=>4|0=>0|n=>n,fun|n=>n⟩
theorem Tryz.lays194:Go.Proofs.Lays.n194 Tryz.prog Tryz.lays194_ren:={
 mixed:=by kernel_rfl
 f194:=Tryz.func49.trans (congrArg some (by kernel_rfl))
 t0:=Tryz.underlying0
 a0:=Tryz.isAgg0
 z0:=Tryz.sizeOf0
 v0:=Tryz.zeroValue0
 t3:=Tryz.underlying3
 a3:=Tryz.isAgg3
 z3:=Tryz.sizeOf3
 v3:=Tryz.zeroValue3
 t4:=Tryz.underlying4
 a4:=Tryz.isAgg4
 z4:=Tryz.sizeOf4
 v4:=Tryz.zeroValue4
 t9:=Tryz.underlying9
 a9:=Tryz.isAgg9
 z9:=Tryz.sizeOf9
 v9:=Tryz.zeroValue9
 t31:=Tryz.underlying22
 a31:=Tryz.isAgg22
 z31:=Tryz.sizeOf22
 v31:=Tryz.zeroValue22 }
open Go.RowKit Go.Lib Go.Sort in
theorem Tryz.slices_Compact_string (fL off cap:Nat) (zs:List (List UInt8)) (w:World) (hH:Holds encStr w fL off zs.toArray) (dS:zs.length<=9223372036854775807) (pP:zs.length<=cap) :
 Calls Tryz.prog 49 #[.slice (some ⟨fL,off,none⟩) zs.length cap] w λe w'=>e=.returned (.slice (some ⟨fL,off,none⟩) (Lib.compact zs).length cap)/\∃ q,w'=putRow encStr (Sort.ahead w q) fL off (Lib.compact zs++List.replicate (zs.length - (Lib.compact zs).length) []).toArray:=Any.slices_Compact_string Tryz.lays194 fL off cap zs w hH dS pP
open Go.RowKit Go.Lib Go.Sort in
theorem Tryz.slices_Compact_string_empty (a:Option Addr) (cap:Nat) (w:World) :
 Calls Tryz.prog 49 #[.slice a 0 cap] w λe w'=>e=.returned (.slice a 0 cap)/\w'=w:=Any.slices_Compact_string_empty Tryz.lays194 a cap w
open Go.RowKit Go.Sort in
theorem Tryz.slices_Sort_string_none (p:Option Addr) (cap:Nat) (w:World) :
 Calls Tryz.prog 48 #[.slice p 0 cap] w λe w'=>e=.returned (.tuple #[])/\w'=w:=Any.slices_Sort_string_none Tryz.lays190 p cap w
end Go.Proofs
namespace Go.Proofs
open Go.RowKit Go.Lib
variable {w':World} {v':Value} {o:Oper} {P:Program}
namespace YtkgojconmeeegaaGreatDoor
theorem zqA (w:World) {a:Act} {K:Act->World->Prop} {Q:Exit->Act->World->Prop} (d s:Operand) (t t':TypeId)
 (ho:o.op=.call { callee:=.builtin .copy,args:=#[d,s],argTypes:=#[t,t'] }) (v u:Value) (hd:a.eval d=v) (hs:a.eval s=u) 
 (hr:(Builtin.copy_ #[t,t'] o.type #[v,u]).run P w=.ok v' w') (h:K (a.put o.dst v') w'):o.wp P a w K Q:=by
 unfold Oper.wp execOp
 simp only [ho,resolve,invoke,builtin,Sem.run_bind,Sem.run_pure,Result.andThen_ok,List.map_toArray,List.map_cons,List.map_nil,hd,hs,hr]
 exact h
theorem zfk (w:World) {ops:Array Oper} {rest:List Oper} {a:Act} {Q:Exit->Act->World->Prop} (YC:o.guard=none) (d s:Operand) (t t':TypeId)
 (ho:o.op=.call { callee:=.builtin .copy,args:=#[d,s],argTypes:=#[t,t'] }) (v u:Value) (hd:a.eval d=v) (hs:a.eval s=u) 
 (hr:(Builtin.copy_ #[t,t'] o.type #[v,u]).run P w=.ok v' w') (h:wpList P ops Q rest (a.put o.dst v') w'):wpList P ops Q (o::rest) a w :=
 wpList_plain YC λ_ hK=>zqA w d s t t' ho v u hd hs hr (hK _ _ h)
theorem zgs {ops:Array Oper} {a:Act} {w:World} {K:Act->World->Prop} {Q:Exit->Act->World->Prop} {E:Prop}
 (hg:o.guard=none) (d x:Operand) (dT sT:TypeId) (aZ:o.op=Op.call { callee:=Callee.builtin Builtin.copy,args:=#[d,x],argTypes:=#[dT,sT] })
 (v u:Value) (hd:a.eval d=v) (hx:a.eval x=u) (hr:(Builtin.copy_ #[dT,sT] o.type #[v,u]).run P w=.ok v' w') (hK:K (a.put o.dst v') w') :
 if Region.wanted o (yielded ops a.tmps)=true then Oper.wp P o a w K Q else E:=by
 have hw:Region.wanted o (yielded ops a.tmps)=true:=by simp [Region.wanted,hg]
 rw [if_pos hw]
 unfold Oper.wp
 simp [execOp,aZ,resolve,invoke,builtin,hd,hx,hr,Result.andThen]
 exact hK
set_option maxHeartbeats 4000000 in
set_option maxRecDepth 100000 in
theorem yY (a:Option Addr) (n c:Nat) (av:Option Addr) (cv:Nat) (w w':World) (r:Value) (qD:n<=c)
 (hr:∀ ty,(Builtin.append_ #[44,44] ty #[.slice a n c,.slice av 1 cv]).run Tryz.prog w=.ok r w') :
 Calls Tryz.prog 71 #[.slice a n c,.int .i64 n,.slice av 1 cv] w λe W=>e=.returned r/\W=w':=by
 have h1:(0:Int)<=(n:Int)/\(n:Int)<=(n:Int):=by omega
 cases a
 all_goals
  go_enter Tryz.func71,Tryz.ntmps71
  go_wp2_with (at_builtin;refine Lib.wpList_append_run _ rfl _ _ _ _ rfl _ _ rfl rfl _ _ (hr _) ?_)
  all_goals
   go_ret
   exact ⟨rfl,rfl⟩
set_option maxHeartbeats 4000000 in
set_option maxRecDepth 100000 in
theorem vO (b off n c i:Nat) (av:Option Addr) (cv:Nat) (w w1 w2:World) (x1 x2:Value) (hi:i < n) (iL:n+1<=c) (hc:c<=9223372036854775807)
 (qE:∀ lb cb,(callFunc 118 #[.slice av 1 cv,.slice (some ⟨b,off+(i+1)*11,none⟩) lb cb]).run Tryz.prog w=.ok (.value (.bool false)) w)
 (Gc:∀ ty dc sc,(Builtin.copy_ #[44,44] ty #[.slice (some ⟨b,off+(i+1)*11,none⟩) (n - i) dc,.slice (some ⟨b,off+i*11,none⟩) (n+1 - i) sc]).run Tryz.prog w.drew=.ok x1 w1)
 (Gd:∀ ty dc,(Builtin.copy_ #[44,44] ty #[.slice (some ⟨b,off+i*11,none⟩) (n+1 - i) dc,.slice av 1 cv]).run Tryz.prog w1=.ok x2 w2) :
 Calls Tryz.prog 71 #[.slice (some ⟨b,off,none⟩) n c,.int .i64 i,.slice av 1 cv] w λe W=>e=.returned (.slice (some ⟨b,off,none⟩) (n+1) c)/\W=w2:=by
 have lu:¬ ((i:Int)=(n:Int)):=by omega
 have yT:IntKind.i64.wrap ((i:Int)+1)=(i:Int)+1:=by rw [IntKind.wrap_i64];omega
 have ph:IntKind.i64.wrap ((n:Int)+1)=(n:Int)+1:=by rw [IntKind.wrap_i64];omega
 have DB:(0:Int)<=(i:Int)+1:=by omega
 have aK:i<=n:=by omega
 have htn:((i:Int)+1).toNat=i+1:=by omega
 have qw:¬ (c=i+1):=by omega
 have Yd:(i:Int)<=(n:Int)+1:=by omega
 have hb4:¬ (c=i):=by omega
 go_enter Tryz.func71,Tryz.ntmps71
 go_wp2_with (simp only [qE])
 go_region_law (refine zgs rfl _ _ 44 44 rfl _ _ (by simp [Act.eval,Act.put]) (by simp [Act.eval,Act.put]) (Gc _ _ _) ?_)
 go_wp2_with (at_builtin;refine zfk _ rfl _ _ 44 44 rfl _ _ rfl rfl (Gd _ _) ?_)
 go_ret
 exact ⟨rfl,rfl⟩
set_option maxHeartbeats 4000000 in
set_option maxRecDepth 100000 in
theorem vN (b off n c i nb g:Nat) (av:Option Addr) (cv:Nat) (w w1 w2 w3:World) (x1 x2:Value) (hi:i < n) (qD:n<=c) (iL:c < n+1) (hg:n+1<=g) (an4:g<=9223372036854775807)
 (o8:∀ ty,(Builtin.append_ #[44,3] ty #[.slice (some ⟨b,off,none⟩) i c,.int .i64 ((n:Int)+1 - (i:Int))]).run Tryz.prog w=.ok (.slice (some ⟨nb,0,none⟩) (n+1) g) w1)
 (Gc:∀ ty dc,(Builtin.copy_ #[44,44] ty #[.slice (some ⟨nb,i*11,none⟩) (n+1 - i) dc,.slice av 1 cv]).run Tryz.prog w1=.ok x1 w2)
 (Gd:∀ ty dc sc,(Builtin.copy_ #[44,44] ty #[.slice (some ⟨nb,(i+1)*11,none⟩) (n - i) dc,.slice (some ⟨b,off+i*11,none⟩) (n - i) sc]).run Tryz.prog w2.drew=.ok x2 w3) :
 Calls Tryz.prog 71 #[.slice (some ⟨b,off,none⟩) n c,.int .i64 i,.slice av 1 cv] w λe W=>e=.returned (.slice (some ⟨nb,0,none⟩) (n+1) g)/\W=w3:=by
 have lu:¬ ((i:Int)=(n:Int)):=by omega
 have Cf:(c:Int) < (n:Int)+1:=by omega
 have yT:IntKind.i64.wrap ((i:Int)+1)=(i:Int)+1:=by rw [IntKind.wrap_i64];omega
 have ph:IntKind.i64.wrap ((n:Int)+1)=(n:Int)+1:=by rw [IntKind.wrap_i64];omega
 have DB:(0:Int)<=(i:Int)+1:=by omega
 have aK:i<=n:=by omega
 have htn:((i:Int)+1).toNat=i+1:=by omega
 have hGi:¬ (g=i):=by omega
 have ank:¬ (g=i+1):=by omega
 have hci:¬ (c=i):=by omega
 have Yd:(i:Int)<=(n:Int):=by omega
 go_enter Tryz.func71,Tryz.ntmps71
 go_wp2_with (first|(at_builtin;refine Lib.wpList_append_run _ rfl _ _ _ _ rfl _ _ rfl rfl _ _ (o8 _) ?_)|(at_builtin;refine zfk _ rfl _ _ 44 44 rfl _ _ rfl rfl (Gc _ _) ?_))
 go_region_law (refine zgs rfl _ _ 44 44 rfl _ _ (by simp [Act.eval,Act.put]) (by simp [Act.eval,Act.put]) (Gd _ _ _) ?_)
 go_wp2
 go_ret
 exact ⟨rfl,rfl⟩
end YtkgojconmeeegaaGreatDoor
end Go.Proofs
namespace Go.Proofs.YtkgojconmeeegaaGreatDoor
open Go.RowKit Go.Am
theorem zpc (x y:ae) (w:World) (h:(Extern.SlicesOverlaps.overlaps #[44,44] #[4] #[x,y]).run Tryz.prog w=.ok (.bool false) w):(callFunc 118 #[x,y]).run Tryz.prog w=.ok (.value (.bool false)) w:=by
 rw [run_callFunc_extern Tryz.func118 (by kernel_rfl) (by kernel_rfl) (by kernel_rfl) (e:=Extern.SlicesOverlaps.overlaps #[44,44] #[4]) (by kernel_rfl),h]
 rfl
theorem ztc:aA.desc 44=some (.slice 34):=by kernel_rfl
theorem UI:aA.info 34=some (11,136,ab.cells):=by kernel_rfl
theorem zBw:AZ Tryz.prog aA.gs 71 (rQ aA 44) :=
 zvr (k:=11) v8 ztc UI Tryz.underlying3 (Ax v8 zA1 rfl) zpc Go.Proofs.YtkgojconmeeegaaGreatDoor.yY Go.Proofs.YtkgojconmeeegaaGreatDoor.vO Go.Proofs.YtkgojconmeeegaaGreatDoor.vN
noncomputable def ov0:Ov:=λf=>match f with
 |223=>some (HH 1 9)
 |196=>some Ib
 |157=>some RB
 |71=>some (rQ aA 44)
 |_=>none
theorem zEb:Di Tryz.prog aA.gs ov0:=by
 intro f g hg
 unfold ov0 at hg
 split at hg
 .cases hg
  exact zlM (g:=1) (by decide) (Ax v8 zqq rfl) (λs w hs ha hc=>Any.strings_Fields_core Tryz.lays157 (by kernel_rfl) s w hs ha hc)
 .cases hg
  exact zty (Ax v8 zqp rfl) Tryz.strings_Join_none Tryz.strings_Join
 .cases hg
  exact zjP (Ax v8 zqo rfl) Tryz.strings_Compare
 .cases hg
  exact zBw
 .cases hg
theorem zuO:zjn 2 (call Tryz.prog aA ov0 200 (.func 5) [] (vT 1))=true:=by kernel_rfl
theorem zuN (w:World) (ht:∀ c,c < 256->w.cell? ⟨1,c,none⟩=some (.int .u8 (Lib.asciiSpaceTab.getD c 0))):Calls Tryz.prog 5 #[] w λe w'=>e=.returned (.bool true)/\Below w.heap.size w w':=zsi mixed v8 rfl zEb rfl zuO w ht
noncomputable def ov:Ov:=λf=>match f with
 |223=>some (HH 1 9)
 |196=>some Ib
 |157=>some RB
 |71=>some (rQ aA 44)
 |48=>some H4
 |49=>some HU
 |5=>some (Ki 1)
 |_=>none
theorem zHa:Di Tryz.prog aA.gs ov:=by
 intro f g hg
 unfold ov at hg
 split at hg
 .cases hg
  exact zlM (g:=1) (by decide) (Ax v8 zqq rfl) (λs w hs ha hc=>Any.strings_Fields_core Tryz.lays157 (by kernel_rfl) s w hs ha hc)
 .cases hg
  exact zty (Ax v8 zqp rfl) Tryz.strings_Join_none Tryz.strings_Join
 .cases hg
  exact zjP (Ax v8 zqo rfl) Tryz.strings_Compare
 .cases hg
  exact zBw
 .cases hg
  exact zAv (Ax v8 zAZ rfl) Tryz.slices_Sort_string_none Tryz.slices_Sort_string
 .cases hg
  exact zpQ (Ax v8 zA0 rfl) Tryz.slices_Compact_string_empty (λb o c s w h h1 h2=>Tryz.slices_Compact_string b o c s w h h1 h2)
 .cases hg
  exact zyt (g:=1) (by decide) (Ax v8 zDi rfl) zuN
 .cases hg
end Go.Proofs.YtkgojconmeeegaaGreatDoor
namespace Go.Proofs.YtkgojconmeeegaaGreatDoor
open Go.Am Tryz
theorem Ee (h:Heap) (l:List bh) (w i o:Nat) (v:ae) (hi:i < l.length):iS aA 4 (.pointer (some ⟨h.size+i,o,none⟩)) v (h.lay l w)=if v.cells.size=1 then sN l[i]? i o v.cells.toList h l w else none:=wi sz4 h l w i o v hi
theorem kA (h:Heap) (l:List bh) (w i o:Nat) (v:ae) (hi:i < l.length):iS aA 3 (.pointer (some ⟨h.size+i,o,none⟩)) v (h.lay l w)=if v.cells.size=1 then sN l[i]? i o v.cells.toList h l w else none:=wi ze h l w i o v hi
theorem st9 (h:Heap) (l:List bh) (w i o:Nat) (v:ae) (hi:i < l.length):iS aA 9 (.pointer (some ⟨h.size+i,o,none⟩)) v (h.lay l w)=if v.cells.size=1 then sN l[i]? i o v.cells.toList h l w else none:=wi mU h l w i o v hi
theorem gA (h:Heap) (l:List bh) (w i o:Nat) (v:ae) (hi:i < l.length):iS aA 31 (.pointer (some ⟨h.size+i,o,none⟩)) v (h.lay l w)=if v.cells.size=2 then sN l[i]? i o v.cells.toList h l w else none:=wi fK h l w i o v hi
theorem vQ (h:Heap) (l:List bh) (w i o:Nat) (v:ae) (hi:i < l.length):iS aA 34 (.pointer (some ⟨h.size+i,o,none⟩)) v (h.lay l w)=if v.cells.size=11 then sN l[i]? i o v.cells.toList h l w else none:=wi bE h l w i o v hi
theorem SO (h:Heap) (l:List bh) (w i o:Nat) (v:ae) (hi:i < l.length):iS aA 195 (.pointer (some ⟨h.size+i,o,none⟩)) v (h.lay l w)=if v.cells.size=3 then sN l[i]? i o v.cells.toList h l w else none:=wi mO h l w i o v hi
theorem zwA (a b:ak):bY prog aA .eql 34 a.val b.val=some (.bool (decide (a=b))):=by
 have h1:bY prog aA .eql 34 a.val b.val=(Tb a b).map λb=>.bool b:=by kernel_rfl
 rw [h1,zs4];rfl
theorem zwB (a b:ak):bY prog aA .neq 34 a.val b.val=some (.bool (!decide (a=b))):=by
 have h1:bY prog aA .neq 34 a.val b.val=(Tb a b).map λb=>.bool !b:=by kernel_rfl
 rw [h1,zs4];rfl
theorem zi9 (a b:aH):bY prog aA .eql 31 a.val b.val=some (.bool (decide (a=b))):=by
 have h1:bY prog aA .eql 31 a.val b.val=(wD a b).map λb=>.bool b:=by kernel_rfl
 rw [h1,zmI];rfl
theorem zop (a b:aH):bY prog aA .neq 31 a.val b.val=some (.bool (!decide (a=b))):=by
 have h1:bY prog aA .neq 31 a.val b.val=(wD a b).map λb=>.bool !b:=by kernel_rfl
 rw [h1,zmI];rfl
theorem zsZ (p q:Bool):bY prog aA .eql 4 (.bool p) (.bool q)=some (.bool (p == q)):=by cases p <;> cases q <;> kernel_rfl
theorem wR {t:TypeId} {a b:aB} {h:Heap} {K:aG} (hs:a.size+b.size<=9223372036854775807) (hk:∀ S:aB,S=a++b->S.size=a.size+b.size->K (.string S) h):aD (bY prog aA .add t (.string a) (.string b)) h K:=by
 rw [zBZ hs];exact hk _ rfl (ByteArray.size_append)
theorem zhz (v w:Bool) (s u:aB):bY prog aA .neq 31 (.agg ⟨[.bool v,.string s]⟩) (.agg ⟨[.bool w,.string u]⟩)=some (.bool (!decide (aH.mk v s=aH.mk w u))):=zop ⟨v,s⟩ ⟨w,u⟩
theorem zub (v w:Bool) (s u:aB):bY prog aA .eql 31 (.agg ⟨[.bool v,.string s]⟩) (.agg ⟨[.bool w,.string u]⟩)=some (.bool (decide (aH.mk v s=aH.mk w u))):=zi9 ⟨v,s⟩ ⟨w,u⟩
theorem zq8:od aA 31 []=some (.agg ⟨[.bool false,.string ⟨#[]⟩]⟩):=by kernel_rfl
theorem xh:rW aA 44 44=true:=by kernel_rfl
end Go.Proofs.YtkgojconmeeegaaGreatDoor

/-
  DERIVED: THE SHELF's CONTRACTS AT THIS DUMP, IN PLAIN WORDS (tools/lay-plain.mjs out of 'TryzShelf.lean', which tools/lay-shelf.mjs wrote): THE SAME DECLARATIONS UNDER THE SAME NAMES: 'import', 'namespace', 'open', 'def', 'theorem' AND NOTHING ELSE: no command of the shelf's: FOR A HAND-IN. Each laying: the table of numbers ('.._ren') and one theorem, a field a fact of the dump's own or the kernel's comparison; each contract: ONE APPLICATION.
-/
import Derived.Shelf.Strings.Builder1
import Derived.Shelf.Strings.Builder2
import Derived.Shelf.Strings.OnBuilder
import Derived.Shelf.Strings.Fields
import Derived.Shelf.Unicode.Latin
import Derived.Shelf.Unicode.Is16White
import Derived.Shelf.Unicode.IsSpaceAny
import Derived.Shelf.Unicode.Is16Any
import Derived.Shelf.Unicode.Is32Any
import Derived.WalkKit
import Derived.Lib.Walk
import Derived.Lib.SliceRun
import Derived.Lib.AppendZeros
import Derived.Laws.Externs
import Derived.Laws.IdiomCopy
import Derived.Deep.RegionLaw
import Derived.OwnWalk
import Derived.Test.YtdplfgoifjjniaaGreatDoorG9
import Derived.Test.YtdplfgoifjjniaaGreatDoorG23
set_option linter.unusedSimpArgs false
set_option linter.unusedVariables false
namespace Go.Proofs
open Go.Shelf
def Tryz.km:Go.Shelf.Ren:=⟨fun|156=>144|165=>155|166=>156|169=>157|240=>165|241=>166|276=>169|277=>170|n=>n,fun|31=>23|9=>9|3=>3|4=>4|0=>0|20=>20|72=>176|76=>180|70=>173|37=>174|75=>179|127=>186|164=>193|5=>5|80=>182|n=>n,fun|n=>n⟩
theorem Tryz.qX:Go.Proofs.Lays.n156 Tryz.prog Tryz.km:={
 mixed:=by kernel_rfl
 f156:=Tryz.func144.trans (congrArg some (by kernel_rfl))
 f165:=Tryz.func155.trans (congrArg some (by kernel_rfl))
 f166:=Tryz.func156.trans (congrArg some (by kernel_rfl))
 f169:=Tryz.func157.trans (congrArg some (by kernel_rfl))
 f240:=Tryz.func165.trans (congrArg some (by kernel_rfl))
 f241:=Tryz.func166.trans (congrArg some (by kernel_rfl))
 f276:=Tryz.func169.trans (congrArg some (by kernel_rfl))
 f277:=Tryz.func170.trans (congrArg some (by kernel_rfl))
 t0:=Tryz.underlying0
 a0:=Tryz.isAgg0
 z0:=Tryz.sizeOf0
 v0:=Tryz.zeroValue0
 t3:=Tryz.underlying3
 a3:=Tryz.isAgg3
 z3:=Tryz.sizeOf3
 v3:=Tryz.zeroValue3
 t4:=Tryz.underlying4
 a4:=Tryz.isAgg4
 z4:=Tryz.sizeOf4
 v4:=Tryz.zeroValue4
 t9:=Tryz.underlying9
 a9:=Tryz.isAgg9
 z9:=Tryz.sizeOf9
 v9:=Tryz.zeroValue9
 t20:=Tryz.underlying20
 a20:=Tryz.isAgg20
 z20:=Tryz.sizeOf20
 v20:=Tryz.zeroValue20
 t31:=Tryz.underlying23
 a31:=Tryz.isAgg23
 z31:=Tryz.sizeOf23
 v31:=Tryz.zeroValue23
 t37:=Tryz.underlying174
 a37:=Tryz.isAgg174
 z37:=Tryz.sizeOf174
 v37:=Tryz.zeroValue174
 t70:=Tryz.underlying173
 a70:=Tryz.isAgg173
 z70:=Tryz.sizeOf173
 v70:=Tryz.zeroValue173
 t72:=Tryz.underlying176
 a72:=Tryz.isAgg176
 z72:=Tryz.sizeOf176
 v72:=Tryz.zeroValue176
 t75:=Tryz.underlying179
 a75:=Tryz.isAgg179
 z75:=Tryz.sizeOf179
 v75:=Tryz.zeroValue179
 t76:=Tryz.underlying180
 a76:=Tryz.isAgg180
 z76:=Tryz.sizeOf180
 v76:=Tryz.zeroValue180
 t127:=Tryz.underlying186
 a127:=Tryz.isAgg186
 z127:=Tryz.sizeOf186
 v127:=Tryz.zeroValue186
 t164:=Tryz.underlying193
 a164:=Tryz.isAgg193
 z164:=Tryz.sizeOf193
 v164:=Tryz.zeroValue193 }
theorem Tryz.fJ:Builder.Extra Tryz.prog Tryz.km:={
 sizeBuilder:=by kernel_rfl
 liesBuilder:=by kernel_rfl
 t5:=Tryz.underlying5
 a5:=Tryz.isAgg5
 z5:=Tryz.sizeOf5
 v5:=Tryz.zeroValue5
 infoByte:=by kernel_rfl
 cellsByte:=by kernel_rfl
 sizeByte:=by kernel_rfl
 neB5:=by decide }
open Go.RowKit in
theorem Tryz.strings_Join_none (a:Option Addr) (c:Nat) (sep:ByteArray) (w:World) :
 Calls Tryz.prog 144 #[.slice a 0 c,.string sep] w fun e w'=>e=.returned (.string ⟨#[]⟩)∧w'=w:=Any.strings_Join_none Tryz.qX Tryz.fJ a c sep w
open Go.RowKit in
theorem Tryz.strings_Join (bk o c:Nat) (xs:List ByteArray) (sep:ByteArray) (w:World) (pY:∀ (j:Nat) x,xs[j]? = some x→w.cell? ⟨bk,o+j,none⟩=some (.string x)) (Jg:bk < w.heap.size) (hN:xs.length≤140737488355328) (pX:xs.length≤c) (hlen:(Lib.join (xs.map (·.data.toList)) sep.data.toList).length≤140737488355328) :
 Calls Tryz.prog 144 #[.slice (some ⟨bk,o,none⟩) xs.length c,.string sep] w fun e w'=>e=.returned (.string ⟨(Lib.join (xs.map (·.data.toList)) sep.data.toList).toArray⟩)∧Below w.heap.size w w':=Any.strings_Join Tryz.qX Tryz.fJ bk o c xs sep w pY Jg hN pX hlen
def Tryz.oV:Go.Shelf.Ren:=⟨fun|106=>127|213=>143|265=>154|n=>n,fun|9=>9|3=>3|n=>n,fun|n=>n⟩
theorem Tryz.xJ:Go.Proofs.Lays.n106 Tryz.prog Tryz.oV:={
 mixed:=by kernel_rfl
 f106:=Tryz.func127.trans (congrArg some (by kernel_rfl))
 f213:=Tryz.func143.trans (congrArg some (by kernel_rfl))
 f265:=Tryz.func154.trans (congrArg some (by kernel_rfl))
 t3:=Tryz.underlying3
 a3:=Tryz.isAgg3
 z3:=Tryz.sizeOf3
 v3:=Tryz.zeroValue3
 t9:=Tryz.underlying9
 a9:=Tryz.isAgg9
 z9:=Tryz.sizeOf9
 v9:=Tryz.zeroValue9 }
open Go.RowKit in
theorem Tryz.strings_Compare (a b:ByteArray) (w:World) :
 Calls Tryz.prog 127 #[.string a,.string b] w fun e w'=>e=.returned (.int .i64 (Lib.compareBytes a.data.toList b.data.toList))∧w'=w:=Any.strings_Compare Tryz.xJ a b w
def Tryz.oW:Go.Shelf.Ren:=⟨fun|157=>149|229=>159|199=>160|261=>167|311=>171|312=>172|n=>n,fun|9=>9|31=>23|3=>3|5=>5|4=>4|119=>183|0=>0|40=>185|152=>187|21=>21|154=>189|51=>190|141=>192|196=>199|193=>196|198=>202|49=>200|194=>197|201=>205|226=>207|46=>154|227=>208|n=>n,fun|0=>1|6=>2|n=>n⟩
theorem Tryz.qY:Go.Proofs.Lays.n157 Tryz.prog Tryz.oW:={
 mixed:=by kernel_rfl
 f157:=Tryz.func149.trans (congrArg some (by kernel_rfl))
 f199:=Tryz.func160.trans (congrArg some (by kernel_rfl))
 f229:=Tryz.func159.trans (congrArg some (by kernel_rfl))
 f261:=Tryz.func167.trans (congrArg some (by kernel_rfl))
 f311:=Tryz.func171.trans (congrArg some (by kernel_rfl))
 f312:=Tryz.func172.trans (congrArg some (by kernel_rfl))
 t0:=Tryz.underlying0
 a0:=Tryz.isAgg0
 z0:=Tryz.sizeOf0
 v0:=Tryz.zeroValue0
 t3:=Tryz.underlying3
 a3:=Tryz.isAgg3
 z3:=Tryz.sizeOf3
 v3:=Tryz.zeroValue3
 t4:=Tryz.underlying4
 a4:=Tryz.isAgg4
 z4:=Tryz.sizeOf4
 v4:=Tryz.zeroValue4
 t5:=Tryz.underlying5
 a5:=Tryz.isAgg5
 z5:=Tryz.sizeOf5
 v5:=Tryz.zeroValue5
 t9:=Tryz.underlying9
 a9:=Tryz.isAgg9
 z9:=Tryz.sizeOf9
 v9:=Tryz.zeroValue9
 t21:=Tryz.underlying21
 a21:=Tryz.isAgg21
 z21:=Tryz.sizeOf21
 v21:=Tryz.zeroValue21
 t31:=Tryz.underlying23
 a31:=Tryz.isAgg23
 z31:=Tryz.sizeOf23
 v31:=Tryz.zeroValue23
 t40:=Tryz.underlying185
 a40:=Tryz.isAgg185
 z40:=Tryz.sizeOf185
 v40:=Tryz.zeroValue185
 t46:=Tryz.underlying154
 a46:=Tryz.isAgg154
 z46:=Tryz.sizeOf154
 v46:=Tryz.zeroValue154
 t49:=Tryz.underlying200
 a49:=Tryz.isAgg200
 z49:=Tryz.sizeOf200
 v49:=Tryz.zeroValue200
 t51:=Tryz.underlying190
 a51:=Tryz.isAgg190
 z51:=Tryz.sizeOf190
 v51:=Tryz.zeroValue190
 t119:=Tryz.underlying183
 a119:=Tryz.isAgg183
 z119:=Tryz.sizeOf183
 t141:=Tryz.underlying192
 a141:=Tryz.isAgg192
 z141:=Tryz.sizeOf192
 v141:=Tryz.zeroValue192
 t152:=Tryz.underlying187
 a152:=Tryz.isAgg187
 z152:=Tryz.sizeOf187
 v152:=Tryz.zeroValue187
 t154:=Tryz.underlying189
 a154:=Tryz.isAgg189
 z154:=Tryz.sizeOf189
 v154:=Tryz.zeroValue189
 t193:=Tryz.underlying196
 a193:=Tryz.isAgg196
 z193:=Tryz.sizeOf196
 v193:=Tryz.zeroValue196
 t194:=Tryz.underlying197
 a194:=Tryz.isAgg197
 z194:=Tryz.sizeOf197
 v194:=Tryz.zeroValue197
 t196:=Tryz.underlying199
 a196:=Tryz.isAgg199
 z196:=Tryz.sizeOf199
 v196:=Tryz.zeroValue199
 t198:=Tryz.underlying202
 a198:=Tryz.isAgg202
 z198:=Tryz.sizeOf202
 v198:=Tryz.zeroValue202
 t201:=Tryz.underlying205
 a201:=Tryz.isAgg205
 z201:=Tryz.sizeOf205
 v201:=Tryz.zeroValue205
 t226:=Tryz.underlying207
 a226:=Tryz.isAgg207
 z226:=Tryz.sizeOf207
 v226:=Tryz.zeroValue207
 t227:=Tryz.underlying208
 a227:=Tryz.isAgg208
 z227:=Tryz.sizeOf208
 v227:=Tryz.zeroValue208
 g0:=by kernel_rfl
 g6:=by kernel_rfl }
end Go.Proofs
namespace Go.Proofs
open Go.RowKit Go.Lib
namespace YtdplfgoifjjniaaGreatDoor
theorem zob (w:World) {P:Program} {o:Oper} {a:Act} {K:Act→World→Prop} {Q:Exit→Act→World→Prop} (d s:Operand) (t t':TypeId)
 (ho:o.op=.call { callee:=.builtin .copy,args:=#[d,s],argTypes:=#[t,t'] }) (v u:Value) (hd:a.eval d=v) (hs:a.eval s=u) {v':Value} {w':World}
 (hr:(Builtin.copy_ #[t,t'] o.type #[v,u]).run P w=.ok v' w') (h:K (a.put o.dst v') w'):o.wp P a w K Q:=by
 unfold Oper.wp execOp
 simp only [ho,resolve,invoke,builtin,Sem.run_bind,Sem.run_pure,Result.andThen_ok,List.map_toArray,List.map_cons,List.map_nil,hd,hs,hr]
 exact h
theorem ze0 (w:World) {P:Program} {ops:Array Oper} {rest:List Oper} {o:Oper} {a:Act} {Q:Exit→Act→World→Prop} (V3:o.guard=none) (d s:Operand) (t t':TypeId)
 (ho:o.op=.call { callee:=.builtin .copy,args:=#[d,s],argTypes:=#[t,t'] }) (v u:Value) (hd:a.eval d=v) (hs:a.eval s=u) {v':Value} {w':World}
 (hr:(Builtin.copy_ #[t,t'] o.type #[v,u]).run P w=.ok v' w') (h:wpList P ops Q rest (a.put o.dst v') w'):wpList P ops Q (o::rest) a w :=
 wpList_plain V3 fun _ hK=>zob w d s t t' ho v u hd hs hr (hK _ _ h)
theorem zfZ {P:Program} {ops:Array Oper} {o:Oper} {a:Act} {w:World} {K:Act→World→Prop} {Q:Exit→Act→World→Prop} {E:Prop}
 (hg:o.guard=none) (d x:Operand) (dT sT:TypeId) (aL:o.op=Op.call { callee:=Callee.builtin Builtin.copy,args:=#[d,x],argTypes:=#[dT,sT] })
 (v u:Value) (hd:a.eval d=v) (hx:a.eval x=u) {v':Value} {w':World} (hr:(Builtin.copy_ #[dT,sT] o.type #[v,u]).run P w=.ok v' w') (hK:K (a.put o.dst v') w') :
 if Region.wanted o (yielded ops a.tmps)=true then Oper.wp P o a w K Q else E:=by
 have hw:Region.wanted o (yielded ops a.tmps)=true:=by simp [Region.wanted,hg]
 rw [if_pos hw]
 unfold Oper.wp
 simp [execOp,aL,resolve,invoke,builtin,hd,hx,hr,Result.andThen]
 exact hK
set_option maxHeartbeats 4000000 in
set_option maxRecDepth 100000 in
theorem uR (a:Option Addr) (n c:Nat) (av:Option Addr) (cv:Nat) (w w':World) (r:Value) (sI:n≤c)
 (hr:∀ ty,(Builtin.append_ #[52,52] ty #[.slice a n c,.slice av 1 cv]).run Tryz.prog w=.ok r w') :
 Calls Tryz.prog 63 #[.slice a n c,.int .i64 n,.slice av 1 cv] w fun e W=>e=.returned r∧W=w':=by
 have h1:(0:Int)≤(n:Int)∧(n:Int)≤(n:Int):=by omega
 cases a
 all_goals
  go_enter Tryz.func63,Tryz.ntmps63
  go_wp2_with (at_builtin;refine Lib.wpList_append_run _ rfl _ _ _ _ rfl _ _ rfl rfl _ _ (hr _) ?_)
  all_goals
   go_ret
   exact ⟨rfl,rfl⟩
set_option maxHeartbeats 4000000 in
set_option maxRecDepth 100000 in
theorem rY (b off n c i:Nat) (av:Option Addr) (cv:Nat) (w w1 w2:World) (x1 x2:Value) (hi:i < n) (gC:n+1≤c) (hc:c≤9223372036854775807)
 (nY:∀ lb cb,(callFunc 96 #[.slice av 1 cv,.slice (some ⟨b,off+(i+1)*11,none⟩) lb cb]).run Tryz.prog w=.ok (.value (.bool false)) w)
 (CV:∀ ty dc sc,(Builtin.copy_ #[52,52] ty #[.slice (some ⟨b,off+(i+1)*11,none⟩) (n - i) dc,.slice (some ⟨b,off+i*11,none⟩) (n+1 - i) sc]).run Tryz.prog w.drew=.ok x1 w1)
 (CW:∀ ty dc,(Builtin.copy_ #[52,52] ty #[.slice (some ⟨b,off+i*11,none⟩) (n+1 - i) dc,.slice av 1 cv]).run Tryz.prog w1=.ok x2 w2) :
 Calls Tryz.prog 63 #[.slice (some ⟨b,off,none⟩) n c,.int .i64 i,.slice av 1 cv] w fun e W=>e=.returned (.slice (some ⟨b,off,none⟩) (n+1) c)∧W=w2:=by
 have mh:¬ ((i:Int)=(n:Int)):=by omega
 have uN:IntKind.i64.wrap ((i:Int)+1)=(i:Int)+1:=by rw [IntKind.wrap_i64];omega
 have sM:IntKind.i64.wrap ((n:Int)+1)=(n:Int)+1:=by rw [IntKind.wrap_i64];omega
 have Au:(0:Int)≤(i:Int)+1:=by omega
 have aH:i≤n:=by omega
 have htn:((i:Int)+1).toNat=i+1:=by omega
 have nW:¬ (c=i+1):=by omega
 have CP:(i:Int)≤(n:Int)+1:=by omega
 have hb4:¬ (c=i):=by omega
 go_enter Tryz.func63,Tryz.ntmps63
 go_wp2_with (simp only [nY])
 go_region_law (refine zfZ rfl _ _ 52 52 rfl _ _ (by simp [Act.eval,Act.put]) (by simp [Act.eval,Act.put]) (CV _ _ _) ?_)
 go_wp2_with (at_builtin;refine ze0 _ rfl _ _ 52 52 rfl _ _ rfl rfl (CW _ _) ?_)
 go_ret
 exact ⟨rfl,rfl⟩
set_option maxHeartbeats 4000000 in
set_option maxRecDepth 100000 in
theorem rX (b off n c i nb g:Nat) (av:Option Addr) (cv:Nat) (w w1 w2 w3:World) (x1 x2:Value) (hi:i < n) (sI:n≤c) (gC:c < n+1) (hg:n+1≤g) (akT:g≤9223372036854775807)
 (ld:∀ ty,(Builtin.append_ #[52,3] ty #[.slice (some ⟨b,off,none⟩) i c,.int .i64 ((n:Int)+1 - (i:Int))]).run Tryz.prog w=.ok (.slice (some ⟨nb,0,none⟩) (n+1) g) w1)
 (CV:∀ ty dc,(Builtin.copy_ #[52,52] ty #[.slice (some ⟨nb,i*11,none⟩) (n+1 - i) dc,.slice av 1 cv]).run Tryz.prog w1=.ok x1 w2)
 (CW:∀ ty dc sc,(Builtin.copy_ #[52,52] ty #[.slice (some ⟨nb,(i+1)*11,none⟩) (n - i) dc,.slice (some ⟨b,off+i*11,none⟩) (n - i) sc]).run Tryz.prog w2.drew=.ok x2 w3) :
 Calls Tryz.prog 63 #[.slice (some ⟨b,off,none⟩) n c,.int .i64 i,.slice av 1 cv] w fun e W=>e=.returned (.slice (some ⟨nb,0,none⟩) (n+1) g)∧W=w3:=by
 have mh:¬ ((i:Int)=(n:Int)):=by omega
 have A7:(c:Int) < (n:Int)+1:=by omega
 have uN:IntKind.i64.wrap ((i:Int)+1)=(i:Int)+1:=by rw [IntKind.wrap_i64];omega
 have sM:IntKind.i64.wrap ((n:Int)+1)=(n:Int)+1:=by rw [IntKind.wrap_i64];omega
 have Au:(0:Int)≤(i:Int)+1:=by omega
 have aH:i≤n:=by omega
 have htn:((i:Int)+1).toNat=i+1:=by omega
 have hGi:¬ (g=i):=by omega
 have ake:¬ (g=i+1):=by omega
 have hci:¬ (c=i):=by omega
 have CP:(i:Int)≤(n:Int):=by omega
 go_enter Tryz.func63,Tryz.ntmps63
 go_wp2_with (first|(at_builtin;refine Lib.wpList_append_run _ rfl _ _ _ _ rfl _ _ rfl rfl _ _ (ld _) ?_)|(at_builtin;refine ze0 _ rfl _ _ 52 52 rfl _ _ rfl rfl (CV _ _) ?_))
 go_region_law (refine zfZ rfl _ _ 52 52 rfl _ _ (by simp [Act.eval,Act.put]) (by simp [Act.eval,Act.put]) (CW _ _ _) ?_)
 go_wp2
 go_ret
 exact ⟨rfl,rfl⟩
end YtdplfgoifjjniaaGreatDoor
end Go.Proofs
namespace Go.Proofs.YtdplfgoifjjniaaGreatDoor
open Go.RowKit Go.Am
theorem zmY (x y:Value) (w:World) (h:(Extern.SlicesOverlaps.overlaps #[52,52] #[4] #[x,y]).run Tryz.prog w=.ok (.bool false) w):(callFunc 96 #[x,y]).run Tryz.prog w=.ok (.value (.bool false)) w:=by
 rw [run_callFunc_extern Tryz.func96 (by kernel_rfl) (by kernel_rfl) (by kernel_rfl) (e:=Extern.SlicesOverlaps.overlaps #[52,52] #[4]) (by kernel_rfl),h]
 rfl
theorem zqe:ae.desc 52=some (.slice 42):=by kernel_rfl
theorem ZT:ae.info 42=some (11,136,ah.cells):=by kernel_rfl
theorem zBj:B0 Tryz.prog ae.gs 63 (re ae 52) :=
 zrZ (k:=11) vn zqe ZT Tryz.underlying3 (Br vn zAg rfl) zmY Go.Proofs.YtdplfgoifjjniaaGreatDoor.uR Go.Proofs.YtdplfgoifjjniaaGreatDoor.rY Go.Proofs.YtdplfgoifjjniaaGreatDoor.rX
noncomputable def Xr:Ov:=fun f=>match f with
 |149=>some (EF 1 9)
 |144=>some EZ
 |127=>some Mt
 |63=>some (re ae 52)
 |_=>none
theorem zEj:Ab Tryz.prog ae.gs Xr:=by
 intro f g hg
 unfold Xr at hg
 split at hg
 ·cases hg
  exact zkF (g:=1) (by decide) (Br vn zn2 rfl) (fun s w hs ha hc=>Any.strings_Fields_core Tryz.qY (by kernel_rfl) s w hs ha hc)
 ·cases hg
  exact zqt (Br vn zn1 rfl) Tryz.strings_Join_none Tryz.strings_Join
 ·cases hg
  exact zi1 (Br vn znX rfl) Tryz.strings_Compare
 ·cases hg
  exact zBj
 ·cases hg
theorem zrq:E3 Tryz.prog ae Xr 100000 200 (.func 7) [] (sb 1) (Zd 2)=true:=by kernel_rfl
theorem zrp (w:World) (ht:∀ c,c < 256→w.cell? ⟨1,c,none⟩=some (.int .u8 (Lib.asciiSpaceTab.getD c 0))):Calls Tryz.prog 7 #[] w fun e w'=>e=.returned (.bool true)∧Below w.heap.size w w':=zsf mixed vn rfl zEj rfl zrq w ht
noncomputable def ov:Ov:=fun f=>match f with
 |149=>some (EF 1 9)
 |144=>some EZ
 |127=>some Mt
 |63=>some (re ae 52)
 |7=>some (GY 1)
 |_=>none
theorem zH5:Ab Tryz.prog ae.gs ov:=by
 intro f g hg
 unfold ov at hg
 split at hg
 ·cases hg
  exact zkF (g:=1) (by decide) (Br vn zn2 rfl) (fun s w hs ha hc=>Any.strings_Fields_core Tryz.qY (by kernel_rfl) s w hs ha hc)
 ·cases hg
  exact zqt (Br vn zn1 rfl) Tryz.strings_Join_none Tryz.strings_Join
 ·cases hg
  exact zi1 (Br vn znX rfl) Tryz.strings_Compare
 ·cases hg
  exact zBj
 ·cases hg
  exact zut (g:=1) (by decide) (Br vn zDc rfl) zrp
 ·cases hg
end Go.Proofs.YtdplfgoifjjniaaGreatDoor
namespace Go.Proofs.YtdplfgoifjjniaaGreatDoor
open Go.Am
theorem kM (h:Heap) (l:List bh) (w i o:Nat) (v:Value) (hi:i < l.length):gA ae 4 (.pointer (some ⟨h.size+i,o,none⟩)) v (h.lay l w)=if v.cells.size=1 then qw l[i]? i o v.cells.toList h l w else none:=tc sz4 h l w i o v hi
theorem fe (h:Heap) (l:List bh) (w i o:Nat) (v:Value) (hi:i < l.length):gA ae 3 (.pointer (some ⟨h.size+i,o,none⟩)) v (h.lay l w)=if v.cells.size=1 then qw l[i]? i o v.cells.toList h l w else none:=tc u9 h l w i o v hi
theorem nJ (h:Heap) (l:List bh) (w i o:Nat) (v:Value) (hi:i < l.length):gA ae 9 (.pointer (some ⟨h.size+i,o,none⟩)) v (h.lay l w)=if v.cells.size=1 then qw l[i]? i o v.cells.toList h l w else none:=tc mN h l w i o v hi
theorem gy (h:Heap) (l:List bh) (w i o:Nat) (v:Value) (hi:i < l.length):gA ae 39 (.pointer (some ⟨h.size+i,o,none⟩)) v (h.lay l w)=if v.cells.size=2 then qw l[i]? i o v.cells.toList h l w else none:=tc iJ h l w i o v hi
theorem gz (h:Heap) (l:List bh) (w i o:Nat) (v:Value) (hi:i < l.length):gA ae 42 (.pointer (some ⟨h.size+i,o,none⟩)) v (h.lay l w)=if v.cells.size=11 then qw l[i]? i o v.cells.toList h l w else none:=tc bS h l w i o v hi
theorem zsU (a b:ab):bU Tryz.prog ae .eql 42 a.val b.val=some (.bool (decide (a=b))):=by
 have h1:bU Tryz.prog ae .eql 42 a.val b.val=(Ns a b).map fun b=>.bool b:=by kernel_rfl
 rw [h1,zp4];rfl
theorem zsV (a b:ab):bU Tryz.prog ae .neq 42 a.val b.val=some (.bool (!decide (a=b))):=by
 have h1:bU Tryz.prog ae .neq 42 a.val b.val=(Ns a b).map fun b=>.bool !b:=by kernel_rfl
 rw [h1,zp4];rfl
theorem zmc (a b:aQ):bU Tryz.prog ae .eql 39 a.val b.val=some (.bool (decide (a=b))):=by
 have h1:bU Tryz.prog ae .eql 39 a.val b.val=(kQ a b).map fun b=>.bool b:=by kernel_rfl
 rw [h1,ZM];rfl
theorem zmd (a b:aQ):bU Tryz.prog ae .neq 39 a.val b.val=some (.bool (!decide (a=b))):=by
 have h1:bU Tryz.prog ae .neq 39 a.val b.val=(kQ a b).map fun b=>.bool !b:=by kernel_rfl
 rw [h1,ZM];rfl
theorem zpX (p q:Bool):bU Tryz.prog ae .eql 4 (.bool p) (.bool q)=some (.bool (p == q)):=by cases p <;> cases q <;> kernel_rfl
theorem sO {t:TypeId} {a b:ByteArray} {h:Heap} {K:Value→Heap→Prop} (hs:a.size+b.size≤9223372036854775807) (hk:∀ S:ByteArray,S=a++b→S.size=a.size+b.size→K (.string S) h):aU (bU Tryz.prog ae .add t (.string a) (.string b)) h K:=by
 rw [zBJ hs];exact hk _ rfl (ByteArray.size_append)
theorem zqR (v w:Bool) (s u:ByteArray):bU Tryz.prog ae .neq 39 (.agg ⟨[.bool v,.string s]⟩) (.agg ⟨[.bool w,.string u]⟩)=some (.bool (!decide (aQ.mk v s=aQ.mk w u))):=zmd ⟨v,s⟩ ⟨w,u⟩
theorem zom:nR ae 39 []=some (.agg ⟨[.bool false,.string ⟨#[]⟩]⟩):=by kernel_rfl
theorem zEw:rm ae 52 52=true:=by kernel_rfl
end Go.Proofs.YtdplfgoifjjniaaGreatDoor

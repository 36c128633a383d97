/-
  DERIVED: THE SHELF's CONTRACTS AT THIS DUMP, IN PLAIN WORDS (tools/lay-plain.mjs out of 'TryzShelf.lean', which tools/lay-shelf.mjs wrote): THE SAME DECLARATIONS UNDER THE SAME NAMES: 'import', 'namespace', 'open', 'def', 'theorem' AND NOTHING ELSE: no command of the shelf's: FOR A HAND-IN. Each laying: the table of numbers ('.._ren') and one theorem, a field a fact of the dump's own or the kernel's comparison; each contract: ONE APPLICATION.
-/
import Derived.Shelf.Strings.Builder1
import Derived.Shelf.Strings.Builder2
import Derived.Shelf.Strings.OnBuilder
import Derived.Shelf.Strings.Fields
import Derived.Shelf.Unicode.Latin
import Derived.Shelf.Unicode.Is16White
import Derived.Shelf.Unicode.IsSpaceAny
import Derived.Shelf.Unicode.Is16Any
import Derived.Shelf.Unicode.Is32Any
import Derived.Shelf.Unicode.ExclAny
import Derived.WalkKit
import Derived.Lib.Walk
import Derived.Lib.SliceRun
import Derived.Lib.AppendZeros
import Derived.Laws.Externs
import Derived.Laws.IdiomCopy
import Derived.Deep.RegionLaw
import Derived.OwnWalk
import Derived.Test.YtmamldleclamjaaGreatDoorG19
set_option linter.unusedSimpArgs false
set_option linter.unusedVariables false
noncomputable section
namespace Go.Proofs
open Go.Shelf
def Tryz.lays156_ren:Go.Shelf.Ren:=⟨fun|156=>157|165=>168|166=>169|169=>170|240=>178|241=>179|276=>182|277=>183|n=>n,fun|31=>22|9=>9|3=>3|4=>4|0=>0|20=>20|72=>187|76=>191|70=>184|37=>185|75=>190|127=>197|164=>204|5=>5|80=>193|n=>n,fun|n=>n⟩
theorem Tryz.lays156:Go.Proofs.Lays.n156 Tryz.prog Tryz.lays156_ren:={
 mixed:=by kernel_rfl
 f156:=Tryz.func157.trans (congrArg some (by kernel_rfl))
 f165:=Tryz.func168.trans (congrArg some (by kernel_rfl))
 f166:=Tryz.func169.trans (congrArg some (by kernel_rfl))
 f169:=Tryz.func170.trans (congrArg some (by kernel_rfl))
 f240:=Tryz.func178.trans (congrArg some (by kernel_rfl))
 f241:=Tryz.func179.trans (congrArg some (by kernel_rfl))
 f276:=Tryz.func182.trans (congrArg some (by kernel_rfl))
 f277:=Tryz.func183.trans (congrArg some (by kernel_rfl))
 t0:=Tryz.underlying0
 a0:=Tryz.isAgg0
 z0:=Tryz.sizeOf0
 v0:=Tryz.zeroValue0
 t3:=Tryz.underlying3
 a3:=Tryz.isAgg3
 z3:=Tryz.sizeOf3
 v3:=Tryz.zeroValue3
 t4:=Tryz.underlying4
 a4:=Tryz.isAgg4
 z4:=Tryz.sizeOf4
 v4:=Tryz.zeroValue4
 t9:=Tryz.underlying9
 a9:=Tryz.isAgg9
 z9:=Tryz.sizeOf9
 v9:=Tryz.zeroValue9
 t20:=Tryz.underlying20
 a20:=Tryz.isAgg20
 z20:=Tryz.sizeOf20
 v20:=Tryz.zeroValue20
 t31:=Tryz.underlying22
 a31:=Tryz.isAgg22
 z31:=Tryz.sizeOf22
 v31:=Tryz.zeroValue22
 t37:=Tryz.underlying185
 a37:=Tryz.isAgg185
 z37:=Tryz.sizeOf185
 v37:=Tryz.zeroValue185
 t70:=Tryz.underlying184
 a70:=Tryz.isAgg184
 z70:=Tryz.sizeOf184
 v70:=Tryz.zeroValue184
 t72:=Tryz.underlying187
 a72:=Tryz.isAgg187
 z72:=Tryz.sizeOf187
 v72:=Tryz.zeroValue187
 t75:=Tryz.underlying190
 a75:=Tryz.isAgg190
 z75:=Tryz.sizeOf190
 v75:=Tryz.zeroValue190
 t76:=Tryz.underlying191
 a76:=Tryz.isAgg191
 z76:=Tryz.sizeOf191
 v76:=Tryz.zeroValue191
 t127:=Tryz.underlying197
 a127:=Tryz.isAgg197
 z127:=Tryz.sizeOf197
 v127:=Tryz.zeroValue197
 t164:=Tryz.underlying204
 a164:=Tryz.isAgg204
 z164:=Tryz.sizeOf204
 v164:=Tryz.zeroValue204 }
theorem Tryz.Builder_Extra_156:Builder.Extra Tryz.prog Tryz.lays156_ren:={
 sizeBuilder:=by kernel_rfl
 liesBuilder:=by kernel_rfl
 t5:=Tryz.underlying5
 a5:=Tryz.isAgg5
 z5:=Tryz.sizeOf5
 v5:=Tryz.zeroValue5
 infoByte:=by kernel_rfl
 cellsByte:=by kernel_rfl
 sizeByte:=by kernel_rfl
 neB5:=by decide }
open Go.RowKit in
theorem Tryz.strings_Join_none (a:Option Addr) (c:Nat) (sep:ByteArray) (w:World) :
 Calls Tryz.prog 157 #[.slice a 0 c,.string sep] w λe w'=>e=.returned (.string ⟨#[]⟩)/\w'=w:=Any.strings_Join_none Tryz.lays156 Tryz.Builder_Extra_156 a c sep w
open Go.RowKit in
theorem Tryz.strings_Join (bk o c:Nat) (xs:List ByteArray) (sep:ByteArray) (w:World) (sO:∀ (j:Nat) x,xs[j]? = some x->w.cell? ⟨bk,o+j,none⟩=some (.string x)) (Fe:bk < w.heap.size) (hN:xs.length<=140737488355328) (sN:xs.length<=c) (hlen:(Lib.join (xs.map (·.data.toList)) sep.data.toList).length<=140737488355328) :
 Calls Tryz.prog 157 #[.slice (some ⟨bk,o,none⟩) xs.length c,.string sep] w λe w'=>e=.returned (.string ⟨(Lib.join (xs.map (·.data.toList)) sep.data.toList).toArray⟩)/\Below w.heap.size w w':=Any.strings_Join Tryz.lays156 Tryz.Builder_Extra_156 bk o c xs sep w sO Fe hN sN hlen
def Tryz.lays106_ren:Go.Shelf.Ren:=⟨fun|106=>140|213=>156|265=>167|n=>n,fun|9=>9|3=>3|n=>n,fun|n=>n⟩
theorem Tryz.lays106:Go.Proofs.Lays.n106 Tryz.prog Tryz.lays106_ren:={
 mixed:=by kernel_rfl
 f106:=Tryz.func140.trans (congrArg some (by kernel_rfl))
 f213:=Tryz.func156.trans (congrArg some (by kernel_rfl))
 f265:=Tryz.func167.trans (congrArg some (by kernel_rfl))
 t3:=Tryz.underlying3
 a3:=Tryz.isAgg3
 z3:=Tryz.sizeOf3
 v3:=Tryz.zeroValue3
 t9:=Tryz.underlying9
 a9:=Tryz.isAgg9
 z9:=Tryz.sizeOf9
 v9:=Tryz.zeroValue9 }
open Go.RowKit in
theorem Tryz.strings_Compare (a b:ByteArray) (w:World) :
 Calls Tryz.prog 140 #[.string a,.string b] w λe w'=>e=.returned (.int .i64 (Lib.compareBytes a.data.toList b.data.toList))/\w'=w:=Any.strings_Compare Tryz.lays106 a b w
def Tryz.lays157_ren:Go.Shelf.Ren:=⟨fun|157=>159|229=>171|199=>172|261=>180|311=>184|312=>185|n=>n,fun|9=>9|31=>22|3=>3|5=>5|4=>4|119=>194|0=>0|40=>196|152=>198|21=>21|154=>200|51=>201|141=>203|196=>210|193=>207|198=>213|49=>211|194=>208|201=>216|226=>218|46=>169|227=>219|n=>n,fun|0=>1|6=>2|n=>n⟩
theorem Tryz.lays157:Go.Proofs.Lays.n157 Tryz.prog Tryz.lays157_ren:={
 mixed:=by kernel_rfl
 f157:=Tryz.func159.trans (congrArg some (by kernel_rfl))
 f199:=Tryz.func172.trans (congrArg some (by kernel_rfl))
 f229:=Tryz.func171.trans (congrArg some (by kernel_rfl))
 f261:=Tryz.func180.trans (congrArg some (by kernel_rfl))
 f311:=Tryz.func184.trans (congrArg some (by kernel_rfl))
 f312:=Tryz.func185.trans (congrArg some (by kernel_rfl))
 t0:=Tryz.underlying0
 a0:=Tryz.isAgg0
 z0:=Tryz.sizeOf0
 v0:=Tryz.zeroValue0
 t3:=Tryz.underlying3
 a3:=Tryz.isAgg3
 z3:=Tryz.sizeOf3
 v3:=Tryz.zeroValue3
 t4:=Tryz.underlying4
 a4:=Tryz.isAgg4
 z4:=Tryz.sizeOf4
 v4:=Tryz.zeroValue4
 t5:=Tryz.underlying5
 a5:=Tryz.isAgg5
 z5:=Tryz.sizeOf5
 v5:=Tryz.zeroValue5
 t9:=Tryz.underlying9
 a9:=Tryz.isAgg9
 z9:=Tryz.sizeOf9
 v9:=Tryz.zeroValue9
 t21:=Tryz.underlying21
 a21:=Tryz.isAgg21
 z21:=Tryz.sizeOf21
 v21:=Tryz.zeroValue21
 t31:=Tryz.underlying22
 a31:=Tryz.isAgg22
 z31:=Tryz.sizeOf22
 v31:=Tryz.zeroValue22
 t40:=Tryz.underlying196
 a40:=Tryz.isAgg196
 z40:=Tryz.sizeOf196
 v40:=Tryz.zeroValue196
 t46:=Tryz.underlying169
 a46:=Tryz.isAgg169
 z46:=Tryz.sizeOf169
 v46:=Tryz.zeroValue169
 t49:=Tryz.underlying211
 a49:=Tryz.isAgg211
 z49:=Tryz.sizeOf211
 v49:=Tryz.zeroValue211
 t51:=Tryz.underlying201
 a51:=Tryz.isAgg201
 z51:=Tryz.sizeOf201
 v51:=Tryz.zeroValue201
 t119:=Tryz.underlying194
 a119:=Tryz.isAgg194
 z119:=Tryz.sizeOf194
 t141:=Tryz.underlying203
 a141:=Tryz.isAgg203
 z141:=Tryz.sizeOf203
 v141:=Tryz.zeroValue203
 t152:=Tryz.underlying198
 a152:=Tryz.isAgg198
 z152:=Tryz.sizeOf198
 v152:=Tryz.zeroValue198
 t154:=Tryz.underlying200
 a154:=Tryz.isAgg200
 z154:=Tryz.sizeOf200
 v154:=Tryz.zeroValue200
 t193:=Tryz.underlying207
 a193:=Tryz.isAgg207
 z193:=Tryz.sizeOf207
 v193:=Tryz.zeroValue207
 t194:=Tryz.underlying208
 a194:=Tryz.isAgg208
 z194:=Tryz.sizeOf208
 v194:=Tryz.zeroValue208
 t196:=Tryz.underlying210
 a196:=Tryz.isAgg210
 z196:=Tryz.sizeOf210
 v196:=Tryz.zeroValue210
 t198:=Tryz.underlying213
 a198:=Tryz.isAgg213
 z198:=Tryz.sizeOf213
 v198:=Tryz.zeroValue213
 t201:=Tryz.underlying216
 a201:=Tryz.isAgg216
 z201:=Tryz.sizeOf216
 v201:=Tryz.zeroValue216
 t226:=Tryz.underlying218
 a226:=Tryz.isAgg218
 z226:=Tryz.sizeOf218
 v226:=Tryz.zeroValue218
 t227:=Tryz.underlying219
 a227:=Tryz.isAgg219
 z227:=Tryz.sizeOf219
 v227:=Tryz.zeroValue219
 g0:=by kernel_rfl
 g6:=by kernel_rfl }
end Go.Proofs
namespace Go.Proofs
open Go.RowKit Go.Lib
variable {w':World} {v':Value} {o:Oper} {P:Program}
namespace YtmamldleclamjaaGreatDoor
theorem zp2 (w:World) {a:Act} {K:Act->World->Prop} {Q:Exit->Act->World->Prop} (d s:Operand) (t t':TypeId)
 (ho:o.op=.call { callee:=.builtin .copy,args:=#[d,s],argTypes:=#[t,t'] }) (v u:Value) (hd:a.eval d=v) (hs:a.eval s=u) 
 (hr:(Builtin.copy_ #[t,t'] o.type #[v,u]).run P w=.ok v' w') (h:K (a.put o.dst v') w'):o.wp P a w K Q:=by
 unfold Oper.wp execOp
 simp only [ho,resolve,invoke,builtin,Sem.run_bind,Sem.run_pure,Result.andThen_ok,List.map_toArray,List.map_cons,List.map_nil,hd,hs,hr]
 exact h
theorem ze4 (w:World) {ops:Array Oper} {rest:List Oper} {a:Act} {Q:Exit->Act->World->Prop} (XA:o.guard=none) (d s:Operand) (t t':TypeId)
 (ho:o.op=.call { callee:=.builtin .copy,args:=#[d,s],argTypes:=#[t,t'] }) (v u:Value) (hd:a.eval d=v) (hs:a.eval s=u) 
 (hr:(Builtin.copy_ #[t,t'] o.type #[v,u]).run P w=.ok v' w') (h:wpList P ops Q rest (a.put o.dst v') w'):wpList P ops Q (o::rest) a w :=
 wpList_plain XA λ_ hK=>zp2 w d s t t' ho v u hd hs hr (hK _ _ h)
theorem zf5 {ops:Array Oper} {a:Act} {w:World} {K:Act->World->Prop} {Q:Exit->Act->World->Prop} {E:Prop}
 (hg:o.guard=none) (d x:Operand) (dT sT:TypeId) (aT:o.op=Op.call { callee:=Callee.builtin Builtin.copy,args:=#[d,x],argTypes:=#[dT,sT] })
 (v u:Value) (hd:a.eval d=v) (hx:a.eval x=u) (hr:(Builtin.copy_ #[dT,sT] o.type #[v,u]).run P w=.ok v' w') (hK:K (a.put o.dst v') w') :
 if Region.wanted o (yielded ops a.tmps)=true then Oper.wp P o a w K Q else E:=by
 have hw:Region.wanted o (yielded ops a.tmps)=true:=by simp [Region.wanted,hg]
 rw [if_pos hw]
 unfold Oper.wp
 simp [execOp,aT,resolve,invoke,builtin,hd,hx,hr,Result.andThen]
 exact hK
set_option maxHeartbeats 4000000 in
set_option maxRecDepth 100000 in
theorem yC (a:Option Addr) (n c:Nat) (av:Option Addr) (cv:Nat) (w w':World) (r:Value) (ua:n<=c)
 (hr:∀ ty,(Builtin.append_ #[51,51] ty #[.slice a n c,.slice av 1 cv]).run Tryz.prog w=.ok r w') :
 Calls Tryz.prog 74 #[.slice a n c,.int .i64 n,.slice av 1 cv] w λe W=>e=.returned r/\W=w':=by
 have h1:(0:Int)<=(n:Int)/\(n:Int)<=(n:Int):=by omega
 cases a
 all_goals
  go_enter Tryz.func74,Tryz.ntmps74
  go_wp2_with (at_builtin;refine Lib.wpList_append_run _ rfl _ _ _ _ rfl _ _ rfl rfl _ _ (hr _) ?_)
  all_goals
   go_ret
   exact ⟨rfl,rfl⟩
set_option maxHeartbeats 4000000 in
set_option maxRecDepth 100000 in
theorem vA (b off n c i:Nat) (av:Option Addr) (cv:Nat) (w w1 w2:World) (x1 x2:Value) (hi:i < n) (iT:n+1<=c) (hc:c<=9223372036854775807)
 (rS:∀ lb cb,(callFunc 111 #[.slice av 1 cv,.slice (some ⟨b,off+(i+1)*11,none⟩) lb cb]).run Tryz.prog w=.ok (.value (.bool false)) w)
 (Fk:∀ ty dc sc,(Builtin.copy_ #[51,51] ty #[.slice (some ⟨b,off+(i+1)*11,none⟩) (n - i) dc,.slice (some ⟨b,off+i*11,none⟩) (n+1 - i) sc]).run Tryz.prog w.drew=.ok x1 w1)
 (Fl:∀ ty dc,(Builtin.copy_ #[51,51] ty #[.slice (some ⟨b,off+i*11,none⟩) (n+1 - i) dc,.slice av 1 cv]).run Tryz.prog w1=.ok x2 w2) :
 Calls Tryz.prog 74 #[.slice (some ⟨b,off,none⟩) n c,.int .i64 i,.slice av 1 cv] w λe W=>e=.returned (.slice (some ⟨b,off,none⟩) (n+1) c)/\W=w2:=by
 have mN:¬ ((i:Int)=(n:Int)):=by omega
 have yx:IntKind.i64.wrap ((i:Int)+1)=(i:Int)+1:=by rw [IntKind.wrap_i64];omega
 have zM:IntKind.i64.wrap ((n:Int)+1)=(n:Int)+1:=by rw [IntKind.wrap_i64];omega
 have CE:(0:Int)<=(i:Int)+1:=by omega
 have aP:i<=n:=by omega
 have htn:((i:Int)+1).toNat=i+1:=by omega
 have nF:¬ (c=i+1):=by omega
 have CF:(i:Int)<=(n:Int)+1:=by omega
 have hb4:¬ (c=i):=by omega
 go_enter Tryz.func74,Tryz.ntmps74
 go_wp2_with (simp only [rS])
 go_region_law (refine zf5 rfl _ _ 51 51 rfl _ _ (by simp [Act.eval,Act.put]) (by simp [Act.eval,Act.put]) (Fk _ _ _) ?_)
 go_wp2_with (at_builtin;refine ze4 _ rfl _ _ 51 51 rfl _ _ rfl rfl (Fl _ _) ?_)
 go_ret
 exact ⟨rfl,rfl⟩
set_option maxHeartbeats 4000000 in
set_option maxRecDepth 100000 in
theorem vz (b off n c i nb g:Nat) (av:Option Addr) (cv:Nat) (w w1 w2 w3:World) (x1 x2:Value) (hi:i < n) (ua:n<=c) (iT:c < n+1) (hg:n+1<=g) (am3:g<=9223372036854775807)
 (mi:∀ ty,(Builtin.append_ #[51,3] ty #[.slice (some ⟨b,off,none⟩) i c,.int .i64 ((n:Int)+1 - (i:Int))]).run Tryz.prog w=.ok (.slice (some ⟨nb,0,none⟩) (n+1) g) w1)
 (Fk:∀ ty dc,(Builtin.copy_ #[51,51] ty #[.slice (some ⟨nb,i*11,none⟩) (n+1 - i) dc,.slice av 1 cv]).run Tryz.prog w1=.ok x1 w2)
 (Fl:∀ ty dc sc,(Builtin.copy_ #[51,51] ty #[.slice (some ⟨nb,(i+1)*11,none⟩) (n - i) dc,.slice (some ⟨b,off+i*11,none⟩) (n - i) sc]).run Tryz.prog w2.drew=.ok x2 w3) :
 Calls Tryz.prog 74 #[.slice (some ⟨b,off,none⟩) n c,.int .i64 i,.slice av 1 cv] w λe W=>e=.returned (.slice (some ⟨nb,0,none⟩) (n+1) g)/\W=w3:=by
 have mN:¬ ((i:Int)=(n:Int)):=by omega
 have zO:(c:Int) < (n:Int)+1:=by omega
 have yx:IntKind.i64.wrap ((i:Int)+1)=(i:Int)+1:=by rw [IntKind.wrap_i64];omega
 have zM:IntKind.i64.wrap ((n:Int)+1)=(n:Int)+1:=by rw [IntKind.wrap_i64];omega
 have CE:(0:Int)<=(i:Int)+1:=by omega
 have aP:i<=n:=by omega
 have htn:((i:Int)+1).toNat=i+1:=by omega
 have hGi:¬ (g=i):=by omega
 have amn:¬ (g=i+1):=by omega
 have hci:¬ (c=i):=by omega
 have CF:(i:Int)<=(n:Int):=by omega
 go_enter Tryz.func74,Tryz.ntmps74
 go_wp2_with (first|(at_builtin;refine Lib.wpList_append_run _ rfl _ _ _ _ rfl _ _ rfl rfl _ _ (mi _) ?_)|(at_builtin;refine ze4 _ rfl _ _ 51 51 rfl _ _ rfl rfl (Fk _ _) ?_))
 go_region_law (refine zf5 rfl _ _ 51 51 rfl _ _ (by simp [Act.eval,Act.put]) (by simp [Act.eval,Act.put]) (Fl _ _ _) ?_)
 go_wp2
 go_ret
 exact ⟨rfl,rfl⟩
end YtmamldleclamjaaGreatDoor
end Go.Proofs
namespace Go.Proofs.YtmamldleclamjaaGreatDoor
open Go.RowKit Go.Am
theorem zoS (x y:ah) (w:World) (h:(Extern.SlicesOverlaps.overlaps #[51,51] #[4] #[x,y]).run Tryz.prog w=.ok (.bool false) w):(callFunc 111 #[x,y]).run Tryz.prog w=.ok (.value (.bool false)) w:=by
 rw [run_callFunc_extern Tryz.func111 (by kernel_rfl) (by kernel_rfl) (by kernel_rfl) (e:=Extern.SlicesOverlaps.overlaps #[51,51] #[4]) (by kernel_rfl),h]
 rfl
theorem zsp:aG.desc 51=some (.slice 47):=by kernel_rfl
theorem Tu:aG.info 47=some (11,136,ae.cells):=by kernel_rfl
theorem zAt:Ee Tryz.prog aG.gs 74 (ru aG 51) :=
 zuB (k:=11) vS zsp Tu Tryz.underlying3 (Dv vS zzY rfl) zoS Go.Proofs.YtmamldleclamjaaGreatDoor.yC Go.Proofs.YtmamldleclamjaaGreatDoor.vA Go.Proofs.YtmamldleclamjaaGreatDoor.vz
def Zc:Ov:=λf=>match f with
 |159=>some (He 1 9)
 |157=>some HE
 |140=>some PV
 |74=>some (ru aG 51)
 |_=>none
theorem zDm:Cj Tryz.prog aG.gs Zc:=by
 intro f g hg
 unfold Zc at hg
 split at hg
 .cases hg
  exact zlU (g:=1) (by decide) (Dv vS zpV rfl) (λs w hs ha hc=>Any.strings_Fields_core Tryz.lays157 (by kernel_rfl) s w hs ha hc)
 .cases hg
  exact zsN (Dv vS zpU rfl) Tryz.strings_Join_none Tryz.strings_Join
 .cases hg
  exact zj7 (Dv vS zpT rfl) Tryz.strings_Compare
 .cases hg
  exact zAt
 .cases hg
theorem zt1:zjv 2 (call Tryz.prog aG Zc 200 (.func 4) [] (vM 1))=true:=by kernel_rfl
theorem zt0 (w:World) (ht:∀ c,c < 256->w.cell? ⟨1,c,none⟩=some (.int .u8 (Lib.asciiSpaceTab.getD c 0))):Calls Tryz.prog 4 #[] w λe w'=>e=.returned (.bool true)/\Below w.heap.size w w':=zru mixed vS rfl zDm rfl zt1 w ht
def ov:Ov:=λf=>match f with
 |159=>some (He 1 9)
 |157=>some HE
 |140=>some PV
 |74=>some (ru aG 51)
 |4=>some (JR 1)
 |_=>none
theorem zDn:Cj Tryz.prog aG.gs ov:=by
 intro f g hg
 unfold ov at hg
 split at hg
 .cases hg
  exact zlU (g:=1) (by decide) (Dv vS zpV rfl) (λs w hs ha hc=>Any.strings_Fields_core Tryz.lays157 (by kernel_rfl) s w hs ha hc)
 .cases hg
  exact zsN (Dv vS zpU rfl) Tryz.strings_Join_none Tryz.strings_Join
 .cases hg
  exact zj7 (Dv vS zpT rfl) Tryz.strings_Compare
 .cases hg
  exact zAt
 .cases hg
  exact zxx (g:=1) (by decide) (Dv vS zCr rfl) zt0
 .cases hg
end Go.Proofs.YtmamldleclamjaaGreatDoor
namespace Go.Proofs.YtmamldleclamjaaGreatDoor
open Go.Am Tryz
theorem IB (h:Heap) (l:List ba) (w i o:Nat) (v:ah) (hi:i < l.length):iO aG 4 (.pointer (some ⟨h.size+i,o,none⟩)) v (h.lay l w)=if v.cells.size=1 then uC l[i]? i o v.cells.toList h l w else none:=y6 sz4 h l w i o v hi
theorem lj (h:Heap) (l:List ba) (w i o:Nat) (v:ah) (hi:i < l.length):iO aG 3 (.pointer (some ⟨h.size+i,o,none⟩)) v (h.lay l w)=if v.cells.size=1 then uC l[i]? i o v.cells.toList h l w else none:=y6 yP h l w i o v hi
theorem BK (h:Heap) (l:List ba) (w i o:Nat) (v:ah) (hi:i < l.length):iO aG 44 (.pointer (some ⟨h.size+i,o,none⟩)) v (h.lay l w)=if v.cells.size=2 then uC l[i]? i o v.cells.toList h l w else none:=y6 kC h l w i o v hi
theorem NP (h:Heap) (l:List ba) (w i o:Nat) (v:ah) (hi:i < l.length):iO aG 47 (.pointer (some ⟨h.size+i,o,none⟩)) v (h.lay l w)=if v.cells.size=11 then uC l[i]? i o v.cells.toList h l w else none:=y6 bN h l w i o v hi
theorem zn8 (a b:aj):cm prog aG .eql 47 a.val b.val=some (.bool (decide (a=b))):=by
 have h1:cm prog aG .eql 47 a.val b.val=(Rk a b).map λb=>.bool b:=by kernel_rfl
 rw [h1,zse];rfl
theorem zvK (a b:aj):cm prog aG .neq 47 a.val b.val=some (.bool (!decide (a=b))):=by
 have h1:cm prog aG .neq 47 a.val b.val=(Rk a b).map λb=>.bool !b:=by kernel_rfl
 rw [h1,zse];rfl
theorem zn9 (a b:aZ):cm prog aG .eql 44 a.val b.val=some (.bool (decide (a=b))):=by
 have h1:cm prog aG .eql 44 a.val b.val=(uR a b).map λb=>.bool b:=by kernel_rfl
 rw [h1,zmP];rfl
theorem zoa (a b:aZ):cm prog aG .neq 44 a.val b.val=some (.bool (!decide (a=b))):=by
 have h1:cm prog aG .neq 44 a.val b.val=(uR a b).map λb=>.bool !b:=by kernel_rfl
 rw [h1,zmP];rfl
theorem zr7 (p q:Bool):cm prog aG .eql 4 (.bool p) (.bool q)=some (.bool (p == q)):=by cases p <;> cases q <;> kernel_rfl
theorem wI {t:TypeId} {a b:au} {h:Heap} {K:aI} (hs:a.size+b.size<=9223372036854775807) (hk:∀ S:au,S=a++b->S.size=a.size+b.size->K (.string S) h):aH (cm prog aG .add t (.string a) (.string b)) h K:=by
 rw [zAZ hs];exact hk _ rfl (ByteArray.size_append)
theorem zts (v w:Bool) (s u:au):cm prog aG .neq 44 (.agg ⟨[.bool v,.string s]⟩) (.agg ⟨[.bool w,.string u]⟩)=some (.bool (!decide (aZ.mk v s=aZ.mk w u))):=zoa ⟨v,s⟩ ⟨w,u⟩
theorem zqx:qg aG 44 []=some (.agg ⟨[.bool false,.string ⟨#[]⟩]⟩):=by kernel_rfl
theorem zi:uB aG 51 51=true:=by kernel_rfl
end Go.Proofs.YtmamldleclamjaaGreatDoor
namespace Go.Am
variable {i:Nat}
def en:Code->Array Oper
 | .region _ a _=>a
 |_=>#[]
def lR (A:Array Oper) (n:Nat):List Oper:=A.toList.drop n
theorem Zk (K:Code) (A:Array Oper) (hK:K=.region i A false:=by rfl) (P:Program) (T:bO) (ov:Ov):∀ (rd:Option Nat) (e:Env) (h:Heap) (Q:Ex->Env->Heap->Prop),W P T ov rd K e h Q=dg P T ov A (lR A 0) e h (T9 Q):=by
 subst hK
 intro rd e h Q
 rfl
theorem Nz (A:Array Oper) (n:Nat) (hn:lR A n=[]:=by rfl) (P:Program) (T:bO) (ov:Ov):∀ (e:Env) (h:Heap) (Q:Env->Heap->Prop),dg P T ov A (lR A n) e h Q=Q e h:=by
 intro e h Q
 rw [hn]
 rfl
theorem Y7 (A:Array Oper) (n:Nat) (hn:lR A n=[]:=by rfl) (P:Program) (T:bO) (ov:Ov):∀ (b j:Nat) (e:Env) (h:Heap) (Q:Env->Heap->Prop),cu P T ov b A (lR A n) j e h Q=Q e h:=by
 intro b j e h Q
 rw [hn]
 rfl
theorem BJ (K A B:Code) (hK:K=.seq A B:=by rfl) (P:Program) (T:bO) (ov:Ov):∀ (rd:Option Nat) (e:Env) (h:Heap) (Q:Ex->Env->Heap->Prop),W P T ov rd K e h Q=W P T ov rd A e h (JQ P T ov rd B Q):=by
 subst hK
 intro rd e h Q
 exact zCO _ _ _ _ _
theorem zC0 (K A B:Code) {o:Operand} (hK:K=.cond o A B:=by rfl) (P:Program) (T:bO) (ov:Ov):∀ (rd:Option Nat) (e:Env) (h:Heap) (Q:Ex->Env->Heap->Prop),W P T ov rd K e h Q=Ho P T ov rd A B e h Q (bz e o):=by
 subst hK
 intro rd e h Q
 rfl
theorem UB (K A:Code) (hK:K=.block i A:=by rfl) (P:Program) (T:bO) (ov:Ov):∀ (rd:Option Nat) (e:Env) (h:Heap) (Q:Ex->Env->Heap->Prop),W P T ov rd K e h Q=W P T ov rd A e h (DG i Q):=by
 subst hK
 intro rd e h Q
 exact zvz _ _ _ _ _
theorem zFi (K A:Code) (hK:K=.loop A:=by rfl) (P:Program) (T:bO) (ov:Ov):∀ (rd:Option Nat) (e:Env) (h:Heap) (Q:Ex->Env->Heap->Prop),W P T ov rd K e h Q=W P T ov rd (.loop A) e h Q:=by
 subst hK
 intro rd e h Q
 rfl
theorem zDr (K A:Code) (hK:K=.scope A:=by rfl) (P:Program) (T:bO) (ov:Ov):∀ (rd:Option Nat) (e:Env) (h:Heap) (Q:Ex->Env->Heap->Prop),W P T ov rd K e h Q=W P T ov rd A e h Q:=by
 subst hK
 intro rd e h Q
 rfl
theorem zC5 (K:Code) (hK:K=.exit i:=by rfl) (P:Program) (T:bO) (ov:Ov):∀ (rd:Option Nat) (e:Env) (h:Heap) (Q:Ex->Env->Heap->Prop),W P T ov rd K e h Q=Q (.exit i) e h:=by
 subst hK
 intro rd e h Q
 rfl
theorem Zl (K:Code) (hK:K=.ret:=by rfl) (P:Program) (T:bO) (ov:Ov):∀ (rd:Option Nat) (e:Env) (h:Heap) (Q:Ex->Env->Heap->Prop),W P T ov rd K e h Q=Q .ret e h:=by
 subst hK
 intro rd e h Q
 rfl
theorem zFm (K:Code) (hK:K=.skip:=by rfl) (P:Program) (T:bO) (ov:Ov):∀ (rd:Option Nat) (e:Env) (h:Heap) (Q:Ex->Env->Heap->Prop),W P T ov rd K e h Q=Q .normal e h:=by
 subst hK
 intro rd e h Q
 rfl
theorem zDc (K:Code) (hK:K=.label i:=by rfl) (P:Program) (T:bO) (ov:Ov):∀ (rd:Option Nat) (e:Env) (h:Heap) (Q:Ex->Env->Heap->Prop),W P T ov rd K e h Q=Q .normal e h:=by
 subst hK
 intro rd e h Q
 rfl
abbrev zCI (K:Code) (A:Array Oper):Prop:=∀ {P:Program} {T:bO} {ov:Ov} {rd:Option Nat} {e:Env} {h0 h:Heap} {Q:Ex->Env->Heap->Prop},Ext h0 h->cu P T ov (min h0.low h0.size) A (lR A 0) 0 e h (λe' h1=>rG h0 h1/\LA h0 Q e' h1)->W P T ov rd K e h Q
theorem zDU {K:Code} {A:Array Oper} (hK:K=.region i A true) (ht:IZ A (ph A.toList [])=true):zCI K A:=by
 subst hK
 intro P T ov rd e h0 h Q z hw
 exact zAH (ops:=A.toList) z ht hw
theorem nd {p q:Prop} (h:p) (g:q):p/\q:=⟨h,g⟩
end Go.Am
namespace Go.Am
def bg:Code->Nat
 | .seq a b=>bg a+bg b+1
 | .cond _ a b=>bg a+bg b+1
 | .block _ a=>bg a+1
 | .loop a=>bg a+1
 | .scope a=>bg a+1
 | .rangeFunc _ _ a b=>bg a+bg b+1
 |_=>1
def jB:Code->Nat->Code
 | .seq a b,n=>if n=0 then .seq a b else if n<=bg a then jB a (n - 1) else jB b (n - 1 - bg a)
 | .cond o a b,n=>if n=0 then .cond o a b else if n<=bg a then jB a (n - 1) else jB b (n - 1 - bg a)
 | .block i a,n=>if n=0 then .block i a else jB a (n - 1)
 | .loop a,n=>if n=0 then .loop a else jB a (n - 1)
 | .scope a,n=>if n=0 then .scope a else jB a (n - 1)
 | .rangeFunc g ps a b,n=>if n=0 then .rangeFunc g ps a b else if n<=bg a then jB a (n - 1) else jB b (n - 1 - bg a)
 |c,_=>c
def codeOf (f:Func):Code:=f.body.getD .skip
def bB (f:Func):Nat->Code:=jB (codeOf f)
theorem zgg (c:Code):jB c 0=c:=by cases c <;> rfl
def nY:List Oper->Nat->Option Tmp
 | [],_=>none
 |o::_,0=>o.dst
 |_::l,j+1=>nY l j
theorem zBt (l:List Oper) (j:Nat):nY l j=(l[j]?).bind (·.dst):=by
 induction l generalizing j with
 |nil=>rfl
 |cons o l ih=>cases j with
  |zero=>rfl
  |succ j=>exact ih j
def rn (L:List Oper) (e:Env):Option (Nat × Bool)->Bool
 |none=>true
 |some (j,g)=>B7 (e.get ((nY L j).getD 0)) g
def Qc (L:List Oper) (o:Oper):Bool:=match o.guard with
 |none=>true
 |some (j,_)=>(nY L j).isSome
theorem zs8 {A:Array Oper} {o:Oper} (h:Qc A.toList o=true) (e:Env):nx A o e=rn A.toList e o.guard:=by
 unfold Qc at h
 unfold nx
 cases hg:o.guard with
 |none=>rfl
 |some p =>
  obtain ⟨j,g⟩:=p
  rw [hg] at h
  have e1:A[j]? = A.toList[j]? := by simp
  have h2:(nY A.toList j).isSome=true:=h
  show _=B7 (e.get ((nY A.toList j).getD 0)) g
  simp only [e1,<- zBt]
  cases hd:nY A.toList j with
  |none=>rw [hd] at h2;cases h2
  |some t=>rfl
def TO:Code->Bool
 | .region _ A true=>IZ A (ph A.toList [])
 |_=>false
theorem dL {K:Code} (hd:TO K=true):zCI K (en K):=by
 unfold TO at hd
 split at hd
 .rename_i i A
  exact zDU rfl hd
 .cases hd
def si:Code->Bool
 | .seq a b=>si a && si b
 | .cond _ a b=>si a && si b
 | .block _ a=>si a
 | .loop a=>si a
 | .scope a=>si a
 | .rangeFunc _ _ a b=>si a && si b
 | .region i A d=>A.toList.all (Qc A.toList) && (!d || TO (.region i A d))
 |_=>true
def yI (A:Array Oper) (L:List Oper):List Oper->Nat->Prop
 | [],n=>∀ (P:Program) (T:bO) (ov:Ov) (e:Env) (h:Heap) (Q:Env->Heap->Prop),dg P T ov A (lR A n) e h Q=Q e h
 |o::l,n=>(∀ (P:Program) (T:bO) (ov:Ov) (e:Env) (h:Heap) (Q:Env->Heap->Prop),dg P T ov A (lR A n) e h Q=TH P T ov A o (lR A (n+1)) o.dst e h Q (rn L e o.guard))/\yI A L l (n+1)
def yJ (A:Array Oper) (L:List Oper):List Oper->Nat->Prop
 | [],n=>∀ (P:Program) (T:bO) (ov:Ov) (b j:Nat) (e:Env) (h:Heap) (Q:Env->Heap->Prop),cu P T ov b A (lR A n) j e h Q=Q e h
 |o::l,n=>(∀ (P:Program) (T:bO) (ov:Ov) (b:Nat) (e:Env) (h:Heap) (Q:Env->Heap->Prop),cu P T ov b A (lR A n) n e h Q=Qg P T ov b A o (lR A (n+1)) n o.dst e h Q (rn L e o.guard) (iN o))/\yJ A L l (n+1)
def cH (N:Nat->Code):Code->Nat->Prop
 | .seq a b,n=>(∀ (P:Program) (T:bO) (ov:Ov) (rd:Option Nat) (e:Env) (h:Heap) (Q:Ex->Env->Heap->Prop),W P T ov rd (N n) e h Q=W P T ov rd (N (n+1)) e h (JQ P T ov rd (N (n+1+bg a)) Q))/\cH N a (n+1)/\cH N b (n+1+bg a)
 | .cond o a b,n=>(∀ (P:Program) (T:bO) (ov:Ov) (rd:Option Nat) (e:Env) (h:Heap) (Q:Ex->Env->Heap->Prop),W P T ov rd (N n) e h Q=Ho P T ov rd (N (n+1)) (N (n+1+bg a)) e h Q (bz e o))/\cH N a (n+1)/\cH N b (n+1+bg a)
 | .block i a,n=>(∀ (P:Program) (T:bO) (ov:Ov) (rd:Option Nat) (e:Env) (h:Heap) (Q:Ex->Env->Heap->Prop),W P T ov rd (N n) e h Q=W P T ov rd (N (n+1)) e h (DG i Q))/\cH N a (n+1)
 | .loop a,n=>(∀ (P:Program) (T:bO) (ov:Ov) (rd:Option Nat) (e:Env) (h:Heap) (Q:Ex->Env->Heap->Prop),W P T ov rd (N n) e h Q=W P T ov rd (.loop (N (n+1))) e h Q)/\cH N a (n+1)
 | .scope a,n=>(∀ (P:Program) (T:bO) (ov:Ov) (rd:Option Nat) (e:Env) (h:Heap) (Q:Ex->Env->Heap->Prop),W P T ov rd (N n) e h Q=W P T ov rd (N (n+1)) e h Q)/\cH N a (n+1)
 | .rangeFunc g ps a b,n=>(∀ (P:Program) (T:bO) (ov:Ov) (rd:Option Nat) (e:Env) (h:Heap) (Q:Ex->Env->Heap->Prop),W P T ov rd (N n) e h Q=Jz P T ov rd (bz e g) ps.toList (N (n+1)) (N (n+1+bg a)) e h Q)/\cH N a (n+1)/\cH N b (n+1+bg a)
 | .region i A false,n=>(∀ (P:Program) (T:bO) (ov:Ov) (rd:Option Nat) (e:Env) (h:Heap) (Q:Ex->Env->Heap->Prop),W P T ov rd (N n) e h Q=dg P T ov (en (N n)) (lR (en (N n)) 0) e h (T9 Q))/\yI (en (N n)) A.toList A.toList 0
 | .region i A true,n=>TO (N n)=true/\yJ (en (N n)) A.toList A.toList 0
 | .exit i,n=>∀ (P:Program) (T:bO) (ov:Ov) (rd:Option Nat) (e:Env) (h:Heap) (Q:Ex->Env->Heap->Prop),W P T ov rd (N n) e h Q=Q (.exit i) e h
 | .ret,n=>∀ (P:Program) (T:bO) (ov:Ov) (rd:Option Nat) (e:Env) (h:Heap) (Q:Ex->Env->Heap->Prop),W P T ov rd (N n) e h Q=Q .ret e h
 | .skip,n=>∀ (P:Program) (T:bO) (ov:Ov) (rd:Option Nat) (e:Env) (h:Heap) (Q:Ex->Env->Heap->Prop),W P T ov rd (N n) e h Q=Q .normal e h
 | .label _,n=>∀ (P:Program) (T:bO) (ov:Ov) (rd:Option Nat) (e:Env) (h:Heap) (Q:Ex->Env->Heap->Prop),W P T ov rd (N n) e h Q=Q .normal e h
 |_,_=>True
theorem zsL (A:Array Oper) (h:∀ o∈A.toList,Qc A.toList o=true):∀ (l:List Oper) (n:Nat),lR A n=l->(∀ o∈l,o∈A.toList)->yI A A.toList l n
 | [],n,hl,_=>Nz A n hl
 |o::l,n,hl,hm=>by
  have kq:lR A (n+1)=l:=by
   unfold lR at hl ⊢
   have:=congrArg (List.drop 1) hl
   rw [List.drop_drop] at this
   exact this
  refine ⟨λP T ov e h' Q=>?_,zsL A h l (n+1) kq (λx hx=>hm x (List.mem_cons_of_mem _ hx))⟩
  rw [hl,kq,ztl,zs8 (h o (hm o (List.mem_cons_self ..)))]
theorem zsM (A:Array Oper) (h:∀ o∈A.toList,Qc A.toList o=true):∀ (l:List Oper) (n:Nat),lR A n=l->(∀ o∈l,o∈A.toList)->yJ A A.toList l n
 | [],n,hl,_=>Y7 A n hl
 |o::l,n,hl,hm=>by
  have kq:lR A (n+1)=l:=by
   unfold lR at hl ⊢
   have:=congrArg (List.drop 1) hl
   rw [List.drop_drop] at this
   exact this
  refine ⟨λP T ov b e h' Q=>?_,zsM A h l (n+1) kq (λx hx=>hm x (List.mem_cons_of_mem _ hx))⟩
  rw [hl,kq,zqo,zs8 (h o (hm o (List.mem_cons_self ..)))]
theorem zkR {N:Nat->Code} {a b x:Code} {n:Nat} (h:∀ k,k < bg a+bg b+1->N (n+k)=jB x k) (ha:∀ k,0 < k->k<=bg a->jB x k=jB a (k - 1)) (hb:∀ k,bg a < k->jB x k=jB b (k - 1 - bg a)) (pa:0 < bg a) (pb:0 < bg b) :
 N (n+1)=a/\N (n+1+bg a)=b/\(∀ k,k < bg a->N (n+1+k)=jB a k)/\∀ k,k < bg b->N (n+1+bg a+k)=jB b k:=by
 have h1:∀ k,k < bg a->N (n+1+k)=jB a k:=λk hk=>by
  rw [show n+1+k=n+(k+1) by omega,h _ (by omega),ha _ (by omega) (by omega),Nat.add_sub_cancel]
 have h2:∀ k,k < bg b->N (n+1+bg a+k)=jB b k:=λk hk=>by
  rw [show n+1+bg a+k=n+(k+1+bg a) by omega,h _ (by omega),hb _ (by omega)]
  congr 1
  omega
 have h3:=h1 0 pa
 have h4:=h2 0 pb
 rw [zgg] at h3 h4
 exact ⟨h3,h4,h1,h2⟩
theorem qd (c:Code):0 < bg c:=by cases c <;> simp [bg]
theorem znd {N:Nat->Code} {a x:Code} {n:Nat} (h:∀ k,k < bg a+1->N (n+k)=jB x k) (ha:∀ k,0 < k->jB x k=jB a (k - 1)):N (n+1)=a/\∀ k,k < bg a->N (n+1+k)=jB a k:=by
 have h1:∀ k,k < bg a->N (n+1+k)=jB a k:=λk hk=>by
  rw [show n+1+k=n+(k+1) by omega,h _ (by omega),ha _ (by omega),Nat.add_sub_cancel]
 have h3:=h1 0 (qd a)
 rw [zgg] at h3
 exact ⟨h3,h1⟩
theorem zX (N:Nat->Code):∀ (c:Code) (n:Nat),si c=true->(∀ k,k < bg c->N (n+k)=jB c k)->cH N c n
 | .seq a b,n,hw,h=>by
  have h0:N n=.seq a b:=h 0 (qd _)
  simp only [si,Bool.and_eq_true] at hw
  obtain ⟨e1,e2,f1,f2⟩:=zkR (a:=a) (b:=b) h (λk h1 h2=>by simp only [jB];rw [if_neg (by omega),if_pos h2]) (λk h1=>by simp only [jB];rw [if_neg (by omega),if_neg (by omega)]) (qd _) (qd _)
  exact ⟨λP T ov=>by rw [e1,e2];exact BJ _ a b h0 P T ov,zX N a _ hw.1 f1,zX N b _ hw.2 f2⟩
 | .cond o a b,n,hw,h=>by
  have h0:N n=.cond o a b:=h 0 (qd _)
  simp only [si,Bool.and_eq_true] at hw
  obtain ⟨e1,e2,f1,f2⟩:=zkR (a:=a) (b:=b) h (λk h1 h2=>by simp only [jB];rw [if_neg (by omega),if_pos h2]) (λk h1=>by simp only [jB];rw [if_neg (by omega),if_neg (by omega)]) (qd _) (qd _)
  exact ⟨λP T ov=>by rw [e1,e2];exact zC0 _ a b h0 P T ov,zX N a _ hw.1 f1,zX N b _ hw.2 f2⟩
 | .rangeFunc g ps a b,n,hw,h=>by
  have h0:N n=.rangeFunc g ps a b:=h 0 (qd _)
  simp only [si,Bool.and_eq_true] at hw
  obtain ⟨e1,e2,f1,f2⟩:=zkR (a:=a) (b:=b) h (λk h1 h2=>by simp only [jB];rw [if_neg (by omega),if_pos h2]) (λk h1=>by simp only [jB];rw [if_neg (by omega),if_neg (by omega)]) (qd _) (qd _)
  exact ⟨λP T ov rd e h' Q=>by rw [e1,e2,h0];rfl,zX N a _ hw.1 f1,zX N b _ hw.2 f2⟩
 | .block i a,n,hw,h=>by
  have h0:N n=.block i a:=h 0 (qd _)
  obtain ⟨e1,f1⟩:=znd (a:=a) h (λk h1=>by simp only [jB];rw [if_neg (by omega)])
  exact ⟨λP T ov=>by rw [e1];exact UB _ a h0 P T ov,zX N a _ hw f1⟩
 | .loop a,n,hw,h=>by
  have h0:N n=.loop a:=h 0 (qd _)
  obtain ⟨e1,f1⟩:=znd (a:=a) h (λk h1=>by simp only [jB];rw [if_neg (by omega)])
  exact ⟨λP T ov=>by rw [e1];exact zFi _ a h0 P T ov,zX N a _ hw f1⟩
 | .scope a,n,hw,h=>by
  have h0:N n=.scope a:=h 0 (qd _)
  obtain ⟨e1,f1⟩:=znd (a:=a) h (λk h1=>by simp only [jB];rw [if_neg (by omega)])
  exact ⟨λP T ov=>by rw [e1];exact zDr _ a h0 P T ov,zX N a _ hw f1⟩
 | .region i A false,n,hw,h=>by
  have h0:N n=.region i A false:=h 0 (qd _)
  have hr:en (N n)=A:=by rw [h0];rfl
  simp only [si,Bool.and_eq_true,List.all_eq_true] at hw
  refine ⟨λP T ov=>?_,?_⟩
  .rw [hr]
   exact Zk _ A h0 P T ov
  .rw [hr]
   exact zsL A hw.1 _ 0 rfl (λo ho=>ho)
 | .region i A true,n,hw,h=>by
  have h0:N n=.region i A true:=h 0 (qd _)
  have hr:en (N n)=A:=by rw [h0];rfl
  simp only [si,Bool.and_eq_true,List.all_eq_true,Bool.not_true,Bool.false_or] at hw
  refine ⟨?_,?_⟩
  .rw [h0]
   exact hw.2
  .rw [hr]
   exact zsM A hw.1 _ 0 rfl (λo ho=>ho)
 | .exit i,n,hw,h=>zC5 _ (h 0 (qd _))
 | .ret,n,hw,h=>Zl _ (h 0 (qd _))
 | .skip,n,hw,h=>zFm _ (h 0 (qd _))
 | .label l,n,hw,h=>zDc _ (h 0 (qd _))
 | .goto l,n,hw,h=>trivial
 | .refuse w,n,hw,h=>trivial
theorem bD (N:Nat->Code) (f:Func) (hN:N=bB f:=by rfl) (hw:si (codeOf f)=true:=by kernel_rfl):cH N (codeOf f) 0 :=
 zX N _ 0 hw (λk _=>by rw [hN,Nat.zero_add];rfl)
theorem bu {f:Func} (N:Nat->Code) (hN:N=bB f:=by rfl) (h:f.body.isSome=true:=by rfl):f.body=some (N 0):=by
 rw [hN]
 unfold bB
 rw [zgg]
 unfold codeOf
 cases hb:f.body with
 |none=>rw [hb] at h;cases h
 |some c=>rfl
def Df:=PLift.up (And.intro @codeOf.eq_1 <| And.intro @cH.eq_1 <| And.intro @cH.eq_2 <| And.intro @cH.eq_3 <| And.intro @cH.eq_4 <| And.intro @cH.eq_5 <| And.intro @cH.eq_6 <| And.intro @cH.eq_7 <| And.intro @cH.eq_8 <| And.intro @cH.eq_9 <| And.intro @cH.eq_10 <| And.intro @cH.eq_11 <| And.intro @cH.eq_12 <| And.intro @cH.eq_13 <| And.intro @yI.eq_1 <| And.intro @yI.eq_2 <| And.intro @yJ.eq_1 <| And.intro @yJ.eq_2 <| And.intro @bg.eq_1 <| And.intro @bg.eq_2 <| And.intro @bg.eq_3 <| And.intro @bg.eq_4 <| And.intro @bg.eq_5 <| And.intro @bg.eq_6 <| And.intro @bg.eq_7 <| And.intro @rn.eq_1 <| And.intro @rn.eq_2 <| And.intro @nY.eq_1 <| And.intro @nY.eq_2 <| And.intro @nY.eq_3 <| And.intro @iN.eq_1 <| And.intro @Option.getD_some.{0} <| And.intro @List.append_eq.{0} <| And.intro @List.cons_append.{0} <| @List.nil_append.{0})
theorem aL:type_of% Df.down:=Df.down
theorem Ok.aw {P:Program} {T:bO} {ov:Ov} {f:FuncId} {fn:Func} {c:Code} {args:List Value} {h:Heap} {K:Value->Heap->Prop} (m:Nat) (hc:fn.body=some c) (hw:W P T ov none c (args++List.replicate m undef) h (jo T fn K)) (ho:ov f=none:=by exact rfl) (hf:T.fn f=some fn:=by kernel_rfl) (A9:T.Lw f=false:=by exact rfl) (hm:fn.ntmps - args.length=m:=by exact rfl):Ok P T ov f args h K:=Ok.YS ho hf hc A9 hm hw
theorem bm {shape:(Nat->Value)->Env} {e:Env} (h:e=shape e.get:=by kernel_rfl):∃ J,e=shape J:=⟨_,h⟩
end Go.Am

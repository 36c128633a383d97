/- The code of some functions, node by node, for simp. Written by a program (mkcode.py). No condition. -/
import Derived.Test.YtnkmeidmdaidhaaGreatDoorG16
import Derived.Shelf.Strings.Builder1
import Derived.Shelf.Strings.Builder2
import Derived.Shelf.Strings.OnBuilder
import Derived.Shelf.Strings.Fields
import Derived.Shelf.Unicode.Latin
import Derived.Shelf.Unicode.Is16White
import Derived.Shelf.Unicode.IsSpaceAny
import Derived.Shelf.Unicode.Is16Any
import Derived.Shelf.Unicode.Is32Any
import Derived.Shelf.Unicode.ExclAny
set_option linter.unusedSimpArgs false
set_option linter.unusedVariables false
noncomputable section
namespace Go.Proofs.YtnkmeidmdaidhaaGreatDoor
open Go.Am Tryz
set_option maxRecDepth 100000
set_option maxHeartbeats 0
def Z8:=bI f62
def x62:=PLift.up (by have c:=bM Z8 f62;simp only [aO,f62,seval] at c;exact nd c <| @SP)
theorem c62:type_of% x62.down:=x62.down
def N95:=bI f95
def x95:=PLift.up (by have c:=bM N95 f95;simp only [aO,f95,seval] at c;exact nd c <| @Tq)
theorem c95:type_of% x95.down:=x95.down
def II:=bI f122
def L7:=PLift.up (by have c:=bM II f122;simp only [aO,f122,seval] at c;exact nd c <| nd @zDm <| nd @zEb <| @zDO)
theorem Jo:type_of% L7.down:=L7.down
def I8:=bI f143
def Mp:=PLift.up (by have c:=bM I8 f143;simp only [aO,f143,seval] at c;exact nd c <| @zD4)
theorem DE:type_of% Mp.down:=Mp.down
def ZL:=bI f30
def x30:=PLift.up (by have c:=bM ZL f30;simp only [aO,f30,seval] at c;exact nd c <| nd @kH <| nd @uD <| nd @ta <| nd @yV <| nd @uE <| nd @mJ <| nd @cq <| nd @ng <| nd @ui <| nd @kp <| @Sk)
theorem rD:type_of% x30.down:=x30.down
def ZZ:=bI f50
def x50:=PLift.up (by have c:=bM ZZ f50;simp only [aO,f50,seval] at c;exact nd c <| nd @kH <| nd @uD <| nd @ta <| nd @yV <| nd @uE <| nd @mJ <| nd @cq <| nd @ng <| nd @ui <| nd @kp <| @SD)
theorem vO:type_of% x50.down:=x50.down
def Z6:=bI f60
def x60:=PLift.up (by have c:=bM Z6 f60;simp only [aO,f60,seval] at c;exact nd c <| nd @nu <| nd @Rw <| nd @uD <| nd @ta <| nd @Ie <| nd @Bu <| nd @yV <| nd @uE <| nd @mJ <| nd @jQ <| nd @ng <| nd @ui <| nd @kp <| nd @qB <| @SN)
theorem kA:type_of% x60.down:=x60.down
def N92:=bI f92
def x92:=PLift.up (by have c:=bM N92 f92;simp only [aO,f92,seval] at c;exact nd c <| nd @jQ <| nd @qB <| @Tn)
theorem OA:type_of% x92.down:=x92.down
def N68:=bI f68
def x68:=PLift.up (by have c:=bM N68 f68;simp only [aO,f68,seval] at c;exact nd c <| nd @Oa <| nd @nu <| nd @xP <| nd @pk <| nd @Gk <| nd @kp <| nd @qC <| @SW)
theorem qS:type_of% x68.down:=x68.down
def N99:=bI f99
def x99:=PLift.up (by have c:=bM N99 f99;simp only [aO,f99,seval] at c;exact nd c <| nd @Oa <| nd @pk <| nd @Gk <| nd @qC <| @Tv)
theorem c99:type_of% x99.down:=x99.down
def IP:=bI f127
def Mb:=PLift.up (by have c:=bM IP f127;simp only [aO,f127,seval] at c;exact nd c <| nd @pk <| nd @Gk <| nd @qC <| @zDT)
theorem tB:type_of% Mb.down:=Mb.down
def Z4:=bI f58
def x58:=PLift.up (by have c:=bM Z4 f58;simp only [aO,f58,seval] at c;exact nd c <| nd @kH <| nd @rB <| nd @ig <| nd @cq <| nd @ij <| @SL)
theorem zB:type_of% x58.down:=x58.down
def N67:=bI f67
def x67:=PLift.up (by have c:=bM N67 f67;simp only [aO,f67,seval] at c;exact nd c <| nd @cq <| @SV)
theorem c67:type_of% x67.down:=x67.down
def ZH:=bI f26
def x26:=PLift.up (by have c:=bM ZH f26;simp only [aO,f26,seval] at c;exact nd c <| nd @kH <| nd @vG <| nd @Dx <| nd @rB <| nd @vd <| nd @ve <| nd @pj <| nd @ig <| nd @iX <| nd @cq <| nd @qA <| nd @rR <| nd @ij <| @Sg)
theorem pE:type_of% x26.down:=x26.down
end Go.Proofs.YtnkmeidmdaidhaaGreatDoor
namespace Go.Proofs
open Go.Shelf
def Tryz.lays156_ren:Go.Shelf.Ren:=⟨fun|156=>120|165=>140|166=>141|169=>142|240=>151|241=>152|276=>159|277=>160|n=>n,fun|31=>29|9=>9|3=>3|4=>4|0=>0|20=>20|72=>163|76=>166|70=>160|37=>161|75=>165|127=>178|164=>190|5=>5|80=>168|n=>n,fun|n=>n⟩
theorem Tryz.lays156:Go.Proofs.Lays.n156 Tryz.prog Tryz.lays156_ren:={
 mixed:=by kernel_rfl
 f156:=Tryz.func120.trans (congrArg some (by kernel_rfl))
 f165:=Tryz.func140.trans (congrArg some (by kernel_rfl))
 f166:=Tryz.func141.trans (congrArg some (by kernel_rfl))
 f169:=Tryz.func142.trans (congrArg some (by kernel_rfl))
 f240:=Tryz.func151.trans (congrArg some (by kernel_rfl))
 f241:=Tryz.func152.trans (congrArg some (by kernel_rfl))
 f276:=Tryz.func159.trans (congrArg some (by kernel_rfl))
 f277:=Tryz.func160.trans (congrArg some (by kernel_rfl))
 t0:=Tryz.underlying0
 a0:=Tryz.isAgg0
 z0:=Tryz.sizeOf0
 v0:=Tryz.zeroValue0
 t3:=Tryz.underlying3
 a3:=Tryz.isAgg3
 z3:=Tryz.sizeOf3
 v3:=Tryz.zeroValue3
 t4:=Tryz.underlying4
 a4:=Tryz.isAgg4
 z4:=Tryz.sizeOf4
 v4:=Tryz.zeroValue4
 t9:=Tryz.underlying9
 a9:=Tryz.isAgg9
 z9:=Tryz.sizeOf9
 v9:=Tryz.zeroValue9
 t20:=Tryz.underlying20
 a20:=Tryz.isAgg20
 z20:=Tryz.sizeOf20
 v20:=Tryz.zeroValue20
 t31:=Tryz.underlying29
 a31:=Tryz.isAgg29
 z31:=Tryz.sizeOf29
 v31:=Tryz.zeroValue29
 t37:=Tryz.underlying161
 a37:=Tryz.isAgg161
 z37:=Tryz.sizeOf161
 v37:=Tryz.zeroValue161
 t70:=Tryz.underlying160
 a70:=Tryz.isAgg160
 z70:=Tryz.sizeOf160
 v70:=Tryz.zeroValue160
 t72:=Tryz.underlying163
 a72:=Tryz.isAgg163
 z72:=Tryz.sizeOf163
 v72:=Tryz.zeroValue163
 t75:=Tryz.underlying165
 a75:=Tryz.isAgg165
 z75:=Tryz.sizeOf165
 v75:=Tryz.zeroValue165
 t76:=Tryz.underlying166
 a76:=Tryz.isAgg166
 z76:=Tryz.sizeOf166
 v76:=Tryz.zeroValue166
 t127:=Tryz.underlying178
 a127:=Tryz.isAgg178
 z127:=Tryz.sizeOf178
 v127:=Tryz.zeroValue178
 t164:=Tryz.underlying190
 a164:=Tryz.isAgg190
 z164:=Tryz.sizeOf190
 v164:=Tryz.zeroValue190 }
theorem Tryz.Builder_Extra_156:Builder.Extra Tryz.prog Tryz.lays156_ren:={
 sizeBuilder:=by kernel_rfl
 liesBuilder:=by kernel_rfl
 t5:=Tryz.underlying5
 a5:=Tryz.isAgg5
 z5:=Tryz.sizeOf5
 v5:=Tryz.zeroValue5
 infoByte:=by kernel_rfl
 cellsByte:=by kernel_rfl
 sizeByte:=by kernel_rfl
 neB5:=by decide }
open Go.RowKit in
theorem Tryz.strings_Join_none (a:Option Addr) (c:Nat) (sep:ByteArray) (w:World) :
 Calls Tryz.prog 120 #[.slice a 0 c,.string sep] w λe w'=>e=.returned (.string ⟨#[]⟩)/\w'=w:=Any.strings_Join_none Tryz.lays156 Tryz.Builder_Extra_156 a c sep w
open Go.RowKit in
theorem Tryz.strings_Join (bk o c:Nat) (xs:List ByteArray) (sep:ByteArray) (w:World) (mw:∀ (j:Nat) x,xs[j]? = some x->w.cell? ⟨bk,o+j,none⟩=some (.string x)) (hbk:bk < w.heap.size) (hN:xs.length<=140737488355328) (oV:xs.length<=c) (hlen:(Lib.join (xs.map (·.data.toList)) sep.data.toList).length<=140737488355328) :
 Calls Tryz.prog 120 #[.slice (some ⟨bk,o,none⟩) xs.length c,.string sep] w λe w'=>e=.returned (.string ⟨(Lib.join (xs.map (·.data.toList)) sep.data.toList).toArray⟩)/\Below w.heap.size w w':=Any.strings_Join Tryz.lays156 Tryz.Builder_Extra_156 bk o c xs sep w mw hbk hN oV hlen
def Tryz.lays106_ren:Go.Shelf.Ren:=⟨fun|106=>87|213=>119|265=>139|n=>n,fun|9=>9|3=>3|n=>n,fun|n=>n⟩
theorem Tryz.lays106:Go.Proofs.Lays.n106 Tryz.prog Tryz.lays106_ren:={
 mixed:=by kernel_rfl
 f106:=Tryz.func87.trans (congrArg some (by kernel_rfl))
 f213:=Tryz.func119.trans (congrArg some (by kernel_rfl))
 f265:=Tryz.func139.trans (congrArg some (by kernel_rfl))
 t3:=Tryz.underlying3
 a3:=Tryz.isAgg3
 z3:=Tryz.sizeOf3
 v3:=Tryz.zeroValue3
 t9:=Tryz.underlying9
 a9:=Tryz.isAgg9
 z9:=Tryz.sizeOf9
 v9:=Tryz.zeroValue9 }
open Go.RowKit in
theorem Tryz.strings_Compare (a b:ByteArray) (w:World) :
 Calls Tryz.prog 87 #[.string a,.string b] w λe w'=>e=.returned (.int .i64 (Lib.compareBytes a.data.toList b.data.toList))/\w'=w:=Any.strings_Compare Tryz.lays106 a b w
def Tryz.lays157_ren:Go.Shelf.Ren:=⟨fun|157=>137|229=>148|199=>149|261=>158|311=>163|312=>164|n=>n,fun|9=>9|31=>29|3=>3|5=>5|4=>4|119=>175|0=>0|40=>177|152=>185|21=>21|154=>187|51=>182|141=>189|196=>197|193=>194|198=>200|49=>198|194=>195|201=>203|226=>207|46=>159|227=>208|n=>n,fun|0=>1|6=>3|n=>n⟩
theorem Tryz.lays157:Go.Proofs.Lays.n157 Tryz.prog Tryz.lays157_ren:={
 mixed:=by kernel_rfl
 f157:=Tryz.func137.trans (congrArg some (by kernel_rfl))
 f199:=Tryz.func149.trans (congrArg some (by kernel_rfl))
 f229:=Tryz.func148.trans (congrArg some (by kernel_rfl))
 f261:=Tryz.func158.trans (congrArg some (by kernel_rfl))
 f311:=Tryz.func163.trans (congrArg some (by kernel_rfl))
 f312:=Tryz.func164.trans (congrArg some (by kernel_rfl))
 t0:=Tryz.underlying0
 a0:=Tryz.isAgg0
 z0:=Tryz.sizeOf0
 v0:=Tryz.zeroValue0
 t3:=Tryz.underlying3
 a3:=Tryz.isAgg3
 z3:=Tryz.sizeOf3
 v3:=Tryz.zeroValue3
 t4:=Tryz.underlying4
 a4:=Tryz.isAgg4
 z4:=Tryz.sizeOf4
 v4:=Tryz.zeroValue4
 t5:=Tryz.underlying5
 a5:=Tryz.isAgg5
 z5:=Tryz.sizeOf5
 v5:=Tryz.zeroValue5
 t9:=Tryz.underlying9
 a9:=Tryz.isAgg9
 z9:=Tryz.sizeOf9
 v9:=Tryz.zeroValue9
 t21:=Tryz.underlying21
 a21:=Tryz.isAgg21
 z21:=Tryz.sizeOf21
 v21:=Tryz.zeroValue21
 t31:=Tryz.underlying29
 a31:=Tryz.isAgg29
 z31:=Tryz.sizeOf29
 v31:=Tryz.zeroValue29
 t40:=Tryz.underlying177
 a40:=Tryz.isAgg177
 z40:=Tryz.sizeOf177
 v40:=Tryz.zeroValue177
 t46:=Tryz.underlying159
 a46:=Tryz.isAgg159
 z46:=Tryz.sizeOf159
 v46:=Tryz.zeroValue159
 t49:=Tryz.underlying198
 a49:=Tryz.isAgg198
 z49:=Tryz.sizeOf198
 v49:=Tryz.zeroValue198
 t51:=Tryz.underlying182
 a51:=Tryz.isAgg182
 z51:=Tryz.sizeOf182
 v51:=Tryz.zeroValue182
 t119:=Tryz.underlying175
 a119:=Tryz.isAgg175
 z119:=Tryz.sizeOf175
 t141:=Tryz.underlying189
 a141:=Tryz.isAgg189
 z141:=Tryz.sizeOf189
 v141:=Tryz.zeroValue189
 t152:=Tryz.underlying185
 a152:=Tryz.isAgg185
 z152:=Tryz.sizeOf185
 v152:=Tryz.zeroValue185
 t154:=Tryz.underlying187
 a154:=Tryz.isAgg187
 z154:=Tryz.sizeOf187
 v154:=Tryz.zeroValue187
 t193:=Tryz.underlying194
 a193:=Tryz.isAgg194
 z193:=Tryz.sizeOf194
 v193:=Tryz.zeroValue194
 t194:=Tryz.underlying195
 a194:=Tryz.isAgg195
 z194:=Tryz.sizeOf195
 v194:=Tryz.zeroValue195
 t196:=Tryz.underlying197
 a196:=Tryz.isAgg197
 z196:=Tryz.sizeOf197
 v196:=Tryz.zeroValue197
 t198:=Tryz.underlying200
 a198:=Tryz.isAgg200
 z198:=Tryz.sizeOf200
 v198:=Tryz.zeroValue200
 t201:=Tryz.underlying203
 a201:=Tryz.isAgg203
 z201:=Tryz.sizeOf203
 v201:=Tryz.zeroValue203
 t226:=Tryz.underlying207
 a226:=Tryz.isAgg207
 z226:=Tryz.sizeOf207
 v226:=Tryz.zeroValue207
 t227:=Tryz.underlying208
 a227:=Tryz.isAgg208
 z227:=Tryz.sizeOf208
 v227:=Tryz.zeroValue208
 g0:=by kernel_rfl
 g6:=by kernel_rfl }
end Go.Proofs
namespace Go.Proofs.YtnkmeidmdaidhaaGreatDoor
open Go.RowKit Go.Am
def Wo:Ov:=λf=>match f with
 |137=>some (F3 1 9)
 |120=>some Gp
 |87=>some Ng
 |_=>none
theorem zC5:BJ Tryz.prog aH.gs Wo:=by
 intro f g hg
 unfold Wo at hg
 split at hg
 .cases hg
  exact zlF (g:=1) (by decide) (FO Bm zpH rfl) (λs w hs ha hc=>Any.strings_Fields_core Tryz.lays157 (by kernel_rfl) s w hs ha hc)
 .cases hg
  exact zsW (FO Bm zpG rfl) Tryz.strings_Join_none Tryz.strings_Join
 .cases hg
  exact zjW (FO Bm ztc rfl) Tryz.strings_Compare
 .cases hg
theorem zur:Yc 2 (call Tryz.prog aH Wo 200 (.func 6) [] (uv 1))=true:=by kernel_rfl
theorem zuq (w:World) (ht:∀ c,c < 256->w.cell? ⟨1,c,none⟩=some (.int .u8 (Lib.asciiSpaceTab.getD c 0))):Calls Tryz.prog 6 #[] w λe w'=>e=.returned (.bool true)/\Below w.heap.size w w':=zru mixed Bm rfl zC5 rfl zur w ht
def ov:Ov:=λf=>match f with
 |137=>some (F3 1 9)
 |120=>some Gp
 |87=>some Ng
 |6=>some (Iq 1)
 |_=>none
theorem zEf:BJ Tryz.prog aH.gs ov:=by
 intro f g hg
 unfold ov at hg
 split at hg
 .cases hg
  exact zlF (g:=1) (by decide) (FO Bm zpH rfl) (λs w hs ha hc=>Any.strings_Fields_core Tryz.lays157 (by kernel_rfl) s w hs ha hc)
 .cases hg
  exact zsW (FO Bm zpG rfl) Tryz.strings_Join_none Tryz.strings_Join
 .cases hg
  exact zjW (FO Bm ztc rfl) Tryz.strings_Compare
 .cases hg
  exact zxz (g:=1) (by decide) (FO Bm zB9 rfl) zuq
 .cases hg
end Go.Proofs.YtnkmeidmdaidhaaGreatDoor
namespace Go.Proofs.YtnkmeidmdaidhaaGreatDoor
open Go.Am Tryz
theorem LB (h:Heap) (l:List aZ) (w i o:Nat) (v:ai) (hi:i < l.length):i7 aH 4 (.pointer (some ⟨h.size+i,o,none⟩)) v (h.lay l w)=if v.cells.size=1 then vk l[i]? i o v.cells.toList h l w else none:=Bz sz4 h l w i o v hi
theorem Ha (h:Heap) (l:List aZ) (w i o:Nat) (v:ai) (hi:i < l.length):i7 aH 3 (.pointer (some ⟨h.size+i,o,none⟩)) v (h.lay l w)=if v.cells.size=1 then vk l[i]? i o v.cells.toList h l w else none:=Bz AX h l w i o v hi
theorem WG (h:Heap) (l:List aZ) (w i o:Nat) (v:ai) (hi:i < l.length):i7 aH 9 (.pointer (some ⟨h.size+i,o,none⟩)) v (h.lay l w)=if v.cells.size=1 then vk l[i]? i o v.cells.toList h l w else none:=Bz xD h l w i o v hi
theorem gN (h:Heap) (l:List aZ) (w i o:Nat) (v:ai) (hi:i < l.length):i7 aH 25 (.pointer (some ⟨h.size+i,o,none⟩)) v (h.lay l w)=if v.cells.size=2 then vk l[i]? i o v.cells.toList h l w else none:=Bz i4 h l w i o v hi
theorem lI (h:Heap) (l:List aZ) (w i o:Nat) (v:ai) (hi:i < l.length):i7 aH 28 (.pointer (some ⟨h.size+i,o,none⟩)) v (h.lay l w)=if v.cells.size=11 then vk l[i]? i o v.cells.toList h l w else none:=Bz ck h l w i o v hi
theorem rV (h:Heap) (l:List aZ) (w i o:Nat) (v:ai) (hi:i < l.length):i7 aH 35 (.pointer (some ⟨h.size+i,o,none⟩)) v (h.lay l w)=if v.cells.size=12 then vk l[i]? i o v.cells.toList h l w else none:=Bz iE h l w i o v hi
theorem Fp (h:Heap) (l:List aZ) (w i o:Nat) (v:ai) (hi:i < l.length):i7 aH 71 (.pointer (some ⟨h.size+i,o,none⟩)) v (h.lay l w)=if v.cells.size=13 then vk l[i]? i o v.cells.toList h l w else none:=Bz LD h l w i o v hi
theorem BF (h:Heap) (l:List aZ) (w i o:Nat) (v:ai) (hi:i < l.length):i7 aH 134 (.pointer (some ⟨h.size+i,o,none⟩)) v (h.lay l w)=if v.cells.size=3 then vk l[i]? i o v.cells.toList h l w else none:=Bz mT h l w i o v hi
theorem zvS (a b:ae):cA prog aH .neq 28 a.val b.val=some (.bool (!decide (a=b))):=by
 have h1:cA prog aH .neq 28 a.val b.val=(OC a b).map λb=>.bool !b:=by kernel_rfl
 rw [h1,zsl];rfl
theorem zoa (a b:ay):cA prog aH .eql 25 a.val b.val=some (.bool (decide (a=b))):=by
 have h1:cA prog aH .eql 25 a.val b.val=(BV a b).map λb=>.bool b:=by kernel_rfl
 rw [h1,Yl];rfl
theorem zob (a b:ay):cA prog aH .neq 25 a.val b.val=some (.bool (!decide (a=b))):=by
 have h1:cA prog aH .neq 25 a.val b.val=(BV a b).map λb=>.bool !b:=by kernel_rfl
 rw [h1,Yl];rfl
theorem zyy (p q:Bool):cA prog aH .eql 4 (.bool p) (.bool q)=some (.bool (p == q)):=by cases p <;> cases q <;> kernel_rfl
theorem M1 {t:TypeId} {a b:aU} {h:Heap} {K:aJ} (hs:a.size+b.size<=9223372036854775807) (hk:∀ S:aU,S=a++b->S.size=a.size+b.size->K (.string S) h):aK (cA prog aH .add t (.string a) (.string b)) h K:=by
 rw [QH hs];exact hk _ rfl (ByteArray.size_append)
theorem ztK (v w:Bool) (s u:aU):cA prog aH .neq 25 (.agg ⟨[.bool v,.string s]⟩) (.agg ⟨[.bool w,.string u]⟩)=some (.bool (!decide (ay.mk v s=ay.mk w u))):=zob ⟨v,s⟩ ⟨w,u⟩
theorem zlh (v w:Bool) (s u:aU):cA prog aH .eql 25 (.agg ⟨[.bool v,.string s]⟩) (.agg ⟨[.bool w,.string u]⟩)=some (.bool (decide (ay.mk v s=ay.mk w u))):=zoa ⟨v,s⟩ ⟨w,u⟩
theorem zqv:lL aH 25 []=some (.agg ⟨[.bool false,.string ⟨#[]⟩]⟩):=by kernel_rfl
theorem Gt:td aH 23 23=true:=by kernel_rfl
theorem zDc:td aH 22 22=true:=by kernel_rfl
end Go.Proofs.YtnkmeidmdaidhaaGreatDoor

/- What the plain machine's operations come to at this seat's types. Written by a program (mksim.py). No condition. -/
import Derived.Test.YtemapihoobmonaaGreatDoorG10
import Derived.Test.YtemapihoobmonaaGreatDoorGSym
import Derived.Test.YtemapihoobmonaaGreatDoorG24
namespace Go.Proofs.YtemapihoobmonaaGreatDoor
open Go.Am
theorem sz3:zaM tab 3=some 1:=by kernel_rfl
theorem ag3:aggA tab 3=some false:=by kernel_rfl
theorem ld3 (A o:Nat) (h:Heap):zaX tab 3 (.pointer (some ⟨A,o,none⟩)) h=zhj (h.get A) o:=zcS ag3
theorem sz4:zaM tab 4=some 1:=by kernel_rfl
theorem ag4:aggA tab 4=some false:=by kernel_rfl
theorem ld4 (A o:Nat) (h:Heap):zaX tab 4 (.pointer (some ⟨A,o,none⟩)) h=zhj (h.get A) o:=zcS ag4
theorem ds5:tab.desc 5=some (.int .u8):=by kernel_rfl
theorem sz9:zaM tab 9=some 1:=by kernel_rfl
theorem ag9:aggA tab 9=some false:=by kernel_rfl
theorem ld9 (A o:Nat) (h:Heap):zaX tab 9 (.pointer (some ⟨A,o,none⟩)) h=zhj (h.get A) o:=zcS ag9
theorem ds9:tab.desc 9=some .string:=by kernel_rfl
theorem ln9 (s:ByteArray) (h:Heap):lenA tab 9 (.string s) h=some (.int .i64 s.size):=zxk ds9
theorem sz23:zaM tab 23=some 2:=by kernel_rfl
theorem ag23:aggA tab 23=some true:=by kernel_rfl
theorem ld23 (A o:Nat) (h:Heap):zaX tab 23 (.pointer (some ⟨A,o,none⟩)) h=cutO (h.get A) o 2:=zdP ag23 sz23
theorem al23 (P:Program) (ov:Ov) (d:Option Tmp) (ty:TypeId) (pos:String) (af:Array Edge) (g:Option (Nat × Bool)) (e:Env) (h:Heap) (K:Value→Heap→Prop):WOp P tab ov ⟨d,.alloc 23,ty,pos,af,g⟩ e h K=K (.pointer (some ⟨h.size,0,none⟩)) (h.push (.row [.bool false,.string ⟨#[]⟩] 23 false)):=zg4 d ty pos af g e h K 23 zsg
theorem zqB (A o:Nat):zah tab 23 (.pointer (some ⟨A,o,none⟩)) 0=some (.pointer (some ⟨A,o+0,none⟩)):=Eq.refl _
theorem zou (A o:Nat):zah tab 23 (.pointer (some ⟨A,o,none⟩)) 1=some (.pointer (some ⟨A,o+1,none⟩)):=Eq.refl _
theorem ds24:tab.desc 24=some (.array 4 23):=by kernel_rfl
theorem ix24 (A o:Nat) (ik:IntKind) (i:Int):zau tab 24 (.pointer (some ⟨A,o,none⟩)) (.int ik i)=if 0≤i∧i < 4 then some (.pointer (some ⟨A,o+i.toNat*2,none⟩)) else none:=zAi ds24 (by kernel_rfl)
theorem sz26:zaM tab 26=some 11:=by kernel_rfl
theorem ag26:aggA tab 26=some true:=by kernel_rfl
theorem ld26 (A o:Nat) (h:Heap):zaX tab 26 (.pointer (some ⟨A,o,none⟩)) h=cutO (h.get A) o 11:=zdP ag26 sz26
theorem al26 (P:Program) (ov:Ov) (d:Option Tmp) (ty:TypeId) (pos:String) (af:Array Edge) (g:Option (Nat × Bool)) (e:Env) (h:Heap) (K:Value→Heap→Prop):WOp P tab ov ⟨d,.alloc 26,ty,pos,af,g⟩ e h K=K (.pointer (some ⟨h.size,0,none⟩)) (h.push (.row [.string ⟨#[]⟩,.string ⟨#[]⟩,.int .i64 0,.bool false,.string ⟨#[]⟩,.bool false,.string ⟨#[]⟩,.bool false,.string ⟨#[]⟩,.bool false,.string ⟨#[]⟩] 26 false)):=zg4 d ty pos af g e h K 26 zsu
theorem zqJ (A o:Nat):zah tab 26 (.pointer (some ⟨A,o,none⟩)) 0=some (.pointer (some ⟨A,o+0,none⟩)):=Eq.refl _
theorem zqY (A o:Nat):zah tab 26 (.pointer (some ⟨A,o,none⟩)) 1=some (.pointer (some ⟨A,o+1,none⟩)):=Eq.refl _
theorem zkR (A o:Nat):zah tab 26 (.pointer (some ⟨A,o,none⟩)) 2=some (.pointer (some ⟨A,o+2,none⟩)):=Eq.refl _
theorem zhJ (A o:Nat):zah tab 26 (.pointer (some ⟨A,o,none⟩)) 3=some (.pointer (some ⟨A,o+3,none⟩)):=Eq.refl _
theorem ag27:aggA tab 27=some false:=by kernel_rfl
theorem ld27 (A o:Nat) (h:Heap):zaX tab 27 (.pointer (some ⟨A,o,none⟩)) h=zhj (h.get A) o:=zcS ag27
theorem ds27:tab.desc 27=some (.slice 26):=by kernel_rfl
theorem ln27 (a:Option Addr) (n c:Nat) (h:Heap):lenA tab 27 (.slice a n c) h=some (.int .i64 n):=zbE ds27
theorem ix27 (A o n c:Nat) (ik:IntKind) (i:Int):zau tab 27 (.slice (some ⟨A,o,none⟩) n c) (.int ik i)=if 0≤i∧i < n then some (.pointer (some ⟨A,o+i.toNat*11,none⟩)) else none:=zb1 ds27 (by kernel_rfl)
theorem sz29:zaM tab 29=some 12:=by kernel_rfl
theorem ag29:aggA tab 29=some true:=by kernel_rfl
theorem ld29 (A o:Nat) (h:Heap):zaX tab 29 (.pointer (some ⟨A,o,none⟩)) h=cutO (h.get A) o 12:=zdP ag29 sz29
theorem zyI (A o:Nat):zah tab 29 (.pointer (some ⟨A,o,none⟩)) 0=some (.pointer (some ⟨A,o+0,none⟩)):=Eq.refl _
theorem zyH (A o:Nat):zah tab 29 (.pointer (some ⟨A,o,none⟩)) 1=some (.pointer (some ⟨A,o+11,none⟩)):=Eq.refl _
theorem ds30:tab.desc 30=some (.slice 3):=by kernel_rfl
theorem ln30 (a:Option Addr) (n c:Nat) (h:Heap):lenA tab 30 (.slice a n c) h=some (.int .i64 n):=zbE ds30
theorem bs30 (n:Nat) (parts:List (Nat × Value)) (h:Heap):zaL tab 30 n parts h=if n*1 > 16777216 || n > 16777216 then Option.none else (zdV (fun i=>some (i*1,1)) (zbI [.int .i64 0] n) parts).map fun cs=>(.slice (some ⟨h.size,0,none⟩) n n,h.push (.row cs 3 false)):=bsl ds30 zns n parts h
theorem ix30 (A o n c:Nat) (ik:IntKind) (i:Int):zau tab 30 (.slice (some ⟨A,o,none⟩) n c) (.int ik i)=if 0≤i∧i < n then some (.pointer (some ⟨A,o+i.toNat*1,none⟩)) else none:=zb1 ds30 (by kernel_rfl)
theorem ds32:tab.desc 32=some (.slice 29):=by kernel_rfl
theorem ln32 (a:Option Addr) (n c:Nat) (h:Heap):lenA tab 32 (.slice a n c) h=some (.int .i64 n):=zbE ds32
theorem bs32 (n:Nat) (parts:List (Nat × Value)) (h:Heap):zaL tab 32 n parts h=if n*12 > 16777216 || n > 16777216 then Option.none else (zdV (fun i=>some (i*12,12)) (zbI [.string ⟨#[]⟩,.string ⟨#[]⟩,.int .i64 0,.bool false,.string ⟨#[]⟩,.bool false,.string ⟨#[]⟩,.bool false,.string ⟨#[]⟩,.bool false,.string ⟨#[]⟩,.slice none 0 0] n) parts).map fun cs=>(.slice (some ⟨h.size,0,none⟩) n n,h.push (.row cs 29 false)):=bsl ds32 zse n parts h
theorem ix32 (A o n c:Nat) (ik:IntKind) (i:Int):zau tab 32 (.slice (some ⟨A,o,none⟩) n c) (.int ik i)=if 0≤i∧i < n then some (.pointer (some ⟨A,o+i.toNat*12,none⟩)) else none:=zb1 ds32 (by kernel_rfl)
theorem ds36:tab.desc 36=some (.slice 141):=by kernel_rfl
theorem bs36 (n:Nat) (parts:List (Nat × Value)) (h:Heap):zaL tab 36 n parts h=if n*3 > 16777216 || n > 16777216 then Option.none else (zdV (fun i=>some (i*3,3)) (zbI [.string ⟨#[]⟩,.bool false,.string ⟨#[]⟩] n) parts).map fun cs=>(.slice (some ⟨h.size,0,none⟩) n n,h.push (.row cs 141 false)):=bsl ds36 zpX n parts h
theorem sz44:zaM tab 44=some 1:=by kernel_rfl
theorem ag44:aggA tab 44=some false:=by kernel_rfl
theorem ld44 (A o:Nat) (h:Heap):zaX tab 44 (.pointer (some ⟨A,o,none⟩)) h=zhj (h.get A) o:=zcS ag44
theorem ag49:aggA tab 49=some false:=by kernel_rfl
theorem ld49 (A o:Nat) (h:Heap):zaX tab 49 (.pointer (some ⟨A,o,none⟩)) h=zhj (h.get A) o:=zcS ag49
theorem ds49:tab.desc 49=some (.slice 9):=by kernel_rfl
theorem ln49 (a:Option Addr) (n c:Nat) (h:Heap):lenA tab 49 (.slice a n c) h=some (.int .i64 n):=zbE ds49
theorem bs49 (n:Nat) (parts:List (Nat × Value)) (h:Heap):zaL tab 49 n parts h=if n*1 > 16777216 || n > 16777216 then Option.none else (zdV (fun i=>some (i*1,1)) (zbI [.string ⟨#[]⟩] n) parts).map fun cs=>(.slice (some ⟨h.size,0,none⟩) n n,h.push (.row cs 9 false)):=bsl ds49 zcf n parts h
theorem ix49 (A o n c:Nat) (ik:IntKind) (i:Int):zau tab 49 (.slice (some ⟨A,o,none⟩) n c) (.int ik i)=if 0≤i∧i < n then some (.pointer (some ⟨A,o+i.toNat*1,none⟩)) else none:=zb1 ds49 (by kernel_rfl)
theorem ag50:aggA tab 50=some false:=by kernel_rfl
theorem ld50 (A o:Nat) (h:Heap):zaX tab 50 (.pointer (some ⟨A,o,none⟩)) h=zhj (h.get A) o:=zcS ag50
theorem ds50:tab.desc 50=some (.slice 110):=by kernel_rfl
theorem ln50 (a:Option Addr) (n c:Nat) (h:Heap):lenA tab 50 (.slice a n c) h=some (.int .i64 n):=zbE ds50
theorem ix50 (A o n c:Nat) (ik:IntKind) (i:Int):zau tab 50 (.slice (some ⟨A,o,none⟩) n c) (.int ik i)=if 0≤i∧i < n then some (.pointer (some ⟨A,o+i.toNat*2,none⟩)) else none:=zb1 ds50 (by kernel_rfl)
theorem ag51:aggA tab 51=some false:=by kernel_rfl
theorem ld51 (A o:Nat) (h:Heap):zaX tab 51 (.pointer (some ⟨A,o,none⟩)) h=zhj (h.get A) o:=zcS ag51
theorem ds51:tab.desc 51=some (.slice 112):=by kernel_rfl
theorem ln51 (a:Option Addr) (n c:Nat) (h:Heap):lenA tab 51 (.slice a n c) h=some (.int .i64 n):=zbE ds51
theorem ix51 (A o n c:Nat) (ik:IntKind) (i:Int):zau tab 51 (.slice (some ⟨A,o,none⟩) n c) (.int ik i)=if 0≤i∧i < n then some (.pointer (some ⟨A,o+i.toNat*2,none⟩)) else none:=zb1 ds51 (by kernel_rfl)
theorem ag52:aggA tab 52=some false:=by kernel_rfl
theorem ld52 (A o:Nat) (h:Heap):zaX tab 52 (.pointer (some ⟨A,o,none⟩)) h=zhj (h.get A) o:=zcS ag52
theorem ds52:tab.desc 52=some (.slice 113):=by kernel_rfl
theorem ln52 (a:Option Addr) (n c:Nat) (h:Heap):lenA tab 52 (.slice a n c) h=some (.int .i64 n):=zbE ds52
theorem ix52 (A o n c:Nat) (ik:IntKind) (i:Int):zau tab 52 (.slice (some ⟨A,o,none⟩) n c) (.int ik i)=if 0≤i∧i < n then some (.pointer (some ⟨A,o+i.toNat*12,none⟩)) else none:=zb1 ds52 (by kernel_rfl)
theorem ag53:aggA tab 53=some false:=by kernel_rfl
theorem ld53 (A o:Nat) (h:Heap):zaX tab 53 (.pointer (some ⟨A,o,none⟩)) h=zhj (h.get A) o:=zcS ag53
theorem ds53:tab.desc 53=some (.slice 115):=by kernel_rfl
theorem ln53 (a:Option Addr) (n c:Nat) (h:Heap):lenA tab 53 (.slice a n c) h=some (.int .i64 n):=zbE ds53
theorem ix53 (A o n c:Nat) (ik:IntKind) (i:Int):zau tab 53 (.slice (some ⟨A,o,none⟩) n c) (.int ik i)=if 0≤i∧i < n then some (.pointer (some ⟨A,o+i.toNat*13,none⟩)) else none:=zb1 ds53 (by kernel_rfl)
theorem sz55:zaM tab 55=some 7:=by kernel_rfl
theorem ag55:aggA tab 55=some true:=by kernel_rfl
theorem ld55 (A o:Nat) (h:Heap):zaX tab 55 (.pointer (some ⟨A,o,none⟩)) h=cutO (h.get A) o 7:=zdP ag55 sz55
theorem al55 (P:Program) (ov:Ov) (d:Option Tmp) (ty:TypeId) (pos:String) (af:Array Edge) (g:Option (Nat × Bool)) (e:Env) (h:Heap) (K:Value→Heap→Prop):WOp P tab ov ⟨d,.alloc 55,ty,pos,af,g⟩ e h K=K (.pointer (some ⟨h.size,0,none⟩)) (h.push (.row [.slice none 0 0,.slice none 0 0,.slice none 0 0,.int .i64 0,.int .i64 0,.slice none 0 0,.slice none 0 0] 55 false)):=zg4 d ty pos af g e h K 55 zsK
theorem zuh (A o:Nat):zah tab 55 (.pointer (some ⟨A,o,none⟩)) 0=some (.pointer (some ⟨A,o+0,none⟩)):=Eq.refl _
theorem zA8 (A o:Nat):zah tab 55 (.pointer (some ⟨A,o,none⟩)) 1=some (.pointer (some ⟨A,o+1,none⟩)):=Eq.refl _
theorem zqF (A o:Nat):zah tab 55 (.pointer (some ⟨A,o,none⟩)) 2=some (.pointer (some ⟨A,o+2,none⟩)):=Eq.refl _
theorem zBF (A o:Nat):zah tab 55 (.pointer (some ⟨A,o,none⟩)) 5=some (.pointer (some ⟨A,o+5,none⟩)):=Eq.refl _
theorem zBe (A o:Nat):zah tab 55 (.pointer (some ⟨A,o,none⟩)) 6=some (.pointer (some ⟨A,o+6,none⟩)):=Eq.refl _
theorem sz57:zaM tab 57=some 12:=by kernel_rfl
theorem ag57:aggA tab 57=some true:=by kernel_rfl
theorem ld57 (A o:Nat) (h:Heap):zaX tab 57 (.pointer (some ⟨A,o,none⟩)) h=cutO (h.get A) o 12:=zdP ag57 sz57
theorem al57 (P:Program) (ov:Ov) (d:Option Tmp) (ty:TypeId) (pos:String) (af:Array Edge) (g:Option (Nat × Bool)) (e:Env) (h:Heap) (K:Value→Heap→Prop):WOp P tab ov ⟨d,.alloc 57,ty,pos,af,g⟩ e h K=K (.pointer (some ⟨h.size,0,none⟩)) (h.push (.row [.int .i64 0,.string ⟨#[]⟩,.string ⟨#[]⟩,.int .i64 0,.bool false,.string ⟨#[]⟩,.bool false,.string ⟨#[]⟩,.bool false,.string ⟨#[]⟩,.bool false,.string ⟨#[]⟩] 57 false)):=zg4 d ty pos af g e h K 57 zsO
theorem zlg (A o:Nat):zah tab 57 (.pointer (some ⟨A,o,none⟩)) 0=some (.pointer (some ⟨A,o+0,none⟩)):=Eq.refl _
theorem zvR (A o:Nat):zah tab 57 (.pointer (some ⟨A,o,none⟩)) 1=some (.pointer (some ⟨A,o+1,none⟩)):=Eq.refl _
theorem sz62:zaM tab 62=some 2:=by kernel_rfl
theorem ag62:aggA tab 62=some true:=by kernel_rfl
theorem ld62 (A o:Nat) (h:Heap):zaX tab 62 (.pointer (some ⟨A,o,none⟩)) h=cutO (h.get A) o 2:=zdP ag62 sz62
theorem al62 (P:Program) (ov:Ov) (d:Option Tmp) (ty:TypeId) (pos:String) (af:Array Edge) (g:Option (Nat × Bool)) (e:Env) (h:Heap) (K:Value→Heap→Prop):WOp P tab ov ⟨d,.alloc 62,ty,pos,af,g⟩ e h K=K (.pointer (some ⟨h.size,0,none⟩)) (h.push (.row [.string ⟨#[]⟩,.string ⟨#[]⟩] 62 false)):=zg4 d ty pos af g e h K 62 zbH
theorem zgq (A o:Nat):zah tab 62 (.pointer (some ⟨A,o,none⟩)) 0=some (.pointer (some ⟨A,o+0,none⟩)):=Eq.refl _
theorem znL (A o:Nat):zah tab 62 (.pointer (some ⟨A,o,none⟩)) 1=some (.pointer (some ⟨A,o+1,none⟩)):=Eq.refl _
theorem ds69:tab.desc 69=some (.slice 62):=by kernel_rfl
theorem ln69 (a:Option Addr) (n c:Nat) (h:Heap):lenA tab 69 (.slice a n c) h=some (.int .i64 n):=zbE ds69
theorem bs69 (n:Nat) (parts:List (Nat × Value)) (h:Heap):zaL tab 69 n parts h=if n*2 > 16777216 || n > 16777216 then Option.none else (zdV (fun i=>some (i*2,2)) (zbI [.string ⟨#[]⟩,.string ⟨#[]⟩] n) parts).map fun cs=>(.slice (some ⟨h.size,0,none⟩) n n,h.push (.row cs 62 false)):=bsl ds69 zbH n parts h
theorem ix69 (A o n c:Nat) (ik:IntKind) (i:Int):zau tab 69 (.slice (some ⟨A,o,none⟩) n c) (.int ik i)=if 0≤i∧i < n then some (.pointer (some ⟨A,o+i.toNat*2,none⟩)) else none:=zb1 ds69 (by kernel_rfl)
theorem zCM:zaM tab 110=some 2:=by kernel_rfl
theorem zvc (A o:Nat):zah tab 110 (.pointer (some ⟨A,o,none⟩)) 0=some (.pointer (some ⟨A,o+0,none⟩)):=Eq.refl _
theorem zkl:zaM tab 112=some 2:=by kernel_rfl
theorem zzp:aggA tab 112=some true:=by kernel_rfl
theorem zCA (A o:Nat) (h:Heap):zaX tab 112 (.pointer (some ⟨A,o,none⟩)) h=cutO (h.get A) o 2:=zdP zzp zkl
theorem zjN (A o:Nat):zah tab 112 (.pointer (some ⟨A,o,none⟩)) 0=some (.pointer (some ⟨A,o+0,none⟩)):=Eq.refl _
theorem zf3 (A o:Nat):zah tab 112 (.pointer (some ⟨A,o,none⟩)) 1=some (.pointer (some ⟨A,o+1,none⟩)):=Eq.refl _
theorem zA0:zaM tab 113=some 12:=by kernel_rfl
theorem zvu (A o:Nat):zah tab 113 (.pointer (some ⟨A,o,none⟩)) 0=some (.pointer (some ⟨A,o+0,none⟩)):=Eq.refl _
theorem zuX (A o:Nat):zah tab 113 (.pointer (some ⟨A,o,none⟩)) 1=some (.pointer (some ⟨A,o+11,none⟩)):=Eq.refl _
theorem zA6:zaM tab 115=some 13:=by kernel_rfl
theorem zt7 (A o:Nat):zah tab 115 (.pointer (some ⟨A,o,none⟩)) 0=some (.pointer (some ⟨A,o+0,none⟩)):=Eq.refl _
theorem zvi (A o:Nat):zah tab 115 (.pointer (some ⟨A,o,none⟩)) 1=some (.pointer (some ⟨A,o+1,none⟩)):=Eq.refl _
theorem zuz (A o:Nat):zah tab 115 (.pointer (some ⟨A,o,none⟩)) 2=some (.pointer (some ⟨A,o+12,none⟩)):=Eq.refl _
theorem zye:tab.desc 118=some (.slice 5):=by kernel_rfl
theorem zCZ (n:Nat) (parts:List (Nat × Value)) (h:Heap):zaL tab 118 n parts h=if n*1 > 16777216 || n > 16777216 then Option.none else (zdV (fun i=>some (i*1,1)) (zbI [.int .u8 0] n) parts).map fun cs=>(.slice (some ⟨h.size,0,none⟩) n n,h.push (.row cs 5 false)):=bsl zye zjK n parts h
theorem zpo (A o:Nat):zah tab 123 (.pointer (some ⟨A,o,none⟩)) 0=some (.pointer (some ⟨A,o+0,none⟩)):=Eq.refl _
theorem zlr (A o:Nat):zah tab 123 (.pointer (some ⟨A,o,none⟩)) 1=some (.pointer (some ⟨A,o+1,none⟩)):=Eq.refl _
theorem zjF (A o:Nat):zah tab 123 (.pointer (some ⟨A,o,none⟩)) 2=some (.pointer (some ⟨A,o+2,none⟩)):=Eq.refl _
theorem zlZ:tab.desc 131=some (.slice 133):=by kernel_rfl
theorem zBj (a:Option Addr) (n c:Nat) (h:Heap):lenA tab 131 (.slice a n c) h=some (.int .i64 n):=zbE zlZ
theorem zCL (n:Nat) (parts:List (Nat × Value)) (h:Heap):zaL tab 131 n parts h=if n*3 > 16777216 || n > 16777216 then Option.none else (zdV (fun i=>some (i*3,3)) (zbI [.int .i64 0,.string ⟨#[]⟩,.string ⟨#[]⟩] n) parts).map fun cs=>(.slice (some ⟨h.size,0,none⟩) n n,h.push (.row cs 133 false)):=bsl zlZ zdt n parts h
theorem zwG (A o n c:Nat) (ik:IntKind) (i:Int):zau tab 131 (.slice (some ⟨A,o,none⟩) n c) (.int ik i)=if 0≤i∧i < n then some (.pointer (some ⟨A,o+i.toNat*3,none⟩)) else none:=zb1 zlZ (by kernel_rfl)
theorem ziU:zaM tab 133=some 3:=by kernel_rfl
theorem zBw:aggA tab 133=some true:=by kernel_rfl
theorem zxe (A o:Nat) (h:Heap):zaX tab 133 (.pointer (some ⟨A,o,none⟩)) h=cutO (h.get A) o 3:=zdP zBw ziU
theorem zB0 (P:Program) (ov:Ov) (d:Option Tmp) (ty:TypeId) (pos:String) (af:Array Edge) (g:Option (Nat × Bool)) (e:Env) (h:Heap) (K:Value→Heap→Prop):WOp P tab ov ⟨d,.alloc 133,ty,pos,af,g⟩ e h K=K (.pointer (some ⟨h.size,0,none⟩)) (h.push (.row [.int .i64 0,.string ⟨#[]⟩,.string ⟨#[]⟩] 133 false)):=zg4 d ty pos af g e h K 133 zdt
theorem zvY (A o:Nat):zah tab 133 (.pointer (some ⟨A,o,none⟩)) 0=some (.pointer (some ⟨A,o+0,none⟩)):=Eq.refl _
theorem zzR (A o:Nat):zah tab 133 (.pointer (some ⟨A,o,none⟩)) 1=some (.pointer (some ⟨A,o+1,none⟩)):=Eq.refl _
theorem zBP:zaM tab 141=some 3:=by kernel_rfl
theorem zo2 (A o:Nat):zah tab 147 (.pointer (some ⟨A,o,none⟩)) 0=some (.pointer (some ⟨A,o+0,none⟩)):=Eq.refl _
theorem zme (A o:Nat):zah tab 147 (.pointer (some ⟨A,o,none⟩)) 1=some (.pointer (some ⟨A,o+1,none⟩)):=Eq.refl _
theorem zvr:tab.desc 183=some (.slice 23):=by kernel_rfl
theorem zBi (a:Option Addr) (n c:Nat) (h:Heap):lenA tab 183 (.slice a n c) h=some (.int .i64 n):=zbE zvr
theorem zBr (A o n c:Nat) (ik:IntKind) (i:Int):zau tab 183 (.slice (some ⟨A,o,none⟩) n c) (.int ik i)=if 0≤i∧i < n then some (.pointer (some ⟨A,o+i.toNat*2,none⟩)) else none:=zb1 zvr (by kernel_rfl)
theorem zqv (A o:Nat):zah tab 195 (.pointer (some ⟨A,o,none⟩)) 0=some (.pointer (some ⟨A,o+0,none⟩)):=Eq.refl _
theorem zlo (A o:Nat):zah tab 195 (.pointer (some ⟨A,o,none⟩)) 1=some (.pointer (some ⟨A,o+1,none⟩)):=Eq.refl _
theorem zj4 (A o:Nat):zah tab 195 (.pointer (some ⟨A,o,none⟩)) 2=some (.pointer (some ⟨A,o+2,none⟩)):=Eq.refl _
theorem zuD (A o:Nat):zah tab 197 (.pointer (some ⟨A,o,none⟩)) 0=some (.pointer (some ⟨A,o+0,none⟩)):=Eq.refl _
theorem fi5 (K:Value→Heap→Prop) (e:Env) (h:Heap):finE tab Tryz.f5 K .ret e h=K (e.get 10) h:=zak rfl
theorem fi6 (K:Value→Heap→Prop) (e:Env) (h:Heap):finE tab Tryz.f6 K .ret e h=K (e.get 8) h:=zak rfl
theorem fi8 (K:Value→Heap→Prop) (e:Env) (h:Heap):finE tab Tryz.f8 K .ret e h=K (e.get 10) h:=zak rfl
theorem fi9 (K:Value→Heap→Prop) (e:Env) (h:Heap):finE tab Tryz.f9 K .ret e h=K (e.get 12) h:=zak rfl
theorem fi11 (K:Value→Heap→Prop) (e:Env) (h:Heap):finE tab Tryz.f11 K .ret e h=K (e.get 4) h:=zak rfl
theorem fi12 (K:Value→Heap→Prop) (e:Env) (h:Heap):finE tab Tryz.f12 K .ret e h=K (e.get 4) h:=zak rfl
theorem fi13 (K:Value→Heap→Prop) (e:Env) (h:Heap):finE tab Tryz.f13 K .ret e h=K (e.get 4) h:=zak rfl
theorem fi15 (K:Value→Heap→Prop) (e:Env) (h:Heap):finE tab Tryz.f15 K .ret e h=K (.tuple #[e.get 6,e.get 7]) h:=zzt rfl
theorem fi16 (K:Value→Heap→Prop) (e:Env) (h:Heap):finE tab Tryz.f16 K .ret e h=K (e.get 4) h:=zak rfl
theorem fi18 (K:Value→Heap→Prop) (e:Env) (h:Heap):finE tab Tryz.f18 K .ret e h=valE (zaX tab 26 (e.get 4) h) h K:=ziD rfl
theorem fi19 (K:Value→Heap→Prop) (e:Env) (h:Heap):finE tab Tryz.f19 K .ret e h=K (e.get 2) h:=zak rfl
theorem fi21 (K:Value→Heap→Prop) (e:Env) (h:Heap):finE tab Tryz.f21 K .ret e h=K (e.get 4) h:=zak rfl
theorem fi23 (K:Value→Heap→Prop) (e:Env) (h:Heap):finE tab Tryz.f23 K .ret e h=K (e.get 2) h:=zak rfl
theorem fi24 (K:Value→Heap→Prop) (e:Env) (h:Heap):finE tab Tryz.f24 K .ret e h=K (e.get 2) h:=zak rfl
theorem fi25 (K:Value→Heap→Prop) (e:Env) (h:Heap):finE tab Tryz.f25 K .ret e h=K (e.get 6) h:=zak rfl
theorem fi27 (K:Value→Heap→Prop) (e:Env) (h:Heap):finE tab Tryz.f27 K .ret e h=K (e.get 4) h:=zak rfl
theorem fi28 (K:Value→Heap→Prop) (e:Env) (h:Heap):finE tab Tryz.f28 K .ret e h=valE (zaX tab 57 (e.get 2) h) h (fun x h'=>K (.tuple #[x,e.get 3]) h'):=zj8 rfl
theorem fi29 (K:Value→Heap→Prop) (e:Env) (h:Heap):finE tab Tryz.f29 K .ret e h=K (e.get 4) h:=zak rfl
theorem fi31 (K:Value→Heap→Prop) (e:Env) (h:Heap):finE tab Tryz.f31 K .ret e h=K (e.get 6) h:=zak rfl
theorem fi32 (K:Value→Heap→Prop) (e:Env) (h:Heap):finE tab Tryz.f32 K .ret e h=K (e.get 6) h:=zak rfl
theorem fi33 (K:Value→Heap→Prop) (e:Env) (h:Heap):finE tab Tryz.f33 K .ret e h=K (e.get 4) h:=zak rfl
theorem fi34 (K:Value→Heap→Prop) (e:Env) (h:Heap):finE tab Tryz.f34 K .ret e h=K (e.get 6) h:=zak rfl
theorem fi38 (K:Value→Heap→Prop) (e:Env) (h:Heap):finE tab Tryz.f38 K .ret e h=K (e.get 10) h:=zak rfl
theorem fi39 (K:Value→Heap→Prop) (e:Env) (h:Heap):finE tab Tryz.f39 K .ret e h=K (e.get 6) h:=zak rfl
theorem fi40 (K:Value→Heap→Prop) (e:Env) (h:Heap):finE tab Tryz.f40 K .ret e h=K (e.get 8) h:=zak rfl
theorem fi41 (K:Value→Heap→Prop) (e:Env) (h:Heap):finE tab Tryz.f41 K .ret e h=K (e.get 6) h:=zak rfl
theorem fi42 (K:Value→Heap→Prop) (e:Env) (h:Heap):finE tab Tryz.f42 K .ret e h=K (e.get 2) h:=zak rfl
theorem fi43 (K:Value→Heap→Prop) (e:Env) (h:Heap):finE tab Tryz.f43 K .ret e h=K (e.get 6) h:=zak rfl
theorem fi44 (K:Value→Heap→Prop) (e:Env) (h:Heap):finE tab Tryz.f44 K .ret e h=K (e.get 8) h:=zak rfl
theorem fi45 (K:Value→Heap→Prop) (e:Env) (h:Heap):finE tab Tryz.f45 K .ret e h=K (e.get 2) h:=zak rfl
theorem fi46 (K:Value→Heap→Prop) (e:Env) (h:Heap):finE tab Tryz.f46 K .ret e h=K (e.get 10) h:=zak rfl
theorem fi47 (K:Value→Heap→Prop) (e:Env) (h:Heap):finE tab Tryz.f47 K .ret e h=K (e.get 4) h:=zak rfl
theorem fi48 (K:Value→Heap→Prop) (e:Env) (h:Heap):finE tab Tryz.f48 K .ret e h=K (e.get 6) h:=zak rfl
theorem fi49 (K:Value→Heap→Prop) (e:Env) (h:Heap):finE tab Tryz.f49 K .ret e h=K (e.get 6) h:=zak rfl
theorem fi69 (K:Value→Heap→Prop) (e:Env) (h:Heap):finE tab Tryz.f69 K .ret e h=K (e.get 6) h:=zak rfl
theorem fi70 (K:Value→Heap→Prop) (e:Env) (h:Heap):finE tab Tryz.f70 K .ret e h=valE (zaX tab 57 (e.get 2) h) h (fun x h'=>K (.tuple #[x,e.get 3]) h'):=zj8 rfl
theorem fi71 (K:Value→Heap→Prop) (e:Env) (h:Heap):finE tab Tryz.f71 K .ret e h=K (e.get 6) h:=zak rfl
theorem fi72 (K:Value→Heap→Prop) (e:Env) (h:Heap):finE tab Tryz.f72 K .ret e h=K (e.get 2) h:=zak rfl
theorem fi74 (K:Value→Heap→Prop) (e:Env) (h:Heap):finE tab Tryz.f74 K .ret e h=K (e.get 4) h:=zak rfl
theorem fi75 (K:Value→Heap→Prop) (e:Env) (h:Heap):finE tab Tryz.f75 K .ret e h=K (e.get 4) h:=zak rfl
theorem fi76 (K:Value→Heap→Prop) (e:Env) (h:Heap):finE tab Tryz.f76 K .ret e h=K (e.get 2) h:=zak rfl
theorem fi77 (K:Value→Heap→Prop) (e:Env) (h:Heap):finE tab Tryz.f77 K .ret e h=valE (zaX tab 26 (e.get 2) h) h K:=ziD rfl
theorem fi80 (K:Value→Heap→Prop) (e:Env) (h:Heap):finE tab Tryz.f80 K .ret e h=K (e.get 4) h:=zak rfl
theorem fi81 (K:Value→Heap→Prop) (e:Env) (h:Heap):finE tab Tryz.f81 K .ret e h=K (e.get 4) h:=zak rfl
theorem fi83 (K:Value→Heap→Prop) (e:Env) (h:Heap):finE tab Tryz.f83 K .ret e h=K (e.get 4) h:=zak rfl
theorem fi84 (K:Value→Heap→Prop) (e:Env) (h:Heap):finE tab Tryz.f84 K .ret e h=K undef h:=zjR rfl
theorem fj84 (K:Value→Heap→Prop) (e:Env) (h:Heap):finE tab Tryz.f84 K .normal e h=K undef h:=zfS rfl
theorem fi85 (K:Value→Heap→Prop) (e:Env) (h:Heap):finE tab Tryz.f85 K .ret e h=K (e.get 4) h:=zak rfl
theorem fi86 (K:Value→Heap→Prop) (e:Env) (h:Heap):finE tab Tryz.f86 K .ret e h=K (e.get 4) h:=zak rfl
theorem fi87 (K:Value→Heap→Prop) (e:Env) (h:Heap):finE tab Tryz.f87 K .ret e h=K (e.get 4) h:=zak rfl
theorem fi88 (K:Value→Heap→Prop) (e:Env) (h:Heap):finE tab Tryz.f88 K .ret e h=K (e.get 4) h:=zak rfl
theorem fi90 (K:Value→Heap→Prop) (e:Env) (h:Heap):finE tab Tryz.f90 K .ret e h=K (e.get 2) h:=zak rfl
theorem zBZ (K:Value→Heap→Prop) (e:Env) (h:Heap):finE tab Tryz.f104 K .ret e h=K (e.get 2) h:=zak rfl
theorem zCF (K:Value→Heap→Prop) (e:Env) (h:Heap):finE tab Tryz.f105 K .ret e h=valE (zaX tab 26 (e.get 2) h) h K:=ziD rfl
theorem zCV (K:Value→Heap→Prop) (e:Env) (h:Heap):finE tab Tryz.f106 K .ret e h=K undef h:=zjR rfl
theorem zB3 (K:Value→Heap→Prop) (e:Env) (h:Heap):finE tab Tryz.f106 K .normal e h=K undef h:=zfS rfl
theorem zCf (K:Value→Heap→Prop) (e:Env) (h:Heap):finE tab Tryz.f107 K .ret e h=K (e.get 2) h:=zak rfl
theorem zCa (K:Value→Heap→Prop) (e:Env) (h:Heap):finE tab Tryz.f108 K .ret e h=K (e.get 4) h:=zak rfl
theorem zC4 (K:Value→Heap→Prop) (e:Env) (h:Heap):finE tab Tryz.f109 K .ret e h=K (e.get 4) h:=zak rfl
theorem zC2 (K:Value→Heap→Prop) (e:Env) (h:Heap):finE tab Tryz.f111 K .ret e h=K (e.get 2) h:=zak rfl
theorem zCj (K:Value→Heap→Prop) (e:Env) (h:Heap):finE tab Tryz.f112 K .ret e h=K (e.get 2) h:=zak rfl
theorem zCt (K:Value→Heap→Prop) (e:Env) (h:Heap):finE tab Tryz.f113 K .ret e h=K (e.get 4) h:=zak rfl
theorem zC3 (K:Value→Heap→Prop) (e:Env) (h:Heap):finE tab Tryz.f114 K .ret e h=K (e.get 2) h:=zak rfl
theorem zCP (K:Value→Heap→Prop) (e:Env) (h:Heap):finE tab Tryz.f119 K .ret e h=K undef h:=zjR rfl
theorem zC5 (K:Value→Heap→Prop) (e:Env) (h:Heap):finE tab Tryz.f119 K .normal e h=K undef h:=zfS rfl
theorem zCX (K:Value→Heap→Prop) (e:Env) (h:Heap):finE tab Tryz.f120 K .ret e h=K (e.get 2) h:=zak rfl
theorem zCb (K:Value→Heap→Prop) (e:Env) (h:Heap):finE tab Tryz.f121 K .ret e h=K (e.get 2) h:=zak rfl
theorem zBU (K:Value→Heap→Prop) (e:Env) (h:Heap):finE tab Tryz.f122 K .ret e h=K (e.get 2) h:=zak rfl
theorem zCx (K:Value→Heap→Prop) (e:Env) (h:Heap):finE tab Tryz.f125 K .ret e h=K (e.get 2) h:=zak rfl
theorem zBW (K:Value→Heap→Prop) (e:Env) (h:Heap):finE tab Tryz.f138 K .ret e h=K (e.get 4) h:=zak rfl
theorem zCK (K:Value→Heap→Prop) (e:Env) (h:Heap):finE tab Tryz.f140 K .ret e h=K (e.get 4) h:=zak rfl
theorem zBO (K:Value→Heap→Prop) (e:Env) (h:Heap):finE tab Tryz.f141 K .ret e h=K (e.get 4) h:=zak rfl
theorem zCm (K:Value→Heap→Prop) (e:Env) (h:Heap):finE tab Tryz.f142 K .ret e h=K (e.get 4) h:=zak rfl
theorem zB8 (K:Value→Heap→Prop) (e:Env) (h:Heap):finE tab Tryz.f143 K .ret e h=K (e.get 3) h:=zak rfl
theorem zCs (K:Value→Heap→Prop) (e:Env) (h:Heap):finE tab Tryz.f147 K .ret e h=K (e.get 2) h:=zak rfl
theorem zBS (K:Value→Heap→Prop) (e:Env) (h:Heap):finE tab Tryz.f148 K .ret e h=K (.tuple #[e.get 2,e.get 3,e.get 4]) h:=zoG rfl
theorem zCR (K:Value→Heap→Prop) (e:Env) (h:Heap):finE tab Tryz.f149 K .ret e h=K (e.get 4) h:=zak rfl
theorem zCY (K:Value→Heap→Prop) (e:Env) (h:Heap):finE tab Tryz.f153 K .ret e h=K undef h:=zjR rfl
theorem zA4 (K:Value→Heap→Prop) (e:Env) (h:Heap):finE tab Tryz.f153 K .normal e h=K undef h:=zfS rfl
theorem zCw (K:Value→Heap→Prop) (e:Env) (h:Heap):finE tab Tryz.f154 K .ret e h=K undef h:=zjR rfl
theorem zCi (K:Value→Heap→Prop) (e:Env) (h:Heap):finE tab Tryz.f154 K .normal e h=K undef h:=zfS rfl
theorem zCq (K:Value→Heap→Prop) (e:Env) (h:Heap):finE tab Tryz.f155 K .ret e h=K (e.get 2) h:=zak rfl
theorem zCu (K:Value→Heap→Prop) (e:Env) (h:Heap):finE tab Tryz.f156 K .ret e h=K (e.get 2) h:=zak rfl
theorem zCN (K:Value→Heap→Prop) (e:Env) (h:Heap):finE tab Tryz.f157 K .ret e h=K (e.get 2) h:=zak rfl
theorem zC1 (K:Value→Heap→Prop) (e:Env) (h:Heap):finE tab Tryz.f159 K .ret e h=K (e.get 2) h:=zak rfl
theorem zCB (K:Value→Heap→Prop) (e:Env) (h:Heap):finE tab Tryz.f160 K .ret e h=K (e.get 2) h:=zak rfl
theorem zBT (K:Value→Heap→Prop) (e:Env) (h:Heap):finE tab Tryz.f161 K .ret e h=K (e.get 4) h:=zak rfl
theorem zCD (K:Value→Heap→Prop) (e:Env) (h:Heap):finE tab Tryz.f162 K .ret e h=K (e.get 2) h:=zak rfl
theorem zCn (K:Value→Heap→Prop) (e:Env) (h:Heap):finE tab Tryz.f163 K .ret e h=K (e.get 2) h:=zak rfl
theorem zCh (K:Value→Heap→Prop) (e:Env) (h:Heap):finE tab Tryz.f164 K .ret e h=K (e.get 2) h:=zak rfl
theorem zCe (K:Value→Heap→Prop) (e:Env) (h:Heap):finE tab Tryz.f177 K .ret e h=valE (zaX tab 26 (e.get 2) h) h K:=ziD rfl
theorem zCl (K:Value→Heap→Prop) (e:Env) (h:Heap):finE tab Tryz.f180 K .ret e h=K undef h:=zjR rfl
theorem zB9 (K:Value→Heap→Prop) (e:Env) (h:Heap):finE tab Tryz.f180 K .normal e h=K undef h:=zfS rfl
theorem zCH (K:Value→Heap→Prop) (e:Env) (h:Heap):finE tab Tryz.f181 K .ret e h=K (e.get 2) h:=zak rfl
theorem zCg (K:Value→Heap→Prop) (e:Env) (h:Heap):finE tab Tryz.f182 K .ret e h=K (e.get 2) h:=zak rfl
theorem zCy (K:Value→Heap→Prop) (e:Env) (h:Heap):finE tab Tryz.f183 K .ret e h=K (e.get 2) h:=zak rfl
theorem zCk (K:Value→Heap→Prop) (e:Env) (h:Heap):finE tab Tryz.f184 K .ret e h=K (e.get 2) h:=zak rfl
theorem zB7 (K:Value→Heap→Prop) (e:Env) (h:Heap):finE tab Tryz.f185 K .ret e h=K (e.get 6) h:=zak rfl
theorem zCW (K:Value→Heap→Prop) (e:Env) (h:Heap):finE tab Tryz.f186 K .ret e h=K (e.get 2) h:=zak rfl
theorem zBI (K:Value→Heap→Prop) (e:Env) (h:Heap):finE tab Tryz.f187 K .ret e h=K (e.get 2) h:=zak rfl
theorem zBN (K:Value→Heap→Prop) (e:Env) (h:Heap):finE tab Tryz.f188 K .ret e h=K (e.get 2) h:=zak rfl
theorem zCQ (K:Value→Heap→Prop) (e:Env) (h:Heap):finE tab Tryz.f189 K .ret e h=K (e.get 4) h:=zak rfl
theorem zCr (K:Value→Heap→Prop) (e:Env) (h:Heap):finE tab Tryz.f190 K .ret e h=K (e.get 2) h:=zak rfl
theorem zCo (K:Value→Heap→Prop) (e:Env) (h:Heap):finE tab Tryz.f191 K .ret e h=K (e.get 2) h:=zak rfl
theorem zBJ (K:Value→Heap→Prop) (e:Env) (h:Heap):finE tab Tryz.f199 K .ret e h=K (e.get 2) h:=zak rfl
theorem zCS (K:Value→Heap→Prop) (e:Env) (h:Heap):finE tab Tryz.f200 K .ret e h=K (e.get 2) h:=zak rfl
theorem zBX (K:Value→Heap→Prop) (e:Env) (h:Heap):finE tab Tryz.f201 K .ret e h=K (e.get 2) h:=zak rfl
theorem zCU (K:Value→Heap→Prop) (e:Env) (h:Heap):finE tab Tryz.f213 K .ret e h=K undef h:=zjR rfl
theorem zCp (K:Value→Heap→Prop) (e:Env) (h:Heap):finE tab Tryz.f213 K .normal e h=K undef h:=zfS rfl
theorem zCd (K:Value→Heap→Prop) (e:Env) (h:Heap):finE tab Tryz.f214 K .ret e h=K (e.get 0) h:=zak rfl
theorem zBM (K:Value→Heap→Prop) (e:Env) (h:Heap):finE tab Tryz.f215 K .ret e h=K (e.get 2) h:=zak rfl
theorem zCO (K:Value→Heap→Prop) (e:Env) (h:Heap):finE tab Tryz.f216 K .ret e h=K (e.get 0) h:=zak rfl
theorem zB6 (K:Value→Heap→Prop) (e:Env) (h:Heap):finE tab Tryz.f217 K .ret e h=K (e.get 2) h:=zak rfl
theorem zBY (K:Value→Heap→Prop) (e:Env) (h:Heap):finE tab Tryz.f218 K .ret e h=K (e.get 2) h:=zak rfl
theorem zBH (K:Value→Heap→Prop) (e:Env) (h:Heap):finE tab Tryz.f219 K .ret e h=K (e.get 2) h:=zak rfl
theorem zCJ (K:Value→Heap→Prop) (e:Env) (h:Heap):finE tab Tryz.f223 K .ret e h=K (.tuple #[e.get 2,e.get 3,e.get 4]) h:=zoG rfl
end Go.Proofs.YtemapihoobmonaaGreatDoor

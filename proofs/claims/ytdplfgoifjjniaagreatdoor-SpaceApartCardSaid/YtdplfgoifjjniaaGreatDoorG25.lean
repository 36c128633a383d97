/- What the plain machine's operations come to at this seat's types. Written by a program (mksim.py). No condition. -/
import Derived.Test.YtdplfgoifjjniaaGreatDoorG10
import Derived.Test.YtdplfgoifjjniaaGreatDoorGSym
import Derived.Test.YtdplfgoifjjniaaGreatDoorG24
namespace Go.Proofs.YtdplfgoifjjniaaGreatDoor
open Go.Am
theorem ag1:aggA tab 1=some false:=by kernel_rfl
theorem pt1 (cs:List Value) (o:Nat):zai tab 1 cs o=cs[o]? := zac ag1
theorem ag2:aggA tab 2=some false:=by kernel_rfl
theorem pt2 (cs:List Value) (o:Nat):zai tab 2 cs o=cs[o]? := zac ag2
theorem sz3:zay tab 3=some 1:=by kernel_rfl
theorem ag3:aggA tab 3=some false:=by kernel_rfl
theorem ld3 (A o:Nat) (h:Heap):zaR tab 3 (.pointer (some ⟨A,o,none⟩)) h=zdC (h.get A) o:=zbo ag3
theorem pt3 (cs:List Value) (o:Nat):zai tab 3 cs o=cs[o]? := zac ag3
theorem sz4:zay tab 4=some 1:=by kernel_rfl
theorem ag4:aggA tab 4=some false:=by kernel_rfl
theorem ld4 (A o:Nat) (h:Heap):zaR tab 4 (.pointer (some ⟨A,o,none⟩)) h=zdC (h.get A) o:=zbo ag4
theorem pt4 (cs:List Value) (o:Nat):zai tab 4 cs o=cs[o]? := zac ag4
theorem ag5:aggA tab 5=some false:=by kernel_rfl
theorem pt5 (cs:List Value) (o:Nat):zai tab 5 cs o=cs[o]? := zac ag5
theorem ag6:aggA tab 6=some false:=by kernel_rfl
theorem pt6 (cs:List Value) (o:Nat):zai tab 6 cs o=cs[o]? := zac ag6
theorem sz7:zay tab 7=some 4:=by kernel_rfl
theorem ag7:aggA tab 7=some true:=by kernel_rfl
theorem pt7 (cs:List Value) (o:Nat):zai tab 7 cs o=(cut cs o 4).map fun l=>.agg l.toArray:=zav ag7 sz7
theorem sz8:zay tab 8=some 4:=by kernel_rfl
theorem ag8:aggA tab 8=some true:=by kernel_rfl
theorem pt8 (cs:List Value) (o:Nat):zai tab 8 cs o=(cut cs o 4).map fun l=>.agg l.toArray:=zav ag8 sz8
theorem sz9:zay tab 9=some 1:=by kernel_rfl
theorem ag9:aggA tab 9=some false:=by kernel_rfl
theorem ld9 (A o:Nat) (h:Heap):zaR tab 9 (.pointer (some ⟨A,o,none⟩)) h=zdC (h.get A) o:=zbo ag9
theorem pt9 (cs:List Value) (o:Nat):zai tab 9 cs o=cs[o]? := zac ag9
theorem ds9:tab.desc 9=some .string:=by kernel_rfl
theorem ln9 (s:ByteArray) (h:Heap):lenA tab 9 (.string s) h=some (.int .i64 s.size):=zym ds9
theorem ag10:aggA tab 10=some false:=by kernel_rfl
theorem pt10 (cs:List Value) (o:Nat):zai tab 10 cs o=cs[o]? := zac ag10
theorem ag11:aggA tab 11=some false:=by kernel_rfl
theorem pt11 (cs:List Value) (o:Nat):zai tab 11 cs o=cs[o]? := zac ag11
theorem ag12:aggA tab 12=some false:=by kernel_rfl
theorem pt12 (cs:List Value) (o:Nat):zai tab 12 cs o=cs[o]? := zac ag12
theorem sz13:zay tab 13=some 2:=by kernel_rfl
theorem ag13:aggA tab 13=some true:=by kernel_rfl
theorem pt13 (cs:List Value) (o:Nat):zai tab 13 cs o=(cut cs o 2).map fun l=>.agg l.toArray:=zav ag13 sz13
theorem sz14:zay tab 14=some 2:=by kernel_rfl
theorem ag14:aggA tab 14=some true:=by kernel_rfl
theorem pt14 (cs:List Value) (o:Nat):zai tab 14 cs o=(cut cs o 2).map fun l=>.agg l.toArray:=zav ag14 sz14
theorem ag15:aggA tab 15=some false:=by kernel_rfl
theorem pt15 (cs:List Value) (o:Nat):zai tab 15 cs o=cs[o]? := zac ag15
theorem ag16:aggA tab 16=some false:=by kernel_rfl
theorem pt16 (cs:List Value) (o:Nat):zai tab 16 cs o=cs[o]? := zac ag16
theorem ag17:aggA tab 17=some false:=by kernel_rfl
theorem pt17 (cs:List Value) (o:Nat):zai tab 17 cs o=cs[o]? := zac ag17
theorem sz18:zay tab 18=some 1:=by kernel_rfl
theorem ag18:aggA tab 18=some true:=by kernel_rfl
theorem pt18 (cs:List Value) (o:Nat):zai tab 18 cs o=(cut cs o 1).map fun l=>.agg l.toArray:=zav ag18 sz18
theorem sz19:zay tab 19=some 1:=by kernel_rfl
theorem ag19:aggA tab 19=some true:=by kernel_rfl
theorem pt19 (cs:List Value) (o:Nat):zai tab 19 cs o=(cut cs o 1).map fun l=>.agg l.toArray:=zav ag19 sz19
theorem ag20:aggA tab 20=some false:=by kernel_rfl
theorem pt20 (cs:List Value) (o:Nat):zai tab 20 cs o=cs[o]? := zac ag20
theorem ag21:aggA tab 21=some false:=by kernel_rfl
theorem pt21 (cs:List Value) (o:Nat):zai tab 21 cs o=cs[o]? := zac ag21
theorem ag22:aggA tab 22=some false:=by kernel_rfl
theorem pt22 (cs:List Value) (o:Nat):zai tab 22 cs o=cs[o]? := zac ag22
theorem sz23:zay tab 23=some 1:=by kernel_rfl
theorem ag23:aggA tab 23=some false:=by kernel_rfl
theorem ld23 (A o:Nat) (h:Heap):zaR tab 23 (.pointer (some ⟨A,o,none⟩)) h=zdC (h.get A) o:=zbo ag23
theorem pt23 (cs:List Value) (o:Nat):zai tab 23 cs o=cs[o]? := zac ag23
theorem al23 (P:Program) (ov:Ov) (d:Option Tmp) (ty:TypeId) (pos:String) (af:Array Edge) (g:Option (Nat × Bool)) (e:Env) (h:Heap) (K:Value→Heap→Prop):WOp P tab ov ⟨d,.alloc 23,ty,pos,af,g⟩ e h K=K (.pointer (some ⟨h.size,0,none⟩)) (h.push (.row [.slice none 0 0] 23 false)):=zdX d ty pos af g e h K 23 zro
theorem ds23:tab.desc 23=some (.slice 9):=by kernel_rfl
theorem ln23 (a:Option Addr) (n c:Nat) (h:Heap):lenA tab 23 (.slice a n c) h=some (.int .i64 n):=zbr ds23
theorem bs23 (n:Nat) (parts:List (Nat × Value)) (h:Heap):zaJ tab 23 n parts h=if n*1 > 16777216 || n > 16777216 then Option.none else (zdE (fun i=>some (i*1,1)) (zbp [.string ⟨#[]⟩] n) parts).map fun cs=>(.slice (some ⟨h.size,0,none⟩) n n,h.push (.row cs 9 false)):=bsl ds23 zd0 n parts h
theorem ix23 (A o n c:Nat) (ik:IntKind) (i:Int):zau tab 23 (.slice (some ⟨A,o,none⟩) n c) (.int ik i)=if 0≤i∧i < n then some (.pointer (some ⟨A,o+i.toNat*1,none⟩)) else none:=zbM ds23 (by kernel_rfl)
theorem ag24:aggA tab 24=some false:=by kernel_rfl
theorem ld24 (A o:Nat) (h:Heap):zaR tab 24 (.pointer (some ⟨A,o,none⟩)) h=zdC (h.get A) o:=zbo ag24
theorem pt24 (cs:List Value) (o:Nat):zai tab 24 cs o=cs[o]? := zac ag24
theorem ds24:tab.desc 24=some (.slice 67):=by kernel_rfl
theorem ln24 (a:Option Addr) (n c:Nat) (h:Heap):lenA tab 24 (.slice a n c) h=some (.int .i64 n):=zbr ds24
theorem bs24 (n:Nat) (parts:List (Nat × Value)) (h:Heap):zaJ tab 24 n parts h=if n*2 > 16777216 || n > 16777216 then Option.none else (zdE (fun i=>some (i*2,2)) (zbp [.string ⟨#[]⟩,.int .i64 0] n) parts).map fun cs=>(.slice (some ⟨h.size,0,none⟩) n n,h.push (.row cs 67 false)):=bsl ds24 zhh n parts h
theorem ix24 (A o n c:Nat) (ik:IntKind) (i:Int):zau tab 24 (.slice (some ⟨A,o,none⟩) n c) (.int ik i)=if 0≤i∧i < n then some (.pointer (some ⟨A,o+i.toNat*2,none⟩)) else none:=zbM ds24 (by kernel_rfl)
theorem ag25:aggA tab 25=some false:=by kernel_rfl
theorem ld25 (A o:Nat) (h:Heap):zaR tab 25 (.pointer (some ⟨A,o,none⟩)) h=zdC (h.get A) o:=zbo ag25
theorem pt25 (cs:List Value) (o:Nat):zai tab 25 cs o=cs[o]? := zac ag25
theorem ds25:tab.desc 25=some (.slice 69):=by kernel_rfl
theorem ln25 (a:Option Addr) (n c:Nat) (h:Heap):lenA tab 25 (.slice a n c) h=some (.int .i64 n):=zbr ds25
theorem bs25 (n:Nat) (parts:List (Nat × Value)) (h:Heap):zaJ tab 25 n parts h=if n*2 > 16777216 || n > 16777216 then Option.none else (zdE (fun i=>some (i*2,2)) (zbp [.string ⟨#[]⟩,.slice none 0 0] n) parts).map fun cs=>(.slice (some ⟨h.size,0,none⟩) n n,h.push (.row cs 69 false)):=bsl ds25 zkv n parts h
theorem ix25 (A o n c:Nat) (ik:IntKind) (i:Int):zau tab 25 (.slice (some ⟨A,o,none⟩) n c) (.int ik i)=if 0≤i∧i < n then some (.pointer (some ⟨A,o+i.toNat*2,none⟩)) else none:=zbM ds25 (by kernel_rfl)
theorem ag26:aggA tab 26=some false:=by kernel_rfl
theorem ld26 (A o:Nat) (h:Heap):zaR tab 26 (.pointer (some ⟨A,o,none⟩)) h=zdC (h.get A) o:=zbo ag26
theorem pt26 (cs:List Value) (o:Nat):zai tab 26 cs o=cs[o]? := zac ag26
theorem ds26:tab.desc 26=some (.slice 71):=by kernel_rfl
theorem ln26 (a:Option Addr) (n c:Nat) (h:Heap):lenA tab 26 (.slice a n c) h=some (.int .i64 n):=zbr ds26
theorem bs26 (n:Nat) (parts:List (Nat × Value)) (h:Heap):zaJ tab 26 n parts h=if n*12 > 16777216 || n > 16777216 then Option.none else (zdE (fun i=>some (i*12,12)) (zbp [.string ⟨#[]⟩,.string ⟨#[]⟩,.int .i64 0,.bool false,.string ⟨#[]⟩,.bool false,.string ⟨#[]⟩,.bool false,.string ⟨#[]⟩,.bool false,.string ⟨#[]⟩,.slice none 0 0] n) parts).map fun cs=>(.slice (some ⟨h.size,0,none⟩) n n,h.push (.row cs 71 false)):=bsl ds26 zj3 n parts h
theorem ix26 (A o n c:Nat) (ik:IntKind) (i:Int):zau tab 26 (.slice (some ⟨A,o,none⟩) n c) (.int ik i)=if 0≤i∧i < n then some (.pointer (some ⟨A,o+i.toNat*12,none⟩)) else none:=zbM ds26 (by kernel_rfl)
theorem ag27:aggA tab 27=some false:=by kernel_rfl
theorem ld27 (A o:Nat) (h:Heap):zaR tab 27 (.pointer (some ⟨A,o,none⟩)) h=zdC (h.get A) o:=zbo ag27
theorem pt27 (cs:List Value) (o:Nat):zai tab 27 cs o=cs[o]? := zac ag27
theorem ds27:tab.desc 27=some (.slice 73):=by kernel_rfl
theorem ln27 (a:Option Addr) (n c:Nat) (h:Heap):lenA tab 27 (.slice a n c) h=some (.int .i64 n):=zbr ds27
theorem bs27 (n:Nat) (parts:List (Nat × Value)) (h:Heap):zaJ tab 27 n parts h=if n*13 > 16777216 || n > 16777216 then Option.none else (zdE (fun i=>some (i*13,13)) (zbp [.string ⟨#[]⟩,.string ⟨#[]⟩,.string ⟨#[]⟩,.int .i64 0,.bool false,.string ⟨#[]⟩,.bool false,.string ⟨#[]⟩,.bool false,.string ⟨#[]⟩,.bool false,.string ⟨#[]⟩,.slice none 0 0] n) parts).map fun cs=>(.slice (some ⟨h.size,0,none⟩) n n,h.push (.row cs 73 false)):=bsl ds27 zkt n parts h
theorem ix27 (A o n c:Nat) (ik:IntKind) (i:Int):zau tab 27 (.slice (some ⟨A,o,none⟩) n c) (.int ik i)=if 0≤i∧i < n then some (.pointer (some ⟨A,o+i.toNat*13,none⟩)) else none:=zbM ds27 (by kernel_rfl)
theorem sz28:zay tab 28=some 7:=by kernel_rfl
theorem ag28:aggA tab 28=some true:=by kernel_rfl
theorem pt28 (cs:List Value) (o:Nat):zai tab 28 cs o=(cut cs o 7).map fun l=>.agg l.toArray:=zav ag28 sz28
theorem sz29:zay tab 29=some 7:=by kernel_rfl
theorem ag29:aggA tab 29=some true:=by kernel_rfl
theorem ld29 (A o:Nat) (h:Heap):zaR tab 29 (.pointer (some ⟨A,o,none⟩)) h=cutO (h.get A) o 7:=zdd ag29 sz29
theorem pt29 (cs:List Value) (o:Nat):zai tab 29 cs o=(cut cs o 7).map fun l=>.agg l.toArray:=zav ag29 sz29
theorem al29 (P:Program) (ov:Ov) (d:Option Tmp) (ty:TypeId) (pos:String) (af:Array Edge) (g:Option (Nat × Bool)) (e:Env) (h:Heap) (K:Value→Heap→Prop):WOp P tab ov ⟨d,.alloc 29,ty,pos,af,g⟩ e h K=K (.pointer (some ⟨h.size,0,none⟩)) (h.push (.row [.slice none 0 0,.slice none 0 0,.slice none 0 0,.int .i64 0,.int .i64 0,.slice none 0 0,.slice none 0 0] 29 false)):=zdX d ty pos af g e h K 29 zqs
theorem zki (A o:Nat):zaf tab 29 (.pointer (some ⟨A,o,none⟩)) 0=some (.pointer (some ⟨A,o+0,none⟩)):=Eq.refl _
theorem zpq (A o:Nat):zaf tab 29 (.pointer (some ⟨A,o,none⟩)) 1=some (.pointer (some ⟨A,o+1,none⟩)):=Eq.refl _
theorem zzP (A o:Nat):zaf tab 29 (.pointer (some ⟨A,o,none⟩)) 2=some (.pointer (some ⟨A,o+2,none⟩)):=Eq.refl _
theorem zmV (A o:Nat):zaf tab 29 (.pointer (some ⟨A,o,none⟩)) 3=some (.pointer (some ⟨A,o+3,none⟩)):=Eq.refl _
theorem zCO (A o:Nat):zaf tab 29 (.pointer (some ⟨A,o,none⟩)) 4=some (.pointer (some ⟨A,o+4,none⟩)):=Eq.refl _
theorem zuh (A o:Nat):zaf tab 29 (.pointer (some ⟨A,o,none⟩)) 5=some (.pointer (some ⟨A,o+5,none⟩)):=Eq.refl _
theorem zu0 (A o:Nat):zaf tab 29 (.pointer (some ⟨A,o,none⟩)) 6=some (.pointer (some ⟨A,o+6,none⟩)):=Eq.refl _
theorem ag30:aggA tab 30=some false:=by kernel_rfl
theorem pt30 (cs:List Value) (o:Nat):zai tab 30 cs o=cs[o]? := zac ag30
theorem ag31:aggA tab 31=some false:=by kernel_rfl
theorem pt31 (cs:List Value) (o:Nat):zai tab 31 cs o=cs[o]? := zac ag31
theorem ag32:aggA tab 32=some false:=by kernel_rfl
theorem pt32 (cs:List Value) (o:Nat):zai tab 32 cs o=cs[o]? := zac ag32
theorem ag33:aggA tab 33=some false:=by kernel_rfl
theorem ld33 (A o:Nat) (h:Heap):zaR tab 33 (.pointer (some ⟨A,o,none⟩)) h=zdC (h.get A) o:=zbo ag33
theorem pt33 (cs:List Value) (o:Nat):zai tab 33 cs o=cs[o]? := zac ag33
theorem ag35:aggA tab 35=some false:=by kernel_rfl
theorem pt35 (cs:List Value) (o:Nat):zai tab 35 cs o=cs[o]? := zac ag35
theorem ag37:aggA tab 37=some false:=by kernel_rfl
theorem pt37 (cs:List Value) (o:Nat):zai tab 37 cs o=cs[o]? := zac ag37
theorem sz38:zay tab 38=some 2:=by kernel_rfl
theorem ag38:aggA tab 38=some true:=by kernel_rfl
theorem pt38 (cs:List Value) (o:Nat):zai tab 38 cs o=(cut cs o 2).map fun l=>.agg l.toArray:=zav ag38 sz38
theorem sz39:zay tab 39=some 2:=by kernel_rfl
theorem ag39:aggA tab 39=some true:=by kernel_rfl
theorem ld39 (A o:Nat) (h:Heap):zaR tab 39 (.pointer (some ⟨A,o,none⟩)) h=cutO (h.get A) o 2:=zdd ag39 sz39
theorem pt39 (cs:List Value) (o:Nat):zai tab 39 cs o=(cut cs o 2).map fun l=>.agg l.toArray:=zav ag39 sz39
theorem al39 (P:Program) (ov:Ov) (d:Option Tmp) (ty:TypeId) (pos:String) (af:Array Edge) (g:Option (Nat × Bool)) (e:Env) (h:Heap) (K:Value→Heap→Prop):WOp P tab ov ⟨d,.alloc 39,ty,pos,af,g⟩ e h K=K (.pointer (some ⟨h.size,0,none⟩)) (h.push (.row [.bool false,.string ⟨#[]⟩] 39 false)):=zdX d ty pos af g e h K 39 zrb
theorem zpu (A o:Nat):zaf tab 39 (.pointer (some ⟨A,o,none⟩)) 0=some (.pointer (some ⟨A,o+0,none⟩)):=Eq.refl _
theorem zpn (A o:Nat):zaf tab 39 (.pointer (some ⟨A,o,none⟩)) 1=some (.pointer (some ⟨A,o+1,none⟩)):=Eq.refl _
theorem sz40:zay tab 40=some 8:=by kernel_rfl
theorem ag40:aggA tab 40=some true:=by kernel_rfl
theorem pt40 (cs:List Value) (o:Nat):zai tab 40 cs o=(cut cs o 8).map fun l=>.agg l.toArray:=zav ag40 sz40
theorem ds40:tab.desc 40=some (.array 4 39):=by kernel_rfl
theorem ix40 (A o:Nat) (ik:IntKind) (i:Int):zau tab 40 (.pointer (some ⟨A,o,none⟩)) (.int ik i)=if 0≤i∧i < 4 then some (.pointer (some ⟨A,o+i.toNat*2,none⟩)) else none:=zAb ds40 (by kernel_rfl)
theorem sz41:zay tab 41=some 11:=by kernel_rfl
theorem ag41:aggA tab 41=some true:=by kernel_rfl
theorem pt41 (cs:List Value) (o:Nat):zai tab 41 cs o=(cut cs o 11).map fun l=>.agg l.toArray:=zav ag41 sz41
theorem sz42:zay tab 42=some 11:=by kernel_rfl
theorem ag42:aggA tab 42=some true:=by kernel_rfl
theorem ld42 (A o:Nat) (h:Heap):zaR tab 42 (.pointer (some ⟨A,o,none⟩)) h=cutO (h.get A) o 11:=zdd ag42 sz42
theorem pt42 (cs:List Value) (o:Nat):zai tab 42 cs o=(cut cs o 11).map fun l=>.agg l.toArray:=zav ag42 sz42
theorem al42 (P:Program) (ov:Ov) (d:Option Tmp) (ty:TypeId) (pos:String) (af:Array Edge) (g:Option (Nat × Bool)) (e:Env) (h:Heap) (K:Value→Heap→Prop):WOp P tab ov ⟨d,.alloc 42,ty,pos,af,g⟩ e h K=K (.pointer (some ⟨h.size,0,none⟩)) (h.push (.row [.string ⟨#[]⟩,.string ⟨#[]⟩,.int .i64 0,.bool false,.string ⟨#[]⟩,.bool false,.string ⟨#[]⟩,.bool false,.string ⟨#[]⟩,.bool false,.string ⟨#[]⟩] 42 false)):=zdX d ty pos af g e h K 42 zdr
theorem zgz (A o:Nat):zaf tab 42 (.pointer (some ⟨A,o,none⟩)) 0=some (.pointer (some ⟨A,o+0,none⟩)):=Eq.refl _
theorem zpL (A o:Nat):zaf tab 42 (.pointer (some ⟨A,o,none⟩)) 1=some (.pointer (some ⟨A,o+1,none⟩)):=Eq.refl _
theorem zth (A o:Nat):zaf tab 42 (.pointer (some ⟨A,o,none⟩)) 2=some (.pointer (some ⟨A,o+2,none⟩)):=Eq.refl _
theorem zpg (A o:Nat):zaf tab 42 (.pointer (some ⟨A,o,none⟩)) 3=some (.pointer (some ⟨A,o+3,none⟩)):=Eq.refl _
theorem ag43:aggA tab 43=some false:=by kernel_rfl
theorem pt43 (cs:List Value) (o:Nat):zai tab 43 cs o=cs[o]? := zac ag43
theorem ag44:aggA tab 44=some false:=by kernel_rfl
theorem pt44 (cs:List Value) (o:Nat):zai tab 44 cs o=cs[o]? := zac ag44
theorem ag45:aggA tab 45=some false:=by kernel_rfl
theorem pt45 (cs:List Value) (o:Nat):zai tab 45 cs o=cs[o]? := zac ag45
theorem ag46:aggA tab 46=some false:=by kernel_rfl
theorem pt46 (cs:List Value) (o:Nat):zai tab 46 cs o=cs[o]? := zac ag46
theorem ag47:aggA tab 47=some false:=by kernel_rfl
theorem pt47 (cs:List Value) (o:Nat):zai tab 47 cs o=cs[o]? := zac ag47
theorem ag48:aggA tab 48=some false:=by kernel_rfl
theorem pt48 (cs:List Value) (o:Nat):zai tab 48 cs o=cs[o]? := zac ag48
theorem ds48:tab.desc 48=some (.slice 57):=by kernel_rfl
theorem ln48 (a:Option Addr) (n c:Nat) (h:Heap):lenA tab 48 (.slice a n c) h=some (.int .i64 n):=zbr ds48
theorem ix48 (A o n c:Nat) (ik:IntKind) (i:Int):zau tab 48 (.slice (some ⟨A,o,none⟩) n c) (.int ik i)=if 0≤i∧i < n then some (.pointer (some ⟨A,o+i.toNat*13,none⟩)) else none:=zbM ds48 (by kernel_rfl)
theorem ag49:aggA tab 49=some false:=by kernel_rfl
theorem pt49 (cs:List Value) (o:Nat):zai tab 49 cs o=cs[o]? := zac ag49
theorem ag50:aggA tab 50=some false:=by kernel_rfl
theorem pt50 (cs:List Value) (o:Nat):zai tab 50 cs o=cs[o]? := zac ag50
theorem ag51:aggA tab 51=some false:=by kernel_rfl
theorem pt51 (cs:List Value) (o:Nat):zai tab 51 cs o=cs[o]? := zac ag51
theorem ag52:aggA tab 52=some false:=by kernel_rfl
theorem ld52 (A o:Nat) (h:Heap):zaR tab 52 (.pointer (some ⟨A,o,none⟩)) h=zdC (h.get A) o:=zbo ag52
theorem pt52 (cs:List Value) (o:Nat):zai tab 52 cs o=cs[o]? := zac ag52
theorem ds52:tab.desc 52=some (.slice 42):=by kernel_rfl
theorem ln52 (a:Option Addr) (n c:Nat) (h:Heap):lenA tab 52 (.slice a n c) h=some (.int .i64 n):=zbr ds52
theorem bs52 (n:Nat) (parts:List (Nat × Value)) (h:Heap):zaJ tab 52 n parts h=if n*11 > 16777216 || n > 16777216 then Option.none else (zdE (fun i=>some (i*11,11)) (zbp [.string ⟨#[]⟩,.string ⟨#[]⟩,.int .i64 0,.bool false,.string ⟨#[]⟩,.bool false,.string ⟨#[]⟩,.bool false,.string ⟨#[]⟩,.bool false,.string ⟨#[]⟩] n) parts).map fun cs=>(.slice (some ⟨h.size,0,none⟩) n n,h.push (.row cs 42 false)):=bsl ds52 zdr n parts h
theorem ix52 (A o n c:Nat) (ik:IntKind) (i:Int):zau tab 52 (.slice (some ⟨A,o,none⟩) n c) (.int ik i)=if 0≤i∧i < n then some (.pointer (some ⟨A,o+i.toNat*11,none⟩)) else none:=zbM ds52 (by kernel_rfl)
theorem ag53:aggA tab 53=some false:=by kernel_rfl
theorem pt53 (cs:List Value) (o:Nat):zai tab 53 cs o=cs[o]? := zac ag53
theorem ag54:aggA tab 54=some false:=by kernel_rfl
theorem ld54 (A o:Nat) (h:Heap):zaR tab 54 (.pointer (some ⟨A,o,none⟩)) h=zdC (h.get A) o:=zbo ag54
theorem pt54 (cs:List Value) (o:Nat):zai tab 54 cs o=cs[o]? := zac ag54
theorem ag55:aggA tab 55=some false:=by kernel_rfl
theorem pt55 (cs:List Value) (o:Nat):zai tab 55 cs o=cs[o]? := zac ag55
theorem sz56:zay tab 56=some 13:=by kernel_rfl
theorem ag56:aggA tab 56=some true:=by kernel_rfl
theorem pt56 (cs:List Value) (o:Nat):zai tab 56 cs o=(cut cs o 13).map fun l=>.agg l.toArray:=zav ag56 sz56
theorem sz57:zay tab 57=some 13:=by kernel_rfl
theorem ag57:aggA tab 57=some true:=by kernel_rfl
theorem ld57 (A o:Nat) (h:Heap):zaR tab 57 (.pointer (some ⟨A,o,none⟩)) h=cutO (h.get A) o 13:=zdd ag57 sz57
theorem pt57 (cs:List Value) (o:Nat):zai tab 57 cs o=(cut cs o 13).map fun l=>.agg l.toArray:=zav ag57 sz57
theorem zsI (A o:Nat):zaf tab 57 (.pointer (some ⟨A,o,none⟩)) 0=some (.pointer (some ⟨A,o+0,none⟩)):=Eq.refl _
theorem zho (A o:Nat):zaf tab 57 (.pointer (some ⟨A,o,none⟩)) 1=some (.pointer (some ⟨A,o+1,none⟩)):=Eq.refl _
theorem zkq (A o:Nat):zaf tab 57 (.pointer (some ⟨A,o,none⟩)) 2=some (.pointer (some ⟨A,o+2,none⟩)):=Eq.refl _
theorem ag58:aggA tab 58=some false:=by kernel_rfl
theorem pt58 (cs:List Value) (o:Nat):zai tab 58 cs o=cs[o]? := zac ag58
theorem ag59:aggA tab 59=some false:=by kernel_rfl
theorem pt59 (cs:List Value) (o:Nat):zai tab 59 cs o=cs[o]? := zac ag59
theorem ag60:aggA tab 60=some false:=by kernel_rfl
theorem pt60 (cs:List Value) (o:Nat):zai tab 60 cs o=cs[o]? := zac ag60
theorem ag61:aggA tab 61=some false:=by kernel_rfl
theorem pt61 (cs:List Value) (o:Nat):zai tab 61 cs o=cs[o]? := zac ag61
theorem sz62:zay tab 62=some 1:=by kernel_rfl
theorem ag62:aggA tab 62=some false:=by kernel_rfl
theorem ld62 (A o:Nat) (h:Heap):zaR tab 62 (.pointer (some ⟨A,o,none⟩)) h=zdC (h.get A) o:=zbo ag62
theorem pt62 (cs:List Value) (o:Nat):zai tab 62 cs o=cs[o]? := zac ag62
theorem ag63:aggA tab 63=some false:=by kernel_rfl
theorem ld63 (A o:Nat) (h:Heap):zaR tab 63 (.pointer (some ⟨A,o,none⟩)) h=zdC (h.get A) o:=zbo ag63
theorem pt63 (cs:List Value) (o:Nat):zai tab 63 cs o=cs[o]? := zac ag63
theorem ag64:aggA tab 64=some false:=by kernel_rfl
theorem pt64 (cs:List Value) (o:Nat):zai tab 64 cs o=cs[o]? := zac ag64
theorem ag65:aggA tab 65=some false:=by kernel_rfl
theorem pt65 (cs:List Value) (o:Nat):zai tab 65 cs o=cs[o]? := zac ag65
theorem sz66:zay tab 66=some 2:=by kernel_rfl
theorem ag66:aggA tab 66=some true:=by kernel_rfl
theorem pt66 (cs:List Value) (o:Nat):zai tab 66 cs o=(cut cs o 2).map fun l=>.agg l.toArray:=zav ag66 sz66
theorem sz67:zay tab 67=some 2:=by kernel_rfl
theorem ag67:aggA tab 67=some true:=by kernel_rfl
theorem ld67 (A o:Nat) (h:Heap):zaR tab 67 (.pointer (some ⟨A,o,none⟩)) h=cutO (h.get A) o 2:=zdd ag67 sz67
theorem pt67 (cs:List Value) (o:Nat):zai tab 67 cs o=(cut cs o 2).map fun l=>.agg l.toArray:=zav ag67 sz67
theorem al67 (P:Program) (ov:Ov) (d:Option Tmp) (ty:TypeId) (pos:String) (af:Array Edge) (g:Option (Nat × Bool)) (e:Env) (h:Heap) (K:Value→Heap→Prop):WOp P tab ov ⟨d,.alloc 67,ty,pos,af,g⟩ e h K=K (.pointer (some ⟨h.size,0,none⟩)) (h.push (.row [.string ⟨#[]⟩,.int .i64 0] 67 false)):=zdX d ty pos af g e h K 67 zhh
theorem zpV (A o:Nat):zaf tab 67 (.pointer (some ⟨A,o,none⟩)) 0=some (.pointer (some ⟨A,o+0,none⟩)):=Eq.refl _
theorem zzK (A o:Nat):zaf tab 67 (.pointer (some ⟨A,o,none⟩)) 1=some (.pointer (some ⟨A,o+1,none⟩)):=Eq.refl _
theorem sz68:zay tab 68=some 2:=by kernel_rfl
theorem ag68:aggA tab 68=some true:=by kernel_rfl
theorem pt68 (cs:List Value) (o:Nat):zai tab 68 cs o=(cut cs o 2).map fun l=>.agg l.toArray:=zav ag68 sz68
theorem sz69:zay tab 69=some 2:=by kernel_rfl
theorem ag69:aggA tab 69=some true:=by kernel_rfl
theorem ld69 (A o:Nat) (h:Heap):zaR tab 69 (.pointer (some ⟨A,o,none⟩)) h=cutO (h.get A) o 2:=zdd ag69 sz69
theorem pt69 (cs:List Value) (o:Nat):zai tab 69 cs o=(cut cs o 2).map fun l=>.agg l.toArray:=zav ag69 sz69
theorem al69 (P:Program) (ov:Ov) (d:Option Tmp) (ty:TypeId) (pos:String) (af:Array Edge) (g:Option (Nat × Bool)) (e:Env) (h:Heap) (K:Value→Heap→Prop):WOp P tab ov ⟨d,.alloc 69,ty,pos,af,g⟩ e h K=K (.pointer (some ⟨h.size,0,none⟩)) (h.push (.row [.string ⟨#[]⟩,.slice none 0 0] 69 false)):=zdX d ty pos af g e h K 69 zkv
theorem zpe (A o:Nat):zaf tab 69 (.pointer (some ⟨A,o,none⟩)) 0=some (.pointer (some ⟨A,o+0,none⟩)):=Eq.refl _
theorem ztV (A o:Nat):zaf tab 69 (.pointer (some ⟨A,o,none⟩)) 1=some (.pointer (some ⟨A,o+1,none⟩)):=Eq.refl _
theorem sz70:zay tab 70=some 12:=by kernel_rfl
theorem ag70:aggA tab 70=some true:=by kernel_rfl
theorem pt70 (cs:List Value) (o:Nat):zai tab 70 cs o=(cut cs o 12).map fun l=>.agg l.toArray:=zav ag70 sz70
theorem sz71:zay tab 71=some 12:=by kernel_rfl
theorem ag71:aggA tab 71=some true:=by kernel_rfl
theorem ld71 (A o:Nat) (h:Heap):zaR tab 71 (.pointer (some ⟨A,o,none⟩)) h=cutO (h.get A) o 12:=zdd ag71 sz71
theorem pt71 (cs:List Value) (o:Nat):zai tab 71 cs o=(cut cs o 12).map fun l=>.agg l.toArray:=zav ag71 sz71
theorem al71 (P:Program) (ov:Ov) (d:Option Tmp) (ty:TypeId) (pos:String) (af:Array Edge) (g:Option (Nat × Bool)) (e:Env) (h:Heap) (K:Value→Heap→Prop):WOp P tab ov ⟨d,.alloc 71,ty,pos,af,g⟩ e h K=K (.pointer (some ⟨h.size,0,none⟩)) (h.push (.row [.string ⟨#[]⟩,.string ⟨#[]⟩,.int .i64 0,.bool false,.string ⟨#[]⟩,.bool false,.string ⟨#[]⟩,.bool false,.string ⟨#[]⟩,.bool false,.string ⟨#[]⟩,.slice none 0 0] 71 false)):=zdX d ty pos af g e h K 71 zj3
theorem zpo (A o:Nat):zaf tab 71 (.pointer (some ⟨A,o,none⟩)) 0=some (.pointer (some ⟨A,o+0,none⟩)):=Eq.refl _
theorem zpj (A o:Nat):zaf tab 71 (.pointer (some ⟨A,o,none⟩)) 1=some (.pointer (some ⟨A,o+11,none⟩)):=Eq.refl _
theorem sz72:zay tab 72=some 13:=by kernel_rfl
theorem ag72:aggA tab 72=some true:=by kernel_rfl
theorem pt72 (cs:List Value) (o:Nat):zai tab 72 cs o=(cut cs o 13).map fun l=>.agg l.toArray:=zav ag72 sz72
theorem sz73:zay tab 73=some 13:=by kernel_rfl
theorem ag73:aggA tab 73=some true:=by kernel_rfl
theorem ld73 (A o:Nat) (h:Heap):zaR tab 73 (.pointer (some ⟨A,o,none⟩)) h=cutO (h.get A) o 13:=zdd ag73 sz73
theorem pt73 (cs:List Value) (o:Nat):zai tab 73 cs o=(cut cs o 13).map fun l=>.agg l.toArray:=zav ag73 sz73
theorem al73 (P:Program) (ov:Ov) (d:Option Tmp) (ty:TypeId) (pos:String) (af:Array Edge) (g:Option (Nat × Bool)) (e:Env) (h:Heap) (K:Value→Heap→Prop):WOp P tab ov ⟨d,.alloc 73,ty,pos,af,g⟩ e h K=K (.pointer (some ⟨h.size,0,none⟩)) (h.push (.row [.string ⟨#[]⟩,.string ⟨#[]⟩,.string ⟨#[]⟩,.int .i64 0,.bool false,.string ⟨#[]⟩,.bool false,.string ⟨#[]⟩,.bool false,.string ⟨#[]⟩,.bool false,.string ⟨#[]⟩,.slice none 0 0] 73 false)):=zdX d ty pos af g e h K 73 zkt
theorem zta (A o:Nat):zaf tab 73 (.pointer (some ⟨A,o,none⟩)) 0=some (.pointer (some ⟨A,o+0,none⟩)):=Eq.refl _
theorem zpW (A o:Nat):zaf tab 73 (.pointer (some ⟨A,o,none⟩)) 1=some (.pointer (some ⟨A,o+1,none⟩)):=Eq.refl _
theorem zum (A o:Nat):zaf tab 73 (.pointer (some ⟨A,o,none⟩)) 2=some (.pointer (some ⟨A,o+12,none⟩)):=Eq.refl _
theorem ag74:aggA tab 74=some false:=by kernel_rfl
theorem pt74 (cs:List Value) (o:Nat):zai tab 74 cs o=cs[o]? := zac ag74
theorem ag75:aggA tab 75=some false:=by kernel_rfl
theorem pt75 (cs:List Value) (o:Nat):zai tab 75 cs o=cs[o]? := zac ag75
theorem ag76:aggA tab 76=some false:=by kernel_rfl
theorem ld76 (A o:Nat) (h:Heap):zaR tab 76 (.pointer (some ⟨A,o,none⟩)) h=zdC (h.get A) o:=zbo ag76
theorem pt76 (cs:List Value) (o:Nat):zai tab 76 cs o=cs[o]? := zac ag76
theorem sz77:zay tab 77=some 1:=by kernel_rfl
theorem ag77:aggA tab 77=some true:=by kernel_rfl
theorem pt77 (cs:List Value) (o:Nat):zai tab 77 cs o=(cut cs o 1).map fun l=>.agg l.toArray:=zav ag77 sz77
theorem sz78:zay tab 78=some 1:=by kernel_rfl
theorem ag78:aggA tab 78=some true:=by kernel_rfl
theorem ld78 (A o:Nat) (h:Heap):zaR tab 78 (.pointer (some ⟨A,o,none⟩)) h=cutO (h.get A) o 1:=zdd ag78 sz78
theorem pt78 (cs:List Value) (o:Nat):zai tab 78 cs o=(cut cs o 1).map fun l=>.agg l.toArray:=zav ag78 sz78
theorem zsL (A o:Nat):zaf tab 78 (.pointer (some ⟨A,o,none⟩)) 0=some (.pointer (some ⟨A,o+0,none⟩)):=Eq.refl _
theorem ag79:aggA tab 79=some false:=by kernel_rfl
theorem ld79 (A o:Nat) (h:Heap):zaR tab 79 (.pointer (some ⟨A,o,none⟩)) h=zdC (h.get A) o:=zbo ag79
theorem pt79 (cs:List Value) (o:Nat):zai tab 79 cs o=cs[o]? := zac ag79
theorem sz80:zay tab 80=some 9:=by kernel_rfl
theorem ag80:aggA tab 80=some true:=by kernel_rfl
theorem pt80 (cs:List Value) (o:Nat):zai tab 80 cs o=(cut cs o 9).map fun l=>.agg l.toArray:=zav ag80 sz80
theorem sz81:zay tab 81=some 9:=by kernel_rfl
theorem ag81:aggA tab 81=some true:=by kernel_rfl
theorem pt81 (cs:List Value) (o:Nat):zai tab 81 cs o=(cut cs o 9).map fun l=>.agg l.toArray:=zav ag81 sz81
theorem zuC (A o:Nat):zaf tab 81 (.pointer (some ⟨A,o,none⟩)) 0=some (.pointer (some ⟨A,o+0,none⟩)):=Eq.refl _
theorem zzH (A o:Nat):zaf tab 81 (.pointer (some ⟨A,o,none⟩)) 1=some (.pointer (some ⟨A,o+1,none⟩)):=Eq.refl _
theorem zmD (A o:Nat):zaf tab 81 (.pointer (some ⟨A,o,none⟩)) 2=some (.pointer (some ⟨A,o+8,none⟩)):=Eq.refl _
theorem ag82:aggA tab 82=some false:=by kernel_rfl
theorem pt82 (cs:List Value) (o:Nat):zai tab 82 cs o=cs[o]? := zac ag82
theorem ag83:aggA tab 83=some false:=by kernel_rfl
theorem pt83 (cs:List Value) (o:Nat):zai tab 83 cs o=cs[o]? := zac ag83
theorem ag84:aggA tab 84=some false:=by kernel_rfl
theorem pt84 (cs:List Value) (o:Nat):zai tab 84 cs o=cs[o]? := zac ag84
theorem ag85:aggA tab 85=some false:=by kernel_rfl
theorem pt85 (cs:List Value) (o:Nat):zai tab 85 cs o=cs[o]? := zac ag85
theorem sz86:zay tab 86=some 2:=by kernel_rfl
theorem ag86:aggA tab 86=some true:=by kernel_rfl
theorem pt86 (cs:List Value) (o:Nat):zai tab 86 cs o=(cut cs o 2).map fun l=>.agg l.toArray:=zav ag86 sz86
theorem sz87:zay tab 87=some 2:=by kernel_rfl
theorem ag87:aggA tab 87=some true:=by kernel_rfl
theorem pt87 (cs:List Value) (o:Nat):zai tab 87 cs o=(cut cs o 2).map fun l=>.agg l.toArray:=zav ag87 sz87
theorem al87 (P:Program) (ov:Ov) (d:Option Tmp) (ty:TypeId) (pos:String) (af:Array Edge) (g:Option (Nat × Bool)) (e:Env) (h:Heap) (K:Value→Heap→Prop):WOp P tab ov ⟨d,.alloc 87,ty,pos,af,g⟩ e h K=K (.pointer (some ⟨h.size,0,none⟩)) (h.push (.row [.slice none 0 0,.int .u64 0] 87 false)):=zdX d ty pos af g e h K 87 zra
theorem zC3 (A o:Nat):zaf tab 87 (.pointer (some ⟨A,o,none⟩)) 0=some (.pointer (some ⟨A,o+0,none⟩)):=Eq.refl _
theorem zr4 (cs:Array Value):zhn tab 87 (.agg cs) 0=zai tab 52 cs.toList 0:=Eq.refl _
theorem zB9 (A o:Nat):zaf tab 87 (.pointer (some ⟨A,o,none⟩)) 1=some (.pointer (some ⟨A,o+1,none⟩)):=Eq.refl _
theorem zB0 (cs:Array Value):zhn tab 87 (.agg cs) 1=zai tab 54 cs.toList 1:=Eq.refl _
theorem ag88:aggA tab 88=some false:=by kernel_rfl
theorem pt88 (cs:List Value) (o:Nat):zai tab 88 cs o=cs[o]? := zac ag88
theorem ag89:aggA tab 89=some false:=by kernel_rfl
theorem pt89 (cs:List Value) (o:Nat):zai tab 89 cs o=cs[o]? := zac ag89
theorem ag90:aggA tab 90=some false:=by kernel_rfl
theorem pt90 (cs:List Value) (o:Nat):zai tab 90 cs o=cs[o]? := zac ag90
theorem ag91:aggA tab 91=some false:=by kernel_rfl
theorem pt91 (cs:List Value) (o:Nat):zai tab 91 cs o=cs[o]? := zac ag91
theorem ag92:aggA tab 92=some false:=by kernel_rfl
theorem pt92 (cs:List Value) (o:Nat):zai tab 92 cs o=cs[o]? := zac ag92
theorem ag93:aggA tab 93=some false:=by kernel_rfl
theorem pt93 (cs:List Value) (o:Nat):zai tab 93 cs o=cs[o]? := zac ag93
theorem ag94:aggA tab 94=some false:=by kernel_rfl
theorem pt94 (cs:List Value) (o:Nat):zai tab 94 cs o=cs[o]? := zac ag94
theorem ag95:aggA tab 95=some false:=by kernel_rfl
theorem pt95 (cs:List Value) (o:Nat):zai tab 95 cs o=cs[o]? := zac ag95
theorem ag96:aggA tab 96=some false:=by kernel_rfl
theorem pt96 (cs:List Value) (o:Nat):zai tab 96 cs o=cs[o]? := zac ag96
theorem ag97:aggA tab 97=some false:=by kernel_rfl
theorem pt97 (cs:List Value) (o:Nat):zai tab 97 cs o=cs[o]? := zac ag97
theorem ag98:aggA tab 98=some false:=by kernel_rfl
theorem pt98 (cs:List Value) (o:Nat):zai tab 98 cs o=cs[o]? := zac ag98
theorem ds98:tab.desc 98=some (.slice 62):=by kernel_rfl
theorem ln98 (a:Option Addr) (n c:Nat) (h:Heap):lenA tab 98 (.slice a n c) h=some (.int .i64 n):=zbr ds98
theorem bs98 (n:Nat) (parts:List (Nat × Value)) (h:Heap):zaJ tab 98 n parts h=if n*1 > 16777216 || n > 16777216 then Option.none else (zdE (fun i=>some (i*1,1)) (zbp [.nilFunc] n) parts).map fun cs=>(.slice (some ⟨h.size,0,none⟩) n n,h.push (.row cs 62 false)):=bsl ds98 zq4 n parts h
theorem ix98 (A o n c:Nat) (ik:IntKind) (i:Int):zau tab 98 (.slice (some ⟨A,o,none⟩) n c) (.int ik i)=if 0≤i∧i < n then some (.pointer (some ⟨A,o+i.toNat*1,none⟩)) else none:=zbM ds98 (by kernel_rfl)
theorem ag99:aggA tab 99=some false:=by kernel_rfl
theorem pt99 (cs:List Value) (o:Nat):zai tab 99 cs o=cs[o]? := zac ag99
theorem zFm:aggA tab 100=some false:=by kernel_rfl
theorem zyi (cs:List Value) (o:Nat):zai tab 100 cs o=cs[o]? := zac zFm
theorem zDW:aggA tab 101=some false:=by kernel_rfl
theorem zvg (cs:List Value) (o:Nat):zai tab 101 cs o=cs[o]? := zac zDW
theorem zGg:aggA tab 102=some false:=by kernel_rfl
theorem zyf (cs:List Value) (o:Nat):zai tab 102 cs o=cs[o]? := zac zGg
theorem zFJ:aggA tab 105=some false:=by kernel_rfl
theorem zxP (cs:List Value) (o:Nat):zai tab 105 cs o=cs[o]? := zac zFJ
theorem zFw:aggA tab 106=some false:=by kernel_rfl
theorem zyF (cs:List Value) (o:Nat):zai tab 106 cs o=cs[o]? := zac zFw
theorem zDn:aggA tab 108=some false:=by kernel_rfl
theorem zv4 (cs:List Value) (o:Nat):zai tab 108 cs o=cs[o]? := zac zDn
theorem zEF:aggA tab 109=some false:=by kernel_rfl
theorem zzi (cs:List Value) (o:Nat):zai tab 109 cs o=cs[o]? := zac zEF
theorem zCZ:aggA tab 110=some false:=by kernel_rfl
theorem zAM (A o:Nat) (h:Heap):zaR tab 110 (.pointer (some ⟨A,o,none⟩)) h=zdC (h.get A) o:=zbo zCZ
theorem zxi (cs:List Value) (o:Nat):zai tab 110 cs o=cs[o]? := zac zCZ
theorem zAH:tab.desc 110=some (.slice 3):=by kernel_rfl
theorem zCu (a:Option Addr) (n c:Nat) (h:Heap):lenA tab 110 (.slice a n c) h=some (.int .i64 n):=zbr zAH
theorem zGo (n:Nat) (parts:List (Nat × Value)) (h:Heap):zaJ tab 110 n parts h=if n*1 > 16777216 || n > 16777216 then Option.none else (zdE (fun i=>some (i*1,1)) (zbp [.int .i64 0] n) parts).map fun cs=>(.slice (some ⟨h.size,0,none⟩) n n,h.push (.row cs 3 false)):=bsl zAH zmm n parts h
theorem zAl (A o n c:Nat) (ik:IntKind) (i:Int):zau tab 110 (.slice (some ⟨A,o,none⟩) n c) (.int ik i)=if 0≤i∧i < n then some (.pointer (some ⟨A,o+i.toNat*1,none⟩)) else none:=zbM zAH (by kernel_rfl)
theorem zDV:zay tab 111=some 1:=by kernel_rfl
theorem zGG:aggA tab 111=some true:=by kernel_rfl
theorem zwp (cs:List Value) (o:Nat):zai tab 111 cs o=(cut cs o 1).map fun l=>.agg l.toArray:=zav zGG zDV
theorem zE8:zay tab 112=some 1:=by kernel_rfl
theorem zF9:aggA tab 112=some true:=by kernel_rfl
theorem zvq (cs:List Value) (o:Nat):zai tab 112 cs o=(cut cs o 1).map fun l=>.agg l.toArray:=zav zF9 zE8
theorem zn5 (A o:Nat):zaf tab 112 (.pointer (some ⟨A,o,none⟩)) 0=some (.pointer (some ⟨A,o+0,none⟩)):=Eq.refl _
theorem zB6:aggA tab 113=some false:=by kernel_rfl
theorem zz9 (A o:Nat) (h:Heap):zaR tab 113 (.pointer (some ⟨A,o,none⟩)) h=zdC (h.get A) o:=zbo zB6
theorem zu8 (cs:List Value) (o:Nat):zai tab 113 cs o=cs[o]? := zac zB6
theorem zAz:tab.desc 113=some (.slice 136):=by kernel_rfl
theorem zCd (a:Option Addr) (n c:Nat) (h:Heap):lenA tab 113 (.slice a n c) h=some (.int .i64 n):=zbr zAz
theorem zEZ (n:Nat) (parts:List (Nat × Value)) (h:Heap):zaJ tab 113 n parts h=if n*2 > 16777216 || n > 16777216 then Option.none else (zdE (fun i=>some (i*2,2)) (zbp [.string ⟨#[]⟩,.int .i64 0] n) parts).map fun cs=>(.slice (some ⟨h.size,0,none⟩) n n,h.push (.row cs 136 false)):=bsl zAz ziu n parts h
theorem zBy (A o n c:Nat) (ik:IntKind) (i:Int):zau tab 113 (.slice (some ⟨A,o,none⟩) n c) (.int ik i)=if 0≤i∧i < n then some (.pointer (some ⟨A,o+i.toNat*2,none⟩)) else none:=zbM zAz (by kernel_rfl)
theorem zDF:zay tab 114=some 3:=by kernel_rfl
theorem zGw:aggA tab 114=some true:=by kernel_rfl
theorem zxL (cs:List Value) (o:Nat):zai tab 114 cs o=(cut cs o 3).map fun l=>.agg l.toArray:=zav zGw zDF
theorem zDt:zay tab 115=some 3:=by kernel_rfl
theorem zFW:aggA tab 115=some true:=by kernel_rfl
theorem zvD (cs:List Value) (o:Nat):zai tab 115 cs o=(cut cs o 3).map fun l=>.agg l.toArray:=zav zFW zDt
theorem zsQ (A o:Nat):zaf tab 115 (.pointer (some ⟨A,o,none⟩)) 0=some (.pointer (some ⟨A,o+0,none⟩)):=Eq.refl _
theorem zoO (A o:Nat):zaf tab 115 (.pointer (some ⟨A,o,none⟩)) 1=some (.pointer (some ⟨A,o+1,none⟩)):=Eq.refl _
theorem zk1 (A o:Nat):zaf tab 115 (.pointer (some ⟨A,o,none⟩)) 2=some (.pointer (some ⟨A,o+2,none⟩)):=Eq.refl _
theorem zEU:aggA tab 116=some false:=by kernel_rfl
theorem zu9 (cs:List Value) (o:Nat):zai tab 116 cs o=cs[o]? := zac zEU
theorem zFX:aggA tab 117=some false:=by kernel_rfl
theorem zvc (cs:List Value) (o:Nat):zai tab 117 cs o=cs[o]? := zac zFX
theorem zDC:aggA tab 118=some false:=by kernel_rfl
theorem zxR (cs:List Value) (o:Nat):zai tab 118 cs o=cs[o]? := zac zDC
theorem zE0:aggA tab 119=some false:=by kernel_rfl
theorem zvV (cs:List Value) (o:Nat):zai tab 119 cs o=cs[o]? := zac zE0
theorem zFu:aggA tab 120=some false:=by kernel_rfl
theorem zxu (cs:List Value) (o:Nat):zai tab 120 cs o=cs[o]? := zac zFu
theorem zEA:aggA tab 121=some false:=by kernel_rfl
theorem zv1 (cs:List Value) (o:Nat):zai tab 121 cs o=cs[o]? := zac zEA
theorem zGQ:aggA tab 122=some false:=by kernel_rfl
theorem zxX (cs:List Value) (o:Nat):zai tab 122 cs o=cs[o]? := zac zGQ
theorem zEY:aggA tab 123=some false:=by kernel_rfl
theorem zvj (cs:List Value) (o:Nat):zai tab 123 cs o=cs[o]? := zac zEY
theorem zFF:aggA tab 124=some false:=by kernel_rfl
theorem zyN (cs:List Value) (o:Nat):zai tab 124 cs o=cs[o]? := zac zFF
theorem zDG:aggA tab 125=some false:=by kernel_rfl
theorem zvx (cs:List Value) (o:Nat):zai tab 125 cs o=cs[o]? := zac zDG
theorem zEC:zay tab 126=some 0:=by kernel_rfl
theorem zGc:aggA tab 126=some true:=by kernel_rfl
theorem zvu (cs:List Value) (o:Nat):zai tab 126 cs o=(cut cs o 0).map fun l=>.agg l.toArray:=zav zGc zEC
theorem zAA (P:Program) (ov:Ov) (d:Option Tmp) (ty:TypeId) (pos:String) (af:Array Edge) (g:Option (Nat × Bool)) (e:Env) (h:Heap) (K:Value→Heap→Prop):WOp P tab ov ⟨d,.alloc 126,ty,pos,af,g⟩ e h K=K (.pointer (some ⟨h.size,0,none⟩)) (h.push (.row [] 126 false)):=zdX d ty pos af g e h K 126 zoZ
theorem zDQ:aggA tab 128=some false:=by kernel_rfl
theorem zyX (cs:List Value) (o:Nat):zai tab 128 cs o=cs[o]? := zac zDQ
theorem zEy:aggA tab 129=some false:=by kernel_rfl
theorem zyP (cs:List Value) (o:Nat):zai tab 129 cs o=cs[o]? := zac zEy
theorem zGt:zay tab 130=some 1:=by kernel_rfl
theorem zAn:aggA tab 130=some false:=by kernel_rfl
theorem zFn (A o:Nat) (h:Heap):zaR tab 130 (.pointer (some ⟨A,o,none⟩)) h=zdC (h.get A) o:=zbo zAn
theorem zyv (cs:List Value) (o:Nat):zai tab 130 cs o=cs[o]? := zac zAn
theorem zFb:aggA tab 131=some false:=by kernel_rfl
theorem zvb (cs:List Value) (o:Nat):zai tab 131 cs o=cs[o]? := zac zFb
theorem zFa:aggA tab 132=some false:=by kernel_rfl
theorem zyK (cs:List Value) (o:Nat):zai tab 132 cs o=cs[o]? := zac zFa
theorem zE2:aggA tab 133=some false:=by kernel_rfl
theorem zvP (cs:List Value) (o:Nat):zai tab 133 cs o=cs[o]? := zac zE2
theorem zDB:aggA tab 134=some false:=by kernel_rfl
theorem zxC (cs:List Value) (o:Nat):zai tab 134 cs o=cs[o]? := zac zDB
theorem zDe:zay tab 135=some 2:=by kernel_rfl
theorem zDE:aggA tab 135=some true:=by kernel_rfl
theorem zyc (cs:List Value) (o:Nat):zai tab 135 cs o=(cut cs o 2).map fun l=>.agg l.toArray:=zav zDE zDe
theorem zGr:zay tab 136=some 2:=by kernel_rfl
theorem zDi:aggA tab 136=some true:=by kernel_rfl
theorem zyI (cs:List Value) (o:Nat):zai tab 136 cs o=(cut cs o 2).map fun l=>.agg l.toArray:=zav zDi zGr
theorem zAD (A o:Nat):zaf tab 136 (.pointer (some ⟨A,o,none⟩)) 0=some (.pointer (some ⟨A,o+0,none⟩)):=Eq.refl _
theorem znN (A o:Nat):zaf tab 136 (.pointer (some ⟨A,o,none⟩)) 1=some (.pointer (some ⟨A,o+1,none⟩)):=Eq.refl _
theorem zFM:aggA tab 137=some false:=by kernel_rfl
theorem zya (cs:List Value) (o:Nat):zai tab 137 cs o=cs[o]? := zac zFM
theorem zDy:aggA tab 138=some false:=by kernel_rfl
theorem zyy (cs:List Value) (o:Nat):zai tab 138 cs o=cs[o]? := zac zDy
theorem zFg:aggA tab 139=some false:=by kernel_rfl
theorem zw8 (cs:List Value) (o:Nat):zai tab 139 cs o=cs[o]? := zac zFg
theorem zFL:aggA tab 140=some false:=by kernel_rfl
theorem zyl (cs:List Value) (o:Nat):zai tab 140 cs o=cs[o]? := zac zFL
theorem zDr:aggA tab 141=some false:=by kernel_rfl
theorem zxO (cs:List Value) (o:Nat):zai tab 141 cs o=cs[o]? := zac zDr
theorem zEX:aggA tab 142=some false:=by kernel_rfl
theorem zwA (cs:List Value) (o:Nat):zai tab 142 cs o=cs[o]? := zac zEX
theorem zE3:aggA tab 143=some false:=by kernel_rfl
theorem zwE (cs:List Value) (o:Nat):zai tab 143 cs o=cs[o]? := zac zE3
theorem zuw:tab.desc 143=some (.slice 130):=by kernel_rfl
theorem zGm (a:Option Addr) (n c:Nat) (h:Heap):lenA tab 143 (.slice a n c) h=some (.int .i64 n):=zbr zuw
theorem zly (n:Nat) (parts:List (Nat × Value)) (h:Heap):zaJ tab 143 n parts h=if n*1 > 16777216 || n > 16777216 then Option.none else (zdE (fun i=>some (i*1,1)) (zbp [.nilFunc] n) parts).map fun cs=>(.slice (some ⟨h.size,0,none⟩) n n,h.push (.row cs 130 false)):=bsl zuw znB n parts h
theorem zF4 (A o n c:Nat) (ik:IntKind) (i:Int):zau tab 143 (.slice (some ⟨A,o,none⟩) n c) (.int ik i)=if 0≤i∧i < n then some (.pointer (some ⟨A,o+i.toNat*1,none⟩)) else none:=zbM zuw (by kernel_rfl)
theorem zEQ:aggA tab 144=some false:=by kernel_rfl
theorem zy2 (cs:List Value) (o:Nat):zai tab 144 cs o=cs[o]? := zac zEQ
theorem zGl:aggA tab 145=some false:=by kernel_rfl
theorem zvt (cs:List Value) (o:Nat):zai tab 145 cs o=cs[o]? := zac zGl
theorem zE7:aggA tab 146=some false:=by kernel_rfl
theorem zxT (cs:List Value) (o:Nat):zai tab 146 cs o=cs[o]? := zac zE7
theorem zE1:aggA tab 147=some false:=by kernel_rfl
theorem zy9 (cs:List Value) (o:Nat):zai tab 147 cs o=cs[o]? := zac zE1
theorem zC7:aggA tab 148=some false:=by kernel_rfl
theorem zv3 (cs:List Value) (o:Nat):zai tab 148 cs o=cs[o]? := zac zC7
theorem ziG:tab.desc 148=some (.slice 39):=by kernel_rfl
theorem zx1 (a:Option Addr) (n c:Nat) (h:Heap):lenA tab 148 (.slice a n c) h=some (.int .i64 n):=zbr ziG
theorem zvY (A o n c:Nat) (ik:IntKind) (i:Int):zau tab 148 (.slice (some ⟨A,o,none⟩) n c) (.int ik i)=if 0≤i∧i < n then some (.pointer (some ⟨A,o+i.toNat*2,none⟩)) else none:=zbM ziG (by kernel_rfl)
theorem zEf:aggA tab 149=some false:=by kernel_rfl
theorem zyH (cs:List Value) (o:Nat):zai tab 149 cs o=cs[o]? := zac zEf
theorem zDA:aggA tab 150=some false:=by kernel_rfl
theorem zxK (cs:List Value) (o:Nat):zai tab 150 cs o=cs[o]? := zac zDA
theorem zED:aggA tab 151=some false:=by kernel_rfl
theorem zvE (cs:List Value) (o:Nat):zai tab 151 cs o=cs[o]? := zac zED
theorem zDf:aggA tab 152=some false:=by kernel_rfl
theorem zyG (cs:List Value) (o:Nat):zai tab 152 cs o=cs[o]? := zac zDf
theorem zFl:aggA tab 153=some false:=by kernel_rfl
theorem zwG (cs:List Value) (o:Nat):zai tab 153 cs o=cs[o]? := zac zFl
theorem zDD:aggA tab 154=some false:=by kernel_rfl
theorem zyd (cs:List Value) (o:Nat):zai tab 154 cs o=cs[o]? := zac zDD
theorem zEt:aggA tab 155=some false:=by kernel_rfl
theorem zxh (cs:List Value) (o:Nat):zai tab 155 cs o=cs[o]? := zac zEt
theorem zF3:aggA tab 156=some false:=by kernel_rfl
theorem zwF (cs:List Value) (o:Nat):zai tab 156 cs o=cs[o]? := zac zF3
theorem zDU:aggA tab 157=some false:=by kernel_rfl
theorem zyq (cs:List Value) (o:Nat):zai tab 157 cs o=cs[o]? := zac zDU
theorem zDw:aggA tab 158=some false:=by kernel_rfl
theorem zyJ (cs:List Value) (o:Nat):zai tab 158 cs o=cs[o]? := zac zDw
theorem zEp:aggA tab 159=some false:=by kernel_rfl
theorem zzh (cs:List Value) (o:Nat):zai tab 159 cs o=cs[o]? := zac zEp
theorem zGD:aggA tab 160=some false:=by kernel_rfl
theorem zzs (cs:List Value) (o:Nat):zai tab 160 cs o=cs[o]? := zac zGD
theorem zEj:aggA tab 161=some false:=by kernel_rfl
theorem zxM (cs:List Value) (o:Nat):zai tab 161 cs o=cs[o]? := zac zEj
theorem zDg:aggA tab 162=some false:=by kernel_rfl
theorem zyh (cs:List Value) (o:Nat):zai tab 162 cs o=cs[o]? := zac zDg
theorem zGs:aggA tab 163=some false:=by kernel_rfl
theorem zwH (cs:List Value) (o:Nat):zai tab 163 cs o=cs[o]? := zac zGs
theorem zEM:aggA tab 164=some false:=by kernel_rfl
theorem zy6 (cs:List Value) (o:Nat):zai tab 164 cs o=cs[o]? := zac zEM
theorem zFv:aggA tab 165=some false:=by kernel_rfl
theorem zy7 (cs:List Value) (o:Nat):zai tab 165 cs o=cs[o]? := zac zFv
theorem zDu:aggA tab 166=some false:=by kernel_rfl
theorem zvO (cs:List Value) (o:Nat):zai tab 166 cs o=cs[o]? := zac zDu
theorem zGH:aggA tab 167=some false:=by kernel_rfl
theorem zv9 (cs:List Value) (o:Nat):zai tab 167 cs o=cs[o]? := zac zGH
theorem zGf:aggA tab 168=some false:=by kernel_rfl
theorem zwM (cs:List Value) (o:Nat):zai tab 168 cs o=cs[o]? := zac zGf
theorem zF8:aggA tab 169=some false:=by kernel_rfl
theorem zze (cs:List Value) (o:Nat):zai tab 169 cs o=cs[o]? := zac zF8
theorem zGN:aggA tab 170=some false:=by kernel_rfl
theorem zxe (cs:List Value) (o:Nat):zai tab 170 cs o=cs[o]? := zac zGN
theorem zD7:aggA tab 171=some false:=by kernel_rfl
theorem zw5 (cs:List Value) (o:Nat):zai tab 171 cs o=cs[o]? := zac zD7
theorem zDP:aggA tab 172=some false:=by kernel_rfl
theorem zxI (cs:List Value) (o:Nat):zai tab 172 cs o=cs[o]? := zac zDP
theorem zFQ:aggA tab 173=some false:=by kernel_rfl
theorem zx9 (cs:List Value) (o:Nat):zai tab 173 cs o=cs[o]? := zac zFQ
theorem zFj:aggA tab 174=some false:=by kernel_rfl
theorem zwy (cs:List Value) (o:Nat):zai tab 174 cs o=cs[o]? := zac zFj
theorem zEq:zay tab 175=some 2:=by kernel_rfl
theorem zFd:aggA tab 175=some true:=by kernel_rfl
theorem zyE (cs:List Value) (o:Nat):zai tab 175 cs o=(cut cs o 2).map fun l=>.agg l.toArray:=zav zFd zEq
theorem zGk:zay tab 176=some 2:=by kernel_rfl
theorem zEv:aggA tab 176=some true:=by kernel_rfl
theorem zwd (cs:List Value) (o:Nat):zai tab 176 cs o=(cut cs o 2).map fun l=>.agg l.toArray:=zav zEv zGk
theorem zEn:aggA tab 177=some false:=by kernel_rfl
theorem zwJ (cs:List Value) (o:Nat):zai tab 177 cs o=cs[o]? := zac zEn
theorem zFK:aggA tab 178=some false:=by kernel_rfl
theorem zxp (cs:List Value) (o:Nat):zai tab 178 cs o=cs[o]? := zac zFK
theorem zF6:aggA tab 179=some false:=by kernel_rfl
theorem zwb (cs:List Value) (o:Nat):zai tab 179 cs o=cs[o]? := zac zF6
theorem zDd:aggA tab 181=some false:=by kernel_rfl
theorem zyW (cs:List Value) (o:Nat):zai tab 181 cs o=cs[o]? := zac zDd
theorem zGM:aggA tab 182=some false:=by kernel_rfl
theorem zxY (cs:List Value) (o:Nat):zai tab 182 cs o=cs[o]? := zac zGM
theorem zD1:zay tab 183=some 256:=by kernel_rfl
theorem zF5:aggA tab 183=some true:=by kernel_rfl
theorem zwc (cs:List Value) (o:Nat):zai tab 183 cs o=(cut cs o 256).map fun l=>.agg l.toArray:=zav zF5 zD1
theorem zDJ:aggA tab 184=some false:=by kernel_rfl
theorem zwe (cs:List Value) (o:Nat):zai tab 184 cs o=cs[o]? := zac zDJ
theorem zFD:aggA tab 185=some false:=by kernel_rfl
theorem zvC (cs:List Value) (o:Nat):zai tab 185 cs o=cs[o]? := zac zFD
theorem zDm:aggA tab 186=some false:=by kernel_rfl
theorem zwQ (cs:List Value) (o:Nat):zai tab 186 cs o=cs[o]? := zac zDm
theorem zE6:aggA tab 187=some false:=by kernel_rfl
theorem zwh (cs:List Value) (o:Nat):zai tab 187 cs o=cs[o]? := zac zE6
theorem zDp:zay tab 188=some 2:=by kernel_rfl
theorem zFR:aggA tab 188=some true:=by kernel_rfl
theorem zxy (cs:List Value) (o:Nat):zai tab 188 cs o=(cut cs o 2).map fun l=>.agg l.toArray:=zav zFR zDp
theorem zC8:zay tab 189=some 2:=by kernel_rfl
theorem zFN:aggA tab 189=some true:=by kernel_rfl
theorem zy5 (cs:List Value) (o:Nat):zai tab 189 cs o=(cut cs o 2).map fun l=>.agg l.toArray:=zav zFN zC8
theorem zDT:aggA tab 190=some false:=by kernel_rfl
theorem zyb (cs:List Value) (o:Nat):zai tab 190 cs o=cs[o]? := zac zDT
theorem zFI:aggA tab 191=some false:=by kernel_rfl
theorem zxD (cs:List Value) (o:Nat):zai tab 191 cs o=cs[o]? := zac zFI
theorem zE9:aggA tab 192=some false:=by kernel_rfl
theorem zyS (cs:List Value) (o:Nat):zai tab 192 cs o=cs[o]? := zac zE9
theorem zEL:aggA tab 193=some false:=by kernel_rfl
theorem zxB (cs:List Value) (o:Nat):zai tab 193 cs o=cs[o]? := zac zEL
theorem zDk:aggA tab 194=some false:=by kernel_rfl
theorem zxW (cs:List Value) (o:Nat):zai tab 194 cs o=cs[o]? := zac zDk
theorem zGB:aggA tab 195=some false:=by kernel_rfl
theorem zxf (cs:List Value) (o:Nat):zai tab 195 cs o=cs[o]? := zac zGB
theorem zGO:aggA tab 196=some false:=by kernel_rfl
theorem zwB (cs:List Value) (o:Nat):zai tab 196 cs o=cs[o]? := zac zGO
theorem zD4:aggA tab 197=some false:=by kernel_rfl
theorem zwL (cs:List Value) (o:Nat):zai tab 197 cs o=cs[o]? := zac zD4
theorem zDq:zay tab 198=some 3:=by kernel_rfl
theorem zDL:aggA tab 198=some true:=by kernel_rfl
theorem zxo (cs:List Value) (o:Nat):zai tab 198 cs o=(cut cs o 3).map fun l=>.agg l.toArray:=zav zDL zDq
theorem zGa:zay tab 199=some 3:=by kernel_rfl
theorem zDR:aggA tab 199=some true:=by kernel_rfl
theorem zwm (cs:List Value) (o:Nat):zai tab 199 cs o=(cut cs o 3).map fun l=>.agg l.toArray:=zav zDR zGa
theorem zC9:aggA tab 200=some false:=by kernel_rfl
theorem zvQ (cs:List Value) (o:Nat):zai tab 200 cs o=cs[o]? := zac zC9
theorem zFf:zay tab 201=some 3:=by kernel_rfl
theorem zEP:aggA tab 201=some true:=by kernel_rfl
theorem zxH (cs:List Value) (o:Nat):zai tab 201 cs o=(cut cs o 3).map fun l=>.agg l.toArray:=zav zEP zFf
theorem zFo:zay tab 202=some 3:=by kernel_rfl
theorem zFU:aggA tab 202=some true:=by kernel_rfl
theorem zx2 (cs:List Value) (o:Nat):zai tab 202 cs o=(cut cs o 3).map fun l=>.agg l.toArray:=zav zFU zFo
theorem zGI:aggA tab 203=some false:=by kernel_rfl
theorem zxZ (cs:List Value) (o:Nat):zai tab 203 cs o=cs[o]? := zac zGI
theorem zDO:zay tab 204=some 3:=by kernel_rfl
theorem zEd:aggA tab 204=some true:=by kernel_rfl
theorem zzu (cs:List Value) (o:Nat):zai tab 204 cs o=(cut cs o 3).map fun l=>.agg l.toArray:=zav zEd zDO
theorem zFG:zay tab 205=some 3:=by kernel_rfl
theorem zDs:aggA tab 205=some true:=by kernel_rfl
theorem zx3 (cs:List Value) (o:Nat):zai tab 205 cs o=(cut cs o 3).map fun l=>.agg l.toArray:=zav zDs zFG
theorem zEc:aggA tab 206=some false:=by kernel_rfl
theorem zyo (cs:List Value) (o:Nat):zai tab 206 cs o=cs[o]? := zac zEc
theorem zET:aggA tab 207=some false:=by kernel_rfl
theorem zxA (cs:List Value) (o:Nat):zai tab 207 cs o=cs[o]? := zac zET
theorem zEJ:aggA tab 208=some false:=by kernel_rfl
theorem zxS (cs:List Value) (o:Nat):zai tab 208 cs o=cs[o]? := zac zEJ
theorem zDI:zay tab 209=some 4:=by kernel_rfl
theorem zF7:aggA tab 209=some true:=by kernel_rfl
theorem zvy (cs:List Value) (o:Nat):zai tab 209 cs o=(cut cs o 4).map fun l=>.agg l.toArray:=zav zF7 zDI
theorem zGb:zay tab 210=some 4:=by kernel_rfl
theorem zEa:aggA tab 210=some true:=by kernel_rfl
theorem zzj (cs:List Value) (o:Nat):zai tab 210 cs o=(cut cs o 4).map fun l=>.agg l.toArray:=zav zEa zGb
theorem zGn:zay tab 211=some 0:=by kernel_rfl
theorem zFP:aggA tab 211=some true:=by kernel_rfl
theorem zxG (cs:List Value) (o:Nat):zai tab 211 cs o=(cut cs o 0).map fun l=>.agg l.toArray:=zav zFP zGn
theorem zFV:zay tab 212=some 0:=by kernel_rfl
theorem zFt:aggA tab 212=some true:=by kernel_rfl
theorem zvl (cs:List Value) (o:Nat):zai tab 212 cs o=(cut cs o 0).map fun l=>.agg l.toArray:=zav zFt zFV
theorem zD0:zay tab 213=some 0:=by kernel_rfl
theorem zEi:aggA tab 213=some true:=by kernel_rfl
theorem zxd (cs:List Value) (o:Nat):zai tab 213 cs o=(cut cs o 0).map fun l=>.agg l.toArray:=zav zEi zD0
theorem zDj:aggA tab 214=some false:=by kernel_rfl
theorem zy4 (cs:List Value) (o:Nat):zai tab 214 cs o=cs[o]? := zac zDj
theorem zEG:aggA tab 215=some false:=by kernel_rfl
theorem zy3 (cs:List Value) (o:Nat):zai tab 215 cs o=cs[o]? := zac zEG
theorem zDo:aggA tab 216=some false:=by kernel_rfl
theorem zzn (cs:List Value) (o:Nat):zai tab 216 cs o=cs[o]? := zac zDo
theorem zGe:aggA tab 217=some false:=by kernel_rfl
theorem zvS (cs:List Value) (o:Nat):zai tab 217 cs o=cs[o]? := zac zGe
theorem zEI:aggA tab 218=some false:=by kernel_rfl
theorem zy8 (cs:List Value) (o:Nat):zai tab 218 cs o=cs[o]? := zac zEI
theorem zEB:zay tab 219=some 11:=by kernel_rfl
theorem zFs:aggA tab 219=some true:=by kernel_rfl
theorem zw2 (cs:List Value) (o:Nat):zai tab 219 cs o=(cut cs o 11).map fun l=>.agg l.toArray:=zav zFs zEB
theorem zGh:zay tab 220=some 11:=by kernel_rfl
theorem zGj:aggA tab 220=some true:=by kernel_rfl
theorem zwk (cs:List Value) (o:Nat):zai tab 220 cs o=(cut cs o 11).map fun l=>.agg l.toArray:=zav zGj zGh
theorem fi3 (K:Value→Heap→Prop) (e:Env) (h:Heap):finE tab Tryz.f3 K .ret e h=K (e.get 4) h:=zam rfl
theorem fi4 (K:Value→Heap→Prop) (e:Env) (h:Heap):finE tab Tryz.f4 K .ret e h=K (e.get 8) h:=zam rfl
theorem fi5 (K:Value→Heap→Prop) (e:Env) (h:Heap):finE tab Tryz.f5 K .ret e h=K (e.get 4) h:=zam rfl
theorem fi6 (K:Value→Heap→Prop) (e:Env) (h:Heap):finE tab Tryz.f6 K .ret e h=K (e.get 4) h:=zam rfl
theorem fi8 (K:Value→Heap→Prop) (e:Env) (h:Heap):finE tab Tryz.f8 K .ret e h=valE (zaR tab 29 (e.get 0) h) h K:=zkA rfl
theorem fi9 (K:Value→Heap→Prop) (e:Env) (h:Heap):finE tab Tryz.f9 K .ret e h=K (e.get 4) h:=zam rfl
theorem fi10 (K:Value→Heap→Prop) (e:Env) (h:Heap):finE tab Tryz.f10 K .ret e h=K (.tuple #[e.get 2,e.get 3]) h:=zdt rfl
theorem fi11 (K:Value→Heap→Prop) (e:Env) (h:Heap):finE tab Tryz.f11 K .ret e h=K (.tuple #[e.get 6,e.get 7]) h:=zdt rfl
theorem fi12 (K:Value→Heap→Prop) (e:Env) (h:Heap):finE tab Tryz.f12 K .ret e h=valE (zaR tab 42 (e.get 6) h) h K:=zkA rfl
theorem fi13 (K:Value→Heap→Prop) (e:Env) (h:Heap):finE tab Tryz.f13 K .ret e h=K (e.get 4) h:=zam rfl
theorem fi14 (K:Value→Heap→Prop) (e:Env) (h:Heap):finE tab Tryz.f14 K .ret e h=K (e.get 4) h:=zam rfl
theorem fi15 (K:Value→Heap→Prop) (e:Env) (h:Heap):finE tab Tryz.f15 K .ret e h=K (e.get 2) h:=zam rfl
theorem fi16 (K:Value→Heap→Prop) (e:Env) (h:Heap):finE tab Tryz.f16 K .ret e h=K (.tuple #[e.get 6,e.get 7]) h:=zdt rfl
theorem fi17 (K:Value→Heap→Prop) (e:Env) (h:Heap):finE tab Tryz.f17 K .ret e h=K (e.get 2) h:=zam rfl
theorem fi18 (K:Value→Heap→Prop) (e:Env) (h:Heap):finE tab Tryz.f18 K .ret e h=K (e.get 2) h:=zam rfl
theorem fi19 (K:Value→Heap→Prop) (e:Env) (h:Heap):finE tab Tryz.f19 K .ret e h=K (e.get 2) h:=zam rfl
theorem fi20 (K:Value→Heap→Prop) (e:Env) (h:Heap):finE tab Tryz.f20 K .ret e h=K (e.get 4) h:=zam rfl
theorem fi21 (K:Value→Heap→Prop) (e:Env) (h:Heap):finE tab Tryz.f21 K .ret e h=K (e.get 4) h:=zam rfl
theorem fi22 (K:Value→Heap→Prop) (e:Env) (h:Heap):finE tab Tryz.f22 K .ret e h=K (e.get 4) h:=zam rfl
theorem fi23 (K:Value→Heap→Prop) (e:Env) (h:Heap):finE tab Tryz.f23 K .ret e h=K (e.get 4) h:=zam rfl
theorem fi29 (K:Value→Heap→Prop) (e:Env) (h:Heap):finE tab Tryz.f29 K .ret e h=K (e.get 2) h:=zam rfl
theorem fi30 (K:Value→Heap→Prop) (e:Env) (h:Heap):finE tab Tryz.f30 K .ret e h=K (e.get 2) h:=zam rfl
theorem fi31 (K:Value→Heap→Prop) (e:Env) (h:Heap):finE tab Tryz.f31 K .ret e h=valE (zaR tab 29 (e.get 2) h) h K:=zkA rfl
theorem fi32 (K:Value→Heap→Prop) (e:Env) (h:Heap):finE tab Tryz.f32 K .ret e h=K (.tuple #[e.get 10,e.get 11]) h:=zdt rfl
theorem fi33 (K:Value→Heap→Prop) (e:Env) (h:Heap):finE tab Tryz.f33 K .ret e h=K (.tuple #[e.get 4,e.get 5]) h:=zdt rfl
theorem fi34 (K:Value→Heap→Prop) (e:Env) (h:Heap):finE tab Tryz.f34 K .ret e h=K undef h:=zeL rfl
theorem fj34 (K:Value→Heap→Prop) (e:Env) (h:Heap):finE tab Tryz.f34 K .normal e h=K undef h:=zc5 rfl
theorem fi36 (K:Value→Heap→Prop) (e:Env) (h:Heap):finE tab Tryz.f36 K .ret e h=K (e.get 2) h:=zam rfl
theorem fi37 (K:Value→Heap→Prop) (e:Env) (h:Heap):finE tab Tryz.f37 K .ret e h=K (.tuple #[e.get 4,e.get 5]) h:=zdt rfl
theorem fi38 (K:Value→Heap→Prop) (e:Env) (h:Heap):finE tab Tryz.f38 K .ret e h=K undef h:=zeL rfl
theorem fj38 (K:Value→Heap→Prop) (e:Env) (h:Heap):finE tab Tryz.f38 K .normal e h=K undef h:=zc5 rfl
theorem fi39 (K:Value→Heap→Prop) (e:Env) (h:Heap):finE tab Tryz.f39 K .ret e h=K (e.get 6) h:=zam rfl
theorem fi40 (K:Value→Heap→Prop) (e:Env) (h:Heap):finE tab Tryz.f40 K .ret e h=K (e.get 4) h:=zam rfl
theorem fi41 (K:Value→Heap→Prop) (e:Env) (h:Heap):finE tab Tryz.f41 K .ret e h=K (e.get 2) h:=zam rfl
theorem fi42 (K:Value→Heap→Prop) (e:Env) (h:Heap):finE tab Tryz.f42 K .ret e h=K (e.get 4) h:=zam rfl
theorem fi52 (K:Value→Heap→Prop) (e:Env) (h:Heap):finE tab Tryz.f52 K .ret e h=K (e.get 2) h:=zam rfl
theorem fi53 (K:Value→Heap→Prop) (e:Env) (h:Heap):finE tab Tryz.f53 K .ret e h=K (e.get 2) h:=zam rfl
theorem fi54 (K:Value→Heap→Prop) (e:Env) (h:Heap):finE tab Tryz.f54 K .ret e h=K (e.get 2) h:=zam rfl
theorem fi55 (K:Value→Heap→Prop) (e:Env) (h:Heap):finE tab Tryz.f55 K .ret e h=K (e.get 2) h:=zam rfl
theorem fi56 (K:Value→Heap→Prop) (e:Env) (h:Heap):finE tab Tryz.f56 K .ret e h=K (e.get 2) h:=zam rfl
theorem fi57 (K:Value→Heap→Prop) (e:Env) (h:Heap):finE tab Tryz.f57 K .ret e h=K (e.get 0) h:=zam rfl
theorem fi58 (K:Value→Heap→Prop) (e:Env) (h:Heap):finE tab Tryz.f58 K .ret e h=K (e.get 2) h:=zam rfl
theorem fi59 (K:Value→Heap→Prop) (e:Env) (h:Heap):finE tab Tryz.f59 K .ret e h=K (e.get 2) h:=zam rfl
theorem fi60 (K:Value→Heap→Prop) (e:Env) (h:Heap):finE tab Tryz.f60 K .ret e h=K (e.get 6) h:=zam rfl
theorem fi61 (K:Value→Heap→Prop) (e:Env) (h:Heap):finE tab Tryz.f61 K .ret e h=K (e.get 2) h:=zam rfl
theorem fi62 (K:Value→Heap→Prop) (e:Env) (h:Heap):finE tab Tryz.f62 K .ret e h=K (.tuple #[e.get 4,e.get 5]) h:=zdt rfl
theorem fi64 (K:Value→Heap→Prop) (e:Env) (h:Heap):finE tab Tryz.f64 K .ret e h=K (e.get 2) h:=zam rfl
theorem fi65 (K:Value→Heap→Prop) (e:Env) (h:Heap):finE tab Tryz.f65 K .ret e h=K (.tuple #[e.get 4,e.get 5]) h:=zdt rfl
theorem fi66 (K:Value→Heap→Prop) (e:Env) (h:Heap):finE tab Tryz.f66 K .ret e h=K (e.get 6) h:=zam rfl
theorem fi67 (K:Value→Heap→Prop) (e:Env) (h:Heap):finE tab Tryz.f67 K .ret e h=K (.tuple #[e.get 4,e.get 5]) h:=zdt rfl
theorem fi68 (K:Value→Heap→Prop) (e:Env) (h:Heap):finE tab Tryz.f68 K .ret e h=K (e.get 4) h:=zam rfl
theorem fi69 (K:Value→Heap→Prop) (e:Env) (h:Heap):finE tab Tryz.f69 K .ret e h=K (e.get 4) h:=zam rfl
theorem fi77 (K:Value→Heap→Prop) (e:Env) (h:Heap):finE tab Tryz.f77 K .ret e h=K (e.get 2) h:=zam rfl
theorem fi78 (K:Value→Heap→Prop) (e:Env) (h:Heap):finE tab Tryz.f78 K .ret e h=K (e.get 4) h:=zam rfl
theorem fi79 (K:Value→Heap→Prop) (e:Env) (h:Heap):finE tab Tryz.f79 K .ret e h=K (e.get 2) h:=zam rfl
theorem fi80 (K:Value→Heap→Prop) (e:Env) (h:Heap):finE tab Tryz.f80 K .ret e h=K (e.get 2) h:=zam rfl
theorem fi81 (K:Value→Heap→Prop) (e:Env) (h:Heap):finE tab Tryz.f81 K .ret e h=K (e.get 4) h:=zam rfl
theorem fi82 (K:Value→Heap→Prop) (e:Env) (h:Heap):finE tab Tryz.f82 K .ret e h=K (e.get 2) h:=zam rfl
theorem fi83 (K:Value→Heap→Prop) (e:Env) (h:Heap):finE tab Tryz.f83 K .ret e h=K (e.get 4) h:=zam rfl
theorem fi84 (K:Value→Heap→Prop) (e:Env) (h:Heap):finE tab Tryz.f84 K .ret e h=K (e.get 2) h:=zam rfl
theorem fi85 (K:Value→Heap→Prop) (e:Env) (h:Heap):finE tab Tryz.f85 K .ret e h=K (e.get 6) h:=zam rfl
theorem fi86 (K:Value→Heap→Prop) (e:Env) (h:Heap):finE tab Tryz.f86 K .ret e h=K (e.get 1) h:=zam rfl
theorem fi87 (K:Value→Heap→Prop) (e:Env) (h:Heap):finE tab Tryz.f87 K .ret e h=K (e.get 2) h:=zam rfl
theorem fi88 (K:Value→Heap→Prop) (e:Env) (h:Heap):finE tab Tryz.f88 K .ret e h=K (e.get 2) h:=zam rfl
theorem fi89 (K:Value→Heap→Prop) (e:Env) (h:Heap):finE tab Tryz.f89 K .ret e h=K (e.get 2) h:=zam rfl
theorem fi90 (K:Value→Heap→Prop) (e:Env) (h:Heap):finE tab Tryz.f90 K .ret e h=K (e.get 4) h:=zam rfl
theorem fi91 (K:Value→Heap→Prop) (e:Env) (h:Heap):finE tab Tryz.f91 K .ret e h=K (e.get 2) h:=zam rfl
theorem fi92 (K:Value→Heap→Prop) (e:Env) (h:Heap):finE tab Tryz.f92 K .ret e h=K (e.get 2) h:=zam rfl
theorem fi93 (K:Value→Heap→Prop) (e:Env) (h:Heap):finE tab Tryz.f93 K .ret e h=K (e.get 2) h:=zam rfl
theorem fi94 (K:Value→Heap→Prop) (e:Env) (h:Heap):finE tab Tryz.f94 K .ret e h=K (.tuple #[e.get 6,e.get 7]) h:=zdt rfl
theorem fi95 (K:Value→Heap→Prop) (e:Env) (h:Heap):finE tab Tryz.f95 K .ret e h=K (e.get 4) h:=zam rfl
theorem fi98 (K:Value→Heap→Prop) (e:Env) (h:Heap):finE tab Tryz.f98 K .ret e h=K (e.get 4) h:=zam rfl
theorem fi99 (K:Value→Heap→Prop) (e:Env) (h:Heap):finE tab Tryz.f99 K .ret e h=K (e.get 2) h:=zam rfl
theorem zEu (K:Value→Heap→Prop) (e:Env) (h:Heap):finE tab Tryz.f100 K .ret e h=K (e.get 2) h:=zam rfl
theorem zFx (K:Value→Heap→Prop) (e:Env) (h:Heap):finE tab Tryz.f101 K .ret e h=K (e.get 4) h:=zam rfl
theorem zES (K:Value→Heap→Prop) (e:Env) (h:Heap):finE tab Tryz.f102 K .ret e h=K undef h:=zeL rfl
theorem zGu (K:Value→Heap→Prop) (e:Env) (h:Heap):finE tab Tryz.f102 K .normal e h=K undef h:=zc5 rfl
theorem zGF (K:Value→Heap→Prop) (e:Env) (h:Heap):finE tab Tryz.f107 K .ret e h=K (e.get 2) h:=zam rfl
theorem zDK (K:Value→Heap→Prop) (e:Env) (h:Heap):finE tab Tryz.f108 K .ret e h=K (e.get 6) h:=zam rfl
theorem zEK (K:Value→Heap→Prop) (e:Env) (h:Heap):finE tab Tryz.f109 K .ret e h=K (e.get 2) h:=zam rfl
theorem zGL (K:Value→Heap→Prop) (e:Env) (h:Heap):finE tab Tryz.f110 K .ret e h=K (e.get 2) h:=zam rfl
theorem zDh (K:Value→Heap→Prop) (e:Env) (h:Heap):finE tab Tryz.f111 K .ret e h=K (e.get 2) h:=zam rfl
theorem zGq (K:Value→Heap→Prop) (e:Env) (h:Heap):finE tab Tryz.f112 K .ret e h=K (e.get 4) h:=zam rfl
theorem zGz (K:Value→Heap→Prop) (e:Env) (h:Heap):finE tab Tryz.f113 K .ret e h=K (e.get 2) h:=zam rfl
theorem zEb (K:Value→Heap→Prop) (e:Env) (h:Heap):finE tab Tryz.f114 K .ret e h=K (e.get 2) h:=zam rfl
theorem zEz (K:Value→Heap→Prop) (e:Env) (h:Heap):finE tab Tryz.f115 K .ret e h=K (e.get 2) h:=zam rfl
theorem zDZ (K:Value→Heap→Prop) (e:Env) (h:Heap):finE tab Tryz.f116 K .ret e h=K (e.get 4) h:=zam rfl
theorem zDl (K:Value→Heap→Prop) (e:Env) (h:Heap):finE tab Tryz.f117 K .ret e h=K (e.get 3) h:=zam rfl
theorem zEm (K:Value→Heap→Prop) (e:Env) (h:Heap):finE tab Tryz.f118 K .ret e h=K (.tuple #[e.get 4,e.get 5]) h:=zdt rfl
theorem zEN (K:Value→Heap→Prop) (e:Env) (h:Heap):finE tab Tryz.f119 K .ret e h=K (e.get 1) h:=zam rfl
theorem zEk (K:Value→Heap→Prop) (e:Env) (h:Heap):finE tab Tryz.f120 K .ret e h=K (e.get 2) h:=zam rfl
theorem zF2 (K:Value→Heap→Prop) (e:Env) (h:Heap):finE tab Tryz.f121 K .ret e h=K (e.get 4) h:=zam rfl
theorem zFY (K:Value→Heap→Prop) (e:Env) (h:Heap):finE tab Tryz.f122 K .ret e h=K (e.get 2) h:=zam rfl
theorem zDx (K:Value→Heap→Prop) (e:Env) (h:Heap):finE tab Tryz.f123 K .ret e h=K (e.get 2) h:=zam rfl
theorem zEx (K:Value→Heap→Prop) (e:Env) (h:Heap):finE tab Tryz.f124 K .ret e h=K undef h:=zeL rfl
theorem zFr (K:Value→Heap→Prop) (e:Env) (h:Heap):finE tab Tryz.f124 K .normal e h=K undef h:=zc5 rfl
theorem zDb (K:Value→Heap→Prop) (e:Env) (h:Heap):finE tab Tryz.f125 K .ret e h=K (e.get 4) h:=zam rfl
theorem zFi (K:Value→Heap→Prop) (e:Env) (h:Heap):finE tab Tryz.f126 K .ret e h=K (e.get 4) h:=zam rfl
theorem zGx (K:Value→Heap→Prop) (e:Env) (h:Heap):finE tab Tryz.f128 K .ret e h=K (e.get 2) h:=zam rfl
theorem zF0 (K:Value→Heap→Prop) (e:Env) (h:Heap):finE tab Tryz.f130 K .ret e h=K (e.get 6) h:=zam rfl
theorem zGJ (K:Value→Heap→Prop) (e:Env) (h:Heap):finE tab Tryz.f131 K .ret e h=K undef h:=zeL rfl
theorem zFO (K:Value→Heap→Prop) (e:Env) (h:Heap):finE tab Tryz.f131 K .normal e h=K undef h:=zc5 rfl
theorem zFc (K:Value→Heap→Prop) (e:Env) (h:Heap):finE tab Tryz.f135 K .ret e h=K (e.get 2) h:=zam rfl
theorem zFE (K:Value→Heap→Prop) (e:Env) (h:Heap):finE tab Tryz.f136 K .ret e h=K (e.get 0) h:=zam rfl
theorem zGp (K:Value→Heap→Prop) (e:Env) (h:Heap):finE tab Tryz.f137 K .ret e h=K (e.get 4) h:=zam rfl
theorem zD5 (K:Value→Heap→Prop) (e:Env) (h:Heap):finE tab Tryz.f138 K .ret e h=K (e.get 4) h:=zam rfl
theorem zFC (K:Value→Heap→Prop) (e:Env) (h:Heap):finE tab Tryz.f139 K .ret e h=K (e.get 2) h:=zam rfl
theorem zGP (K:Value→Heap→Prop) (e:Env) (h:Heap):finE tab Tryz.f140 K .ret e h=K (e.get 2) h:=zam rfl
theorem zE5 (K:Value→Heap→Prop) (e:Env) (h:Heap):finE tab Tryz.f141 K .ret e h=K (e.get 4) h:=zam rfl
theorem zGd (K:Value→Heap→Prop) (e:Env) (h:Heap):finE tab Tryz.f142 K .ret e h=K undef h:=zeL rfl
theorem zGi (K:Value→Heap→Prop) (e:Env) (h:Heap):finE tab Tryz.f142 K .normal e h=K undef h:=zc5 rfl
theorem zD9 (K:Value→Heap→Prop) (e:Env) (h:Heap):finE tab Tryz.f150 K .ret e h=K (e.get 2) h:=zam rfl
theorem zGC (K:Value→Heap→Prop) (e:Env) (h:Heap):finE tab Tryz.f151 K .ret e h=K (e.get 2) h:=zam rfl
theorem zEV (K:Value→Heap→Prop) (e:Env) (h:Heap):finE tab Tryz.f152 K .ret e h=K undef h:=zeL rfl
theorem zCk (K:Value→Heap→Prop) (e:Env) (h:Heap):finE tab Tryz.f152 K .normal e h=K undef h:=zc5 rfl
theorem zDY (K:Value→Heap→Prop) (e:Env) (h:Heap):finE tab Tryz.f153 K .ret e h=K undef h:=zeL rfl
theorem zFe (K:Value→Heap→Prop) (e:Env) (h:Heap):finE tab Tryz.f153 K .normal e h=K undef h:=zc5 rfl
theorem zFq (K:Value→Heap→Prop) (e:Env) (h:Heap):finE tab Tryz.f161 K .ret e h=K (e.get 2) h:=zam rfl
theorem zFS (K:Value→Heap→Prop) (e:Env) (h:Heap):finE tab Tryz.f162 K .ret e h=K (e.get 2) h:=zam rfl
theorem zFz (K:Value→Heap→Prop) (e:Env) (h:Heap):finE tab Tryz.f163 K .ret e h=K (e.get 2) h:=zam rfl
theorem zGv (K:Value→Heap→Prop) (e:Env) (h:Heap):finE tab Tryz.f164 K .ret e h=K undef h:=zeL rfl
theorem zDS (K:Value→Heap→Prop) (e:Env) (h:Heap):finE tab Tryz.f164 K .normal e h=K undef h:=zc5 rfl
theorem zGR (K:Value→Heap→Prop) (e:Env) (h:Heap):finE tab Tryz.f168 K .ret e h=K undef h:=zeL rfl
theorem zEO (K:Value→Heap→Prop) (e:Env) (h:Heap):finE tab Tryz.f168 K .normal e h=K undef h:=zc5 rfl
theorem zD8 (K:Value→Heap→Prop) (e:Env) (h:Heap):finE tab Tryz.f189 K .ret e h=K (e.get 6) h:=zam rfl
theorem zDH (K:Value→Heap→Prop) (e:Env) (h:Heap):finE tab Tryz.f190 K .ret e h=K (e.get 2) h:=zam rfl
theorem zD6 (K:Value→Heap→Prop) (e:Env) (h:Heap):finE tab Tryz.f191 K .ret e h=K undef h:=zeL rfl
theorem zFB (K:Value→Heap→Prop) (e:Env) (h:Heap):finE tab Tryz.f191 K .normal e h=K undef h:=zc5 rfl
theorem zFZ (K:Value→Heap→Prop) (e:Env) (h:Heap):finE tab Tryz.f192 K .ret e h=K undef h:=zeL rfl
theorem zD3 (K:Value→Heap→Prop) (e:Env) (h:Heap):finE tab Tryz.f192 K .normal e h=K undef h:=zc5 rfl
end Go.Proofs.YtdplfgoifjjniaaGreatDoor

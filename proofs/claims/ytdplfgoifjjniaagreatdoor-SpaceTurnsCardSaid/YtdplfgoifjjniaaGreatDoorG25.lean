/- What the plain machine's operations come to at this seat's types. Written by a program (mksim.py). No condition. -/
import Derived.Test.YtdplfgoifjjniaaGreatDoorG10
import Derived.Test.YtdplfgoifjjniaaGreatDoorGSym
import Derived.Test.YtdplfgoifjjniaaGreatDoorG24
namespace Go.Proofs.YtdplfgoifjjniaaGreatDoor
open Go.Am
theorem ag1:aggA tab 1=some false:=by kernel_rfl
theorem pt1 (cs:List Value) (o:Nat):zai tab 1 cs o=cs[o]? := zac ag1
theorem ag2:aggA tab 2=some false:=by kernel_rfl
theorem pt2 (cs:List Value) (o:Nat):zai tab 2 cs o=cs[o]? := zac ag2
theorem sz3:zax tab 3=some 1:=by kernel_rfl
theorem ag3:aggA tab 3=some false:=by kernel_rfl
theorem ld3 (A o:Nat) (h:Heap):zaQ tab 3 (.pointer (some ⟨A,o,none⟩)) h=zdD (h.get A) o:=zbo ag3
theorem pt3 (cs:List Value) (o:Nat):zai tab 3 cs o=cs[o]? := zac ag3
theorem sz4:zax tab 4=some 1:=by kernel_rfl
theorem ag4:aggA tab 4=some false:=by kernel_rfl
theorem ld4 (A o:Nat) (h:Heap):zaQ tab 4 (.pointer (some ⟨A,o,none⟩)) h=zdD (h.get A) o:=zbo ag4
theorem pt4 (cs:List Value) (o:Nat):zai tab 4 cs o=cs[o]? := zac ag4
theorem ag5:aggA tab 5=some false:=by kernel_rfl
theorem pt5 (cs:List Value) (o:Nat):zai tab 5 cs o=cs[o]? := zac ag5
theorem ag6:aggA tab 6=some false:=by kernel_rfl
theorem pt6 (cs:List Value) (o:Nat):zai tab 6 cs o=cs[o]? := zac ag6
theorem sz7:zax tab 7=some 4:=by kernel_rfl
theorem ag7:aggA tab 7=some true:=by kernel_rfl
theorem pt7 (cs:List Value) (o:Nat):zai tab 7 cs o=(cut cs o 4).map fun l=>.agg l.toArray:=zau ag7 sz7
theorem sz8:zax tab 8=some 4:=by kernel_rfl
theorem ag8:aggA tab 8=some true:=by kernel_rfl
theorem pt8 (cs:List Value) (o:Nat):zai tab 8 cs o=(cut cs o 4).map fun l=>.agg l.toArray:=zau ag8 sz8
theorem sz9:zax tab 9=some 1:=by kernel_rfl
theorem ag9:aggA tab 9=some false:=by kernel_rfl
theorem ld9 (A o:Nat) (h:Heap):zaQ tab 9 (.pointer (some ⟨A,o,none⟩)) h=zdD (h.get A) o:=zbo ag9
theorem pt9 (cs:List Value) (o:Nat):zai tab 9 cs o=cs[o]? := zac ag9
theorem ds9:tab.desc 9=some .string:=by kernel_rfl
theorem ln9 (s:ByteArray) (h:Heap):lenA tab 9 (.string s) h=some (.int .i64 s.size):=zu8 ds9
theorem ag10:aggA tab 10=some false:=by kernel_rfl
theorem pt10 (cs:List Value) (o:Nat):zai tab 10 cs o=cs[o]? := zac ag10
theorem ag11:aggA tab 11=some false:=by kernel_rfl
theorem pt11 (cs:List Value) (o:Nat):zai tab 11 cs o=cs[o]? := zac ag11
theorem ag12:aggA tab 12=some false:=by kernel_rfl
theorem pt12 (cs:List Value) (o:Nat):zai tab 12 cs o=cs[o]? := zac ag12
theorem sz13:zax tab 13=some 2:=by kernel_rfl
theorem ag13:aggA tab 13=some true:=by kernel_rfl
theorem pt13 (cs:List Value) (o:Nat):zai tab 13 cs o=(cut cs o 2).map fun l=>.agg l.toArray:=zau ag13 sz13
theorem sz14:zax tab 14=some 2:=by kernel_rfl
theorem ag14:aggA tab 14=some true:=by kernel_rfl
theorem pt14 (cs:List Value) (o:Nat):zai tab 14 cs o=(cut cs o 2).map fun l=>.agg l.toArray:=zau ag14 sz14
theorem ag15:aggA tab 15=some false:=by kernel_rfl
theorem pt15 (cs:List Value) (o:Nat):zai tab 15 cs o=cs[o]? := zac ag15
theorem ag16:aggA tab 16=some false:=by kernel_rfl
theorem pt16 (cs:List Value) (o:Nat):zai tab 16 cs o=cs[o]? := zac ag16
theorem ag17:aggA tab 17=some false:=by kernel_rfl
theorem pt17 (cs:List Value) (o:Nat):zai tab 17 cs o=cs[o]? := zac ag17
theorem sz18:zax tab 18=some 1:=by kernel_rfl
theorem ag18:aggA tab 18=some true:=by kernel_rfl
theorem pt18 (cs:List Value) (o:Nat):zai tab 18 cs o=(cut cs o 1).map fun l=>.agg l.toArray:=zau ag18 sz18
theorem sz19:zax tab 19=some 1:=by kernel_rfl
theorem ag19:aggA tab 19=some true:=by kernel_rfl
theorem pt19 (cs:List Value) (o:Nat):zai tab 19 cs o=(cut cs o 1).map fun l=>.agg l.toArray:=zau ag19 sz19
theorem ag20:aggA tab 20=some false:=by kernel_rfl
theorem pt20 (cs:List Value) (o:Nat):zai tab 20 cs o=cs[o]? := zac ag20
theorem ag21:aggA tab 21=some false:=by kernel_rfl
theorem pt21 (cs:List Value) (o:Nat):zai tab 21 cs o=cs[o]? := zac ag21
theorem ag22:aggA tab 22=some false:=by kernel_rfl
theorem pt22 (cs:List Value) (o:Nat):zai tab 22 cs o=cs[o]? := zac ag22
theorem sz23:zax tab 23=some 1:=by kernel_rfl
theorem ag23:aggA tab 23=some false:=by kernel_rfl
theorem ld23 (A o:Nat) (h:Heap):zaQ tab 23 (.pointer (some ⟨A,o,none⟩)) h=zdD (h.get A) o:=zbo ag23
theorem pt23 (cs:List Value) (o:Nat):zai tab 23 cs o=cs[o]? := zac ag23
theorem al23 (P:Program) (ov:Ov) (d:Option Tmp) (ty:TypeId) (pos:String) (af:Array Edge) (g:Option (Nat × Bool)) (e:Env) (h:Heap) (K:Value→Heap→Prop):WOp P tab ov ⟨d,.alloc 23,ty,pos,af,g⟩ e h K=K (.pointer (some ⟨h.size,0,none⟩)) (h.push (.row [.slice none 0 0] 23 false)):=zdT d ty pos af g e h K 23 zpV
theorem ds23:tab.desc 23=some (.slice 9):=by kernel_rfl
theorem ln23 (a:Option Addr) (n c:Nat) (h:Heap):lenA tab 23 (.slice a n c) h=some (.int .i64 n):=zbt ds23
theorem bs23 (n:Nat) (parts:List (Nat × Value)) (h:Heap):zaJ tab 23 n parts h=if n*1 > 16777216 || n > 16777216 then Option.none else (zds (fun i=>some (i*1,1)) (zbp [.string ⟨#[]⟩] n) parts).map fun cs=>(.slice (some ⟨h.size,0,none⟩) n n,h.push (.row cs 9 false)):=bsl ds23 zdY n parts h
theorem ix23 (A o n c:Nat) (ik:IntKind) (i:Int):zas tab 23 (.slice (some ⟨A,o,none⟩) n c) (.int ik i)=if 0≤i∧i < n then some (.pointer (some ⟨A,o+i.toNat*1,none⟩)) else none:=zbJ ds23 (by kernel_rfl)
theorem ag24:aggA tab 24=some false:=by kernel_rfl
theorem ld24 (A o:Nat) (h:Heap):zaQ tab 24 (.pointer (some ⟨A,o,none⟩)) h=zdD (h.get A) o:=zbo ag24
theorem pt24 (cs:List Value) (o:Nat):zai tab 24 cs o=cs[o]? := zac ag24
theorem ds24:tab.desc 24=some (.slice 67):=by kernel_rfl
theorem ln24 (a:Option Addr) (n c:Nat) (h:Heap):lenA tab 24 (.slice a n c) h=some (.int .i64 n):=zbt ds24
theorem bs24 (n:Nat) (parts:List (Nat × Value)) (h:Heap):zaJ tab 24 n parts h=if n*2 > 16777216 || n > 16777216 then Option.none else (zds (fun i=>some (i*2,2)) (zbp [.string ⟨#[]⟩,.int .i64 0] n) parts).map fun cs=>(.slice (some ⟨h.size,0,none⟩) n n,h.push (.row cs 67 false)):=bsl ds24 zgP n parts h
theorem ix24 (A o n c:Nat) (ik:IntKind) (i:Int):zas tab 24 (.slice (some ⟨A,o,none⟩) n c) (.int ik i)=if 0≤i∧i < n then some (.pointer (some ⟨A,o+i.toNat*2,none⟩)) else none:=zbJ ds24 (by kernel_rfl)
theorem ag25:aggA tab 25=some false:=by kernel_rfl
theorem ld25 (A o:Nat) (h:Heap):zaQ tab 25 (.pointer (some ⟨A,o,none⟩)) h=zdD (h.get A) o:=zbo ag25
theorem pt25 (cs:List Value) (o:Nat):zai tab 25 cs o=cs[o]? := zac ag25
theorem ds25:tab.desc 25=some (.slice 69):=by kernel_rfl
theorem ln25 (a:Option Addr) (n c:Nat) (h:Heap):lenA tab 25 (.slice a n c) h=some (.int .i64 n):=zbt ds25
theorem bs25 (n:Nat) (parts:List (Nat × Value)) (h:Heap):zaJ tab 25 n parts h=if n*2 > 16777216 || n > 16777216 then Option.none else (zds (fun i=>some (i*2,2)) (zbp [.string ⟨#[]⟩,.slice none 0 0] n) parts).map fun cs=>(.slice (some ⟨h.size,0,none⟩) n n,h.push (.row cs 69 false)):=bsl ds25 zjI n parts h
theorem ix25 (A o n c:Nat) (ik:IntKind) (i:Int):zas tab 25 (.slice (some ⟨A,o,none⟩) n c) (.int ik i)=if 0≤i∧i < n then some (.pointer (some ⟨A,o+i.toNat*2,none⟩)) else none:=zbJ ds25 (by kernel_rfl)
theorem ag26:aggA tab 26=some false:=by kernel_rfl
theorem ld26 (A o:Nat) (h:Heap):zaQ tab 26 (.pointer (some ⟨A,o,none⟩)) h=zdD (h.get A) o:=zbo ag26
theorem pt26 (cs:List Value) (o:Nat):zai tab 26 cs o=cs[o]? := zac ag26
theorem ds26:tab.desc 26=some (.slice 71):=by kernel_rfl
theorem ln26 (a:Option Addr) (n c:Nat) (h:Heap):lenA tab 26 (.slice a n c) h=some (.int .i64 n):=zbt ds26
theorem bs26 (n:Nat) (parts:List (Nat × Value)) (h:Heap):zaJ tab 26 n parts h=if n*12 > 16777216 || n > 16777216 then Option.none else (zds (fun i=>some (i*12,12)) (zbp [.string ⟨#[]⟩,.string ⟨#[]⟩,.int .i64 0,.bool false,.string ⟨#[]⟩,.bool false,.string ⟨#[]⟩,.bool false,.string ⟨#[]⟩,.bool false,.string ⟨#[]⟩,.slice none 0 0] n) parts).map fun cs=>(.slice (some ⟨h.size,0,none⟩) n n,h.push (.row cs 71 false)):=bsl ds26 zjJ n parts h
theorem ix26 (A o n c:Nat) (ik:IntKind) (i:Int):zas tab 26 (.slice (some ⟨A,o,none⟩) n c) (.int ik i)=if 0≤i∧i < n then some (.pointer (some ⟨A,o+i.toNat*12,none⟩)) else none:=zbJ ds26 (by kernel_rfl)
theorem ag27:aggA tab 27=some false:=by kernel_rfl
theorem ld27 (A o:Nat) (h:Heap):zaQ tab 27 (.pointer (some ⟨A,o,none⟩)) h=zdD (h.get A) o:=zbo ag27
theorem pt27 (cs:List Value) (o:Nat):zai tab 27 cs o=cs[o]? := zac ag27
theorem ds27:tab.desc 27=some (.slice 73):=by kernel_rfl
theorem ln27 (a:Option Addr) (n c:Nat) (h:Heap):lenA tab 27 (.slice a n c) h=some (.int .i64 n):=zbt ds27
theorem bs27 (n:Nat) (parts:List (Nat × Value)) (h:Heap):zaJ tab 27 n parts h=if n*13 > 16777216 || n > 16777216 then Option.none else (zds (fun i=>some (i*13,13)) (zbp [.string ⟨#[]⟩,.string ⟨#[]⟩,.string ⟨#[]⟩,.int .i64 0,.bool false,.string ⟨#[]⟩,.bool false,.string ⟨#[]⟩,.bool false,.string ⟨#[]⟩,.bool false,.string ⟨#[]⟩,.slice none 0 0] n) parts).map fun cs=>(.slice (some ⟨h.size,0,none⟩) n n,h.push (.row cs 73 false)):=bsl ds27 zjM n parts h
theorem ix27 (A o n c:Nat) (ik:IntKind) (i:Int):zas tab 27 (.slice (some ⟨A,o,none⟩) n c) (.int ik i)=if 0≤i∧i < n then some (.pointer (some ⟨A,o+i.toNat*13,none⟩)) else none:=zbJ ds27 (by kernel_rfl)
theorem sz28:zax tab 28=some 7:=by kernel_rfl
theorem ag28:aggA tab 28=some true:=by kernel_rfl
theorem pt28 (cs:List Value) (o:Nat):zai tab 28 cs o=(cut cs o 7).map fun l=>.agg l.toArray:=zau ag28 sz28
theorem sz29:zax tab 29=some 7:=by kernel_rfl
theorem ag29:aggA tab 29=some true:=by kernel_rfl
theorem ld29 (A o:Nat) (h:Heap):zaQ tab 29 (.pointer (some ⟨A,o,none⟩)) h=cutO (h.get A) o 7:=zdi ag29 sz29
theorem pt29 (cs:List Value) (o:Nat):zai tab 29 cs o=(cut cs o 7).map fun l=>.agg l.toArray:=zau ag29 sz29
theorem al29 (P:Program) (ov:Ov) (d:Option Tmp) (ty:TypeId) (pos:String) (af:Array Edge) (g:Option (Nat × Bool)) (e:Env) (h:Heap) (K:Value→Heap→Prop):WOp P tab ov ⟨d,.alloc 29,ty,pos,af,g⟩ e h K=K (.pointer (some ⟨h.size,0,none⟩)) (h.push (.row [.slice none 0 0,.slice none 0 0,.slice none 0 0,.int .i64 0,.int .i64 0,.slice none 0 0,.slice none 0 0] 29 false)):=zdT d ty pos af g e h K 29 zqg
theorem zj3 (A o:Nat):zaf tab 29 (.pointer (some ⟨A,o,none⟩)) 0=some (.pointer (some ⟨A,o+0,none⟩)):=Eq.refl _
theorem zo7 (A o:Nat):zaf tab 29 (.pointer (some ⟨A,o,none⟩)) 1=some (.pointer (some ⟨A,o+1,none⟩)):=Eq.refl _
theorem zxR (A o:Nat):zaf tab 29 (.pointer (some ⟨A,o,none⟩)) 2=some (.pointer (some ⟨A,o+2,none⟩)):=Eq.refl _
theorem zl2 (A o:Nat):zaf tab 29 (.pointer (some ⟨A,o,none⟩)) 3=some (.pointer (some ⟨A,o+3,none⟩)):=Eq.refl _
theorem zCb (A o:Nat):zaf tab 29 (.pointer (some ⟨A,o,none⟩)) 4=some (.pointer (some ⟨A,o+4,none⟩)):=Eq.refl _
theorem zuO (A o:Nat):zaf tab 29 (.pointer (some ⟨A,o,none⟩)) 5=some (.pointer (some ⟨A,o+5,none⟩)):=Eq.refl _
theorem zuu (A o:Nat):zaf tab 29 (.pointer (some ⟨A,o,none⟩)) 6=some (.pointer (some ⟨A,o+6,none⟩)):=Eq.refl _
theorem ag30:aggA tab 30=some false:=by kernel_rfl
theorem pt30 (cs:List Value) (o:Nat):zai tab 30 cs o=cs[o]? := zac ag30
theorem ag31:aggA tab 31=some false:=by kernel_rfl
theorem pt31 (cs:List Value) (o:Nat):zai tab 31 cs o=cs[o]? := zac ag31
theorem ag32:aggA tab 32=some false:=by kernel_rfl
theorem pt32 (cs:List Value) (o:Nat):zai tab 32 cs o=cs[o]? := zac ag32
theorem ag33:aggA tab 33=some false:=by kernel_rfl
theorem ld33 (A o:Nat) (h:Heap):zaQ tab 33 (.pointer (some ⟨A,o,none⟩)) h=zdD (h.get A) o:=zbo ag33
theorem pt33 (cs:List Value) (o:Nat):zai tab 33 cs o=cs[o]? := zac ag33
theorem ag35:aggA tab 35=some false:=by kernel_rfl
theorem pt35 (cs:List Value) (o:Nat):zai tab 35 cs o=cs[o]? := zac ag35
theorem ag37:aggA tab 37=some false:=by kernel_rfl
theorem pt37 (cs:List Value) (o:Nat):zai tab 37 cs o=cs[o]? := zac ag37
theorem sz38:zax tab 38=some 2:=by kernel_rfl
theorem ag38:aggA tab 38=some true:=by kernel_rfl
theorem pt38 (cs:List Value) (o:Nat):zai tab 38 cs o=(cut cs o 2).map fun l=>.agg l.toArray:=zau ag38 sz38
theorem sz39:zax tab 39=some 2:=by kernel_rfl
theorem ag39:aggA tab 39=some true:=by kernel_rfl
theorem ld39 (A o:Nat) (h:Heap):zaQ tab 39 (.pointer (some ⟨A,o,none⟩)) h=cutO (h.get A) o 2:=zdi ag39 sz39
theorem pt39 (cs:List Value) (o:Nat):zai tab 39 cs o=(cut cs o 2).map fun l=>.agg l.toArray:=zau ag39 sz39
theorem al39 (P:Program) (ov:Ov) (d:Option Tmp) (ty:TypeId) (pos:String) (af:Array Edge) (g:Option (Nat × Bool)) (e:Env) (h:Heap) (K:Value→Heap→Prop):WOp P tab ov ⟨d,.alloc 39,ty,pos,af,g⟩ e h K=K (.pointer (some ⟨h.size,0,none⟩)) (h.push (.row [.bool false,.string ⟨#[]⟩] 39 false)):=zdT d ty pos af g e h K 39 zqx
theorem zo3 (A o:Nat):zaf tab 39 (.pointer (some ⟨A,o,none⟩)) 0=some (.pointer (some ⟨A,o+0,none⟩)):=Eq.refl _
theorem zpc (A o:Nat):zaf tab 39 (.pointer (some ⟨A,o,none⟩)) 1=some (.pointer (some ⟨A,o+1,none⟩)):=Eq.refl _
theorem sz40:zax tab 40=some 8:=by kernel_rfl
theorem ag40:aggA tab 40=some true:=by kernel_rfl
theorem pt40 (cs:List Value) (o:Nat):zai tab 40 cs o=(cut cs o 8).map fun l=>.agg l.toArray:=zau ag40 sz40
theorem ds40:tab.desc 40=some (.array 4 39):=by kernel_rfl
theorem ix40 (A o:Nat) (ik:IntKind) (i:Int):zas tab 40 (.pointer (some ⟨A,o,none⟩)) (.int ik i)=if 0≤i∧i < 4 then some (.pointer (some ⟨A,o+i.toNat*2,none⟩)) else none:=zzq ds40 (by kernel_rfl)
theorem sz41:zax tab 41=some 11:=by kernel_rfl
theorem ag41:aggA tab 41=some true:=by kernel_rfl
theorem pt41 (cs:List Value) (o:Nat):zai tab 41 cs o=(cut cs o 11).map fun l=>.agg l.toArray:=zau ag41 sz41
theorem sz42:zax tab 42=some 11:=by kernel_rfl
theorem ag42:aggA tab 42=some true:=by kernel_rfl
theorem ld42 (A o:Nat) (h:Heap):zaQ tab 42 (.pointer (some ⟨A,o,none⟩)) h=cutO (h.get A) o 11:=zdi ag42 sz42
theorem pt42 (cs:List Value) (o:Nat):zai tab 42 cs o=(cut cs o 11).map fun l=>.agg l.toArray:=zau ag42 sz42
theorem al42 (P:Program) (ov:Ov) (d:Option Tmp) (ty:TypeId) (pos:String) (af:Array Edge) (g:Option (Nat × Bool)) (e:Env) (h:Heap) (K:Value→Heap→Prop):WOp P tab ov ⟨d,.alloc 42,ty,pos,af,g⟩ e h K=K (.pointer (some ⟨h.size,0,none⟩)) (h.push (.row [.string ⟨#[]⟩,.string ⟨#[]⟩,.int .i64 0,.bool false,.string ⟨#[]⟩,.bool false,.string ⟨#[]⟩,.bool false,.string ⟨#[]⟩,.bool false,.string ⟨#[]⟩] 42 false)):=zdT d ty pos af g e h K 42 zdm
theorem zhc (A o:Nat):zaf tab 42 (.pointer (some ⟨A,o,none⟩)) 0=some (.pointer (some ⟨A,o+0,none⟩)):=Eq.refl _
theorem zpd (A o:Nat):zaf tab 42 (.pointer (some ⟨A,o,none⟩)) 1=some (.pointer (some ⟨A,o+1,none⟩)):=Eq.refl _
theorem zsp (A o:Nat):zaf tab 42 (.pointer (some ⟨A,o,none⟩)) 2=some (.pointer (some ⟨A,o+2,none⟩)):=Eq.refl _
theorem zpK (A o:Nat):zaf tab 42 (.pointer (some ⟨A,o,none⟩)) 3=some (.pointer (some ⟨A,o+3,none⟩)):=Eq.refl _
theorem ag43:aggA tab 43=some false:=by kernel_rfl
theorem pt43 (cs:List Value) (o:Nat):zai tab 43 cs o=cs[o]? := zac ag43
theorem ag44:aggA tab 44=some false:=by kernel_rfl
theorem pt44 (cs:List Value) (o:Nat):zai tab 44 cs o=cs[o]? := zac ag44
theorem ag45:aggA tab 45=some false:=by kernel_rfl
theorem pt45 (cs:List Value) (o:Nat):zai tab 45 cs o=cs[o]? := zac ag45
theorem ag46:aggA tab 46=some false:=by kernel_rfl
theorem pt46 (cs:List Value) (o:Nat):zai tab 46 cs o=cs[o]? := zac ag46
theorem ag47:aggA tab 47=some false:=by kernel_rfl
theorem pt47 (cs:List Value) (o:Nat):zai tab 47 cs o=cs[o]? := zac ag47
theorem ag48:aggA tab 48=some false:=by kernel_rfl
theorem pt48 (cs:List Value) (o:Nat):zai tab 48 cs o=cs[o]? := zac ag48
theorem ds48:tab.desc 48=some (.slice 57):=by kernel_rfl
theorem ln48 (a:Option Addr) (n c:Nat) (h:Heap):lenA tab 48 (.slice a n c) h=some (.int .i64 n):=zbt ds48
theorem ix48 (A o n c:Nat) (ik:IntKind) (i:Int):zas tab 48 (.slice (some ⟨A,o,none⟩) n c) (.int ik i)=if 0≤i∧i < n then some (.pointer (some ⟨A,o+i.toNat*13,none⟩)) else none:=zbJ ds48 (by kernel_rfl)
theorem ag49:aggA tab 49=some false:=by kernel_rfl
theorem pt49 (cs:List Value) (o:Nat):zai tab 49 cs o=cs[o]? := zac ag49
theorem ag50:aggA tab 50=some false:=by kernel_rfl
theorem pt50 (cs:List Value) (o:Nat):zai tab 50 cs o=cs[o]? := zac ag50
theorem ag51:aggA tab 51=some false:=by kernel_rfl
theorem pt51 (cs:List Value) (o:Nat):zai tab 51 cs o=cs[o]? := zac ag51
theorem ag52:aggA tab 52=some false:=by kernel_rfl
theorem ld52 (A o:Nat) (h:Heap):zaQ tab 52 (.pointer (some ⟨A,o,none⟩)) h=zdD (h.get A) o:=zbo ag52
theorem pt52 (cs:List Value) (o:Nat):zai tab 52 cs o=cs[o]? := zac ag52
theorem ds52:tab.desc 52=some (.slice 42):=by kernel_rfl
theorem ln52 (a:Option Addr) (n c:Nat) (h:Heap):lenA tab 52 (.slice a n c) h=some (.int .i64 n):=zbt ds52
theorem bs52 (n:Nat) (parts:List (Nat × Value)) (h:Heap):zaJ tab 52 n parts h=if n*11 > 16777216 || n > 16777216 then Option.none else (zds (fun i=>some (i*11,11)) (zbp [.string ⟨#[]⟩,.string ⟨#[]⟩,.int .i64 0,.bool false,.string ⟨#[]⟩,.bool false,.string ⟨#[]⟩,.bool false,.string ⟨#[]⟩,.bool false,.string ⟨#[]⟩] n) parts).map fun cs=>(.slice (some ⟨h.size,0,none⟩) n n,h.push (.row cs 42 false)):=bsl ds52 zdm n parts h
theorem ix52 (A o n c:Nat) (ik:IntKind) (i:Int):zas tab 52 (.slice (some ⟨A,o,none⟩) n c) (.int ik i)=if 0≤i∧i < n then some (.pointer (some ⟨A,o+i.toNat*11,none⟩)) else none:=zbJ ds52 (by kernel_rfl)
theorem ag53:aggA tab 53=some false:=by kernel_rfl
theorem pt53 (cs:List Value) (o:Nat):zai tab 53 cs o=cs[o]? := zac ag53
theorem ag54:aggA tab 54=some false:=by kernel_rfl
theorem ld54 (A o:Nat) (h:Heap):zaQ tab 54 (.pointer (some ⟨A,o,none⟩)) h=zdD (h.get A) o:=zbo ag54
theorem pt54 (cs:List Value) (o:Nat):zai tab 54 cs o=cs[o]? := zac ag54
theorem ag55:aggA tab 55=some false:=by kernel_rfl
theorem pt55 (cs:List Value) (o:Nat):zai tab 55 cs o=cs[o]? := zac ag55
theorem sz56:zax tab 56=some 13:=by kernel_rfl
theorem ag56:aggA tab 56=some true:=by kernel_rfl
theorem pt56 (cs:List Value) (o:Nat):zai tab 56 cs o=(cut cs o 13).map fun l=>.agg l.toArray:=zau ag56 sz56
theorem sz57:zax tab 57=some 13:=by kernel_rfl
theorem ag57:aggA tab 57=some true:=by kernel_rfl
theorem ld57 (A o:Nat) (h:Heap):zaQ tab 57 (.pointer (some ⟨A,o,none⟩)) h=cutO (h.get A) o 13:=zdi ag57 sz57
theorem pt57 (cs:List Value) (o:Nat):zai tab 57 cs o=(cut cs o 13).map fun l=>.agg l.toArray:=zau ag57 sz57
theorem zuM (A o:Nat):zaf tab 57 (.pointer (some ⟨A,o,none⟩)) 0=some (.pointer (some ⟨A,o+0,none⟩)):=Eq.refl _
theorem zh9 (A o:Nat):zaf tab 57 (.pointer (some ⟨A,o,none⟩)) 1=some (.pointer (some ⟨A,o+1,none⟩)):=Eq.refl _
theorem zlu (A o:Nat):zaf tab 57 (.pointer (some ⟨A,o,none⟩)) 2=some (.pointer (some ⟨A,o+2,none⟩)):=Eq.refl _
theorem ag58:aggA tab 58=some false:=by kernel_rfl
theorem pt58 (cs:List Value) (o:Nat):zai tab 58 cs o=cs[o]? := zac ag58
theorem ag59:aggA tab 59=some false:=by kernel_rfl
theorem pt59 (cs:List Value) (o:Nat):zai tab 59 cs o=cs[o]? := zac ag59
theorem ag60:aggA tab 60=some false:=by kernel_rfl
theorem pt60 (cs:List Value) (o:Nat):zai tab 60 cs o=cs[o]? := zac ag60
theorem ag61:aggA tab 61=some false:=by kernel_rfl
theorem pt61 (cs:List Value) (o:Nat):zai tab 61 cs o=cs[o]? := zac ag61
theorem sz62:zax tab 62=some 1:=by kernel_rfl
theorem ag62:aggA tab 62=some false:=by kernel_rfl
theorem ld62 (A o:Nat) (h:Heap):zaQ tab 62 (.pointer (some ⟨A,o,none⟩)) h=zdD (h.get A) o:=zbo ag62
theorem pt62 (cs:List Value) (o:Nat):zai tab 62 cs o=cs[o]? := zac ag62
theorem ag63:aggA tab 63=some false:=by kernel_rfl
theorem ld63 (A o:Nat) (h:Heap):zaQ tab 63 (.pointer (some ⟨A,o,none⟩)) h=zdD (h.get A) o:=zbo ag63
theorem pt63 (cs:List Value) (o:Nat):zai tab 63 cs o=cs[o]? := zac ag63
theorem ag64:aggA tab 64=some false:=by kernel_rfl
theorem pt64 (cs:List Value) (o:Nat):zai tab 64 cs o=cs[o]? := zac ag64
theorem ag65:aggA tab 65=some false:=by kernel_rfl
theorem pt65 (cs:List Value) (o:Nat):zai tab 65 cs o=cs[o]? := zac ag65
theorem sz66:zax tab 66=some 2:=by kernel_rfl
theorem ag66:aggA tab 66=some true:=by kernel_rfl
theorem pt66 (cs:List Value) (o:Nat):zai tab 66 cs o=(cut cs o 2).map fun l=>.agg l.toArray:=zau ag66 sz66
theorem sz67:zax tab 67=some 2:=by kernel_rfl
theorem ag67:aggA tab 67=some true:=by kernel_rfl
theorem ld67 (A o:Nat) (h:Heap):zaQ tab 67 (.pointer (some ⟨A,o,none⟩)) h=cutO (h.get A) o 2:=zdi ag67 sz67
theorem pt67 (cs:List Value) (o:Nat):zai tab 67 cs o=(cut cs o 2).map fun l=>.agg l.toArray:=zau ag67 sz67
theorem al67 (P:Program) (ov:Ov) (d:Option Tmp) (ty:TypeId) (pos:String) (af:Array Edge) (g:Option (Nat × Bool)) (e:Env) (h:Heap) (K:Value→Heap→Prop):WOp P tab ov ⟨d,.alloc 67,ty,pos,af,g⟩ e h K=K (.pointer (some ⟨h.size,0,none⟩)) (h.push (.row [.string ⟨#[]⟩,.int .i64 0] 67 false)):=zdT d ty pos af g e h K 67 zgP
theorem zpk (A o:Nat):zaf tab 67 (.pointer (some ⟨A,o,none⟩)) 0=some (.pointer (some ⟨A,o+0,none⟩)):=Eq.refl _
theorem zxV (A o:Nat):zaf tab 67 (.pointer (some ⟨A,o,none⟩)) 1=some (.pointer (some ⟨A,o+1,none⟩)):=Eq.refl _
theorem sz68:zax tab 68=some 2:=by kernel_rfl
theorem ag68:aggA tab 68=some true:=by kernel_rfl
theorem pt68 (cs:List Value) (o:Nat):zai tab 68 cs o=(cut cs o 2).map fun l=>.agg l.toArray:=zau ag68 sz68
theorem sz69:zax tab 69=some 2:=by kernel_rfl
theorem ag69:aggA tab 69=some true:=by kernel_rfl
theorem ld69 (A o:Nat) (h:Heap):zaQ tab 69 (.pointer (some ⟨A,o,none⟩)) h=cutO (h.get A) o 2:=zdi ag69 sz69
theorem pt69 (cs:List Value) (o:Nat):zai tab 69 cs o=(cut cs o 2).map fun l=>.agg l.toArray:=zau ag69 sz69
theorem al69 (P:Program) (ov:Ov) (d:Option Tmp) (ty:TypeId) (pos:String) (af:Array Edge) (g:Option (Nat × Bool)) (e:Env) (h:Heap) (K:Value→Heap→Prop):WOp P tab ov ⟨d,.alloc 69,ty,pos,af,g⟩ e h K=K (.pointer (some ⟨h.size,0,none⟩)) (h.push (.row [.string ⟨#[]⟩,.slice none 0 0] 69 false)):=zdT d ty pos af g e h K 69 zjI
theorem zpQ (A o:Nat):zaf tab 69 (.pointer (some ⟨A,o,none⟩)) 0=some (.pointer (some ⟨A,o+0,none⟩)):=Eq.refl _
theorem zu4 (A o:Nat):zaf tab 69 (.pointer (some ⟨A,o,none⟩)) 1=some (.pointer (some ⟨A,o+1,none⟩)):=Eq.refl _
theorem sz70:zax tab 70=some 12:=by kernel_rfl
theorem ag70:aggA tab 70=some true:=by kernel_rfl
theorem pt70 (cs:List Value) (o:Nat):zai tab 70 cs o=(cut cs o 12).map fun l=>.agg l.toArray:=zau ag70 sz70
theorem sz71:zax tab 71=some 12:=by kernel_rfl
theorem ag71:aggA tab 71=some true:=by kernel_rfl
theorem ld71 (A o:Nat) (h:Heap):zaQ tab 71 (.pointer (some ⟨A,o,none⟩)) h=cutO (h.get A) o 12:=zdi ag71 sz71
theorem pt71 (cs:List Value) (o:Nat):zai tab 71 cs o=(cut cs o 12).map fun l=>.agg l.toArray:=zau ag71 sz71
theorem al71 (P:Program) (ov:Ov) (d:Option Tmp) (ty:TypeId) (pos:String) (af:Array Edge) (g:Option (Nat × Bool)) (e:Env) (h:Heap) (K:Value→Heap→Prop):WOp P tab ov ⟨d,.alloc 71,ty,pos,af,g⟩ e h K=K (.pointer (some ⟨h.size,0,none⟩)) (h.push (.row [.string ⟨#[]⟩,.string ⟨#[]⟩,.int .i64 0,.bool false,.string ⟨#[]⟩,.bool false,.string ⟨#[]⟩,.bool false,.string ⟨#[]⟩,.bool false,.string ⟨#[]⟩,.slice none 0 0] 71 false)):=zdT d ty pos af g e h K 71 zjJ
theorem zo4 (A o:Nat):zaf tab 71 (.pointer (some ⟨A,o,none⟩)) 0=some (.pointer (some ⟨A,o+0,none⟩)):=Eq.refl _
theorem zpN (A o:Nat):zaf tab 71 (.pointer (some ⟨A,o,none⟩)) 1=some (.pointer (some ⟨A,o+11,none⟩)):=Eq.refl _
theorem sz72:zax tab 72=some 13:=by kernel_rfl
theorem ag72:aggA tab 72=some true:=by kernel_rfl
theorem pt72 (cs:List Value) (o:Nat):zai tab 72 cs o=(cut cs o 13).map fun l=>.agg l.toArray:=zau ag72 sz72
theorem sz73:zax tab 73=some 13:=by kernel_rfl
theorem ag73:aggA tab 73=some true:=by kernel_rfl
theorem ld73 (A o:Nat) (h:Heap):zaQ tab 73 (.pointer (some ⟨A,o,none⟩)) h=cutO (h.get A) o 13:=zdi ag73 sz73
theorem pt73 (cs:List Value) (o:Nat):zai tab 73 cs o=(cut cs o 13).map fun l=>.agg l.toArray:=zau ag73 sz73
theorem al73 (P:Program) (ov:Ov) (d:Option Tmp) (ty:TypeId) (pos:String) (af:Array Edge) (g:Option (Nat × Bool)) (e:Env) (h:Heap) (K:Value→Heap→Prop):WOp P tab ov ⟨d,.alloc 73,ty,pos,af,g⟩ e h K=K (.pointer (some ⟨h.size,0,none⟩)) (h.push (.row [.string ⟨#[]⟩,.string ⟨#[]⟩,.string ⟨#[]⟩,.int .i64 0,.bool false,.string ⟨#[]⟩,.bool false,.string ⟨#[]⟩,.bool false,.string ⟨#[]⟩,.bool false,.string ⟨#[]⟩,.slice none 0 0] 73 false)):=zdT d ty pos af g e h K 73 zjM
theorem zrM (A o:Nat):zaf tab 73 (.pointer (some ⟨A,o,none⟩)) 0=some (.pointer (some ⟨A,o+0,none⟩)):=Eq.refl _
theorem zpa (A o:Nat):zaf tab 73 (.pointer (some ⟨A,o,none⟩)) 1=some (.pointer (some ⟨A,o+1,none⟩)):=Eq.refl _
theorem zu0 (A o:Nat):zaf tab 73 (.pointer (some ⟨A,o,none⟩)) 2=some (.pointer (some ⟨A,o+12,none⟩)):=Eq.refl _
theorem ag74:aggA tab 74=some false:=by kernel_rfl
theorem pt74 (cs:List Value) (o:Nat):zai tab 74 cs o=cs[o]? := zac ag74
theorem ag75:aggA tab 75=some false:=by kernel_rfl
theorem pt75 (cs:List Value) (o:Nat):zai tab 75 cs o=cs[o]? := zac ag75
theorem ag76:aggA tab 76=some false:=by kernel_rfl
theorem ld76 (A o:Nat) (h:Heap):zaQ tab 76 (.pointer (some ⟨A,o,none⟩)) h=zdD (h.get A) o:=zbo ag76
theorem pt76 (cs:List Value) (o:Nat):zai tab 76 cs o=cs[o]? := zac ag76
theorem sz77:zax tab 77=some 1:=by kernel_rfl
theorem ag77:aggA tab 77=some true:=by kernel_rfl
theorem pt77 (cs:List Value) (o:Nat):zai tab 77 cs o=(cut cs o 1).map fun l=>.agg l.toArray:=zau ag77 sz77
theorem sz78:zax tab 78=some 1:=by kernel_rfl
theorem ag78:aggA tab 78=some true:=by kernel_rfl
theorem ld78 (A o:Nat) (h:Heap):zaQ tab 78 (.pointer (some ⟨A,o,none⟩)) h=cutO (h.get A) o 1:=zdi ag78 sz78
theorem pt78 (cs:List Value) (o:Nat):zai tab 78 cs o=(cut cs o 1).map fun l=>.agg l.toArray:=zau ag78 sz78
theorem zta (A o:Nat):zaf tab 78 (.pointer (some ⟨A,o,none⟩)) 0=some (.pointer (some ⟨A,o+0,none⟩)):=Eq.refl _
theorem ag79:aggA tab 79=some false:=by kernel_rfl
theorem ld79 (A o:Nat) (h:Heap):zaQ tab 79 (.pointer (some ⟨A,o,none⟩)) h=zdD (h.get A) o:=zbo ag79
theorem pt79 (cs:List Value) (o:Nat):zai tab 79 cs o=cs[o]? := zac ag79
theorem sz80:zax tab 80=some 9:=by kernel_rfl
theorem ag80:aggA tab 80=some true:=by kernel_rfl
theorem pt80 (cs:List Value) (o:Nat):zai tab 80 cs o=(cut cs o 9).map fun l=>.agg l.toArray:=zau ag80 sz80
theorem sz81:zax tab 81=some 9:=by kernel_rfl
theorem ag81:aggA tab 81=some true:=by kernel_rfl
theorem pt81 (cs:List Value) (o:Nat):zai tab 81 cs o=(cut cs o 9).map fun l=>.agg l.toArray:=zau ag81 sz81
theorem zrL (A o:Nat):zaf tab 81 (.pointer (some ⟨A,o,none⟩)) 0=some (.pointer (some ⟨A,o+0,none⟩)):=Eq.refl _
theorem zx2 (A o:Nat):zaf tab 81 (.pointer (some ⟨A,o,none⟩)) 1=some (.pointer (some ⟨A,o+1,none⟩)):=Eq.refl _
theorem zpG (A o:Nat):zaf tab 81 (.pointer (some ⟨A,o,none⟩)) 2=some (.pointer (some ⟨A,o+8,none⟩)):=Eq.refl _
theorem ag82:aggA tab 82=some false:=by kernel_rfl
theorem pt82 (cs:List Value) (o:Nat):zai tab 82 cs o=cs[o]? := zac ag82
theorem ag83:aggA tab 83=some false:=by kernel_rfl
theorem pt83 (cs:List Value) (o:Nat):zai tab 83 cs o=cs[o]? := zac ag83
theorem ag84:aggA tab 84=some false:=by kernel_rfl
theorem pt84 (cs:List Value) (o:Nat):zai tab 84 cs o=cs[o]? := zac ag84
theorem ag85:aggA tab 85=some false:=by kernel_rfl
theorem pt85 (cs:List Value) (o:Nat):zai tab 85 cs o=cs[o]? := zac ag85
theorem sz86:zax tab 86=some 2:=by kernel_rfl
theorem ag86:aggA tab 86=some true:=by kernel_rfl
theorem pt86 (cs:List Value) (o:Nat):zai tab 86 cs o=(cut cs o 2).map fun l=>.agg l.toArray:=zau ag86 sz86
theorem sz87:zax tab 87=some 2:=by kernel_rfl
theorem ag87:aggA tab 87=some true:=by kernel_rfl
theorem pt87 (cs:List Value) (o:Nat):zai tab 87 cs o=(cut cs o 2).map fun l=>.agg l.toArray:=zau ag87 sz87
theorem al87 (P:Program) (ov:Ov) (d:Option Tmp) (ty:TypeId) (pos:String) (af:Array Edge) (g:Option (Nat × Bool)) (e:Env) (h:Heap) (K:Value→Heap→Prop):WOp P tab ov ⟨d,.alloc 87,ty,pos,af,g⟩ e h K=K (.pointer (some ⟨h.size,0,none⟩)) (h.push (.row [.slice none 0 0,.int .u64 0] 87 false)):=zdT d ty pos af g e h K 87 zrq
theorem zB8 (A o:Nat):zaf tab 87 (.pointer (some ⟨A,o,none⟩)) 0=some (.pointer (some ⟨A,o+0,none⟩)):=Eq.refl _
theorem zxP (cs:Array Value):zhb tab 87 (.agg cs) 0=zai tab 52 cs.toList 0:=Eq.refl _
theorem zCc (A o:Nat):zaf tab 87 (.pointer (some ⟨A,o,none⟩)) 1=some (.pointer (some ⟨A,o+1,none⟩)):=Eq.refl _
theorem zCW (cs:Array Value):zhb tab 87 (.agg cs) 1=zai tab 54 cs.toList 1:=Eq.refl _
theorem ag88:aggA tab 88=some false:=by kernel_rfl
theorem pt88 (cs:List Value) (o:Nat):zai tab 88 cs o=cs[o]? := zac ag88
theorem ag89:aggA tab 89=some false:=by kernel_rfl
theorem pt89 (cs:List Value) (o:Nat):zai tab 89 cs o=cs[o]? := zac ag89
theorem ag90:aggA tab 90=some false:=by kernel_rfl
theorem pt90 (cs:List Value) (o:Nat):zai tab 90 cs o=cs[o]? := zac ag90
theorem ag91:aggA tab 91=some false:=by kernel_rfl
theorem pt91 (cs:List Value) (o:Nat):zai tab 91 cs o=cs[o]? := zac ag91
theorem ag92:aggA tab 92=some false:=by kernel_rfl
theorem pt92 (cs:List Value) (o:Nat):zai tab 92 cs o=cs[o]? := zac ag92
theorem ag93:aggA tab 93=some false:=by kernel_rfl
theorem pt93 (cs:List Value) (o:Nat):zai tab 93 cs o=cs[o]? := zac ag93
theorem ag94:aggA tab 94=some false:=by kernel_rfl
theorem pt94 (cs:List Value) (o:Nat):zai tab 94 cs o=cs[o]? := zac ag94
theorem ag95:aggA tab 95=some false:=by kernel_rfl
theorem pt95 (cs:List Value) (o:Nat):zai tab 95 cs o=cs[o]? := zac ag95
theorem ag96:aggA tab 96=some false:=by kernel_rfl
theorem pt96 (cs:List Value) (o:Nat):zai tab 96 cs o=cs[o]? := zac ag96
theorem ag97:aggA tab 97=some false:=by kernel_rfl
theorem pt97 (cs:List Value) (o:Nat):zai tab 97 cs o=cs[o]? := zac ag97
theorem ag98:aggA tab 98=some false:=by kernel_rfl
theorem pt98 (cs:List Value) (o:Nat):zai tab 98 cs o=cs[o]? := zac ag98
theorem ds98:tab.desc 98=some (.slice 62):=by kernel_rfl
theorem ln98 (a:Option Addr) (n c:Nat) (h:Heap):lenA tab 98 (.slice a n c) h=some (.int .i64 n):=zbt ds98
theorem bs98 (n:Nat) (parts:List (Nat × Value)) (h:Heap):zaJ tab 98 n parts h=if n*1 > 16777216 || n > 16777216 then Option.none else (zds (fun i=>some (i*1,1)) (zbp [.nilFunc] n) parts).map fun cs=>(.slice (some ⟨h.size,0,none⟩) n n,h.push (.row cs 62 false)):=bsl ds98 zrx n parts h
theorem ix98 (A o n c:Nat) (ik:IntKind) (i:Int):zas tab 98 (.slice (some ⟨A,o,none⟩) n c) (.int ik i)=if 0≤i∧i < n then some (.pointer (some ⟨A,o+i.toNat*1,none⟩)) else none:=zbJ ds98 (by kernel_rfl)
theorem ag99:aggA tab 99=some false:=by kernel_rfl
theorem pt99 (cs:List Value) (o:Nat):zai tab 99 cs o=cs[o]? := zac ag99
theorem zFT:aggA tab 100=some false:=by kernel_rfl
theorem zA3 (cs:List Value) (o:Nat):zai tab 100 cs o=cs[o]? := zac zFT
theorem zDi:aggA tab 101=some false:=by kernel_rfl
theorem zAB (cs:List Value) (o:Nat):zai tab 101 cs o=cs[o]? := zac zDi
theorem zFB:aggA tab 102=some false:=by kernel_rfl
theorem zyX (cs:List Value) (o:Nat):zai tab 102 cs o=cs[o]? := zac zFB
theorem zGy:aggA tab 105=some false:=by kernel_rfl
theorem zyM (cs:List Value) (o:Nat):zai tab 105 cs o=cs[o]? := zac zGy
theorem zFL:aggA tab 106=some false:=by kernel_rfl
theorem zyF (cs:List Value) (o:Nat):zai tab 106 cs o=cs[o]? := zac zFL
theorem zDs:aggA tab 108=some false:=by kernel_rfl
theorem zz6 (cs:List Value) (o:Nat):zai tab 108 cs o=cs[o]? := zac zDs
theorem zE5:aggA tab 109=some false:=by kernel_rfl
theorem zyv (cs:List Value) (o:Nat):zai tab 109 cs o=cs[o]? := zac zE5
theorem zCQ:aggA tab 110=some false:=by kernel_rfl
theorem zBm (A o:Nat) (h:Heap):zaQ tab 110 (.pointer (some ⟨A,o,none⟩)) h=zdD (h.get A) o:=zbo zCQ
theorem zyI (cs:List Value) (o:Nat):zai tab 110 cs o=cs[o]? := zac zCQ
theorem zzJ:tab.desc 110=some (.slice 3):=by kernel_rfl
theorem zB6 (a:Option Addr) (n c:Nat) (h:Heap):lenA tab 110 (.slice a n c) h=some (.int .i64 n):=zbt zzJ
theorem zEi (n:Nat) (parts:List (Nat × Value)) (h:Heap):zaJ tab 110 n parts h=if n*1 > 16777216 || n > 16777216 then Option.none else (zds (fun i=>some (i*1,1)) (zbp [.int .i64 0] n) parts).map fun cs=>(.slice (some ⟨h.size,0,none⟩) n n,h.push (.row cs 3 false)):=bsl zzJ zmz n parts h
theorem zzp (A o n c:Nat) (ik:IntKind) (i:Int):zas tab 110 (.slice (some ⟨A,o,none⟩) n c) (.int ik i)=if 0≤i∧i < n then some (.pointer (some ⟨A,o+i.toNat*1,none⟩)) else none:=zbJ zzJ (by kernel_rfl)
theorem zDG:zax tab 111=some 1:=by kernel_rfl
theorem zDS:aggA tab 111=some true:=by kernel_rfl
theorem zyC (cs:List Value) (o:Nat):zai tab 111 cs o=(cut cs o 1).map fun l=>.agg l.toArray:=zau zDS zDG
theorem zDh:zax tab 112=some 1:=by kernel_rfl
theorem zE9:aggA tab 112=some true:=by kernel_rfl
theorem zBu (cs:List Value) (o:Nat):zai tab 112 cs o=(cut cs o 1).map fun l=>.agg l.toArray:=zau zE9 zDh
theorem zoq (A o:Nat):zaf tab 112 (.pointer (some ⟨A,o,none⟩)) 0=some (.pointer (some ⟨A,o+0,none⟩)):=Eq.refl _
theorem zBY:aggA tab 113=some false:=by kernel_rfl
theorem zzC (A o:Nat) (h:Heap):zaQ tab 113 (.pointer (some ⟨A,o,none⟩)) h=zdD (h.get A) o:=zbo zBY
theorem zBc (cs:List Value) (o:Nat):zai tab 113 cs o=cs[o]? := zac zBY
theorem zAt:tab.desc 113=some (.slice 136):=by kernel_rfl
theorem zBR (a:Option Addr) (n c:Nat) (h:Heap):lenA tab 113 (.slice a n c) h=some (.int .i64 n):=zbt zAt
theorem zGv (n:Nat) (parts:List (Nat × Value)) (h:Heap):zaJ tab 113 n parts h=if n*2 > 16777216 || n > 16777216 then Option.none else (zds (fun i=>some (i*2,2)) (zbp [.string ⟨#[]⟩,.int .i64 0] n) parts).map fun cs=>(.slice (some ⟨h.size,0,none⟩) n n,h.push (.row cs 136 false)):=bsl zAt zhT n parts h
theorem zAl (A o n c:Nat) (ik:IntKind) (i:Int):zas tab 113 (.slice (some ⟨A,o,none⟩) n c) (.int ik i)=if 0≤i∧i < n then some (.pointer (some ⟨A,o+i.toNat*2,none⟩)) else none:=zbJ zAt (by kernel_rfl)
theorem zEG:zax tab 114=some 3:=by kernel_rfl
theorem zD6:aggA tab 114=some true:=by kernel_rfl
theorem zyc (cs:List Value) (o:Nat):zai tab 114 cs o=(cut cs o 3).map fun l=>.agg l.toArray:=zau zD6 zEG
theorem zEd:zax tab 115=some 3:=by kernel_rfl
theorem zDy:aggA tab 115=some true:=by kernel_rfl
theorem zyp (cs:List Value) (o:Nat):zai tab 115 cs o=(cut cs o 3).map fun l=>.agg l.toArray:=zau zDy zEd
theorem zug (A o:Nat):zaf tab 115 (.pointer (some ⟨A,o,none⟩)) 0=some (.pointer (some ⟨A,o+0,none⟩)):=Eq.refl _
theorem znV (A o:Nat):zaf tab 115 (.pointer (some ⟨A,o,none⟩)) 1=some (.pointer (some ⟨A,o+1,none⟩)):=Eq.refl _
theorem zlj (A o:Nat):zaf tab 115 (.pointer (some ⟨A,o,none⟩)) 2=some (.pointer (some ⟨A,o+2,none⟩)):=Eq.refl _
theorem zFl:aggA tab 116=some false:=by kernel_rfl
theorem zAY (cs:List Value) (o:Nat):zai tab 116 cs o=cs[o]? := zac zFl
theorem zEA:aggA tab 117=some false:=by kernel_rfl
theorem zAE (cs:List Value) (o:Nat):zai tab 117 cs o=cs[o]? := zac zEA
theorem zFO:aggA tab 118=some false:=by kernel_rfl
theorem zAw (cs:List Value) (o:Nat):zai tab 118 cs o=cs[o]? := zac zFO
theorem zGA:aggA tab 119=some false:=by kernel_rfl
theorem zz0 (cs:List Value) (o:Nat):zai tab 119 cs o=cs[o]? := zac zGA
theorem zF9:aggA tab 120=some false:=by kernel_rfl
theorem zys (cs:List Value) (o:Nat):zai tab 120 cs o=cs[o]? := zac zF9
theorem zEE:aggA tab 121=some false:=by kernel_rfl
theorem zBr (cs:List Value) (o:Nat):zai tab 121 cs o=cs[o]? := zac zEE
theorem zDa:aggA tab 122=some false:=by kernel_rfl
theorem zA4 (cs:List Value) (o:Nat):zai tab 122 cs o=cs[o]? := zac zDa
theorem zF3:aggA tab 123=some false:=by kernel_rfl
theorem zyR (cs:List Value) (o:Nat):zai tab 123 cs o=cs[o]? := zac zF3
theorem zDm:aggA tab 124=some false:=by kernel_rfl
theorem zzO (cs:List Value) (o:Nat):zai tab 124 cs o=cs[o]? := zac zDm
theorem zF8:aggA tab 125=some false:=by kernel_rfl
theorem zyE (cs:List Value) (o:Nat):zai tab 125 cs o=cs[o]? := zac zF8
theorem zGs:zax tab 126=some 0:=by kernel_rfl
theorem zDD:aggA tab 126=some true:=by kernel_rfl
theorem zAN (cs:List Value) (o:Nat):zai tab 126 cs o=(cut cs o 0).map fun l=>.agg l.toArray:=zau zDD zGs
theorem zyz (P:Program) (ov:Ov) (d:Option Tmp) (ty:TypeId) (pos:String) (af:Array Edge) (g:Option (Nat × Bool)) (e:Env) (h:Heap) (K:Value→Heap→Prop):WOp P tab ov ⟨d,.alloc 126,ty,pos,af,g⟩ e h K=K (.pointer (some ⟨h.size,0,none⟩)) (h.push (.row [] 126 false)):=zdT d ty pos af g e h K 126 znK
theorem zFq:aggA tab 128=some false:=by kernel_rfl
theorem zA2 (cs:List Value) (o:Nat):zai tab 128 cs o=cs[o]? := zac zFq
theorem zGF:aggA tab 129=some false:=by kernel_rfl
theorem zyW (cs:List Value) (o:Nat):zai tab 129 cs o=cs[o]? := zac zGF
theorem zEZ:zax tab 130=some 1:=by kernel_rfl
theorem zyS:aggA tab 130=some false:=by kernel_rfl
theorem zF2 (A o:Nat) (h:Heap):zaQ tab 130 (.pointer (some ⟨A,o,none⟩)) h=zdD (h.get A) o:=zbo zyS
theorem zyb (cs:List Value) (o:Nat):zai tab 130 cs o=cs[o]? := zac zyS
theorem zDl:aggA tab 131=some false:=by kernel_rfl
theorem zAi (cs:List Value) (o:Nat):zai tab 131 cs o=cs[o]? := zac zDl
theorem zE0:aggA tab 132=some false:=by kernel_rfl
theorem zym (cs:List Value) (o:Nat):zai tab 132 cs o=cs[o]? := zac zE0
theorem zDe:aggA tab 133=some false:=by kernel_rfl
theorem zzf (cs:List Value) (o:Nat):zai tab 133 cs o=cs[o]? := zac zDe
theorem zF1:aggA tab 134=some false:=by kernel_rfl
theorem zBl (cs:List Value) (o:Nat):zai tab 134 cs o=cs[o]? := zac zF1
theorem zEs:zax tab 135=some 2:=by kernel_rfl
theorem zC5:aggA tab 135=some true:=by kernel_rfl
theorem zzg (cs:List Value) (o:Nat):zai tab 135 cs o=(cut cs o 2).map fun l=>.agg l.toArray:=zau zC5 zEs
theorem zF6:zax tab 136=some 2:=by kernel_rfl
theorem zFU:aggA tab 136=some true:=by kernel_rfl
theorem zzE (cs:List Value) (o:Nat):zai tab 136 cs o=(cut cs o 2).map fun l=>.agg l.toArray:=zau zFU zF6
theorem zAs (A o:Nat):zaf tab 136 (.pointer (some ⟨A,o,none⟩)) 0=some (.pointer (some ⟨A,o+0,none⟩)):=Eq.refl _
theorem znY (A o:Nat):zaf tab 136 (.pointer (some ⟨A,o,none⟩)) 1=some (.pointer (some ⟨A,o+1,none⟩)):=Eq.refl _
theorem zEp:aggA tab 137=some false:=by kernel_rfl
theorem zBt (cs:List Value) (o:Nat):zai tab 137 cs o=cs[o]? := zac zEp
theorem zEk:aggA tab 138=some false:=by kernel_rfl
theorem zzF (cs:List Value) (o:Nat):zai tab 138 cs o=cs[o]? := zac zEk
theorem zFI:aggA tab 139=some false:=by kernel_rfl
theorem zzz (cs:List Value) (o:Nat):zai tab 139 cs o=cs[o]? := zac zFI
theorem zFP:aggA tab 140=some false:=by kernel_rfl
theorem zyo (cs:List Value) (o:Nat):zai tab 140 cs o=cs[o]? := zac zFP
theorem zC1:aggA tab 141=some false:=by kernel_rfl
theorem zAv (cs:List Value) (o:Nat):zai tab 141 cs o=cs[o]? := zac zC1
theorem zEU:aggA tab 142=some false:=by kernel_rfl
theorem zA9 (cs:List Value) (o:Nat):zai tab 142 cs o=cs[o]? := zac zEU
theorem zEB:aggA tab 143=some false:=by kernel_rfl
theorem zBd (cs:List Value) (o:Nat):zai tab 143 cs o=cs[o]? := zac zEB
theorem zuT:tab.desc 143=some (.slice 130):=by kernel_rfl
theorem zEn (a:Option Addr) (n c:Nat) (h:Heap):lenA tab 143 (.slice a n c) h=some (.int .i64 n):=zbt zuT
theorem zmD (n:Nat) (parts:List (Nat × Value)) (h:Heap):zaJ tab 143 n parts h=if n*1 > 16777216 || n > 16777216 then Option.none else (zds (fun i=>some (i*1,1)) (zbp [.nilFunc] n) parts).map fun cs=>(.slice (some ⟨h.size,0,none⟩) n n,h.push (.row cs 130 false)):=bsl zuT zoH n parts h
theorem zFF (A o n c:Nat) (ik:IntKind) (i:Int):zas tab 143 (.slice (some ⟨A,o,none⟩) n c) (.int ik i)=if 0≤i∧i < n then some (.pointer (some ⟨A,o+i.toNat*1,none⟩)) else none:=zbJ zuT (by kernel_rfl)
theorem zDZ:aggA tab 144=some false:=by kernel_rfl
theorem zBg (cs:List Value) (o:Nat):zai tab 144 cs o=cs[o]? := zac zDZ
theorem zDY:aggA tab 145=some false:=by kernel_rfl
theorem zzA (cs:List Value) (o:Nat):zai tab 145 cs o=cs[o]? := zac zDY
theorem zFy:aggA tab 146=some false:=by kernel_rfl
theorem zBF (cs:List Value) (o:Nat):zai tab 146 cs o=cs[o]? := zac zFy
theorem zEt:aggA tab 147=some false:=by kernel_rfl
theorem zAL (cs:List Value) (o:Nat):zai tab 147 cs o=cs[o]? := zac zEt
theorem zET:aggA tab 148=some false:=by kernel_rfl
theorem zzM (cs:List Value) (o:Nat):zai tab 148 cs o=cs[o]? := zac zET
theorem zhU:tab.desc 148=some (.slice 39):=by kernel_rfl
theorem zxx (a:Option Addr) (n c:Nat) (h:Heap):lenA tab 148 (.slice a n c) h=some (.int .i64 n):=zbt zhU
theorem zvA (A o n c:Nat) (ik:IntKind) (i:Int):zas tab 148 (.slice (some ⟨A,o,none⟩) n c) (.int ik i)=if 0≤i∧i < n then some (.pointer (some ⟨A,o+i.toNat*2,none⟩)) else none:=zbJ zhU (by kernel_rfl)
theorem zEH:aggA tab 149=some false:=by kernel_rfl
theorem zAf (cs:List Value) (o:Nat):zai tab 149 cs o=cs[o]? := zac zEH
theorem zC8:aggA tab 150=some false:=by kernel_rfl
theorem zAO (cs:List Value) (o:Nat):zai tab 150 cs o=cs[o]? := zac zC8
theorem zFb:aggA tab 151=some false:=by kernel_rfl
theorem zyk (cs:List Value) (o:Nat):zai tab 151 cs o=cs[o]? := zac zFb
theorem zGr:aggA tab 152=some false:=by kernel_rfl
theorem zyq (cs:List Value) (o:Nat):zai tab 152 cs o=cs[o]? := zac zGr
theorem zED:aggA tab 153=some false:=by kernel_rfl
theorem zBf (cs:List Value) (o:Nat):zai tab 153 cs o=cs[o]? := zac zED
theorem zE2:aggA tab 154=some false:=by kernel_rfl
theorem zAn (cs:List Value) (o:Nat):zai tab 154 cs o=cs[o]? := zac zE2
theorem zC4:aggA tab 155=some false:=by kernel_rfl
theorem zyj (cs:List Value) (o:Nat):zai tab 155 cs o=cs[o]? := zac zC4
theorem zC6:aggA tab 156=some false:=by kernel_rfl
theorem zzT (cs:List Value) (o:Nat):zai tab 156 cs o=cs[o]? := zac zC6
theorem zFc:aggA tab 157=some false:=by kernel_rfl
theorem zAT (cs:List Value) (o:Nat):zai tab 157 cs o=cs[o]? := zac zFc
theorem zDN:aggA tab 158=some false:=by kernel_rfl
theorem zzQ (cs:List Value) (o:Nat):zai tab 158 cs o=cs[o]? := zac zDN
theorem zD5:aggA tab 159=some false:=by kernel_rfl
theorem zyg (cs:List Value) (o:Nat):zai tab 159 cs o=cs[o]? := zac zD5
theorem zDX:aggA tab 160=some false:=by kernel_rfl
theorem zA7 (cs:List Value) (o:Nat):zai tab 160 cs o=cs[o]? := zac zDX
theorem zDo:aggA tab 161=some false:=by kernel_rfl
theorem zAM (cs:List Value) (o:Nat):zai tab 161 cs o=cs[o]? := zac zDo
theorem zD9:aggA tab 162=some false:=by kernel_rfl
theorem zzV (cs:List Value) (o:Nat):zai tab 162 cs o=cs[o]? := zac zD9
theorem zF7:aggA tab 163=some false:=by kernel_rfl
theorem zAG (cs:List Value) (o:Nat):zai tab 163 cs o=cs[o]? := zac zF7
theorem zEF:aggA tab 164=some false:=by kernel_rfl
theorem zBs (cs:List Value) (o:Nat):zai tab 164 cs o=cs[o]? := zac zEF
theorem zFa:aggA tab 165=some false:=by kernel_rfl
theorem zAX (cs:List Value) (o:Nat):zai tab 165 cs o=cs[o]? := zac zFa
theorem zDJ:aggA tab 166=some false:=by kernel_rfl
theorem zz2 (cs:List Value) (o:Nat):zai tab 166 cs o=cs[o]? := zac zDJ
theorem zDu:aggA tab 167=some false:=by kernel_rfl
theorem zBj (cs:List Value) (o:Nat):zai tab 167 cs o=cs[o]? := zac zDu
theorem zEX:aggA tab 168=some false:=by kernel_rfl
theorem zzZ (cs:List Value) (o:Nat):zai tab 168 cs o=cs[o]? := zac zEX
theorem zEb:aggA tab 169=some false:=by kernel_rfl
theorem zyD (cs:List Value) (o:Nat):zai tab 169 cs o=cs[o]? := zac zEb
theorem zFg:aggA tab 170=some false:=by kernel_rfl
theorem zAb (cs:List Value) (o:Nat):zai tab 170 cs o=cs[o]? := zac zFg
theorem zFx:aggA tab 171=some false:=by kernel_rfl
theorem zy1 (cs:List Value) (o:Nat):zai tab 171 cs o=cs[o]? := zac zFx
theorem zFh:aggA tab 172=some false:=by kernel_rfl
theorem zBh (cs:List Value) (o:Nat):zai tab 172 cs o=cs[o]? := zac zFh
theorem zEg:aggA tab 173=some false:=by kernel_rfl
theorem zy0 (cs:List Value) (o:Nat):zai tab 173 cs o=cs[o]? := zac zEg
theorem zDp:aggA tab 174=some false:=by kernel_rfl
theorem zzW (cs:List Value) (o:Nat):zai tab 174 cs o=cs[o]? := zac zDp
theorem zFY:zax tab 175=some 2:=by kernel_rfl
theorem zCZ:aggA tab 175=some true:=by kernel_rfl
theorem zAu (cs:List Value) (o:Nat):zai tab 175 cs o=(cut cs o 2).map fun l=>.agg l.toArray:=zau zCZ zFY
theorem zDO:zax tab 176=some 2:=by kernel_rfl
theorem zGE:aggA tab 176=some true:=by kernel_rfl
theorem zzw (cs:List Value) (o:Nat):zai tab 176 cs o=(cut cs o 2).map fun l=>.agg l.toArray:=zau zGE zDO
theorem zDt:aggA tab 177=some false:=by kernel_rfl
theorem zzi (cs:List Value) (o:Nat):zai tab 177 cs o=cs[o]? := zac zDt
theorem zDq:aggA tab 178=some false:=by kernel_rfl
theorem zzI (cs:List Value) (o:Nat):zai tab 178 cs o=cs[o]? := zac zDq
theorem zEj:aggA tab 179=some false:=by kernel_rfl
theorem zzD (cs:List Value) (o:Nat):zai tab 179 cs o=cs[o]? := zac zEj
theorem zDK:aggA tab 181=some false:=by kernel_rfl
theorem zBe (cs:List Value) (o:Nat):zai tab 181 cs o=cs[o]? := zac zDK
theorem zFG:aggA tab 182=some false:=by kernel_rfl
theorem zBw (cs:List Value) (o:Nat):zai tab 182 cs o=cs[o]? := zac zFG
theorem zDE:zax tab 183=some 256:=by kernel_rfl
theorem zGw:aggA tab 183=some true:=by kernel_rfl
theorem zyY (cs:List Value) (o:Nat):zai tab 183 cs o=(cut cs o 256).map fun l=>.agg l.toArray:=zau zGw zDE
theorem zDV:aggA tab 184=some false:=by kernel_rfl
theorem zzx (cs:List Value) (o:Nat):zai tab 184 cs o=cs[o]? := zac zDV
theorem zFm:aggA tab 185=some false:=by kernel_rfl
theorem zAz (cs:List Value) (o:Nat):zai tab 185 cs o=cs[o]? := zac zFm
theorem zEh:aggA tab 186=some false:=by kernel_rfl
theorem zz3 (cs:List Value) (o:Nat):zai tab 186 cs o=cs[o]? := zac zEh
theorem zDv:aggA tab 187=some false:=by kernel_rfl
theorem zyQ (cs:List Value) (o:Nat):zai tab 187 cs o=cs[o]? := zac zDv
theorem zEe:zax tab 188=some 2:=by kernel_rfl
theorem zGi:aggA tab 188=some true:=by kernel_rfl
theorem zy7 (cs:List Value) (o:Nat):zai tab 188 cs o=(cut cs o 2).map fun l=>.agg l.toArray:=zau zGi zEe
theorem zC3:zax tab 189=some 2:=by kernel_rfl
theorem zEl:aggA tab 189=some true:=by kernel_rfl
theorem zzY (cs:List Value) (o:Nat):zai tab 189 cs o=(cut cs o 2).map fun l=>.agg l.toArray:=zau zEl zC3
theorem zGa:aggA tab 190=some false:=by kernel_rfl
theorem zyl (cs:List Value) (o:Nat):zai tab 190 cs o=cs[o]? := zac zGa
theorem zFN:aggA tab 191=some false:=by kernel_rfl
theorem zyd (cs:List Value) (o:Nat):zai tab 191 cs o=cs[o]? := zac zFN
theorem zC9:aggA tab 192=some false:=by kernel_rfl
theorem zAj (cs:List Value) (o:Nat):zai tab 192 cs o=cs[o]? := zac zC9
theorem zGh:aggA tab 193=some false:=by kernel_rfl
theorem zAh (cs:List Value) (o:Nat):zai tab 193 cs o=cs[o]? := zac zGh
theorem zFk:aggA tab 194=some false:=by kernel_rfl
theorem zy4 (cs:List Value) (o:Nat):zai tab 194 cs o=cs[o]? := zac zFk
theorem zGf:aggA tab 195=some false:=by kernel_rfl
theorem zyf (cs:List Value) (o:Nat):zai tab 195 cs o=cs[o]? := zac zGf
theorem zEN:aggA tab 196=some false:=by kernel_rfl
theorem zzv (cs:List Value) (o:Nat):zai tab 196 cs o=cs[o]? := zac zEN
theorem zGt:aggA tab 197=some false:=by kernel_rfl
theorem zyN (cs:List Value) (o:Nat):zai tab 197 cs o=cs[o]? := zac zGt
theorem zEM:zax tab 198=some 3:=by kernel_rfl
theorem zEW:aggA tab 198=some true:=by kernel_rfl
theorem zx7 (cs:List Value) (o:Nat):zai tab 198 cs o=(cut cs o 3).map fun l=>.agg l.toArray:=zau zEW zEM
theorem zDW:zax tab 199=some 3:=by kernel_rfl
theorem zDk:aggA tab 199=some true:=by kernel_rfl
theorem zAC (cs:List Value) (o:Nat):zai tab 199 cs o=(cut cs o 3).map fun l=>.agg l.toArray:=zau zDk zDW
theorem zDQ:aggA tab 200=some false:=by kernel_rfl
theorem zy2 (cs:List Value) (o:Nat):zai tab 200 cs o=cs[o]? := zac zDQ
theorem zE1:zax tab 201=some 3:=by kernel_rfl
theorem zFK:aggA tab 201=some true:=by kernel_rfl
theorem zzP (cs:List Value) (o:Nat):zai tab 201 cs o=(cut cs o 3).map fun l=>.agg l.toArray:=zau zFK zE1
theorem zDx:zax tab 202=some 3:=by kernel_rfl
theorem zGc:aggA tab 202=some true:=by kernel_rfl
theorem zAV (cs:List Value) (o:Nat):zai tab 202 cs o=(cut cs o 3).map fun l=>.agg l.toArray:=zau zGc zDx
theorem zFA:aggA tab 203=some false:=by kernel_rfl
theorem zAZ (cs:List Value) (o:Nat):zai tab 203 cs o=cs[o]? := zac zFA
theorem zDd:zax tab 204=some 3:=by kernel_rfl
theorem zDI:aggA tab 204=some true:=by kernel_rfl
theorem zyZ (cs:List Value) (o:Nat):zai tab 204 cs o=(cut cs o 3).map fun l=>.agg l.toArray:=zau zDI zDd
theorem zEC:zax tab 205=some 3:=by kernel_rfl
theorem zGg:aggA tab 205=some true:=by kernel_rfl
theorem zAS (cs:List Value) (o:Nat):zai tab 205 cs o=(cut cs o 3).map fun l=>.agg l.toArray:=zau zGg zEC
theorem zGI:aggA tab 206=some false:=by kernel_rfl
theorem zzR (cs:List Value) (o:Nat):zai tab 206 cs o=cs[o]? := zac zGI
theorem zEY:aggA tab 207=some false:=by kernel_rfl
theorem zyV (cs:List Value) (o:Nat):zai tab 207 cs o=cs[o]? := zac zEY
theorem zDj:aggA tab 208=some false:=by kernel_rfl
theorem zAc (cs:List Value) (o:Nat):zai tab 208 cs o=cs[o]? := zac zDj
theorem zFQ:zax tab 209=some 4:=by kernel_rfl
theorem zE8:aggA tab 209=some true:=by kernel_rfl
theorem zyP (cs:List Value) (o:Nat):zai tab 209 cs o=(cut cs o 4).map fun l=>.agg l.toArray:=zau zE8 zFQ
theorem zF5:zax tab 210=some 4:=by kernel_rfl
theorem zFE:aggA tab 210=some true:=by kernel_rfl
theorem zA5 (cs:List Value) (o:Nat):zai tab 210 cs o=(cut cs o 4).map fun l=>.agg l.toArray:=zau zFE zF5
theorem zEq:zax tab 211=some 0:=by kernel_rfl
theorem zFz:aggA tab 211=some true:=by kernel_rfl
theorem zzd (cs:List Value) (o:Nat):zai tab 211 cs o=(cut cs o 0).map fun l=>.agg l.toArray:=zau zFz zEq
theorem zFw:zax tab 212=some 0:=by kernel_rfl
theorem zGm:aggA tab 212=some true:=by kernel_rfl
theorem zBp (cs:List Value) (o:Nat):zai tab 212 cs o=(cut cs o 0).map fun l=>.agg l.toArray:=zau zGm zFw
theorem zFs:zax tab 213=some 0:=by kernel_rfl
theorem zFo:aggA tab 213=some true:=by kernel_rfl
theorem zzr (cs:List Value) (o:Nat):zai tab 213 cs o=(cut cs o 0).map fun l=>.agg l.toArray:=zau zFo zFs
theorem zDB:aggA tab 214=some false:=by kernel_rfl
theorem zx8 (cs:List Value) (o:Nat):zai tab 214 cs o=cs[o]? := zac zDB
theorem zE6:aggA tab 215=some false:=by kernel_rfl
theorem zyB (cs:List Value) (o:Nat):zai tab 215 cs o=cs[o]? := zac zE6
theorem zD8:aggA tab 216=some false:=by kernel_rfl
theorem zyi (cs:List Value) (o:Nat):zai tab 216 cs o=cs[o]? := zac zD8
theorem zDw:aggA tab 217=some false:=by kernel_rfl
theorem zBH (cs:List Value) (o:Nat):zai tab 217 cs o=cs[o]? := zac zDw
theorem zEr:aggA tab 218=some false:=by kernel_rfl
theorem zy8 (cs:List Value) (o:Nat):zai tab 218 cs o=cs[o]? := zac zEr
theorem zFi:zax tab 219=some 11:=by kernel_rfl
theorem zEf:aggA tab 219=some true:=by kernel_rfl
theorem zBv (cs:List Value) (o:Nat):zai tab 219 cs o=(cut cs o 11).map fun l=>.agg l.toArray:=zau zEf zFi
theorem zGp:zax tab 220=some 11:=by kernel_rfl
theorem zER:aggA tab 220=some true:=by kernel_rfl
theorem zyu (cs:List Value) (o:Nat):zai tab 220 cs o=(cut cs o 11).map fun l=>.agg l.toArray:=zau zER zGp
theorem fi3 (K:Value→Heap→Prop) (e:Env) (h:Heap):finE tab Tryz.f3 K .ret e h=K (e.get 4) h:=zam rfl
theorem fi4 (K:Value→Heap→Prop) (e:Env) (h:Heap):finE tab Tryz.f4 K .ret e h=K (e.get 8) h:=zam rfl
theorem fi5 (K:Value→Heap→Prop) (e:Env) (h:Heap):finE tab Tryz.f5 K .ret e h=K (e.get 4) h:=zam rfl
theorem fi6 (K:Value→Heap→Prop) (e:Env) (h:Heap):finE tab Tryz.f6 K .ret e h=K (e.get 4) h:=zam rfl
theorem fi8 (K:Value→Heap→Prop) (e:Env) (h:Heap):finE tab Tryz.f8 K .ret e h=valE (zaQ tab 29 (e.get 0) h) h K:=zlk rfl
theorem fi9 (K:Value→Heap→Prop) (e:Env) (h:Heap):finE tab Tryz.f9 K .ret e h=K (e.get 4) h:=zam rfl
theorem fi10 (K:Value→Heap→Prop) (e:Env) (h:Heap):finE tab Tryz.f10 K .ret e h=K (.tuple #[e.get 2,e.get 3]) h:=zdw rfl
theorem fi11 (K:Value→Heap→Prop) (e:Env) (h:Heap):finE tab Tryz.f11 K .ret e h=K (.tuple #[e.get 6,e.get 7]) h:=zdw rfl
theorem fi12 (K:Value→Heap→Prop) (e:Env) (h:Heap):finE tab Tryz.f12 K .ret e h=valE (zaQ tab 42 (e.get 6) h) h K:=zlk rfl
theorem fi13 (K:Value→Heap→Prop) (e:Env) (h:Heap):finE tab Tryz.f13 K .ret e h=K (e.get 4) h:=zam rfl
theorem fi14 (K:Value→Heap→Prop) (e:Env) (h:Heap):finE tab Tryz.f14 K .ret e h=K (e.get 4) h:=zam rfl
theorem fi15 (K:Value→Heap→Prop) (e:Env) (h:Heap):finE tab Tryz.f15 K .ret e h=K (e.get 2) h:=zam rfl
theorem fi16 (K:Value→Heap→Prop) (e:Env) (h:Heap):finE tab Tryz.f16 K .ret e h=K (.tuple #[e.get 6,e.get 7]) h:=zdw rfl
theorem fi17 (K:Value→Heap→Prop) (e:Env) (h:Heap):finE tab Tryz.f17 K .ret e h=K (e.get 2) h:=zam rfl
theorem fi18 (K:Value→Heap→Prop) (e:Env) (h:Heap):finE tab Tryz.f18 K .ret e h=K (e.get 2) h:=zam rfl
theorem fi19 (K:Value→Heap→Prop) (e:Env) (h:Heap):finE tab Tryz.f19 K .ret e h=K (e.get 2) h:=zam rfl
theorem fi20 (K:Value→Heap→Prop) (e:Env) (h:Heap):finE tab Tryz.f20 K .ret e h=K (e.get 4) h:=zam rfl
theorem fi21 (K:Value→Heap→Prop) (e:Env) (h:Heap):finE tab Tryz.f21 K .ret e h=K (e.get 4) h:=zam rfl
theorem fi22 (K:Value→Heap→Prop) (e:Env) (h:Heap):finE tab Tryz.f22 K .ret e h=K (e.get 4) h:=zam rfl
theorem fi24 (K:Value→Heap→Prop) (e:Env) (h:Heap):finE tab Tryz.f24 K .ret e h=K undef h:=zed rfl
theorem fj24 (K:Value→Heap→Prop) (e:Env) (h:Heap):finE tab Tryz.f24 K .normal e h=K undef h:=zcU rfl
theorem fi29 (K:Value→Heap→Prop) (e:Env) (h:Heap):finE tab Tryz.f29 K .ret e h=K (e.get 2) h:=zam rfl
theorem fi30 (K:Value→Heap→Prop) (e:Env) (h:Heap):finE tab Tryz.f30 K .ret e h=K (e.get 2) h:=zam rfl
theorem fi31 (K:Value→Heap→Prop) (e:Env) (h:Heap):finE tab Tryz.f31 K .ret e h=valE (zaQ tab 29 (e.get 2) h) h K:=zlk rfl
theorem fi32 (K:Value→Heap→Prop) (e:Env) (h:Heap):finE tab Tryz.f32 K .ret e h=K (.tuple #[e.get 10,e.get 11]) h:=zdw rfl
theorem fi33 (K:Value→Heap→Prop) (e:Env) (h:Heap):finE tab Tryz.f33 K .ret e h=K (.tuple #[e.get 4,e.get 5]) h:=zdw rfl
theorem fi34 (K:Value→Heap→Prop) (e:Env) (h:Heap):finE tab Tryz.f34 K .ret e h=K undef h:=zed rfl
theorem fj34 (K:Value→Heap→Prop) (e:Env) (h:Heap):finE tab Tryz.f34 K .normal e h=K undef h:=zcU rfl
theorem fi36 (K:Value→Heap→Prop) (e:Env) (h:Heap):finE tab Tryz.f36 K .ret e h=K (e.get 2) h:=zam rfl
theorem fi37 (K:Value→Heap→Prop) (e:Env) (h:Heap):finE tab Tryz.f37 K .ret e h=K (.tuple #[e.get 4,e.get 5]) h:=zdw rfl
theorem fi38 (K:Value→Heap→Prop) (e:Env) (h:Heap):finE tab Tryz.f38 K .ret e h=K undef h:=zed rfl
theorem fj38 (K:Value→Heap→Prop) (e:Env) (h:Heap):finE tab Tryz.f38 K .normal e h=K undef h:=zcU rfl
theorem fi39 (K:Value→Heap→Prop) (e:Env) (h:Heap):finE tab Tryz.f39 K .ret e h=K (e.get 6) h:=zam rfl
theorem fi40 (K:Value→Heap→Prop) (e:Env) (h:Heap):finE tab Tryz.f40 K .ret e h=K (e.get 4) h:=zam rfl
theorem fi41 (K:Value→Heap→Prop) (e:Env) (h:Heap):finE tab Tryz.f41 K .ret e h=K (e.get 2) h:=zam rfl
theorem fi52 (K:Value→Heap→Prop) (e:Env) (h:Heap):finE tab Tryz.f52 K .ret e h=K (e.get 2) h:=zam rfl
theorem fi53 (K:Value→Heap→Prop) (e:Env) (h:Heap):finE tab Tryz.f53 K .ret e h=K (e.get 2) h:=zam rfl
theorem fi54 (K:Value→Heap→Prop) (e:Env) (h:Heap):finE tab Tryz.f54 K .ret e h=K (e.get 2) h:=zam rfl
theorem fi55 (K:Value→Heap→Prop) (e:Env) (h:Heap):finE tab Tryz.f55 K .ret e h=K (e.get 2) h:=zam rfl
theorem fi56 (K:Value→Heap→Prop) (e:Env) (h:Heap):finE tab Tryz.f56 K .ret e h=K (e.get 2) h:=zam rfl
theorem fi57 (K:Value→Heap→Prop) (e:Env) (h:Heap):finE tab Tryz.f57 K .ret e h=K (e.get 0) h:=zam rfl
theorem fi58 (K:Value→Heap→Prop) (e:Env) (h:Heap):finE tab Tryz.f58 K .ret e h=K (e.get 2) h:=zam rfl
theorem fi59 (K:Value→Heap→Prop) (e:Env) (h:Heap):finE tab Tryz.f59 K .ret e h=K (e.get 2) h:=zam rfl
theorem fi60 (K:Value→Heap→Prop) (e:Env) (h:Heap):finE tab Tryz.f60 K .ret e h=K (e.get 6) h:=zam rfl
theorem fi61 (K:Value→Heap→Prop) (e:Env) (h:Heap):finE tab Tryz.f61 K .ret e h=K (e.get 2) h:=zam rfl
theorem fi62 (K:Value→Heap→Prop) (e:Env) (h:Heap):finE tab Tryz.f62 K .ret e h=K (.tuple #[e.get 4,e.get 5]) h:=zdw rfl
theorem fi64 (K:Value→Heap→Prop) (e:Env) (h:Heap):finE tab Tryz.f64 K .ret e h=K (e.get 2) h:=zam rfl
theorem fi65 (K:Value→Heap→Prop) (e:Env) (h:Heap):finE tab Tryz.f65 K .ret e h=K (.tuple #[e.get 4,e.get 5]) h:=zdw rfl
theorem fi66 (K:Value→Heap→Prop) (e:Env) (h:Heap):finE tab Tryz.f66 K .ret e h=K (e.get 6) h:=zam rfl
theorem fi67 (K:Value→Heap→Prop) (e:Env) (h:Heap):finE tab Tryz.f67 K .ret e h=K (.tuple #[e.get 4,e.get 5]) h:=zdw rfl
theorem fi68 (K:Value→Heap→Prop) (e:Env) (h:Heap):finE tab Tryz.f68 K .ret e h=K (e.get 4) h:=zam rfl
theorem fi77 (K:Value→Heap→Prop) (e:Env) (h:Heap):finE tab Tryz.f77 K .ret e h=K (e.get 2) h:=zam rfl
theorem fi78 (K:Value→Heap→Prop) (e:Env) (h:Heap):finE tab Tryz.f78 K .ret e h=K (e.get 4) h:=zam rfl
theorem fi79 (K:Value→Heap→Prop) (e:Env) (h:Heap):finE tab Tryz.f79 K .ret e h=K (e.get 2) h:=zam rfl
theorem fi80 (K:Value→Heap→Prop) (e:Env) (h:Heap):finE tab Tryz.f80 K .ret e h=K (e.get 2) h:=zam rfl
theorem fi81 (K:Value→Heap→Prop) (e:Env) (h:Heap):finE tab Tryz.f81 K .ret e h=K (e.get 4) h:=zam rfl
theorem fi82 (K:Value→Heap→Prop) (e:Env) (h:Heap):finE tab Tryz.f82 K .ret e h=K (e.get 2) h:=zam rfl
theorem fi83 (K:Value→Heap→Prop) (e:Env) (h:Heap):finE tab Tryz.f83 K .ret e h=K (e.get 4) h:=zam rfl
theorem fi84 (K:Value→Heap→Prop) (e:Env) (h:Heap):finE tab Tryz.f84 K .ret e h=K (e.get 2) h:=zam rfl
theorem fi85 (K:Value→Heap→Prop) (e:Env) (h:Heap):finE tab Tryz.f85 K .ret e h=K (e.get 6) h:=zam rfl
theorem fi86 (K:Value→Heap→Prop) (e:Env) (h:Heap):finE tab Tryz.f86 K .ret e h=K (e.get 1) h:=zam rfl
theorem fi87 (K:Value→Heap→Prop) (e:Env) (h:Heap):finE tab Tryz.f87 K .ret e h=K (e.get 2) h:=zam rfl
theorem fi88 (K:Value→Heap→Prop) (e:Env) (h:Heap):finE tab Tryz.f88 K .ret e h=K (e.get 2) h:=zam rfl
theorem fi89 (K:Value→Heap→Prop) (e:Env) (h:Heap):finE tab Tryz.f89 K .ret e h=K (e.get 2) h:=zam rfl
theorem fi90 (K:Value→Heap→Prop) (e:Env) (h:Heap):finE tab Tryz.f90 K .ret e h=K (e.get 4) h:=zam rfl
theorem fi91 (K:Value→Heap→Prop) (e:Env) (h:Heap):finE tab Tryz.f91 K .ret e h=K (e.get 2) h:=zam rfl
theorem fi92 (K:Value→Heap→Prop) (e:Env) (h:Heap):finE tab Tryz.f92 K .ret e h=K (e.get 2) h:=zam rfl
theorem fi93 (K:Value→Heap→Prop) (e:Env) (h:Heap):finE tab Tryz.f93 K .ret e h=K (e.get 2) h:=zam rfl
theorem fi94 (K:Value→Heap→Prop) (e:Env) (h:Heap):finE tab Tryz.f94 K .ret e h=K (.tuple #[e.get 6,e.get 7]) h:=zdw rfl
theorem fi95 (K:Value→Heap→Prop) (e:Env) (h:Heap):finE tab Tryz.f95 K .ret e h=K (e.get 4) h:=zam rfl
theorem fi98 (K:Value→Heap→Prop) (e:Env) (h:Heap):finE tab Tryz.f98 K .ret e h=K (e.get 4) h:=zam rfl
theorem fi99 (K:Value→Heap→Prop) (e:Env) (h:Heap):finE tab Tryz.f99 K .ret e h=K (e.get 2) h:=zam rfl
theorem zDL (K:Value→Heap→Prop) (e:Env) (h:Heap):finE tab Tryz.f100 K .ret e h=K (e.get 2) h:=zam rfl
theorem zFR (K:Value→Heap→Prop) (e:Env) (h:Heap):finE tab Tryz.f101 K .ret e h=K (e.get 4) h:=zam rfl
theorem zEo (K:Value→Heap→Prop) (e:Env) (h:Heap):finE tab Tryz.f102 K .ret e h=K undef h:=zed rfl
theorem zDb (K:Value→Heap→Prop) (e:Env) (h:Heap):finE tab Tryz.f102 K .normal e h=K undef h:=zcU rfl
theorem zDr (K:Value→Heap→Prop) (e:Env) (h:Heap):finE tab Tryz.f107 K .ret e h=K (e.get 2) h:=zam rfl
theorem zEK (K:Value→Heap→Prop) (e:Env) (h:Heap):finE tab Tryz.f108 K .ret e h=K (e.get 6) h:=zam rfl
theorem zDC (K:Value→Heap→Prop) (e:Env) (h:Heap):finE tab Tryz.f109 K .ret e h=K (e.get 2) h:=zam rfl
theorem zGb (K:Value→Heap→Prop) (e:Env) (h:Heap):finE tab Tryz.f110 K .ret e h=K (e.get 2) h:=zam rfl
theorem zEV (K:Value→Heap→Prop) (e:Env) (h:Heap):finE tab Tryz.f111 K .ret e h=K (e.get 2) h:=zam rfl
theorem zFW (K:Value→Heap→Prop) (e:Env) (h:Heap):finE tab Tryz.f112 K .ret e h=K (e.get 4) h:=zam rfl
theorem zE7 (K:Value→Heap→Prop) (e:Env) (h:Heap):finE tab Tryz.f113 K .ret e h=K (e.get 2) h:=zam rfl
theorem zFd (K:Value→Heap→Prop) (e:Env) (h:Heap):finE tab Tryz.f114 K .ret e h=K (e.get 2) h:=zam rfl
theorem zEu (K:Value→Heap→Prop) (e:Env) (h:Heap):finE tab Tryz.f115 K .ret e h=K (e.get 2) h:=zam rfl
theorem zD4 (K:Value→Heap→Prop) (e:Env) (h:Heap):finE tab Tryz.f116 K .ret e h=K (e.get 4) h:=zam rfl
theorem zDM (K:Value→Heap→Prop) (e:Env) (h:Heap):finE tab Tryz.f117 K .ret e h=K (e.get 3) h:=zam rfl
theorem zEL (K:Value→Heap→Prop) (e:Env) (h:Heap):finE tab Tryz.f118 K .ret e h=K (.tuple #[e.get 4,e.get 5]) h:=zdw rfl
theorem zGD (K:Value→Heap→Prop) (e:Env) (h:Heap):finE tab Tryz.f119 K .ret e h=K (e.get 1) h:=zam rfl
theorem zE4 (K:Value→Heap→Prop) (e:Env) (h:Heap):finE tab Tryz.f120 K .ret e h=K (e.get 2) h:=zam rfl
theorem zDP (K:Value→Heap→Prop) (e:Env) (h:Heap):finE tab Tryz.f121 K .ret e h=K (e.get 4) h:=zam rfl
theorem zGu (K:Value→Heap→Prop) (e:Env) (h:Heap):finE tab Tryz.f122 K .ret e h=K (e.get 2) h:=zam rfl
theorem zGJ (K:Value→Heap→Prop) (e:Env) (h:Heap):finE tab Tryz.f123 K .ret e h=K (e.get 2) h:=zam rfl
theorem zFv (K:Value→Heap→Prop) (e:Env) (h:Heap):finE tab Tryz.f124 K .ret e h=K undef h:=zed rfl
theorem zD0 (K:Value→Heap→Prop) (e:Env) (h:Heap):finE tab Tryz.f124 K .normal e h=K undef h:=zcU rfl
theorem zDn (K:Value→Heap→Prop) (e:Env) (h:Heap):finE tab Tryz.f125 K .ret e h=K (e.get 4) h:=zam rfl
theorem zEm (K:Value→Heap→Prop) (e:Env) (h:Heap):finE tab Tryz.f126 K .ret e h=K (e.get 4) h:=zam rfl
theorem zGH (K:Value→Heap→Prop) (e:Env) (h:Heap):finE tab Tryz.f128 K .ret e h=K (e.get 2) h:=zam rfl
theorem zD7 (K:Value→Heap→Prop) (e:Env) (h:Heap):finE tab Tryz.f130 K .ret e h=K (e.get 6) h:=zam rfl
theorem zF0 (K:Value→Heap→Prop) (e:Env) (h:Heap):finE tab Tryz.f131 K .ret e h=K undef h:=zed rfl
theorem zEO (K:Value→Heap→Prop) (e:Env) (h:Heap):finE tab Tryz.f131 K .normal e h=K undef h:=zcU rfl
theorem zD1 (K:Value→Heap→Prop) (e:Env) (h:Heap):finE tab Tryz.f135 K .ret e h=K (e.get 2) h:=zam rfl
theorem zE3 (K:Value→Heap→Prop) (e:Env) (h:Heap):finE tab Tryz.f136 K .ret e h=K (e.get 0) h:=zam rfl
theorem zDT (K:Value→Heap→Prop) (e:Env) (h:Heap):finE tab Tryz.f137 K .ret e h=K (e.get 4) h:=zam rfl
theorem zDc (K:Value→Heap→Prop) (e:Env) (h:Heap):finE tab Tryz.f138 K .ret e h=K (e.get 4) h:=zam rfl
theorem zC7 (K:Value→Heap→Prop) (e:Env) (h:Heap):finE tab Tryz.f139 K .ret e h=K (e.get 2) h:=zam rfl
theorem zEx (K:Value→Heap→Prop) (e:Env) (h:Heap):finE tab Tryz.f140 K .ret e h=K (e.get 2) h:=zam rfl
theorem zFn (K:Value→Heap→Prop) (e:Env) (h:Heap):finE tab Tryz.f141 K .ret e h=K (e.get 4) h:=zam rfl
theorem zFV (K:Value→Heap→Prop) (e:Env) (h:Heap):finE tab Tryz.f142 K .ret e h=K undef h:=zed rfl
theorem zFD (K:Value→Heap→Prop) (e:Env) (h:Heap):finE tab Tryz.f142 K .normal e h=K undef h:=zcU rfl
theorem zGd (K:Value→Heap→Prop) (e:Env) (h:Heap):finE tab Tryz.f150 K .ret e h=K (e.get 2) h:=zam rfl
theorem zC2 (K:Value→Heap→Prop) (e:Env) (h:Heap):finE tab Tryz.f151 K .ret e h=K (e.get 2) h:=zam rfl
theorem zEQ (K:Value→Heap→Prop) (e:Env) (h:Heap):finE tab Tryz.f152 K .ret e h=K undef h:=zed rfl
theorem zCd (K:Value→Heap→Prop) (e:Env) (h:Heap):finE tab Tryz.f152 K .normal e h=K undef h:=zcU rfl
theorem zGG (K:Value→Heap→Prop) (e:Env) (h:Heap):finE tab Tryz.f153 K .ret e h=K undef h:=zed rfl
theorem zEJ (K:Value→Heap→Prop) (e:Env) (h:Heap):finE tab Tryz.f153 K .normal e h=K undef h:=zcU rfl
theorem zDA (K:Value→Heap→Prop) (e:Env) (h:Heap):finE tab Tryz.f161 K .ret e h=K (e.get 2) h:=zam rfl
theorem zDz (K:Value→Heap→Prop) (e:Env) (h:Heap):finE tab Tryz.f162 K .ret e h=K (e.get 2) h:=zam rfl
theorem zC0 (K:Value→Heap→Prop) (e:Env) (h:Heap):finE tab Tryz.f163 K .ret e h=K (e.get 2) h:=zam rfl
theorem zFr (K:Value→Heap→Prop) (e:Env) (h:Heap):finE tab Tryz.f164 K .ret e h=K undef h:=zed rfl
theorem zGx (K:Value→Heap→Prop) (e:Env) (h:Heap):finE tab Tryz.f164 K .normal e h=K undef h:=zcU rfl
theorem zGk (K:Value→Heap→Prop) (e:Env) (h:Heap):finE tab Tryz.f168 K .ret e h=K undef h:=zed rfl
theorem zFj (K:Value→Heap→Prop) (e:Env) (h:Heap):finE tab Tryz.f168 K .normal e h=K undef h:=zcU rfl
theorem zDR (K:Value→Heap→Prop) (e:Env) (h:Heap):finE tab Tryz.f189 K .ret e h=K (e.get 6) h:=zam rfl
theorem zEw (K:Value→Heap→Prop) (e:Env) (h:Heap):finE tab Tryz.f190 K .ret e h=K (e.get 2) h:=zam rfl
theorem zGz (K:Value→Heap→Prop) (e:Env) (h:Heap):finE tab Tryz.f191 K .ret e h=K undef h:=zed rfl
theorem zGC (K:Value→Heap→Prop) (e:Env) (h:Heap):finE tab Tryz.f191 K .normal e h=K undef h:=zcU rfl
theorem zFf (K:Value→Heap→Prop) (e:Env) (h:Heap):finE tab Tryz.f192 K .ret e h=K undef h:=zed rfl
theorem zDU (K:Value→Heap→Prop) (e:Env) (h:Heap):finE tab Tryz.f192 K .normal e h=K undef h:=zcU rfl
end Go.Proofs.YtdplfgoifjjniaaGreatDoor

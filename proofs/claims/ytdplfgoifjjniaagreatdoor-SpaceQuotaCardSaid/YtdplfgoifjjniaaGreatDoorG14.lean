/- What the plain machine's operations come to at this seat's types. Written by a program (mksim.py). No condition. -/
import Derived.Test.YtdplfgoifjjniaaGreatDoorG13
namespace Go.Proofs.YtdplfgoifjjniaaGreatDoor
open Go.Am
theorem ag1:aggA tab 1=some false:=by kernel_rfl
theorem pt1 (cs:List Value) (o:Nat):zaf tab 1 cs o=cs[o]? := zac ag1
theorem ag2:aggA tab 2=some false:=by kernel_rfl
theorem pt2 (cs:List Value) (o:Nat):zaf tab 2 cs o=cs[o]? := zac ag2
theorem sz3:zau tab 3=some 1:=by kernel_rfl
theorem ag3:aggA tab 3=some false:=by kernel_rfl
theorem ld3 (A o:Nat) (h:Heap):zaL tab 3 (.pointer (some ⟨A,o,none⟩)) h=zdq (h.get A) o:=zbm ag3
theorem pt3 (cs:List Value) (o:Nat):zaf tab 3 cs o=cs[o]? := zac ag3
theorem sz4:zau tab 4=some 1:=by kernel_rfl
theorem ag4:aggA tab 4=some false:=by kernel_rfl
theorem ld4 (A o:Nat) (h:Heap):zaL tab 4 (.pointer (some ⟨A,o,none⟩)) h=zdq (h.get A) o:=zbm ag4
theorem pt4 (cs:List Value) (o:Nat):zaf tab 4 cs o=cs[o]? := zac ag4
theorem ag5:aggA tab 5=some false:=by kernel_rfl
theorem pt5 (cs:List Value) (o:Nat):zaf tab 5 cs o=cs[o]? := zac ag5
theorem ag6:aggA tab 6=some false:=by kernel_rfl
theorem pt6 (cs:List Value) (o:Nat):zaf tab 6 cs o=cs[o]? := zac ag6
theorem sz7:zau tab 7=some 4:=by kernel_rfl
theorem ag7:aggA tab 7=some true:=by kernel_rfl
theorem pt7 (cs:List Value) (o:Nat):zaf tab 7 cs o=(cut cs o 4).map fun l=>.agg l.toArray:=zap ag7 sz7
theorem sz8:zau tab 8=some 4:=by kernel_rfl
theorem ag8:aggA tab 8=some true:=by kernel_rfl
theorem pt8 (cs:List Value) (o:Nat):zaf tab 8 cs o=(cut cs o 4).map fun l=>.agg l.toArray:=zap ag8 sz8
theorem sz9:zau tab 9=some 1:=by kernel_rfl
theorem ag9:aggA tab 9=some false:=by kernel_rfl
theorem ld9 (A o:Nat) (h:Heap):zaL tab 9 (.pointer (some ⟨A,o,none⟩)) h=zdq (h.get A) o:=zbm ag9
theorem pt9 (cs:List Value) (o:Nat):zaf tab 9 cs o=cs[o]? := zac ag9
theorem ds9:tab.desc 9=some .string:=by kernel_rfl
theorem ln9 (s:ByteArray) (h:Heap):lenA tab 9 (.string s) h=some (.int .i64 s.size):=zvl ds9
theorem ag10:aggA tab 10=some false:=by kernel_rfl
theorem pt10 (cs:List Value) (o:Nat):zaf tab 10 cs o=cs[o]? := zac ag10
theorem ag11:aggA tab 11=some false:=by kernel_rfl
theorem pt11 (cs:List Value) (o:Nat):zaf tab 11 cs o=cs[o]? := zac ag11
theorem ag12:aggA tab 12=some false:=by kernel_rfl
theorem pt12 (cs:List Value) (o:Nat):zaf tab 12 cs o=cs[o]? := zac ag12
theorem sz13:zau tab 13=some 2:=by kernel_rfl
theorem ag13:aggA tab 13=some true:=by kernel_rfl
theorem pt13 (cs:List Value) (o:Nat):zaf tab 13 cs o=(cut cs o 2).map fun l=>.agg l.toArray:=zap ag13 sz13
theorem sz14:zau tab 14=some 2:=by kernel_rfl
theorem ag14:aggA tab 14=some true:=by kernel_rfl
theorem pt14 (cs:List Value) (o:Nat):zaf tab 14 cs o=(cut cs o 2).map fun l=>.agg l.toArray:=zap ag14 sz14
theorem ag15:aggA tab 15=some false:=by kernel_rfl
theorem pt15 (cs:List Value) (o:Nat):zaf tab 15 cs o=cs[o]? := zac ag15
theorem ag16:aggA tab 16=some false:=by kernel_rfl
theorem pt16 (cs:List Value) (o:Nat):zaf tab 16 cs o=cs[o]? := zac ag16
theorem ag17:aggA tab 17=some false:=by kernel_rfl
theorem pt17 (cs:List Value) (o:Nat):zaf tab 17 cs o=cs[o]? := zac ag17
theorem sz18:zau tab 18=some 1:=by kernel_rfl
theorem ag18:aggA tab 18=some true:=by kernel_rfl
theorem pt18 (cs:List Value) (o:Nat):zaf tab 18 cs o=(cut cs o 1).map fun l=>.agg l.toArray:=zap ag18 sz18
theorem sz19:zau tab 19=some 1:=by kernel_rfl
theorem ag19:aggA tab 19=some true:=by kernel_rfl
theorem pt19 (cs:List Value) (o:Nat):zaf tab 19 cs o=(cut cs o 1).map fun l=>.agg l.toArray:=zap ag19 sz19
theorem ag20:aggA tab 20=some false:=by kernel_rfl
theorem pt20 (cs:List Value) (o:Nat):zaf tab 20 cs o=cs[o]? := zac ag20
theorem ag21:aggA tab 21=some false:=by kernel_rfl
theorem pt21 (cs:List Value) (o:Nat):zaf tab 21 cs o=cs[o]? := zac ag21
theorem ag22:aggA tab 22=some false:=by kernel_rfl
theorem pt22 (cs:List Value) (o:Nat):zaf tab 22 cs o=cs[o]? := zac ag22
theorem sz23:zau tab 23=some 1:=by kernel_rfl
theorem ag23:aggA tab 23=some false:=by kernel_rfl
theorem ld23 (A o:Nat) (h:Heap):zaL tab 23 (.pointer (some ⟨A,o,none⟩)) h=zdq (h.get A) o:=zbm ag23
theorem pt23 (cs:List Value) (o:Nat):zaf tab 23 cs o=cs[o]? := zac ag23
theorem al23 (P:Program) (ov:Ov) (d:Option Tmp) (ty:TypeId) (pos:String) (af:Array Edge) (g:Option (Nat × Bool)) (e:Env) (h:Heap) (K:Value→Heap→Prop):WOp P tab ov ⟨d,.alloc 23,ty,pos,af,g⟩ e h K=K (.pointer (some ⟨h.size,0,none⟩)) (h.push (.row [.slice none 0 0] 23 false)):=zdV d ty pos af g e h K 23 zrb
theorem ds23:tab.desc 23=some (.slice 9):=by kernel_rfl
theorem ln23 (a:Option Addr) (n c:Nat) (h:Heap):lenA tab 23 (.slice a n c) h=some (.int .i64 n):=zbq ds23
theorem bs23 (n:Nat) (parts:List (Nat × Value)) (h:Heap):zaB tab 23 n parts h=if n*1 > 16777216 || n > 16777216 then Option.none else (zcP (fun i=>some (i*1,1)) (zbo [.string ⟨#[]⟩] n) parts).map fun cs=>(.slice (some ⟨h.size,0,none⟩) n n,h.push (.row cs 9 false)):=bsl ds23 zeg n parts h
theorem ix23 (A o n c:Nat) (ik:IntKind) (i:Int):zao tab 23 (.slice (some ⟨A,o,none⟩) n c) (.int ik i)=if 0≤i∧i < n then some (.pointer (some ⟨A,o+i.toNat*1,none⟩)) else none:=zbK ds23 (by kernel_rfl)
theorem ag24:aggA tab 24=some false:=by kernel_rfl
theorem ld24 (A o:Nat) (h:Heap):zaL tab 24 (.pointer (some ⟨A,o,none⟩)) h=zdq (h.get A) o:=zbm ag24
theorem pt24 (cs:List Value) (o:Nat):zaf tab 24 cs o=cs[o]? := zac ag24
theorem ds24:tab.desc 24=some (.slice 67):=by kernel_rfl
theorem ln24 (a:Option Addr) (n c:Nat) (h:Heap):lenA tab 24 (.slice a n c) h=some (.int .i64 n):=zbq ds24
theorem bs24 (n:Nat) (parts:List (Nat × Value)) (h:Heap):zaB tab 24 n parts h=if n*2 > 16777216 || n > 16777216 then Option.none else (zcP (fun i=>some (i*2,2)) (zbo [.string ⟨#[]⟩,.int .i64 0] n) parts).map fun cs=>(.slice (some ⟨h.size,0,none⟩) n n,h.push (.row cs 67 false)):=bsl ds24 zhi n parts h
theorem ix24 (A o n c:Nat) (ik:IntKind) (i:Int):zao tab 24 (.slice (some ⟨A,o,none⟩) n c) (.int ik i)=if 0≤i∧i < n then some (.pointer (some ⟨A,o+i.toNat*2,none⟩)) else none:=zbK ds24 (by kernel_rfl)
theorem ag25:aggA tab 25=some false:=by kernel_rfl
theorem ld25 (A o:Nat) (h:Heap):zaL tab 25 (.pointer (some ⟨A,o,none⟩)) h=zdq (h.get A) o:=zbm ag25
theorem pt25 (cs:List Value) (o:Nat):zaf tab 25 cs o=cs[o]? := zac ag25
theorem ds25:tab.desc 25=some (.slice 69):=by kernel_rfl
theorem ln25 (a:Option Addr) (n c:Nat) (h:Heap):lenA tab 25 (.slice a n c) h=some (.int .i64 n):=zbq ds25
theorem bs25 (n:Nat) (parts:List (Nat × Value)) (h:Heap):zaB tab 25 n parts h=if n*2 > 16777216 || n > 16777216 then Option.none else (zcP (fun i=>some (i*2,2)) (zbo [.string ⟨#[]⟩,.slice none 0 0] n) parts).map fun cs=>(.slice (some ⟨h.size,0,none⟩) n n,h.push (.row cs 69 false)):=bsl ds25 zkl n parts h
theorem ix25 (A o n c:Nat) (ik:IntKind) (i:Int):zao tab 25 (.slice (some ⟨A,o,none⟩) n c) (.int ik i)=if 0≤i∧i < n then some (.pointer (some ⟨A,o+i.toNat*2,none⟩)) else none:=zbK ds25 (by kernel_rfl)
theorem ag26:aggA tab 26=some false:=by kernel_rfl
theorem ld26 (A o:Nat) (h:Heap):zaL tab 26 (.pointer (some ⟨A,o,none⟩)) h=zdq (h.get A) o:=zbm ag26
theorem pt26 (cs:List Value) (o:Nat):zaf tab 26 cs o=cs[o]? := zac ag26
theorem ds26:tab.desc 26=some (.slice 71):=by kernel_rfl
theorem ln26 (a:Option Addr) (n c:Nat) (h:Heap):lenA tab 26 (.slice a n c) h=some (.int .i64 n):=zbq ds26
theorem bs26 (n:Nat) (parts:List (Nat × Value)) (h:Heap):zaB tab 26 n parts h=if n*12 > 16777216 || n > 16777216 then Option.none else (zcP (fun i=>some (i*12,12)) (zbo [.string ⟨#[]⟩,.string ⟨#[]⟩,.int .i64 0,.bool false,.string ⟨#[]⟩,.bool false,.string ⟨#[]⟩,.bool false,.string ⟨#[]⟩,.bool false,.string ⟨#[]⟩,.slice none 0 0] n) parts).map fun cs=>(.slice (some ⟨h.size,0,none⟩) n n,h.push (.row cs 71 false)):=bsl ds26 zkm n parts h
theorem ix26 (A o n c:Nat) (ik:IntKind) (i:Int):zao tab 26 (.slice (some ⟨A,o,none⟩) n c) (.int ik i)=if 0≤i∧i < n then some (.pointer (some ⟨A,o+i.toNat*12,none⟩)) else none:=zbK ds26 (by kernel_rfl)
theorem ag27:aggA tab 27=some false:=by kernel_rfl
theorem ld27 (A o:Nat) (h:Heap):zaL tab 27 (.pointer (some ⟨A,o,none⟩)) h=zdq (h.get A) o:=zbm ag27
theorem pt27 (cs:List Value) (o:Nat):zaf tab 27 cs o=cs[o]? := zac ag27
theorem ds27:tab.desc 27=some (.slice 73):=by kernel_rfl
theorem ln27 (a:Option Addr) (n c:Nat) (h:Heap):lenA tab 27 (.slice a n c) h=some (.int .i64 n):=zbq ds27
theorem bs27 (n:Nat) (parts:List (Nat × Value)) (h:Heap):zaB tab 27 n parts h=if n*13 > 16777216 || n > 16777216 then Option.none else (zcP (fun i=>some (i*13,13)) (zbo [.string ⟨#[]⟩,.string ⟨#[]⟩,.string ⟨#[]⟩,.int .i64 0,.bool false,.string ⟨#[]⟩,.bool false,.string ⟨#[]⟩,.bool false,.string ⟨#[]⟩,.bool false,.string ⟨#[]⟩,.slice none 0 0] n) parts).map fun cs=>(.slice (some ⟨h.size,0,none⟩) n n,h.push (.row cs 73 false)):=bsl ds27 zkn n parts h
theorem ix27 (A o n c:Nat) (ik:IntKind) (i:Int):zao tab 27 (.slice (some ⟨A,o,none⟩) n c) (.int ik i)=if 0≤i∧i < n then some (.pointer (some ⟨A,o+i.toNat*13,none⟩)) else none:=zbK ds27 (by kernel_rfl)
theorem sz28:zau tab 28=some 7:=by kernel_rfl
theorem ag28:aggA tab 28=some true:=by kernel_rfl
theorem pt28 (cs:List Value) (o:Nat):zaf tab 28 cs o=(cut cs o 7).map fun l=>.agg l.toArray:=zap ag28 sz28
theorem sz29:zau tab 29=some 7:=by kernel_rfl
theorem ag29:aggA tab 29=some true:=by kernel_rfl
theorem ld29 (A o:Nat) (h:Heap):zaL tab 29 (.pointer (some ⟨A,o,none⟩)) h=cutO (h.get A) o 7:=zdi ag29 sz29
theorem pt29 (cs:List Value) (o:Nat):zaf tab 29 cs o=(cut cs o 7).map fun l=>.agg l.toArray:=zap ag29 sz29
theorem al29 (P:Program) (ov:Ov) (d:Option Tmp) (ty:TypeId) (pos:String) (af:Array Edge) (g:Option (Nat × Bool)) (e:Env) (h:Heap) (K:Value→Heap→Prop):WOp P tab ov ⟨d,.alloc 29,ty,pos,af,g⟩ e h K=K (.pointer (some ⟨h.size,0,none⟩)) (h.push (.row [.slice none 0 0,.slice none 0 0,.slice none 0 0,.int .i64 0,.int .i64 0,.slice none 0 0,.slice none 0 0] 29 false)):=zdV d ty pos af g e h K 29 zrc
theorem zmd (A o:Nat):zak tab 29 (.pointer (some ⟨A,o,none⟩)) 0=some (.pointer (some ⟨A,o+0,none⟩)):=Eq.refl _
theorem zse (A o:Nat):zak tab 29 (.pointer (some ⟨A,o,none⟩)) 1=some (.pointer (some ⟨A,o+1,none⟩)):=Eq.refl _
theorem zAl (A o:Nat):zak tab 29 (.pointer (some ⟨A,o,none⟩)) 2=some (.pointer (some ⟨A,o+2,none⟩)):=Eq.refl _
theorem zme (A o:Nat):zak tab 29 (.pointer (some ⟨A,o,none⟩)) 3=some (.pointer (some ⟨A,o+3,none⟩)):=Eq.refl _
theorem zAm (A o:Nat):zak tab 29 (.pointer (some ⟨A,o,none⟩)) 4=some (.pointer (some ⟨A,o+4,none⟩)):=Eq.refl _
theorem zxq (A o:Nat):zak tab 29 (.pointer (some ⟨A,o,none⟩)) 5=some (.pointer (some ⟨A,o+5,none⟩)):=Eq.refl _
theorem zxr (A o:Nat):zak tab 29 (.pointer (some ⟨A,o,none⟩)) 6=some (.pointer (some ⟨A,o+6,none⟩)):=Eq.refl _
theorem ag30:aggA tab 30=some false:=by kernel_rfl
theorem pt30 (cs:List Value) (o:Nat):zaf tab 30 cs o=cs[o]? := zac ag30
theorem ag31:aggA tab 31=some false:=by kernel_rfl
theorem pt31 (cs:List Value) (o:Nat):zaf tab 31 cs o=cs[o]? := zac ag31
theorem ag32:aggA tab 32=some false:=by kernel_rfl
theorem pt32 (cs:List Value) (o:Nat):zaf tab 32 cs o=cs[o]? := zac ag32
theorem ag33:aggA tab 33=some false:=by kernel_rfl
theorem ld33 (A o:Nat) (h:Heap):zaL tab 33 (.pointer (some ⟨A,o,none⟩)) h=zdq (h.get A) o:=zbm ag33
theorem pt33 (cs:List Value) (o:Nat):zaf tab 33 cs o=cs[o]? := zac ag33
theorem ag35:aggA tab 35=some false:=by kernel_rfl
theorem pt35 (cs:List Value) (o:Nat):zaf tab 35 cs o=cs[o]? := zac ag35
theorem ag37:aggA tab 37=some false:=by kernel_rfl
theorem pt37 (cs:List Value) (o:Nat):zaf tab 37 cs o=cs[o]? := zac ag37
theorem sz38:zau tab 38=some 2:=by kernel_rfl
theorem ag38:aggA tab 38=some true:=by kernel_rfl
theorem pt38 (cs:List Value) (o:Nat):zaf tab 38 cs o=(cut cs o 2).map fun l=>.agg l.toArray:=zap ag38 sz38
theorem sz39:zau tab 39=some 2:=by kernel_rfl
theorem ag39:aggA tab 39=some true:=by kernel_rfl
theorem ld39 (A o:Nat) (h:Heap):zaL tab 39 (.pointer (some ⟨A,o,none⟩)) h=cutO (h.get A) o 2:=zdi ag39 sz39
theorem pt39 (cs:List Value) (o:Nat):zaf tab 39 cs o=(cut cs o 2).map fun l=>.agg l.toArray:=zap ag39 sz39
theorem al39 (P:Program) (ov:Ov) (d:Option Tmp) (ty:TypeId) (pos:String) (af:Array Edge) (g:Option (Nat × Bool)) (e:Env) (h:Heap) (K:Value→Heap→Prop):WOp P tab ov ⟨d,.alloc 39,ty,pos,af,g⟩ e h K=K (.pointer (some ⟨h.size,0,none⟩)) (h.push (.row [.bool false,.string ⟨#[]⟩] 39 false)):=zdV d ty pos af g e h K 39 zrd
theorem zpg (A o:Nat):zak tab 39 (.pointer (some ⟨A,o,none⟩)) 0=some (.pointer (some ⟨A,o+0,none⟩)):=Eq.refl _
theorem zsf (A o:Nat):zak tab 39 (.pointer (some ⟨A,o,none⟩)) 1=some (.pointer (some ⟨A,o+1,none⟩)):=Eq.refl _
theorem sz40:zau tab 40=some 8:=by kernel_rfl
theorem ag40:aggA tab 40=some true:=by kernel_rfl
theorem pt40 (cs:List Value) (o:Nat):zaf tab 40 cs o=(cut cs o 8).map fun l=>.agg l.toArray:=zap ag40 sz40
theorem ds40:tab.desc 40=some (.array 4 39):=by kernel_rfl
theorem ix40 (A o:Nat) (ik:IntKind) (i:Int):zao tab 40 (.pointer (some ⟨A,o,none⟩)) (.int ik i)=if 0≤i∧i < 4 then some (.pointer (some ⟨A,o+i.toNat*2,none⟩)) else none:=zyL ds40 (by kernel_rfl)
theorem sz41:zau tab 41=some 11:=by kernel_rfl
theorem ag41:aggA tab 41=some true:=by kernel_rfl
theorem pt41 (cs:List Value) (o:Nat):zaf tab 41 cs o=(cut cs o 11).map fun l=>.agg l.toArray:=zap ag41 sz41
theorem sz42:zau tab 42=some 11:=by kernel_rfl
theorem ag42:aggA tab 42=some true:=by kernel_rfl
theorem ld42 (A o:Nat) (h:Heap):zaL tab 42 (.pointer (some ⟨A,o,none⟩)) h=cutO (h.get A) o 11:=zdi ag42 sz42
theorem pt42 (cs:List Value) (o:Nat):zaf tab 42 cs o=(cut cs o 11).map fun l=>.agg l.toArray:=zap ag42 sz42
theorem al42 (P:Program) (ov:Ov) (d:Option Tmp) (ty:TypeId) (pos:String) (af:Array Edge) (g:Option (Nat × Bool)) (e:Env) (h:Heap) (K:Value→Heap→Prop):WOp P tab ov ⟨d,.alloc 42,ty,pos,af,g⟩ e h K=K (.pointer (some ⟨h.size,0,none⟩)) (h.push (.row [.string ⟨#[]⟩,.string ⟨#[]⟩,.int .i64 0,.bool false,.string ⟨#[]⟩,.bool false,.string ⟨#[]⟩,.bool false,.string ⟨#[]⟩,.bool false,.string ⟨#[]⟩] 42 false)):=zdV d ty pos af g e h K 42 zef
theorem zif (A o:Nat):zak tab 42 (.pointer (some ⟨A,o,none⟩)) 0=some (.pointer (some ⟨A,o+0,none⟩)):=Eq.refl _
theorem zsg (A o:Nat):zak tab 42 (.pointer (some ⟨A,o,none⟩)) 1=some (.pointer (some ⟨A,o+1,none⟩)):=Eq.refl _
theorem zsh (A o:Nat):zak tab 42 (.pointer (some ⟨A,o,none⟩)) 2=some (.pointer (some ⟨A,o+2,none⟩)):=Eq.refl _
theorem zsi (A o:Nat):zak tab 42 (.pointer (some ⟨A,o,none⟩)) 3=some (.pointer (some ⟨A,o+3,none⟩)):=Eq.refl _
theorem ag43:aggA tab 43=some false:=by kernel_rfl
theorem pt43 (cs:List Value) (o:Nat):zaf tab 43 cs o=cs[o]? := zac ag43
theorem ag44:aggA tab 44=some false:=by kernel_rfl
theorem pt44 (cs:List Value) (o:Nat):zaf tab 44 cs o=cs[o]? := zac ag44
theorem ag45:aggA tab 45=some false:=by kernel_rfl
theorem pt45 (cs:List Value) (o:Nat):zaf tab 45 cs o=cs[o]? := zac ag45
theorem ag46:aggA tab 46=some false:=by kernel_rfl
theorem pt46 (cs:List Value) (o:Nat):zaf tab 46 cs o=cs[o]? := zac ag46
theorem ag47:aggA tab 47=some false:=by kernel_rfl
theorem pt47 (cs:List Value) (o:Nat):zaf tab 47 cs o=cs[o]? := zac ag47
theorem ag48:aggA tab 48=some false:=by kernel_rfl
theorem pt48 (cs:List Value) (o:Nat):zaf tab 48 cs o=cs[o]? := zac ag48
theorem ds48:tab.desc 48=some (.slice 57):=by kernel_rfl
theorem ln48 (a:Option Addr) (n c:Nat) (h:Heap):lenA tab 48 (.slice a n c) h=some (.int .i64 n):=zbq ds48
theorem ix48 (A o n c:Nat) (ik:IntKind) (i:Int):zao tab 48 (.slice (some ⟨A,o,none⟩) n c) (.int ik i)=if 0≤i∧i < n then some (.pointer (some ⟨A,o+i.toNat*13,none⟩)) else none:=zbK ds48 (by kernel_rfl)
theorem ag49:aggA tab 49=some false:=by kernel_rfl
theorem pt49 (cs:List Value) (o:Nat):zaf tab 49 cs o=cs[o]? := zac ag49
theorem ag50:aggA tab 50=some false:=by kernel_rfl
theorem pt50 (cs:List Value) (o:Nat):zaf tab 50 cs o=cs[o]? := zac ag50
theorem ag51:aggA tab 51=some false:=by kernel_rfl
theorem pt51 (cs:List Value) (o:Nat):zaf tab 51 cs o=cs[o]? := zac ag51
theorem ag52:aggA tab 52=some false:=by kernel_rfl
theorem ld52 (A o:Nat) (h:Heap):zaL tab 52 (.pointer (some ⟨A,o,none⟩)) h=zdq (h.get A) o:=zbm ag52
theorem pt52 (cs:List Value) (o:Nat):zaf tab 52 cs o=cs[o]? := zac ag52
theorem ds52:tab.desc 52=some (.slice 42):=by kernel_rfl
theorem ln52 (a:Option Addr) (n c:Nat) (h:Heap):lenA tab 52 (.slice a n c) h=some (.int .i64 n):=zbq ds52
theorem bs52 (n:Nat) (parts:List (Nat × Value)) (h:Heap):zaB tab 52 n parts h=if n*11 > 16777216 || n > 16777216 then Option.none else (zcP (fun i=>some (i*11,11)) (zbo [.string ⟨#[]⟩,.string ⟨#[]⟩,.int .i64 0,.bool false,.string ⟨#[]⟩,.bool false,.string ⟨#[]⟩,.bool false,.string ⟨#[]⟩,.bool false,.string ⟨#[]⟩] n) parts).map fun cs=>(.slice (some ⟨h.size,0,none⟩) n n,h.push (.row cs 42 false)):=bsl ds52 zef n parts h
theorem ix52 (A o n c:Nat) (ik:IntKind) (i:Int):zao tab 52 (.slice (some ⟨A,o,none⟩) n c) (.int ik i)=if 0≤i∧i < n then some (.pointer (some ⟨A,o+i.toNat*11,none⟩)) else none:=zbK ds52 (by kernel_rfl)
theorem ag53:aggA tab 53=some false:=by kernel_rfl
theorem pt53 (cs:List Value) (o:Nat):zaf tab 53 cs o=cs[o]? := zac ag53
theorem ag54:aggA tab 54=some false:=by kernel_rfl
theorem ld54 (A o:Nat) (h:Heap):zaL tab 54 (.pointer (some ⟨A,o,none⟩)) h=zdq (h.get A) o:=zbm ag54
theorem pt54 (cs:List Value) (o:Nat):zaf tab 54 cs o=cs[o]? := zac ag54
theorem ag55:aggA tab 55=some false:=by kernel_rfl
theorem pt55 (cs:List Value) (o:Nat):zaf tab 55 cs o=cs[o]? := zac ag55
theorem sz56:zau tab 56=some 13:=by kernel_rfl
theorem ag56:aggA tab 56=some true:=by kernel_rfl
theorem pt56 (cs:List Value) (o:Nat):zaf tab 56 cs o=(cut cs o 13).map fun l=>.agg l.toArray:=zap ag56 sz56
theorem sz57:zau tab 57=some 13:=by kernel_rfl
theorem ag57:aggA tab 57=some true:=by kernel_rfl
theorem ld57 (A o:Nat) (h:Heap):zaL tab 57 (.pointer (some ⟨A,o,none⟩)) h=cutO (h.get A) o 13:=zdi ag57 sz57
theorem pt57 (cs:List Value) (o:Nat):zaf tab 57 cs o=(cut cs o 13).map fun l=>.agg l.toArray:=zap ag57 sz57
theorem zxs (A o:Nat):zak tab 57 (.pointer (some ⟨A,o,none⟩)) 0=some (.pointer (some ⟨A,o+0,none⟩)):=Eq.refl _
theorem zsj (A o:Nat):zak tab 57 (.pointer (some ⟨A,o,none⟩)) 1=some (.pointer (some ⟨A,o+1,none⟩)):=Eq.refl _
theorem zxt (A o:Nat):zak tab 57 (.pointer (some ⟨A,o,none⟩)) 2=some (.pointer (some ⟨A,o+2,none⟩)):=Eq.refl _
theorem ag58:aggA tab 58=some false:=by kernel_rfl
theorem pt58 (cs:List Value) (o:Nat):zaf tab 58 cs o=cs[o]? := zac ag58
theorem ag59:aggA tab 59=some false:=by kernel_rfl
theorem pt59 (cs:List Value) (o:Nat):zaf tab 59 cs o=cs[o]? := zac ag59
theorem ag60:aggA tab 60=some false:=by kernel_rfl
theorem pt60 (cs:List Value) (o:Nat):zaf tab 60 cs o=cs[o]? := zac ag60
theorem ag61:aggA tab 61=some false:=by kernel_rfl
theorem pt61 (cs:List Value) (o:Nat):zaf tab 61 cs o=cs[o]? := zac ag61
theorem sz62:zau tab 62=some 1:=by kernel_rfl
theorem ag62:aggA tab 62=some false:=by kernel_rfl
theorem ld62 (A o:Nat) (h:Heap):zaL tab 62 (.pointer (some ⟨A,o,none⟩)) h=zdq (h.get A) o:=zbm ag62
theorem pt62 (cs:List Value) (o:Nat):zaf tab 62 cs o=cs[o]? := zac ag62
theorem ag63:aggA tab 63=some false:=by kernel_rfl
theorem ld63 (A o:Nat) (h:Heap):zaL tab 63 (.pointer (some ⟨A,o,none⟩)) h=zdq (h.get A) o:=zbm ag63
theorem pt63 (cs:List Value) (o:Nat):zaf tab 63 cs o=cs[o]? := zac ag63
theorem ag64:aggA tab 64=some false:=by kernel_rfl
theorem pt64 (cs:List Value) (o:Nat):zaf tab 64 cs o=cs[o]? := zac ag64
theorem ag65:aggA tab 65=some false:=by kernel_rfl
theorem pt65 (cs:List Value) (o:Nat):zaf tab 65 cs o=cs[o]? := zac ag65
theorem sz66:zau tab 66=some 2:=by kernel_rfl
theorem ag66:aggA tab 66=some true:=by kernel_rfl
theorem pt66 (cs:List Value) (o:Nat):zaf tab 66 cs o=(cut cs o 2).map fun l=>.agg l.toArray:=zap ag66 sz66
theorem sz67:zau tab 67=some 2:=by kernel_rfl
theorem ag67:aggA tab 67=some true:=by kernel_rfl
theorem ld67 (A o:Nat) (h:Heap):zaL tab 67 (.pointer (some ⟨A,o,none⟩)) h=cutO (h.get A) o 2:=zdi ag67 sz67
theorem pt67 (cs:List Value) (o:Nat):zaf tab 67 cs o=(cut cs o 2).map fun l=>.agg l.toArray:=zap ag67 sz67
theorem al67 (P:Program) (ov:Ov) (d:Option Tmp) (ty:TypeId) (pos:String) (af:Array Edge) (g:Option (Nat × Bool)) (e:Env) (h:Heap) (K:Value→Heap→Prop):WOp P tab ov ⟨d,.alloc 67,ty,pos,af,g⟩ e h K=K (.pointer (some ⟨h.size,0,none⟩)) (h.push (.row [.string ⟨#[]⟩,.int .i64 0] 67 false)):=zdV d ty pos af g e h K 67 zhi
theorem zxu (A o:Nat):zak tab 67 (.pointer (some ⟨A,o,none⟩)) 0=some (.pointer (some ⟨A,o+0,none⟩)):=Eq.refl _
theorem zxv (A o:Nat):zak tab 67 (.pointer (some ⟨A,o,none⟩)) 1=some (.pointer (some ⟨A,o+1,none⟩)):=Eq.refl _
theorem sz68:zau tab 68=some 2:=by kernel_rfl
theorem ag68:aggA tab 68=some true:=by kernel_rfl
theorem pt68 (cs:List Value) (o:Nat):zaf tab 68 cs o=(cut cs o 2).map fun l=>.agg l.toArray:=zap ag68 sz68
theorem sz69:zau tab 69=some 2:=by kernel_rfl
theorem ag69:aggA tab 69=some true:=by kernel_rfl
theorem ld69 (A o:Nat) (h:Heap):zaL tab 69 (.pointer (some ⟨A,o,none⟩)) h=cutO (h.get A) o 2:=zdi ag69 sz69
theorem pt69 (cs:List Value) (o:Nat):zaf tab 69 cs o=(cut cs o 2).map fun l=>.agg l.toArray:=zap ag69 sz69
theorem al69 (P:Program) (ov:Ov) (d:Option Tmp) (ty:TypeId) (pos:String) (af:Array Edge) (g:Option (Nat × Bool)) (e:Env) (h:Heap) (K:Value→Heap→Prop):WOp P tab ov ⟨d,.alloc 69,ty,pos,af,g⟩ e h K=K (.pointer (some ⟨h.size,0,none⟩)) (h.push (.row [.string ⟨#[]⟩,.slice none 0 0] 69 false)):=zdV d ty pos af g e h K 69 zkl
theorem zxw (A o:Nat):zak tab 69 (.pointer (some ⟨A,o,none⟩)) 0=some (.pointer (some ⟨A,o+0,none⟩)):=Eq.refl _
theorem zAn (A o:Nat):zak tab 69 (.pointer (some ⟨A,o,none⟩)) 1=some (.pointer (some ⟨A,o+1,none⟩)):=Eq.refl _
theorem sz70:zau tab 70=some 12:=by kernel_rfl
theorem ag70:aggA tab 70=some true:=by kernel_rfl
theorem pt70 (cs:List Value) (o:Nat):zaf tab 70 cs o=(cut cs o 12).map fun l=>.agg l.toArray:=zap ag70 sz70
theorem sz71:zau tab 71=some 12:=by kernel_rfl
theorem ag71:aggA tab 71=some true:=by kernel_rfl
theorem ld71 (A o:Nat) (h:Heap):zaL tab 71 (.pointer (some ⟨A,o,none⟩)) h=cutO (h.get A) o 12:=zdi ag71 sz71
theorem pt71 (cs:List Value) (o:Nat):zaf tab 71 cs o=(cut cs o 12).map fun l=>.agg l.toArray:=zap ag71 sz71
theorem al71 (P:Program) (ov:Ov) (d:Option Tmp) (ty:TypeId) (pos:String) (af:Array Edge) (g:Option (Nat × Bool)) (e:Env) (h:Heap) (K:Value→Heap→Prop):WOp P tab ov ⟨d,.alloc 71,ty,pos,af,g⟩ e h K=K (.pointer (some ⟨h.size,0,none⟩)) (h.push (.row [.string ⟨#[]⟩,.string ⟨#[]⟩,.int .i64 0,.bool false,.string ⟨#[]⟩,.bool false,.string ⟨#[]⟩,.bool false,.string ⟨#[]⟩,.bool false,.string ⟨#[]⟩,.slice none 0 0] 71 false)):=zdV d ty pos af g e h K 71 zkm
theorem zxx (A o:Nat):zak tab 71 (.pointer (some ⟨A,o,none⟩)) 0=some (.pointer (some ⟨A,o+0,none⟩)):=Eq.refl _
theorem zxy (A o:Nat):zak tab 71 (.pointer (some ⟨A,o,none⟩)) 1=some (.pointer (some ⟨A,o+11,none⟩)):=Eq.refl _
theorem sz72:zau tab 72=some 13:=by kernel_rfl
theorem ag72:aggA tab 72=some true:=by kernel_rfl
theorem pt72 (cs:List Value) (o:Nat):zaf tab 72 cs o=(cut cs o 13).map fun l=>.agg l.toArray:=zap ag72 sz72
theorem sz73:zau tab 73=some 13:=by kernel_rfl
theorem ag73:aggA tab 73=some true:=by kernel_rfl
theorem ld73 (A o:Nat) (h:Heap):zaL tab 73 (.pointer (some ⟨A,o,none⟩)) h=cutO (h.get A) o 13:=zdi ag73 sz73
theorem pt73 (cs:List Value) (o:Nat):zaf tab 73 cs o=(cut cs o 13).map fun l=>.agg l.toArray:=zap ag73 sz73
theorem al73 (P:Program) (ov:Ov) (d:Option Tmp) (ty:TypeId) (pos:String) (af:Array Edge) (g:Option (Nat × Bool)) (e:Env) (h:Heap) (K:Value→Heap→Prop):WOp P tab ov ⟨d,.alloc 73,ty,pos,af,g⟩ e h K=K (.pointer (some ⟨h.size,0,none⟩)) (h.push (.row [.string ⟨#[]⟩,.string ⟨#[]⟩,.string ⟨#[]⟩,.int .i64 0,.bool false,.string ⟨#[]⟩,.bool false,.string ⟨#[]⟩,.bool false,.string ⟨#[]⟩,.bool false,.string ⟨#[]⟩,.slice none 0 0] 73 false)):=zdV d ty pos af g e h K 73 zkn
theorem zAo (A o:Nat):zak tab 73 (.pointer (some ⟨A,o,none⟩)) 0=some (.pointer (some ⟨A,o+0,none⟩)):=Eq.refl _
theorem zxz (A o:Nat):zak tab 73 (.pointer (some ⟨A,o,none⟩)) 1=some (.pointer (some ⟨A,o+1,none⟩)):=Eq.refl _
theorem zAp (A o:Nat):zak tab 73 (.pointer (some ⟨A,o,none⟩)) 2=some (.pointer (some ⟨A,o+12,none⟩)):=Eq.refl _
theorem ag74:aggA tab 74=some false:=by kernel_rfl
theorem pt74 (cs:List Value) (o:Nat):zaf tab 74 cs o=cs[o]? := zac ag74
theorem ag75:aggA tab 75=some false:=by kernel_rfl
theorem pt75 (cs:List Value) (o:Nat):zaf tab 75 cs o=cs[o]? := zac ag75
theorem ag76:aggA tab 76=some false:=by kernel_rfl
theorem ld76 (A o:Nat) (h:Heap):zaL tab 76 (.pointer (some ⟨A,o,none⟩)) h=zdq (h.get A) o:=zbm ag76
theorem pt76 (cs:List Value) (o:Nat):zaf tab 76 cs o=cs[o]? := zac ag76
theorem sz77:zau tab 77=some 1:=by kernel_rfl
theorem ag77:aggA tab 77=some true:=by kernel_rfl
theorem pt77 (cs:List Value) (o:Nat):zaf tab 77 cs o=(cut cs o 1).map fun l=>.agg l.toArray:=zap ag77 sz77
theorem sz78:zau tab 78=some 1:=by kernel_rfl
theorem ag78:aggA tab 78=some true:=by kernel_rfl
theorem ld78 (A o:Nat) (h:Heap):zaL tab 78 (.pointer (some ⟨A,o,none⟩)) h=cutO (h.get A) o 1:=zdi ag78 sz78
theorem pt78 (cs:List Value) (o:Nat):zaf tab 78 cs o=(cut cs o 1).map fun l=>.agg l.toArray:=zap ag78 sz78
theorem zsk (A o:Nat):zak tab 78 (.pointer (some ⟨A,o,none⟩)) 0=some (.pointer (some ⟨A,o+0,none⟩)):=Eq.refl _
theorem ag79:aggA tab 79=some false:=by kernel_rfl
theorem ld79 (A o:Nat) (h:Heap):zaL tab 79 (.pointer (some ⟨A,o,none⟩)) h=zdq (h.get A) o:=zbm ag79
theorem pt79 (cs:List Value) (o:Nat):zaf tab 79 cs o=cs[o]? := zac ag79
theorem sz80:zau tab 80=some 9:=by kernel_rfl
theorem ag80:aggA tab 80=some true:=by kernel_rfl
theorem pt80 (cs:List Value) (o:Nat):zaf tab 80 cs o=(cut cs o 9).map fun l=>.agg l.toArray:=zap ag80 sz80
theorem sz81:zau tab 81=some 9:=by kernel_rfl
theorem ag81:aggA tab 81=some true:=by kernel_rfl
theorem pt81 (cs:List Value) (o:Nat):zaf tab 81 cs o=(cut cs o 9).map fun l=>.agg l.toArray:=zap ag81 sz81
theorem zsl (A o:Nat):zak tab 81 (.pointer (some ⟨A,o,none⟩)) 0=some (.pointer (some ⟨A,o+0,none⟩)):=Eq.refl _
theorem zxA (A o:Nat):zak tab 81 (.pointer (some ⟨A,o,none⟩)) 1=some (.pointer (some ⟨A,o+1,none⟩)):=Eq.refl _
theorem zxB (A o:Nat):zak tab 81 (.pointer (some ⟨A,o,none⟩)) 2=some (.pointer (some ⟨A,o+8,none⟩)):=Eq.refl _
theorem ag82:aggA tab 82=some false:=by kernel_rfl
theorem pt82 (cs:List Value) (o:Nat):zaf tab 82 cs o=cs[o]? := zac ag82
theorem ag83:aggA tab 83=some false:=by kernel_rfl
theorem pt83 (cs:List Value) (o:Nat):zaf tab 83 cs o=cs[o]? := zac ag83
theorem ag84:aggA tab 84=some false:=by kernel_rfl
theorem pt84 (cs:List Value) (o:Nat):zaf tab 84 cs o=cs[o]? := zac ag84
theorem ag85:aggA tab 85=some false:=by kernel_rfl
theorem pt85 (cs:List Value) (o:Nat):zaf tab 85 cs o=cs[o]? := zac ag85
theorem sz86:zau tab 86=some 2:=by kernel_rfl
theorem ag86:aggA tab 86=some true:=by kernel_rfl
theorem pt86 (cs:List Value) (o:Nat):zaf tab 86 cs o=(cut cs o 2).map fun l=>.agg l.toArray:=zap ag86 sz86
theorem sz87:zau tab 87=some 2:=by kernel_rfl
theorem ag87:aggA tab 87=some true:=by kernel_rfl
theorem pt87 (cs:List Value) (o:Nat):zaf tab 87 cs o=(cut cs o 2).map fun l=>.agg l.toArray:=zap ag87 sz87
theorem al87 (P:Program) (ov:Ov) (d:Option Tmp) (ty:TypeId) (pos:String) (af:Array Edge) (g:Option (Nat × Bool)) (e:Env) (h:Heap) (K:Value→Heap→Prop):WOp P tab ov ⟨d,.alloc 87,ty,pos,af,g⟩ e h K=K (.pointer (some ⟨h.size,0,none⟩)) (h.push (.row [.slice none 0 0,.int .u64 0] 87 false)):=zdV d ty pos af g e h K 87 zrf
theorem zAq (A o:Nat):zak tab 87 (.pointer (some ⟨A,o,none⟩)) 0=some (.pointer (some ⟨A,o+0,none⟩)):=Eq.refl _
theorem zAs (cs:Array Value):zih tab 87 (.agg cs) 0=zaf tab 52 cs.toList 0:=Eq.refl _
theorem zAr (A o:Nat):zak tab 87 (.pointer (some ⟨A,o,none⟩)) 1=some (.pointer (some ⟨A,o+1,none⟩)):=Eq.refl _
theorem ag88:aggA tab 88=some false:=by kernel_rfl
theorem pt88 (cs:List Value) (o:Nat):zaf tab 88 cs o=cs[o]? := zac ag88
theorem ag89:aggA tab 89=some false:=by kernel_rfl
theorem pt89 (cs:List Value) (o:Nat):zaf tab 89 cs o=cs[o]? := zac ag89
theorem ag90:aggA tab 90=some false:=by kernel_rfl
theorem pt90 (cs:List Value) (o:Nat):zaf tab 90 cs o=cs[o]? := zac ag90
theorem ag91:aggA tab 91=some false:=by kernel_rfl
theorem pt91 (cs:List Value) (o:Nat):zaf tab 91 cs o=cs[o]? := zac ag91
theorem ag92:aggA tab 92=some false:=by kernel_rfl
theorem pt92 (cs:List Value) (o:Nat):zaf tab 92 cs o=cs[o]? := zac ag92
theorem ag93:aggA tab 93=some false:=by kernel_rfl
theorem pt93 (cs:List Value) (o:Nat):zaf tab 93 cs o=cs[o]? := zac ag93
theorem ag94:aggA tab 94=some false:=by kernel_rfl
theorem pt94 (cs:List Value) (o:Nat):zaf tab 94 cs o=cs[o]? := zac ag94
theorem ag95:aggA tab 95=some false:=by kernel_rfl
theorem pt95 (cs:List Value) (o:Nat):zaf tab 95 cs o=cs[o]? := zac ag95
theorem ag96:aggA tab 96=some false:=by kernel_rfl
theorem pt96 (cs:List Value) (o:Nat):zaf tab 96 cs o=cs[o]? := zac ag96
theorem ag97:aggA tab 97=some false:=by kernel_rfl
theorem pt97 (cs:List Value) (o:Nat):zaf tab 97 cs o=cs[o]? := zac ag97
theorem ag98:aggA tab 98=some false:=by kernel_rfl
theorem pt98 (cs:List Value) (o:Nat):zaf tab 98 cs o=cs[o]? := zac ag98
theorem ds98:tab.desc 98=some (.slice 62):=by kernel_rfl
theorem ln98 (a:Option Addr) (n c:Nat) (h:Heap):lenA tab 98 (.slice a n c) h=some (.int .i64 n):=zbq ds98
theorem bs98 (n:Nat) (parts:List (Nat × Value)) (h:Heap):zaB tab 98 n parts h=if n*1 > 16777216 || n > 16777216 then Option.none else (zcP (fun i=>some (i*1,1)) (zbo [.nilFunc] n) parts).map fun cs=>(.slice (some ⟨h.size,0,none⟩) n n,h.push (.row cs 62 false)):=bsl ds98 zre n parts h
theorem ix98 (A o n c:Nat) (ik:IntKind) (i:Int):zao tab 98 (.slice (some ⟨A,o,none⟩) n c) (.int ik i)=if 0≤i∧i < n then some (.pointer (some ⟨A,o+i.toNat*1,none⟩)) else none:=zbK ds98 (by kernel_rfl)
theorem ag99:aggA tab 99=some false:=by kernel_rfl
theorem pt99 (cs:List Value) (o:Nat):zaf tab 99 cs o=cs[o]? := zac ag99
theorem zBc:aggA tab 100=some false:=by kernel_rfl
theorem zEl (cs:List Value) (o:Nat):zaf tab 100 cs o=cs[o]? := zac zBc
theorem zBd:aggA tab 101=some false:=by kernel_rfl
theorem zEm (cs:List Value) (o:Nat):zaf tab 101 cs o=cs[o]? := zac zBd
theorem zBe:aggA tab 102=some false:=by kernel_rfl
theorem zEn (cs:List Value) (o:Nat):zaf tab 102 cs o=cs[o]? := zac zBe
theorem zBf:aggA tab 105=some false:=by kernel_rfl
theorem zEo (cs:List Value) (o:Nat):zaf tab 105 cs o=cs[o]? := zac zBf
theorem zBg:aggA tab 106=some false:=by kernel_rfl
theorem zEp (cs:List Value) (o:Nat):zaf tab 106 cs o=cs[o]? := zac zBg
theorem zBh:aggA tab 108=some false:=by kernel_rfl
theorem zEq (cs:List Value) (o:Nat):zaf tab 108 cs o=cs[o]? := zac zBh
theorem zBi:aggA tab 109=some false:=by kernel_rfl
theorem zEr (cs:List Value) (o:Nat):zaf tab 109 cs o=cs[o]? := zac zBi
theorem zzS:aggA tab 110=some false:=by kernel_rfl
theorem zyX (A o:Nat) (h:Heap):zaL tab 110 (.pointer (some ⟨A,o,none⟩)) h=zdq (h.get A) o:=zbm zzS
theorem zEs (cs:List Value) (o:Nat):zaf tab 110 cs o=cs[o]? := zac zzS
theorem zyq:tab.desc 110=some (.slice 3):=by kernel_rfl
theorem zAD (a:Option Addr) (n c:Nat) (h:Heap):lenA tab 110 (.slice a n c) h=some (.int .i64 n):=zbq zyq
theorem zC5 (n:Nat) (parts:List (Nat × Value)) (h:Heap):zaB tab 110 n parts h=if n*1 > 16777216 || n > 16777216 then Option.none else (zcP (fun i=>some (i*1,1)) (zbo [.int .i64 0] n) parts).map fun cs=>(.slice (some ⟨h.size,0,none⟩) n n,h.push (.row cs 3 false)):=bsl zyq zng n parts h
theorem zyP (A o n c:Nat) (ik:IntKind) (i:Int):zao tab 110 (.slice (some ⟨A,o,none⟩) n c) (.int ik i)=if 0≤i∧i < n then some (.pointer (some ⟨A,o+i.toNat*1,none⟩)) else none:=zbK zyq (by kernel_rfl)
theorem zGk:zau tab 111=some 1:=by kernel_rfl
theorem zBj:aggA tab 111=some true:=by kernel_rfl
theorem zEt (cs:List Value) (o:Nat):zaf tab 111 cs o=(cut cs o 1).map fun l=>.agg l.toArray:=zap zBj zGk
theorem zGl:zau tab 112=some 1:=by kernel_rfl
theorem zBk:aggA tab 112=some true:=by kernel_rfl
theorem zEu (cs:List Value) (o:Nat):zaf tab 112 cs o=(cut cs o 1).map fun l=>.agg l.toArray:=zap zBk zGl
theorem zn0 (A o:Nat):zak tab 112 (.pointer (some ⟨A,o,none⟩)) 0=some (.pointer (some ⟨A,o+0,none⟩)):=Eq.refl _
theorem zzT:aggA tab 113=some false:=by kernel_rfl
theorem zyY (A o:Nat) (h:Heap):zaL tab 113 (.pointer (some ⟨A,o,none⟩)) h=zdq (h.get A) o:=zbm zzT
theorem zEv (cs:List Value) (o:Nat):zaf tab 113 cs o=cs[o]? := zac zzT
theorem zyr:tab.desc 113=some (.slice 136):=by kernel_rfl
theorem zAE (a:Option Addr) (n c:Nat) (h:Heap):lenA tab 113 (.slice a n c) h=some (.int .i64 n):=zbq zyr
theorem zC6 (n:Nat) (parts:List (Nat × Value)) (h:Heap):zaB tab 113 n parts h=if n*2 > 16777216 || n > 16777216 then Option.none else (zcP (fun i=>some (i*2,2)) (zbo [.string ⟨#[]⟩,.int .i64 0] n) parts).map fun cs=>(.slice (some ⟨h.size,0,none⟩) n n,h.push (.row cs 136 false)):=bsl zyr zjk n parts h
theorem zyQ (A o n c:Nat) (ik:IntKind) (i:Int):zao tab 113 (.slice (some ⟨A,o,none⟩) n c) (.int ik i)=if 0≤i∧i < n then some (.pointer (some ⟨A,o+i.toNat*2,none⟩)) else none:=zbK zyr (by kernel_rfl)
theorem zGm:zau tab 114=some 3:=by kernel_rfl
theorem zBl:aggA tab 114=some true:=by kernel_rfl
theorem zEw (cs:List Value) (o:Nat):zaf tab 114 cs o=(cut cs o 3).map fun l=>.agg l.toArray:=zap zBl zGm
theorem zGn:zau tab 115=some 3:=by kernel_rfl
theorem zBm:aggA tab 115=some true:=by kernel_rfl
theorem zEx (cs:List Value) (o:Nat):zaf tab 115 cs o=(cut cs o 3).map fun l=>.agg l.toArray:=zap zBm zGn
theorem zsd (A o:Nat):zak tab 115 (.pointer (some ⟨A,o,none⟩)) 0=some (.pointer (some ⟨A,o+0,none⟩)):=Eq.refl _
theorem zn1 (A o:Nat):zak tab 115 (.pointer (some ⟨A,o,none⟩)) 1=some (.pointer (some ⟨A,o+1,none⟩)):=Eq.refl _
theorem zkU (A o:Nat):zak tab 115 (.pointer (some ⟨A,o,none⟩)) 2=some (.pointer (some ⟨A,o+2,none⟩)):=Eq.refl _
theorem zBn:aggA tab 116=some false:=by kernel_rfl
theorem zEy (cs:List Value) (o:Nat):zaf tab 116 cs o=cs[o]? := zac zBn
theorem zBo:aggA tab 117=some false:=by kernel_rfl
theorem zEz (cs:List Value) (o:Nat):zaf tab 117 cs o=cs[o]? := zac zBo
theorem zBp:aggA tab 118=some false:=by kernel_rfl
theorem zEA (cs:List Value) (o:Nat):zaf tab 118 cs o=cs[o]? := zac zBp
theorem zBq:aggA tab 119=some false:=by kernel_rfl
theorem zEB (cs:List Value) (o:Nat):zaf tab 119 cs o=cs[o]? := zac zBq
theorem zBr:aggA tab 120=some false:=by kernel_rfl
theorem zEC (cs:List Value) (o:Nat):zaf tab 120 cs o=cs[o]? := zac zBr
theorem zBs:aggA tab 121=some false:=by kernel_rfl
theorem zED (cs:List Value) (o:Nat):zaf tab 121 cs o=cs[o]? := zac zBs
theorem zBt:aggA tab 122=some false:=by kernel_rfl
theorem zEE (cs:List Value) (o:Nat):zaf tab 122 cs o=cs[o]? := zac zBt
theorem zBu:aggA tab 123=some false:=by kernel_rfl
theorem zEF (cs:List Value) (o:Nat):zaf tab 123 cs o=cs[o]? := zac zBu
theorem zBv:aggA tab 124=some false:=by kernel_rfl
theorem zEG (cs:List Value) (o:Nat):zaf tab 124 cs o=cs[o]? := zac zBv
theorem zBw:aggA tab 125=some false:=by kernel_rfl
theorem zEH (cs:List Value) (o:Nat):zaf tab 125 cs o=cs[o]? := zac zBw
theorem zGo:zau tab 126=some 0:=by kernel_rfl
theorem zBx:aggA tab 126=some true:=by kernel_rfl
theorem zEI (cs:List Value) (o:Nat):zaf tab 126 cs o=(cut cs o 0).map fun l=>.agg l.toArray:=zap zBx zGo
theorem zx0 (P:Program) (ov:Ov) (d:Option Tmp) (ty:TypeId) (pos:String) (af:Array Edge) (g:Option (Nat × Bool)) (e:Env) (h:Heap) (K:Value→Heap→Prop):WOp P tab ov ⟨d,.alloc 126,ty,pos,af,g⟩ e h K=K (.pointer (some ⟨h.size,0,none⟩)) (h.push (.row [] 126 false)):=zdV d ty pos af g e h K 126 zoQ
theorem zBy:aggA tab 128=some false:=by kernel_rfl
theorem zEJ (cs:List Value) (o:Nat):zaf tab 128 cs o=cs[o]? := zac zBy
theorem zBz:aggA tab 129=some false:=by kernel_rfl
theorem zEK (cs:List Value) (o:Nat):zaf tab 129 cs o=cs[o]? := zac zBz
theorem zGp:zau tab 130=some 1:=by kernel_rfl
theorem zxZ:aggA tab 130=some false:=by kernel_rfl
theorem zEd (A o:Nat) (h:Heap):zaL tab 130 (.pointer (some ⟨A,o,none⟩)) h=zdq (h.get A) o:=zbm zxZ
theorem zEL (cs:List Value) (o:Nat):zaf tab 130 cs o=cs[o]? := zac zxZ
theorem zBA:aggA tab 131=some false:=by kernel_rfl
theorem zEM (cs:List Value) (o:Nat):zaf tab 131 cs o=cs[o]? := zac zBA
theorem zBB:aggA tab 132=some false:=by kernel_rfl
theorem zEN (cs:List Value) (o:Nat):zaf tab 132 cs o=cs[o]? := zac zBB
theorem zBC:aggA tab 133=some false:=by kernel_rfl
theorem zEO (cs:List Value) (o:Nat):zaf tab 133 cs o=cs[o]? := zac zBC
theorem zBD:aggA tab 134=some false:=by kernel_rfl
theorem zEP (cs:List Value) (o:Nat):zaf tab 134 cs o=cs[o]? := zac zBD
theorem zGq:zau tab 135=some 2:=by kernel_rfl
theorem zBE:aggA tab 135=some true:=by kernel_rfl
theorem zEQ (cs:List Value) (o:Nat):zaf tab 135 cs o=(cut cs o 2).map fun l=>.agg l.toArray:=zap zBE zGq
theorem zGr:zau tab 136=some 2:=by kernel_rfl
theorem zBF:aggA tab 136=some true:=by kernel_rfl
theorem zER (cs:List Value) (o:Nat):zaf tab 136 cs o=(cut cs o 2).map fun l=>.agg l.toArray:=zap zBF zGr
theorem zyI (A o:Nat):zak tab 136 (.pointer (some ⟨A,o,none⟩)) 0=some (.pointer (some ⟨A,o+0,none⟩)):=Eq.refl _
theorem zn2 (A o:Nat):zak tab 136 (.pointer (some ⟨A,o,none⟩)) 1=some (.pointer (some ⟨A,o+1,none⟩)):=Eq.refl _
theorem zBG:aggA tab 137=some false:=by kernel_rfl
theorem zES (cs:List Value) (o:Nat):zaf tab 137 cs o=cs[o]? := zac zBG
theorem zBH:aggA tab 138=some false:=by kernel_rfl
theorem zET (cs:List Value) (o:Nat):zaf tab 138 cs o=cs[o]? := zac zBH
theorem zBI:aggA tab 139=some false:=by kernel_rfl
theorem zEU (cs:List Value) (o:Nat):zaf tab 139 cs o=cs[o]? := zac zBI
theorem zBJ:aggA tab 140=some false:=by kernel_rfl
theorem zEV (cs:List Value) (o:Nat):zaf tab 140 cs o=cs[o]? := zac zBJ
theorem zBK:aggA tab 141=some false:=by kernel_rfl
theorem zEW (cs:List Value) (o:Nat):zaf tab 141 cs o=cs[o]? := zac zBK
theorem zBL:aggA tab 142=some false:=by kernel_rfl
theorem zEX (cs:List Value) (o:Nat):zaf tab 142 cs o=cs[o]? := zac zBL
theorem zBM:aggA tab 143=some false:=by kernel_rfl
theorem zEY (cs:List Value) (o:Nat):zaf tab 143 cs o=cs[o]? := zac zBM
theorem zr3:tab.desc 143=some (.slice 130):=by kernel_rfl
theorem zEe (a:Option Addr) (n c:Nat) (h:Heap):lenA tab 143 (.slice a n c) h=some (.int .i64 n):=zbq zr3
theorem zlL (n:Nat) (parts:List (Nat × Value)) (h:Heap):zaB tab 143 n parts h=if n*1 > 16777216 || n > 16777216 then Option.none else (zcP (fun i=>some (i*1,1)) (zbo [.nilFunc] n) parts).map fun cs=>(.slice (some ⟨h.size,0,none⟩) n n,h.push (.row cs 130 false)):=bsl zr3 zoR n parts h
theorem zEb (A o n c:Nat) (ik:IntKind) (i:Int):zao tab 143 (.slice (some ⟨A,o,none⟩) n c) (.int ik i)=if 0≤i∧i < n then some (.pointer (some ⟨A,o+i.toNat*1,none⟩)) else none:=zbK zr3 (by kernel_rfl)
theorem zBN:aggA tab 144=some false:=by kernel_rfl
theorem zEZ (cs:List Value) (o:Nat):zaf tab 144 cs o=cs[o]? := zac zBN
theorem zBO:aggA tab 145=some false:=by kernel_rfl
theorem zE0 (cs:List Value) (o:Nat):zaf tab 145 cs o=cs[o]? := zac zBO
theorem zBP:aggA tab 146=some false:=by kernel_rfl
theorem zE1 (cs:List Value) (o:Nat):zaf tab 146 cs o=cs[o]? := zac zBP
theorem zBQ:aggA tab 147=some false:=by kernel_rfl
theorem zE2 (cs:List Value) (o:Nat):zaf tab 147 cs o=cs[o]? := zac zBQ
theorem zBR:aggA tab 148=some false:=by kernel_rfl
theorem zE3 (cs:List Value) (o:Nat):zaf tab 148 cs o=cs[o]? := zac zBR
theorem zh8:tab.desc 148=some (.slice 39):=by kernel_rfl
theorem zvm (a:Option Addr) (n c:Nat) (h:Heap):lenA tab 148 (.slice a n c) h=some (.int .i64 n):=zbq zh8
theorem zvj (A o n c:Nat) (ik:IntKind) (i:Int):zao tab 148 (.slice (some ⟨A,o,none⟩) n c) (.int ik i)=if 0≤i∧i < n then some (.pointer (some ⟨A,o+i.toNat*2,none⟩)) else none:=zbK zh8 (by kernel_rfl)
theorem zBS:aggA tab 149=some false:=by kernel_rfl
theorem zE4 (cs:List Value) (o:Nat):zaf tab 149 cs o=cs[o]? := zac zBS
theorem zBT:aggA tab 150=some false:=by kernel_rfl
theorem zE5 (cs:List Value) (o:Nat):zaf tab 150 cs o=cs[o]? := zac zBT
theorem zBU:aggA tab 151=some false:=by kernel_rfl
theorem zE6 (cs:List Value) (o:Nat):zaf tab 151 cs o=cs[o]? := zac zBU
theorem zBV:aggA tab 152=some false:=by kernel_rfl
theorem zE7 (cs:List Value) (o:Nat):zaf tab 152 cs o=cs[o]? := zac zBV
theorem zBW:aggA tab 153=some false:=by kernel_rfl
theorem zE8 (cs:List Value) (o:Nat):zaf tab 153 cs o=cs[o]? := zac zBW
theorem zBX:aggA tab 154=some false:=by kernel_rfl
theorem zE9 (cs:List Value) (o:Nat):zaf tab 154 cs o=cs[o]? := zac zBX
theorem zBY:aggA tab 155=some false:=by kernel_rfl
theorem zFa (cs:List Value) (o:Nat):zaf tab 155 cs o=cs[o]? := zac zBY
theorem zBZ:aggA tab 156=some false:=by kernel_rfl
theorem zFb (cs:List Value) (o:Nat):zaf tab 156 cs o=cs[o]? := zac zBZ
theorem zB0:aggA tab 157=some false:=by kernel_rfl
theorem zFc (cs:List Value) (o:Nat):zaf tab 157 cs o=cs[o]? := zac zB0
theorem zB1:aggA tab 158=some false:=by kernel_rfl
theorem zFd (cs:List Value) (o:Nat):zaf tab 158 cs o=cs[o]? := zac zB1
theorem zB2:aggA tab 159=some false:=by kernel_rfl
theorem zFe (cs:List Value) (o:Nat):zaf tab 159 cs o=cs[o]? := zac zB2
theorem zB3:aggA tab 160=some false:=by kernel_rfl
theorem zFf (cs:List Value) (o:Nat):zaf tab 160 cs o=cs[o]? := zac zB3
theorem zB4:aggA tab 161=some false:=by kernel_rfl
theorem zFg (cs:List Value) (o:Nat):zaf tab 161 cs o=cs[o]? := zac zB4
theorem zB5:aggA tab 162=some false:=by kernel_rfl
theorem zFh (cs:List Value) (o:Nat):zaf tab 162 cs o=cs[o]? := zac zB5
theorem zB6:aggA tab 163=some false:=by kernel_rfl
theorem zFi (cs:List Value) (o:Nat):zaf tab 163 cs o=cs[o]? := zac zB6
theorem zB7:aggA tab 164=some false:=by kernel_rfl
theorem zFj (cs:List Value) (o:Nat):zaf tab 164 cs o=cs[o]? := zac zB7
theorem zB8:aggA tab 165=some false:=by kernel_rfl
theorem zFk (cs:List Value) (o:Nat):zaf tab 165 cs o=cs[o]? := zac zB8
theorem zB9:aggA tab 166=some false:=by kernel_rfl
theorem zFl (cs:List Value) (o:Nat):zaf tab 166 cs o=cs[o]? := zac zB9
theorem zCa:aggA tab 167=some false:=by kernel_rfl
theorem zFm (cs:List Value) (o:Nat):zaf tab 167 cs o=cs[o]? := zac zCa
theorem zCb:aggA tab 168=some false:=by kernel_rfl
theorem zFn (cs:List Value) (o:Nat):zaf tab 168 cs o=cs[o]? := zac zCb
theorem zCc:aggA tab 169=some false:=by kernel_rfl
theorem zFo (cs:List Value) (o:Nat):zaf tab 169 cs o=cs[o]? := zac zCc
theorem zCd:aggA tab 170=some false:=by kernel_rfl
theorem zFp (cs:List Value) (o:Nat):zaf tab 170 cs o=cs[o]? := zac zCd
theorem zCe:aggA tab 171=some false:=by kernel_rfl
theorem zFq (cs:List Value) (o:Nat):zaf tab 171 cs o=cs[o]? := zac zCe
theorem zCf:aggA tab 172=some false:=by kernel_rfl
theorem zFr (cs:List Value) (o:Nat):zaf tab 172 cs o=cs[o]? := zac zCf
theorem zCg:aggA tab 173=some false:=by kernel_rfl
theorem zFs (cs:List Value) (o:Nat):zaf tab 173 cs o=cs[o]? := zac zCg
theorem zCh:aggA tab 174=some false:=by kernel_rfl
theorem zFt (cs:List Value) (o:Nat):zaf tab 174 cs o=cs[o]? := zac zCh
theorem zGs:zau tab 175=some 2:=by kernel_rfl
theorem zCi:aggA tab 175=some true:=by kernel_rfl
theorem zFu (cs:List Value) (o:Nat):zaf tab 175 cs o=(cut cs o 2).map fun l=>.agg l.toArray:=zap zCi zGs
theorem zGt:zau tab 176=some 2:=by kernel_rfl
theorem zCj:aggA tab 176=some true:=by kernel_rfl
theorem zFv (cs:List Value) (o:Nat):zaf tab 176 cs o=(cut cs o 2).map fun l=>.agg l.toArray:=zap zCj zGt
theorem zCk:aggA tab 177=some false:=by kernel_rfl
theorem zFw (cs:List Value) (o:Nat):zaf tab 177 cs o=cs[o]? := zac zCk
theorem zCl:aggA tab 178=some false:=by kernel_rfl
theorem zFx (cs:List Value) (o:Nat):zaf tab 178 cs o=cs[o]? := zac zCl
theorem zCm:aggA tab 179=some false:=by kernel_rfl
theorem zFy (cs:List Value) (o:Nat):zaf tab 179 cs o=cs[o]? := zac zCm
theorem zCn:aggA tab 181=some false:=by kernel_rfl
theorem zFz (cs:List Value) (o:Nat):zaf tab 181 cs o=cs[o]? := zac zCn
theorem zCo:aggA tab 182=some false:=by kernel_rfl
theorem zFA (cs:List Value) (o:Nat):zaf tab 182 cs o=cs[o]? := zac zCo
theorem zGu:zau tab 183=some 256:=by kernel_rfl
theorem zCp:aggA tab 183=some true:=by kernel_rfl
theorem zFB (cs:List Value) (o:Nat):zaf tab 183 cs o=(cut cs o 256).map fun l=>.agg l.toArray:=zap zCp zGu
theorem zCq:aggA tab 184=some false:=by kernel_rfl
theorem zFC (cs:List Value) (o:Nat):zaf tab 184 cs o=cs[o]? := zac zCq
theorem zCr:aggA tab 185=some false:=by kernel_rfl
theorem zFD (cs:List Value) (o:Nat):zaf tab 185 cs o=cs[o]? := zac zCr
theorem zCs:aggA tab 186=some false:=by kernel_rfl
theorem zFE (cs:List Value) (o:Nat):zaf tab 186 cs o=cs[o]? := zac zCs
theorem zCt:aggA tab 187=some false:=by kernel_rfl
theorem zFF (cs:List Value) (o:Nat):zaf tab 187 cs o=cs[o]? := zac zCt
theorem zGv:zau tab 188=some 2:=by kernel_rfl
theorem zCu:aggA tab 188=some true:=by kernel_rfl
theorem zFG (cs:List Value) (o:Nat):zaf tab 188 cs o=(cut cs o 2).map fun l=>.agg l.toArray:=zap zCu zGv
theorem zGw:zau tab 189=some 2:=by kernel_rfl
theorem zCv:aggA tab 189=some true:=by kernel_rfl
theorem zFH (cs:List Value) (o:Nat):zaf tab 189 cs o=(cut cs o 2).map fun l=>.agg l.toArray:=zap zCv zGw
theorem zCw:aggA tab 190=some false:=by kernel_rfl
theorem zFI (cs:List Value) (o:Nat):zaf tab 190 cs o=cs[o]? := zac zCw
theorem zCx:aggA tab 191=some false:=by kernel_rfl
theorem zFJ (cs:List Value) (o:Nat):zaf tab 191 cs o=cs[o]? := zac zCx
theorem zCy:aggA tab 192=some false:=by kernel_rfl
theorem zFK (cs:List Value) (o:Nat):zaf tab 192 cs o=cs[o]? := zac zCy
theorem zCz:aggA tab 193=some false:=by kernel_rfl
theorem zFL (cs:List Value) (o:Nat):zaf tab 193 cs o=cs[o]? := zac zCz
theorem zCA:aggA tab 194=some false:=by kernel_rfl
theorem zFM (cs:List Value) (o:Nat):zaf tab 194 cs o=cs[o]? := zac zCA
theorem zCB:aggA tab 195=some false:=by kernel_rfl
theorem zFN (cs:List Value) (o:Nat):zaf tab 195 cs o=cs[o]? := zac zCB
theorem zCC:aggA tab 196=some false:=by kernel_rfl
theorem zFO (cs:List Value) (o:Nat):zaf tab 196 cs o=cs[o]? := zac zCC
theorem zCD:aggA tab 197=some false:=by kernel_rfl
theorem zFP (cs:List Value) (o:Nat):zaf tab 197 cs o=cs[o]? := zac zCD
theorem zGx:zau tab 198=some 3:=by kernel_rfl
theorem zCE:aggA tab 198=some true:=by kernel_rfl
theorem zFQ (cs:List Value) (o:Nat):zaf tab 198 cs o=(cut cs o 3).map fun l=>.agg l.toArray:=zap zCE zGx
theorem zGy:zau tab 199=some 3:=by kernel_rfl
theorem zCF:aggA tab 199=some true:=by kernel_rfl
theorem zFR (cs:List Value) (o:Nat):zaf tab 199 cs o=(cut cs o 3).map fun l=>.agg l.toArray:=zap zCF zGy
theorem zCG:aggA tab 200=some false:=by kernel_rfl
theorem zFS (cs:List Value) (o:Nat):zaf tab 200 cs o=cs[o]? := zac zCG
theorem zGz:zau tab 201=some 3:=by kernel_rfl
theorem zCH:aggA tab 201=some true:=by kernel_rfl
theorem zFT (cs:List Value) (o:Nat):zaf tab 201 cs o=(cut cs o 3).map fun l=>.agg l.toArray:=zap zCH zGz
theorem zGA:zau tab 202=some 3:=by kernel_rfl
theorem zCI:aggA tab 202=some true:=by kernel_rfl
theorem zFU (cs:List Value) (o:Nat):zaf tab 202 cs o=(cut cs o 3).map fun l=>.agg l.toArray:=zap zCI zGA
theorem zCJ:aggA tab 203=some false:=by kernel_rfl
theorem zFV (cs:List Value) (o:Nat):zaf tab 203 cs o=cs[o]? := zac zCJ
theorem zGB:zau tab 204=some 3:=by kernel_rfl
theorem zCK:aggA tab 204=some true:=by kernel_rfl
theorem zFW (cs:List Value) (o:Nat):zaf tab 204 cs o=(cut cs o 3).map fun l=>.agg l.toArray:=zap zCK zGB
theorem zGC:zau tab 205=some 3:=by kernel_rfl
theorem zCL:aggA tab 205=some true:=by kernel_rfl
theorem zFX (cs:List Value) (o:Nat):zaf tab 205 cs o=(cut cs o 3).map fun l=>.agg l.toArray:=zap zCL zGC
theorem zCM:aggA tab 206=some false:=by kernel_rfl
theorem zFY (cs:List Value) (o:Nat):zaf tab 206 cs o=cs[o]? := zac zCM
theorem zCN:aggA tab 207=some false:=by kernel_rfl
theorem zFZ (cs:List Value) (o:Nat):zaf tab 207 cs o=cs[o]? := zac zCN
theorem zCO:aggA tab 208=some false:=by kernel_rfl
theorem zF0 (cs:List Value) (o:Nat):zaf tab 208 cs o=cs[o]? := zac zCO
theorem zGD:zau tab 209=some 4:=by kernel_rfl
theorem zCP:aggA tab 209=some true:=by kernel_rfl
theorem zF1 (cs:List Value) (o:Nat):zaf tab 209 cs o=(cut cs o 4).map fun l=>.agg l.toArray:=zap zCP zGD
theorem zGE:zau tab 210=some 4:=by kernel_rfl
theorem zCQ:aggA tab 210=some true:=by kernel_rfl
theorem zF2 (cs:List Value) (o:Nat):zaf tab 210 cs o=(cut cs o 4).map fun l=>.agg l.toArray:=zap zCQ zGE
theorem zGF:zau tab 211=some 0:=by kernel_rfl
theorem zCR:aggA tab 211=some true:=by kernel_rfl
theorem zF3 (cs:List Value) (o:Nat):zaf tab 211 cs o=(cut cs o 0).map fun l=>.agg l.toArray:=zap zCR zGF
theorem zGG:zau tab 212=some 0:=by kernel_rfl
theorem zCS:aggA tab 212=some true:=by kernel_rfl
theorem zF4 (cs:List Value) (o:Nat):zaf tab 212 cs o=(cut cs o 0).map fun l=>.agg l.toArray:=zap zCS zGG
theorem zGH:zau tab 213=some 0:=by kernel_rfl
theorem zCT:aggA tab 213=some true:=by kernel_rfl
theorem zF5 (cs:List Value) (o:Nat):zaf tab 213 cs o=(cut cs o 0).map fun l=>.agg l.toArray:=zap zCT zGH
theorem zCU:aggA tab 214=some false:=by kernel_rfl
theorem zF6 (cs:List Value) (o:Nat):zaf tab 214 cs o=cs[o]? := zac zCU
theorem zCV:aggA tab 215=some false:=by kernel_rfl
theorem zF7 (cs:List Value) (o:Nat):zaf tab 215 cs o=cs[o]? := zac zCV
theorem zCW:aggA tab 216=some false:=by kernel_rfl
theorem zF8 (cs:List Value) (o:Nat):zaf tab 216 cs o=cs[o]? := zac zCW
theorem zCX:aggA tab 217=some false:=by kernel_rfl
theorem zF9 (cs:List Value) (o:Nat):zaf tab 217 cs o=cs[o]? := zac zCX
theorem zCY:aggA tab 218=some false:=by kernel_rfl
theorem zGa (cs:List Value) (o:Nat):zaf tab 218 cs o=cs[o]? := zac zCY
theorem zGI:zau tab 219=some 11:=by kernel_rfl
theorem zCZ:aggA tab 219=some true:=by kernel_rfl
theorem zGb (cs:List Value) (o:Nat):zaf tab 219 cs o=(cut cs o 11).map fun l=>.agg l.toArray:=zap zCZ zGI
theorem zGJ:zau tab 220=some 11:=by kernel_rfl
theorem zC0:aggA tab 220=some true:=by kernel_rfl
theorem zGc (cs:List Value) (o:Nat):zaf tab 220 cs o=(cut cs o 11).map fun l=>.agg l.toArray:=zap zC0 zGJ
theorem fi3 (K:Value→Heap→Prop) (e:Env) (h:Heap):finE tab Tryz.f3 K .ret e h=K (e.get 4) h:=zam rfl
theorem fi4 (K:Value→Heap→Prop) (e:Env) (h:Heap):finE tab Tryz.f4 K .ret e h=K (e.get 8) h:=zam rfl
theorem fi5 (K:Value→Heap→Prop) (e:Env) (h:Heap):finE tab Tryz.f5 K .ret e h=K (e.get 4) h:=zam rfl
theorem fi6 (K:Value→Heap→Prop) (e:Env) (h:Heap):finE tab Tryz.f6 K .ret e h=K (e.get 4) h:=zam rfl
theorem fi8 (K:Value→Heap→Prop) (e:Env) (h:Heap):finE tab Tryz.f8 K .ret e h=valE (zaL tab 29 (e.get 0) h) h K:=zhT rfl
theorem fi9 (K:Value→Heap→Prop) (e:Env) (h:Heap):finE tab Tryz.f9 K .ret e h=K (e.get 4) h:=zam rfl
theorem fi10 (K:Value→Heap→Prop) (e:Env) (h:Heap):finE tab Tryz.f10 K .ret e h=K (.tuple #[e.get 2,e.get 3]) h:=zdx rfl
theorem fi11 (K:Value→Heap→Prop) (e:Env) (h:Heap):finE tab Tryz.f11 K .ret e h=K (.tuple #[e.get 6,e.get 7]) h:=zdx rfl
theorem fi12 (K:Value→Heap→Prop) (e:Env) (h:Heap):finE tab Tryz.f12 K .ret e h=valE (zaL tab 42 (e.get 6) h) h K:=zhT rfl
theorem fi13 (K:Value→Heap→Prop) (e:Env) (h:Heap):finE tab Tryz.f13 K .ret e h=K (e.get 4) h:=zam rfl
theorem fi14 (K:Value→Heap→Prop) (e:Env) (h:Heap):finE tab Tryz.f14 K .ret e h=K (e.get 4) h:=zam rfl
theorem fi15 (K:Value→Heap→Prop) (e:Env) (h:Heap):finE tab Tryz.f15 K .ret e h=K (e.get 2) h:=zam rfl
theorem fi16 (K:Value→Heap→Prop) (e:Env) (h:Heap):finE tab Tryz.f16 K .ret e h=K (.tuple #[e.get 6,e.get 7]) h:=zdx rfl
theorem fi29 (K:Value→Heap→Prop) (e:Env) (h:Heap):finE tab Tryz.f29 K .ret e h=K (e.get 2) h:=zam rfl
theorem fi30 (K:Value→Heap→Prop) (e:Env) (h:Heap):finE tab Tryz.f30 K .ret e h=K (e.get 2) h:=zam rfl
theorem fi31 (K:Value→Heap→Prop) (e:Env) (h:Heap):finE tab Tryz.f31 K .ret e h=valE (zaL tab 29 (e.get 2) h) h K:=zhT rfl
theorem fi32 (K:Value→Heap→Prop) (e:Env) (h:Heap):finE tab Tryz.f32 K .ret e h=K (.tuple #[e.get 10,e.get 11]) h:=zdx rfl
theorem fi33 (K:Value→Heap→Prop) (e:Env) (h:Heap):finE tab Tryz.f33 K .ret e h=K (.tuple #[e.get 4,e.get 5]) h:=zdx rfl
theorem fi34 (K:Value→Heap→Prop) (e:Env) (h:Heap):finE tab Tryz.f34 K .ret e h=K undef h:=zeJ rfl
theorem fj34 (K:Value→Heap→Prop) (e:Env) (h:Heap):finE tab Tryz.f34 K .normal e h=K undef h:=zc5 rfl
theorem fi35 (K:Value→Heap→Prop) (e:Env) (h:Heap):finE tab Tryz.f35 K .ret e h=valE (zaL tab 39 (e.get 2) h) h K:=zhT rfl
theorem fi36 (K:Value→Heap→Prop) (e:Env) (h:Heap):finE tab Tryz.f36 K .ret e h=K (e.get 2) h:=zam rfl
theorem fi37 (K:Value→Heap→Prop) (e:Env) (h:Heap):finE tab Tryz.f37 K .ret e h=K (.tuple #[e.get 4,e.get 5]) h:=zdx rfl
theorem fi38 (K:Value→Heap→Prop) (e:Env) (h:Heap):finE tab Tryz.f38 K .ret e h=K undef h:=zeJ rfl
theorem fj38 (K:Value→Heap→Prop) (e:Env) (h:Heap):finE tab Tryz.f38 K .normal e h=K undef h:=zc5 rfl
theorem fi41 (K:Value→Heap→Prop) (e:Env) (h:Heap):finE tab Tryz.f41 K .ret e h=K (e.get 2) h:=zam rfl
theorem fi52 (K:Value→Heap→Prop) (e:Env) (h:Heap):finE tab Tryz.f52 K .ret e h=K (e.get 2) h:=zam rfl
theorem fi53 (K:Value→Heap→Prop) (e:Env) (h:Heap):finE tab Tryz.f53 K .ret e h=K (e.get 2) h:=zam rfl
theorem fi54 (K:Value→Heap→Prop) (e:Env) (h:Heap):finE tab Tryz.f54 K .ret e h=K (e.get 2) h:=zam rfl
theorem fi55 (K:Value→Heap→Prop) (e:Env) (h:Heap):finE tab Tryz.f55 K .ret e h=K (e.get 2) h:=zam rfl
theorem fi56 (K:Value→Heap→Prop) (e:Env) (h:Heap):finE tab Tryz.f56 K .ret e h=K (e.get 2) h:=zam rfl
theorem fi57 (K:Value→Heap→Prop) (e:Env) (h:Heap):finE tab Tryz.f57 K .ret e h=K (e.get 0) h:=zam rfl
theorem fi58 (K:Value→Heap→Prop) (e:Env) (h:Heap):finE tab Tryz.f58 K .ret e h=K (e.get 2) h:=zam rfl
theorem fi59 (K:Value→Heap→Prop) (e:Env) (h:Heap):finE tab Tryz.f59 K .ret e h=K (e.get 2) h:=zam rfl
theorem fi60 (K:Value→Heap→Prop) (e:Env) (h:Heap):finE tab Tryz.f60 K .ret e h=K (e.get 6) h:=zam rfl
theorem fi61 (K:Value→Heap→Prop) (e:Env) (h:Heap):finE tab Tryz.f61 K .ret e h=K (e.get 2) h:=zam rfl
theorem fi62 (K:Value→Heap→Prop) (e:Env) (h:Heap):finE tab Tryz.f62 K .ret e h=K (.tuple #[e.get 4,e.get 5]) h:=zdx rfl
theorem fi64 (K:Value→Heap→Prop) (e:Env) (h:Heap):finE tab Tryz.f64 K .ret e h=K (e.get 2) h:=zam rfl
theorem fi65 (K:Value→Heap→Prop) (e:Env) (h:Heap):finE tab Tryz.f65 K .ret e h=K (.tuple #[e.get 4,e.get 5]) h:=zdx rfl
theorem fi66 (K:Value→Heap→Prop) (e:Env) (h:Heap):finE tab Tryz.f66 K .ret e h=K (e.get 6) h:=zam rfl
theorem fi67 (K:Value→Heap→Prop) (e:Env) (h:Heap):finE tab Tryz.f67 K .ret e h=K (.tuple #[e.get 4,e.get 5]) h:=zdx rfl
theorem fi68 (K:Value→Heap→Prop) (e:Env) (h:Heap):finE tab Tryz.f68 K .ret e h=K (e.get 4) h:=zam rfl
theorem fi77 (K:Value→Heap→Prop) (e:Env) (h:Heap):finE tab Tryz.f77 K .ret e h=K (e.get 2) h:=zam rfl
theorem fi78 (K:Value→Heap→Prop) (e:Env) (h:Heap):finE tab Tryz.f78 K .ret e h=K (e.get 4) h:=zam rfl
theorem fi79 (K:Value→Heap→Prop) (e:Env) (h:Heap):finE tab Tryz.f79 K .ret e h=K (e.get 2) h:=zam rfl
theorem fi80 (K:Value→Heap→Prop) (e:Env) (h:Heap):finE tab Tryz.f80 K .ret e h=K (e.get 2) h:=zam rfl
theorem fi81 (K:Value→Heap→Prop) (e:Env) (h:Heap):finE tab Tryz.f81 K .ret e h=K (e.get 4) h:=zam rfl
theorem fi82 (K:Value→Heap→Prop) (e:Env) (h:Heap):finE tab Tryz.f82 K .ret e h=K (e.get 2) h:=zam rfl
theorem fi83 (K:Value→Heap→Prop) (e:Env) (h:Heap):finE tab Tryz.f83 K .ret e h=K (e.get 4) h:=zam rfl
theorem fi84 (K:Value→Heap→Prop) (e:Env) (h:Heap):finE tab Tryz.f84 K .ret e h=K (e.get 2) h:=zam rfl
theorem fi85 (K:Value→Heap→Prop) (e:Env) (h:Heap):finE tab Tryz.f85 K .ret e h=K (e.get 6) h:=zam rfl
theorem fi86 (K:Value→Heap→Prop) (e:Env) (h:Heap):finE tab Tryz.f86 K .ret e h=K (e.get 1) h:=zam rfl
theorem fi87 (K:Value→Heap→Prop) (e:Env) (h:Heap):finE tab Tryz.f87 K .ret e h=K (e.get 2) h:=zam rfl
theorem fi88 (K:Value→Heap→Prop) (e:Env) (h:Heap):finE tab Tryz.f88 K .ret e h=K (e.get 2) h:=zam rfl
theorem fi89 (K:Value→Heap→Prop) (e:Env) (h:Heap):finE tab Tryz.f89 K .ret e h=K (e.get 2) h:=zam rfl
theorem fi90 (K:Value→Heap→Prop) (e:Env) (h:Heap):finE tab Tryz.f90 K .ret e h=K (e.get 4) h:=zam rfl
theorem fi91 (K:Value→Heap→Prop) (e:Env) (h:Heap):finE tab Tryz.f91 K .ret e h=K (e.get 2) h:=zam rfl
theorem fi92 (K:Value→Heap→Prop) (e:Env) (h:Heap):finE tab Tryz.f92 K .ret e h=K (e.get 2) h:=zam rfl
theorem fi93 (K:Value→Heap→Prop) (e:Env) (h:Heap):finE tab Tryz.f93 K .ret e h=K (e.get 2) h:=zam rfl
theorem fi94 (K:Value→Heap→Prop) (e:Env) (h:Heap):finE tab Tryz.f94 K .ret e h=K (.tuple #[e.get 6,e.get 7]) h:=zdx rfl
theorem fi95 (K:Value→Heap→Prop) (e:Env) (h:Heap):finE tab Tryz.f95 K .ret e h=K (e.get 4) h:=zam rfl
theorem fi98 (K:Value→Heap→Prop) (e:Env) (h:Heap):finE tab Tryz.f98 K .ret e h=K (e.get 4) h:=zam rfl
theorem fi99 (K:Value→Heap→Prop) (e:Env) (h:Heap):finE tab Tryz.f99 K .ret e h=K (e.get 2) h:=zam rfl
theorem zDf (K:Value→Heap→Prop) (e:Env) (h:Heap):finE tab Tryz.f100 K .ret e h=K (e.get 2) h:=zam rfl
theorem zDg (K:Value→Heap→Prop) (e:Env) (h:Heap):finE tab Tryz.f101 K .ret e h=K (e.get 4) h:=zam rfl
theorem zDh (K:Value→Heap→Prop) (e:Env) (h:Heap):finE tab Tryz.f102 K .ret e h=K undef h:=zeJ rfl
theorem zD0 (K:Value→Heap→Prop) (e:Env) (h:Heap):finE tab Tryz.f102 K .normal e h=K undef h:=zc5 rfl
theorem zDi (K:Value→Heap→Prop) (e:Env) (h:Heap):finE tab Tryz.f107 K .ret e h=K (e.get 2) h:=zam rfl
theorem zDj (K:Value→Heap→Prop) (e:Env) (h:Heap):finE tab Tryz.f108 K .ret e h=K (e.get 6) h:=zam rfl
theorem zDk (K:Value→Heap→Prop) (e:Env) (h:Heap):finE tab Tryz.f109 K .ret e h=K (e.get 2) h:=zam rfl
theorem zDl (K:Value→Heap→Prop) (e:Env) (h:Heap):finE tab Tryz.f110 K .ret e h=K (e.get 2) h:=zam rfl
theorem zDm (K:Value→Heap→Prop) (e:Env) (h:Heap):finE tab Tryz.f111 K .ret e h=K (e.get 2) h:=zam rfl
theorem zDn (K:Value→Heap→Prop) (e:Env) (h:Heap):finE tab Tryz.f112 K .ret e h=K (e.get 4) h:=zam rfl
theorem zDo (K:Value→Heap→Prop) (e:Env) (h:Heap):finE tab Tryz.f113 K .ret e h=K (e.get 2) h:=zam rfl
theorem zDp (K:Value→Heap→Prop) (e:Env) (h:Heap):finE tab Tryz.f114 K .ret e h=K (e.get 2) h:=zam rfl
theorem zDq (K:Value→Heap→Prop) (e:Env) (h:Heap):finE tab Tryz.f115 K .ret e h=K (e.get 2) h:=zam rfl
theorem zDr (K:Value→Heap→Prop) (e:Env) (h:Heap):finE tab Tryz.f116 K .ret e h=K (e.get 4) h:=zam rfl
theorem zDs (K:Value→Heap→Prop) (e:Env) (h:Heap):finE tab Tryz.f117 K .ret e h=K (e.get 3) h:=zam rfl
theorem zDt (K:Value→Heap→Prop) (e:Env) (h:Heap):finE tab Tryz.f118 K .ret e h=K (.tuple #[e.get 4,e.get 5]) h:=zdx rfl
theorem zDu (K:Value→Heap→Prop) (e:Env) (h:Heap):finE tab Tryz.f119 K .ret e h=K (e.get 1) h:=zam rfl
theorem zDv (K:Value→Heap→Prop) (e:Env) (h:Heap):finE tab Tryz.f120 K .ret e h=K (e.get 2) h:=zam rfl
theorem zDw (K:Value→Heap→Prop) (e:Env) (h:Heap):finE tab Tryz.f121 K .ret e h=K (e.get 4) h:=zam rfl
theorem zDx (K:Value→Heap→Prop) (e:Env) (h:Heap):finE tab Tryz.f122 K .ret e h=K (e.get 2) h:=zam rfl
theorem zDy (K:Value→Heap→Prop) (e:Env) (h:Heap):finE tab Tryz.f123 K .ret e h=K (e.get 2) h:=zam rfl
theorem zDz (K:Value→Heap→Prop) (e:Env) (h:Heap):finE tab Tryz.f124 K .ret e h=K undef h:=zeJ rfl
theorem zD1 (K:Value→Heap→Prop) (e:Env) (h:Heap):finE tab Tryz.f124 K .normal e h=K undef h:=zc5 rfl
theorem zDA (K:Value→Heap→Prop) (e:Env) (h:Heap):finE tab Tryz.f125 K .ret e h=K (e.get 4) h:=zam rfl
theorem zDB (K:Value→Heap→Prop) (e:Env) (h:Heap):finE tab Tryz.f126 K .ret e h=K (e.get 4) h:=zam rfl
theorem zDC (K:Value→Heap→Prop) (e:Env) (h:Heap):finE tab Tryz.f128 K .ret e h=K (e.get 2) h:=zam rfl
theorem zDD (K:Value→Heap→Prop) (e:Env) (h:Heap):finE tab Tryz.f130 K .ret e h=K (e.get 6) h:=zam rfl
theorem zDE (K:Value→Heap→Prop) (e:Env) (h:Heap):finE tab Tryz.f131 K .ret e h=K undef h:=zeJ rfl
theorem zD2 (K:Value→Heap→Prop) (e:Env) (h:Heap):finE tab Tryz.f131 K .normal e h=K undef h:=zc5 rfl
theorem zDF (K:Value→Heap→Prop) (e:Env) (h:Heap):finE tab Tryz.f135 K .ret e h=K (e.get 2) h:=zam rfl
theorem zDG (K:Value→Heap→Prop) (e:Env) (h:Heap):finE tab Tryz.f136 K .ret e h=K (e.get 0) h:=zam rfl
theorem zDH (K:Value→Heap→Prop) (e:Env) (h:Heap):finE tab Tryz.f137 K .ret e h=K (e.get 4) h:=zam rfl
theorem zDI (K:Value→Heap→Prop) (e:Env) (h:Heap):finE tab Tryz.f138 K .ret e h=K (e.get 4) h:=zam rfl
theorem zDJ (K:Value→Heap→Prop) (e:Env) (h:Heap):finE tab Tryz.f139 K .ret e h=K (e.get 2) h:=zam rfl
theorem zDK (K:Value→Heap→Prop) (e:Env) (h:Heap):finE tab Tryz.f140 K .ret e h=K (e.get 2) h:=zam rfl
theorem zDL (K:Value→Heap→Prop) (e:Env) (h:Heap):finE tab Tryz.f141 K .ret e h=K (e.get 4) h:=zam rfl
theorem zDM (K:Value→Heap→Prop) (e:Env) (h:Heap):finE tab Tryz.f142 K .ret e h=K undef h:=zeJ rfl
theorem zD3 (K:Value→Heap→Prop) (e:Env) (h:Heap):finE tab Tryz.f142 K .normal e h=K undef h:=zc5 rfl
theorem zDN (K:Value→Heap→Prop) (e:Env) (h:Heap):finE tab Tryz.f150 K .ret e h=K (e.get 2) h:=zam rfl
theorem zDO (K:Value→Heap→Prop) (e:Env) (h:Heap):finE tab Tryz.f151 K .ret e h=K (e.get 2) h:=zam rfl
theorem zDP (K:Value→Heap→Prop) (e:Env) (h:Heap):finE tab Tryz.f152 K .ret e h=K undef h:=zeJ rfl
theorem zAt (K:Value→Heap→Prop) (e:Env) (h:Heap):finE tab Tryz.f152 K .normal e h=K undef h:=zc5 rfl
theorem zDQ (K:Value→Heap→Prop) (e:Env) (h:Heap):finE tab Tryz.f153 K .ret e h=K undef h:=zeJ rfl
theorem zD4 (K:Value→Heap→Prop) (e:Env) (h:Heap):finE tab Tryz.f153 K .normal e h=K undef h:=zc5 rfl
theorem zDR (K:Value→Heap→Prop) (e:Env) (h:Heap):finE tab Tryz.f161 K .ret e h=K (e.get 2) h:=zam rfl
theorem zDS (K:Value→Heap→Prop) (e:Env) (h:Heap):finE tab Tryz.f162 K .ret e h=K (e.get 2) h:=zam rfl
theorem zDT (K:Value→Heap→Prop) (e:Env) (h:Heap):finE tab Tryz.f163 K .ret e h=K (e.get 2) h:=zam rfl
theorem zDU (K:Value→Heap→Prop) (e:Env) (h:Heap):finE tab Tryz.f164 K .ret e h=K undef h:=zeJ rfl
theorem zD5 (K:Value→Heap→Prop) (e:Env) (h:Heap):finE tab Tryz.f164 K .normal e h=K undef h:=zc5 rfl
theorem zDV (K:Value→Heap→Prop) (e:Env) (h:Heap):finE tab Tryz.f168 K .ret e h=K undef h:=zeJ rfl
theorem zD6 (K:Value→Heap→Prop) (e:Env) (h:Heap):finE tab Tryz.f168 K .normal e h=K undef h:=zc5 rfl
theorem zDW (K:Value→Heap→Prop) (e:Env) (h:Heap):finE tab Tryz.f189 K .ret e h=K (e.get 6) h:=zam rfl
theorem zDX (K:Value→Heap→Prop) (e:Env) (h:Heap):finE tab Tryz.f190 K .ret e h=K (e.get 2) h:=zam rfl
theorem zDY (K:Value→Heap→Prop) (e:Env) (h:Heap):finE tab Tryz.f191 K .ret e h=K undef h:=zeJ rfl
theorem zD7 (K:Value→Heap→Prop) (e:Env) (h:Heap):finE tab Tryz.f191 K .normal e h=K undef h:=zc5 rfl
theorem zDZ (K:Value→Heap→Prop) (e:Env) (h:Heap):finE tab Tryz.f192 K .ret e h=K undef h:=zeJ rfl
theorem zD8 (K:Value→Heap→Prop) (e:Env) (h:Heap):finE tab Tryz.f192 K .normal e h=K undef h:=zc5 rfl
end Go.Proofs.YtdplfgoifjjniaaGreatDoor

/- What the plain machine's operations come to at this seat's types. Written by a program (mksim.py). No condition. -/
import Derived.Test.YtpnnbjakbplgeaaZAmTab
import Derived.Test.YtpnnbjakbplgeaaGSym
namespace Go.Proofs.Ytpnnbjakbplgeaa
open Go.Am
theorem sz1 : sizeA tab 1 = some 1 := by kernel_rfl
theorem ag1 : aggA tab 1 = some false := by kernel_rfl
theorem ld1 (A o : Nat) (h : Heap) : loadA tab 1 (.pointer (some ⟨A, o, none⟩)) h = cellO (h.get A) o := load_one ag1
theorem pt1 (cs : List Value) (o : Nat) : partA tab 1 cs o = cs[o]? := part_one ag1
theorem al1 (P : Program) (ov : Ov) (d : Option Tmp) (ty : TypeId) (pos : String) (af : Array Edge) (g : Option (Nat × Bool)) (e : Env) (h : Heap) (K : Value → Heap → Prop) : WOp P tab ov ⟨d, .alloc 1, ty, pos, af, g⟩ e h K = K (.pointer (some ⟨h.size, 0, none⟩)) (h.push (.row [.nilFunc] 1 false)) := w_alloc d ty pos af g e h K 1 tab_info1
theorem sz2 : sizeA tab 2 = some 1 := by kernel_rfl
theorem ag2 : aggA tab 2 = some false := by kernel_rfl
theorem ld2 (A o : Nat) (h : Heap) : loadA tab 2 (.pointer (some ⟨A, o, none⟩)) h = cellO (h.get A) o := load_one ag2
theorem pt2 (cs : List Value) (o : Nat) : partA tab 2 cs o = cs[o]? := part_one ag2
theorem al2 (P : Program) (ov : Ov) (d : Option Tmp) (ty : TypeId) (pos : String) (af : Array Edge) (g : Option (Nat × Bool)) (e : Env) (h : Heap) (K : Value → Heap → Prop) : WOp P tab ov ⟨d, .alloc 2, ty, pos, af, g⟩ e h K = K (.pointer (some ⟨h.size, 0, none⟩)) (h.push (.row [.int .i64 0] 2 false)) := w_alloc d ty pos af g e h K 2 tab_info2
theorem ds2 : tab.desc 2 = some (.int .i64) := by kernel_rfl
theorem sz3 : sizeA tab 3 = some 1 := by kernel_rfl
theorem ag3 : aggA tab 3 = some false := by kernel_rfl
theorem ld3 (A o : Nat) (h : Heap) : loadA tab 3 (.pointer (some ⟨A, o, none⟩)) h = cellO (h.get A) o := load_one ag3
theorem pt3 (cs : List Value) (o : Nat) : partA tab 3 cs o = cs[o]? := part_one ag3
theorem al3 (P : Program) (ov : Ov) (d : Option Tmp) (ty : TypeId) (pos : String) (af : Array Edge) (g : Option (Nat × Bool)) (e : Env) (h : Heap) (K : Value → Heap → Prop) : WOp P tab ov ⟨d, .alloc 3, ty, pos, af, g⟩ e h K = K (.pointer (some ⟨h.size, 0, none⟩)) (h.push (.row [.int .i64 0] 3 false)) := w_alloc d ty pos af g e h K 3 tab_info3
theorem ds3 : tab.desc 3 = some (.int .i64) := by kernel_rfl
theorem sz4 : sizeA tab 4 = some 1 := by kernel_rfl
theorem ag4 : aggA tab 4 = some false := by kernel_rfl
theorem ld4 (A o : Nat) (h : Heap) : loadA tab 4 (.pointer (some ⟨A, o, none⟩)) h = cellO (h.get A) o := load_one ag4
theorem pt4 (cs : List Value) (o : Nat) : partA tab 4 cs o = cs[o]? := part_one ag4
theorem al4 (P : Program) (ov : Ov) (d : Option Tmp) (ty : TypeId) (pos : String) (af : Array Edge) (g : Option (Nat × Bool)) (e : Env) (h : Heap) (K : Value → Heap → Prop) : WOp P tab ov ⟨d, .alloc 4, ty, pos, af, g⟩ e h K = K (.pointer (some ⟨h.size, 0, none⟩)) (h.push (.row [.bool false] 4 false)) := w_alloc d ty pos af g e h K 4 tab_info4
theorem ds4 : tab.desc 4 = some .bool := by kernel_rfl
theorem sz5 : sizeA tab 5 = some 1 := by kernel_rfl
theorem ag5 : aggA tab 5 = some false := by kernel_rfl
theorem ld5 (A o : Nat) (h : Heap) : loadA tab 5 (.pointer (some ⟨A, o, none⟩)) h = cellO (h.get A) o := load_one ag5
theorem pt5 (cs : List Value) (o : Nat) : partA tab 5 cs o = cs[o]? := part_one ag5
theorem al5 (P : Program) (ov : Ov) (d : Option Tmp) (ty : TypeId) (pos : String) (af : Array Edge) (g : Option (Nat × Bool)) (e : Env) (h : Heap) (K : Value → Heap → Prop) : WOp P tab ov ⟨d, .alloc 5, ty, pos, af, g⟩ e h K = K (.pointer (some ⟨h.size, 0, none⟩)) (h.push (.row [.int .u8 0] 5 false)) := w_alloc d ty pos af g e h K 5 tab_info5
theorem ds5 : tab.desc 5 = some (.int .u8) := by kernel_rfl
theorem sz6 : sizeA tab 6 = some 1 := by kernel_rfl
theorem ag6 : aggA tab 6 = some false := by kernel_rfl
theorem ld6 (A o : Nat) (h : Heap) : loadA tab 6 (.pointer (some ⟨A, o, none⟩)) h = cellO (h.get A) o := load_one ag6
theorem pt6 (cs : List Value) (o : Nat) : partA tab 6 cs o = cs[o]? := part_one ag6
theorem al6 (P : Program) (ov : Ov) (d : Option Tmp) (ty : TypeId) (pos : String) (af : Array Edge) (g : Option (Nat × Bool)) (e : Env) (h : Heap) (K : Value → Heap → Prop) : WOp P tab ov ⟨d, .alloc 6, ty, pos, af, g⟩ e h K = K (.pointer (some ⟨h.size, 0, none⟩)) (h.push (.row [.int .u8 0] 6 false)) := w_alloc d ty pos af g e h K 6 tab_info6
theorem ds6 : tab.desc 6 = some (.int .u8) := by kernel_rfl
theorem sz7 : sizeA tab 7 = some 4 := by kernel_rfl
theorem ag7 : aggA tab 7 = some true := by kernel_rfl
theorem ld7 (A o : Nat) (h : Heap) : loadA tab 7 (.pointer (some ⟨A, o, none⟩)) h = cutO (h.get A) o 4 := load_agg ag7 sz7
theorem pt7 (cs : List Value) (o : Nat) : partA tab 7 cs o = (cut cs o 4).map fun l => .agg l.toArray := part_agg ag7 sz7
theorem al7 (P : Program) (ov : Ov) (d : Option Tmp) (ty : TypeId) (pos : String) (af : Array Edge) (g : Option (Nat × Bool)) (e : Env) (h : Heap) (K : Value → Heap → Prop) : WOp P tab ov ⟨d, .alloc 7, ty, pos, af, g⟩ e h K = K (.pointer (some ⟨h.size, 0, none⟩)) (h.push (.row [.int .i64 0, .int .i64 0, .bool false, .int .u8 0] 7 false)) := w_alloc d ty pos af g e h K 7 tab_info7
theorem fa7_0 (A o : Nat) : fieldAddrA tab 7 (.pointer (some ⟨A, o, none⟩)) 0 = some (.pointer (some ⟨A, o + 0, none⟩)) := Eq.refl _
theorem fd7_0 (cs : Array Value) : fieldA tab 7 (.agg cs) 0 = partA tab 2 cs.toList 0 := Eq.refl _
theorem fa7_1 (A o : Nat) : fieldAddrA tab 7 (.pointer (some ⟨A, o, none⟩)) 1 = some (.pointer (some ⟨A, o + 1, none⟩)) := Eq.refl _
theorem fd7_1 (cs : Array Value) : fieldA tab 7 (.agg cs) 1 = partA tab 3 cs.toList 1 := Eq.refl _
theorem fa7_2 (A o : Nat) : fieldAddrA tab 7 (.pointer (some ⟨A, o, none⟩)) 2 = some (.pointer (some ⟨A, o + 2, none⟩)) := Eq.refl _
theorem fd7_2 (cs : Array Value) : fieldA tab 7 (.agg cs) 2 = partA tab 4 cs.toList 2 := Eq.refl _
theorem fa7_3 (A o : Nat) : fieldAddrA tab 7 (.pointer (some ⟨A, o, none⟩)) 3 = some (.pointer (some ⟨A, o + 3, none⟩)) := Eq.refl _
theorem fd7_3 (cs : Array Value) : fieldA tab 7 (.agg cs) 3 = partA tab 6 cs.toList 3 := Eq.refl _
theorem sz8 : sizeA tab 8 = some 4 := by kernel_rfl
theorem ag8 : aggA tab 8 = some true := by kernel_rfl
theorem ld8 (A o : Nat) (h : Heap) : loadA tab 8 (.pointer (some ⟨A, o, none⟩)) h = cutO (h.get A) o 4 := load_agg ag8 sz8
theorem pt8 (cs : List Value) (o : Nat) : partA tab 8 cs o = (cut cs o 4).map fun l => .agg l.toArray := part_agg ag8 sz8
theorem al8 (P : Program) (ov : Ov) (d : Option Tmp) (ty : TypeId) (pos : String) (af : Array Edge) (g : Option (Nat × Bool)) (e : Env) (h : Heap) (K : Value → Heap → Prop) : WOp P tab ov ⟨d, .alloc 8, ty, pos, af, g⟩ e h K = K (.pointer (some ⟨h.size, 0, none⟩)) (h.push (.row [.int .i64 0, .int .i64 0, .bool false, .int .u8 0] 8 false)) := w_alloc d ty pos af g e h K 8 tab_info8
theorem fa8_0 (A o : Nat) : fieldAddrA tab 8 (.pointer (some ⟨A, o, none⟩)) 0 = some (.pointer (some ⟨A, o + 0, none⟩)) := Eq.refl _
theorem fd8_0 (cs : Array Value) : fieldA tab 8 (.agg cs) 0 = partA tab 2 cs.toList 0 := Eq.refl _
theorem fa8_1 (A o : Nat) : fieldAddrA tab 8 (.pointer (some ⟨A, o, none⟩)) 1 = some (.pointer (some ⟨A, o + 1, none⟩)) := Eq.refl _
theorem fd8_1 (cs : Array Value) : fieldA tab 8 (.agg cs) 1 = partA tab 3 cs.toList 1 := Eq.refl _
theorem fa8_2 (A o : Nat) : fieldAddrA tab 8 (.pointer (some ⟨A, o, none⟩)) 2 = some (.pointer (some ⟨A, o + 2, none⟩)) := Eq.refl _
theorem fd8_2 (cs : Array Value) : fieldA tab 8 (.agg cs) 2 = partA tab 4 cs.toList 2 := Eq.refl _
theorem fa8_3 (A o : Nat) : fieldAddrA tab 8 (.pointer (some ⟨A, o, none⟩)) 3 = some (.pointer (some ⟨A, o + 3, none⟩)) := Eq.refl _
theorem fd8_3 (cs : Array Value) : fieldA tab 8 (.agg cs) 3 = partA tab 6 cs.toList 3 := Eq.refl _
theorem sz9 : sizeA tab 9 = some 1 := by kernel_rfl
theorem ag9 : aggA tab 9 = some false := by kernel_rfl
theorem ld9 (A o : Nat) (h : Heap) : loadA tab 9 (.pointer (some ⟨A, o, none⟩)) h = cellO (h.get A) o := load_one ag9
theorem pt9 (cs : List Value) (o : Nat) : partA tab 9 cs o = cs[o]? := part_one ag9
theorem al9 (P : Program) (ov : Ov) (d : Option Tmp) (ty : TypeId) (pos : String) (af : Array Edge) (g : Option (Nat × Bool)) (e : Env) (h : Heap) (K : Value → Heap → Prop) : WOp P tab ov ⟨d, .alloc 9, ty, pos, af, g⟩ e h K = K (.pointer (some ⟨h.size, 0, none⟩)) (h.push (.row [.string ⟨#[]⟩] 9 false)) := w_alloc d ty pos af g e h K 9 tab_info9
theorem ds9 : tab.desc 9 = some .string := by kernel_rfl
theorem ln9 (s : ByteArray) (h : Heap) : lenA tab 9 (.string s) h = some (.int .i64 s.size) := lenA_str ds9
theorem sz10 : sizeA tab 10 = some 1 := by kernel_rfl
theorem ag10 : aggA tab 10 = some false := by kernel_rfl
theorem ld10 (A o : Nat) (h : Heap) : loadA tab 10 (.pointer (some ⟨A, o, none⟩)) h = cellO (h.get A) o := load_one ag10
theorem pt10 (cs : List Value) (o : Nat) : partA tab 10 cs o = cs[o]? := part_one ag10
theorem al10 (P : Program) (ov : Ov) (d : Option Tmp) (ty : TypeId) (pos : String) (af : Array Edge) (g : Option (Nat × Bool)) (e : Env) (h : Heap) (K : Value → Heap → Prop) : WOp P tab ov ⟨d, .alloc 10, ty, pos, af, g⟩ e h K = K (.pointer (some ⟨h.size, 0, none⟩)) (h.push (.row [.string ⟨#[]⟩] 10 false)) := w_alloc d ty pos af g e h K 10 tab_info10
theorem ds10 : tab.desc 10 = some .string := by kernel_rfl
theorem ln10 (s : ByteArray) (h : Heap) : lenA tab 10 (.string s) h = some (.int .i64 s.size) := lenA_str ds10
theorem sz11 : sizeA tab 11 = some 1 := by kernel_rfl
theorem ag11 : aggA tab 11 = some false := by kernel_rfl
theorem ld11 (A o : Nat) (h : Heap) : loadA tab 11 (.pointer (some ⟨A, o, none⟩)) h = cellO (h.get A) o := load_one ag11
theorem pt11 (cs : List Value) (o : Nat) : partA tab 11 cs o = cs[o]? := part_one ag11
theorem al11 (P : Program) (ov : Ov) (d : Option Tmp) (ty : TypeId) (pos : String) (af : Array Edge) (g : Option (Nat × Bool)) (e : Env) (h : Heap) (K : Value → Heap → Prop) : WOp P tab ov ⟨d, .alloc 11, ty, pos, af, g⟩ e h K = K (.pointer (some ⟨h.size, 0, none⟩)) (h.push (.row [.string ⟨#[]⟩] 11 false)) := w_alloc d ty pos af g e h K 11 tab_info11
theorem ds11 : tab.desc 11 = some .string := by kernel_rfl
theorem ln11 (s : ByteArray) (h : Heap) : lenA tab 11 (.string s) h = some (.int .i64 s.size) := lenA_str ds11
theorem sz12 : sizeA tab 12 = some 1 := by kernel_rfl
theorem ag12 : aggA tab 12 = some false := by kernel_rfl
theorem ld12 (A o : Nat) (h : Heap) : loadA tab 12 (.pointer (some ⟨A, o, none⟩)) h = cellO (h.get A) o := load_one ag12
theorem pt12 (cs : List Value) (o : Nat) : partA tab 12 cs o = cs[o]? := part_one ag12
theorem al12 (P : Program) (ov : Ov) (d : Option Tmp) (ty : TypeId) (pos : String) (af : Array Edge) (g : Option (Nat × Bool)) (e : Env) (h : Heap) (K : Value → Heap → Prop) : WOp P tab ov ⟨d, .alloc 12, ty, pos, af, g⟩ e h K = K (.pointer (some ⟨h.size, 0, none⟩)) (h.push (.row [.int .u64 0] 12 false)) := w_alloc d ty pos af g e h K 12 tab_info12
theorem ds12 : tab.desc 12 = some (.int .u64) := by kernel_rfl
theorem sz13 : sizeA tab 13 = some 2 := by kernel_rfl
theorem ag13 : aggA tab 13 = some true := by kernel_rfl
theorem ld13 (A o : Nat) (h : Heap) : loadA tab 13 (.pointer (some ⟨A, o, none⟩)) h = cutO (h.get A) o 2 := load_agg ag13 sz13
theorem pt13 (cs : List Value) (o : Nat) : partA tab 13 cs o = (cut cs o 2).map fun l => .agg l.toArray := part_agg ag13 sz13
theorem al13 (P : Program) (ov : Ov) (d : Option Tmp) (ty : TypeId) (pos : String) (af : Array Edge) (g : Option (Nat × Bool)) (e : Env) (h : Heap) (K : Value → Heap → Prop) : WOp P tab ov ⟨d, .alloc 13, ty, pos, af, g⟩ e h K = K (.pointer (some ⟨h.size, 0, none⟩)) (h.push (.row [.string ⟨#[]⟩, .int .u64 0] 13 false)) := w_alloc d ty pos af g e h K 13 tab_info13
theorem fa13_0 (A o : Nat) : fieldAddrA tab 13 (.pointer (some ⟨A, o, none⟩)) 0 = some (.pointer (some ⟨A, o + 0, none⟩)) := Eq.refl _
theorem fd13_0 (cs : Array Value) : fieldA tab 13 (.agg cs) 0 = partA tab 9 cs.toList 0 := Eq.refl _
theorem fa13_1 (A o : Nat) : fieldAddrA tab 13 (.pointer (some ⟨A, o, none⟩)) 1 = some (.pointer (some ⟨A, o + 1, none⟩)) := Eq.refl _
theorem fd13_1 (cs : Array Value) : fieldA tab 13 (.agg cs) 1 = partA tab 12 cs.toList 1 := Eq.refl _
theorem sz14 : sizeA tab 14 = some 2 := by kernel_rfl
theorem ag14 : aggA tab 14 = some true := by kernel_rfl
theorem ld14 (A o : Nat) (h : Heap) : loadA tab 14 (.pointer (some ⟨A, o, none⟩)) h = cutO (h.get A) o 2 := load_agg ag14 sz14
theorem pt14 (cs : List Value) (o : Nat) : partA tab 14 cs o = (cut cs o 2).map fun l => .agg l.toArray := part_agg ag14 sz14
theorem al14 (P : Program) (ov : Ov) (d : Option Tmp) (ty : TypeId) (pos : String) (af : Array Edge) (g : Option (Nat × Bool)) (e : Env) (h : Heap) (K : Value → Heap → Prop) : WOp P tab ov ⟨d, .alloc 14, ty, pos, af, g⟩ e h K = K (.pointer (some ⟨h.size, 0, none⟩)) (h.push (.row [.string ⟨#[]⟩, .int .u64 0] 14 false)) := w_alloc d ty pos af g e h K 14 tab_info14
theorem fa14_0 (A o : Nat) : fieldAddrA tab 14 (.pointer (some ⟨A, o, none⟩)) 0 = some (.pointer (some ⟨A, o + 0, none⟩)) := Eq.refl _
theorem fd14_0 (cs : Array Value) : fieldA tab 14 (.agg cs) 0 = partA tab 9 cs.toList 0 := Eq.refl _
theorem fa14_1 (A o : Nat) : fieldAddrA tab 14 (.pointer (some ⟨A, o, none⟩)) 1 = some (.pointer (some ⟨A, o + 1, none⟩)) := Eq.refl _
theorem fd14_1 (cs : Array Value) : fieldA tab 14 (.agg cs) 1 = partA tab 12 cs.toList 1 := Eq.refl _
theorem sz15 : sizeA tab 15 = some 1 := by kernel_rfl
theorem ag15 : aggA tab 15 = some false := by kernel_rfl
theorem ld15 (A o : Nat) (h : Heap) : loadA tab 15 (.pointer (some ⟨A, o, none⟩)) h = cellO (h.get A) o := load_one ag15
theorem pt15 (cs : List Value) (o : Nat) : partA tab 15 cs o = cs[o]? := part_one ag15
theorem al15 (P : Program) (ov : Ov) (d : Option Tmp) (ty : TypeId) (pos : String) (af : Array Edge) (g : Option (Nat × Bool)) (e : Env) (h : Heap) (K : Value → Heap → Prop) : WOp P tab ov ⟨d, .alloc 15, ty, pos, af, g⟩ e h K = K (.pointer (some ⟨h.size, 0, none⟩)) (h.push (.row [.pointer none] 15 false)) := w_alloc d ty pos af g e h K 15 tab_info15
theorem ds15 : tab.desc 15 = some (.pointer 91) := by kernel_rfl
theorem sz16 : sizeA tab 16 = some 1 := by kernel_rfl
theorem ag16 : aggA tab 16 = some false := by kernel_rfl
theorem ld16 (A o : Nat) (h : Heap) : loadA tab 16 (.pointer (some ⟨A, o, none⟩)) h = cellO (h.get A) o := load_one ag16
theorem pt16 (cs : List Value) (o : Nat) : partA tab 16 cs o = cs[o]? := part_one ag16
theorem al16 (P : Program) (ov : Ov) (d : Option Tmp) (ty : TypeId) (pos : String) (af : Array Edge) (g : Option (Nat × Bool)) (e : Env) (h : Heap) (K : Value → Heap → Prop) : WOp P tab ov ⟨d, .alloc 16, ty, pos, af, g⟩ e h K = K (.pointer (some ⟨h.size, 0, none⟩)) (h.push (.row [.pointer none] 16 false)) := w_alloc d ty pos af g e h K 16 tab_info16
theorem ds16 : tab.desc 16 = some (.pointer 94) := by kernel_rfl
theorem sz17 : sizeA tab 17 = some 1 := by kernel_rfl
theorem ag17 : aggA tab 17 = some false := by kernel_rfl
theorem ld17 (A o : Nat) (h : Heap) : loadA tab 17 (.pointer (some ⟨A, o, none⟩)) h = cellO (h.get A) o := load_one ag17
theorem pt17 (cs : List Value) (o : Nat) : partA tab 17 cs o = cs[o]? := part_one ag17
theorem al17 (P : Program) (ov : Ov) (d : Option Tmp) (ty : TypeId) (pos : String) (af : Array Edge) (g : Option (Nat × Bool)) (e : Env) (h : Heap) (K : Value → Heap → Prop) : WOp P tab ov ⟨d, .alloc 17, ty, pos, af, g⟩ e h K = K (.pointer (some ⟨h.size, 0, none⟩)) (h.push (.row [.pointer none] 17 false)) := w_alloc d ty pos af g e h K 17 tab_info17
theorem ds17 : tab.desc 17 = some (.pointer 103) := by kernel_rfl
theorem sz18 : sizeA tab 18 = some 1 := by kernel_rfl
theorem ag18 : aggA tab 18 = some true := by kernel_rfl
theorem ld18 (A o : Nat) (h : Heap) : loadA tab 18 (.pointer (some ⟨A, o, none⟩)) h = cutO (h.get A) o 1 := load_agg ag18 sz18
theorem pt18 (cs : List Value) (o : Nat) : partA tab 18 cs o = (cut cs o 1).map fun l => .agg l.toArray := part_agg ag18 sz18
theorem al18 (P : Program) (ov : Ov) (d : Option Tmp) (ty : TypeId) (pos : String) (af : Array Edge) (g : Option (Nat × Bool)) (e : Env) (h : Heap) (K : Value → Heap → Prop) : WOp P tab ov ⟨d, .alloc 18, ty, pos, af, g⟩ e h K = K (.pointer (some ⟨h.size, 0, none⟩)) (h.push (.row [.pointer none] 18 false)) := w_alloc d ty pos af g e h K 18 tab_info18
theorem fa18_0 (A o : Nat) : fieldAddrA tab 18 (.pointer (some ⟨A, o, none⟩)) 0 = some (.pointer (some ⟨A, o + 0, none⟩)) := Eq.refl _
theorem fd18_0 (cs : Array Value) : fieldA tab 18 (.agg cs) 0 = partA tab 17 cs.toList 0 := Eq.refl _
theorem sz19 : sizeA tab 19 = some 1 := by kernel_rfl
theorem ag19 : aggA tab 19 = some true := by kernel_rfl
theorem ld19 (A o : Nat) (h : Heap) : loadA tab 19 (.pointer (some ⟨A, o, none⟩)) h = cutO (h.get A) o 1 := load_agg ag19 sz19
theorem pt19 (cs : List Value) (o : Nat) : partA tab 19 cs o = (cut cs o 1).map fun l => .agg l.toArray := part_agg ag19 sz19
theorem al19 (P : Program) (ov : Ov) (d : Option Tmp) (ty : TypeId) (pos : String) (af : Array Edge) (g : Option (Nat × Bool)) (e : Env) (h : Heap) (K : Value → Heap → Prop) : WOp P tab ov ⟨d, .alloc 19, ty, pos, af, g⟩ e h K = K (.pointer (some ⟨h.size, 0, none⟩)) (h.push (.row [.pointer none] 19 false)) := w_alloc d ty pos af g e h K 19 tab_info19
theorem fa19_0 (A o : Nat) : fieldAddrA tab 19 (.pointer (some ⟨A, o, none⟩)) 0 = some (.pointer (some ⟨A, o + 0, none⟩)) := Eq.refl _
theorem fd19_0 (cs : Array Value) : fieldA tab 19 (.agg cs) 0 = partA tab 17 cs.toList 0 := Eq.refl _
theorem sz20 : sizeA tab 20 = some 1 := by kernel_rfl
theorem ag20 : aggA tab 20 = some false := by kernel_rfl
theorem ld20 (A o : Nat) (h : Heap) : loadA tab 20 (.pointer (some ⟨A, o, none⟩)) h = cellO (h.get A) o := load_one ag20
theorem pt20 (cs : List Value) (o : Nat) : partA tab 20 cs o = cs[o]? := part_one ag20
theorem al20 (P : Program) (ov : Ov) (d : Option Tmp) (ty : TypeId) (pos : String) (af : Array Edge) (g : Option (Nat × Bool)) (e : Env) (h : Heap) (K : Value → Heap → Prop) : WOp P tab ov ⟨d, .alloc 20, ty, pos, af, g⟩ e h K = K (.pointer (some ⟨h.size, 0, none⟩)) (h.push (.row [.nilIface] 20 false)) := w_alloc d ty pos af g e h K 20 tab_info20
theorem sz21 : sizeA tab 21 = some 1 := by kernel_rfl
theorem ag21 : aggA tab 21 = some false := by kernel_rfl
theorem ld21 (A o : Nat) (h : Heap) : loadA tab 21 (.pointer (some ⟨A, o, none⟩)) h = cellO (h.get A) o := load_one ag21
theorem pt21 (cs : List Value) (o : Nat) : partA tab 21 cs o = cs[o]? := part_one ag21
theorem al21 (P : Program) (ov : Ov) (d : Option Tmp) (ty : TypeId) (pos : String) (af : Array Edge) (g : Option (Nat × Bool)) (e : Env) (h : Heap) (K : Value → Heap → Prop) : WOp P tab ov ⟨d, .alloc 21, ty, pos, af, g⟩ e h K = K (.pointer (some ⟨h.size, 0, none⟩)) (h.push (.row [.int .i32 0] 21 false)) := w_alloc d ty pos af g e h K 21 tab_info21
theorem ds21 : tab.desc 21 = some (.int .i32) := by kernel_rfl
theorem sz22 : sizeA tab 22 = some 2 := by kernel_rfl
theorem ag22 : aggA tab 22 = some true := by kernel_rfl
theorem ld22 (A o : Nat) (h : Heap) : loadA tab 22 (.pointer (some ⟨A, o, none⟩)) h = cutO (h.get A) o 2 := load_agg ag22 sz22
theorem pt22 (cs : List Value) (o : Nat) : partA tab 22 cs o = (cut cs o 2).map fun l => .agg l.toArray := part_agg ag22 sz22
theorem al22 (P : Program) (ov : Ov) (d : Option Tmp) (ty : TypeId) (pos : String) (af : Array Edge) (g : Option (Nat × Bool)) (e : Env) (h : Heap) (K : Value → Heap → Prop) : WOp P tab ov ⟨d, .alloc 22, ty, pos, af, g⟩ e h K = K (.pointer (some ⟨h.size, 0, none⟩)) (h.push (.row [.bool false, .string ⟨#[]⟩] 22 false)) := w_alloc d ty pos af g e h K 22 tab_info22
theorem fa22_0 (A o : Nat) : fieldAddrA tab 22 (.pointer (some ⟨A, o, none⟩)) 0 = some (.pointer (some ⟨A, o + 0, none⟩)) := Eq.refl _
theorem fd22_0 (cs : Array Value) : fieldA tab 22 (.agg cs) 0 = partA tab 4 cs.toList 0 := Eq.refl _
theorem fa22_1 (A o : Nat) : fieldAddrA tab 22 (.pointer (some ⟨A, o, none⟩)) 1 = some (.pointer (some ⟨A, o + 1, none⟩)) := Eq.refl _
theorem fd22_1 (cs : Array Value) : fieldA tab 22 (.agg cs) 1 = partA tab 9 cs.toList 1 := Eq.refl _
theorem sz23 : sizeA tab 23 = some 2 := by kernel_rfl
theorem ag23 : aggA tab 23 = some true := by kernel_rfl
theorem ld23 (A o : Nat) (h : Heap) : loadA tab 23 (.pointer (some ⟨A, o, none⟩)) h = cutO (h.get A) o 2 := load_agg ag23 sz23
theorem pt23 (cs : List Value) (o : Nat) : partA tab 23 cs o = (cut cs o 2).map fun l => .agg l.toArray := part_agg ag23 sz23
theorem al23 (P : Program) (ov : Ov) (d : Option Tmp) (ty : TypeId) (pos : String) (af : Array Edge) (g : Option (Nat × Bool)) (e : Env) (h : Heap) (K : Value → Heap → Prop) : WOp P tab ov ⟨d, .alloc 23, ty, pos, af, g⟩ e h K = K (.pointer (some ⟨h.size, 0, none⟩)) (h.push (.row [.bool false, .string ⟨#[]⟩] 23 false)) := w_alloc d ty pos af g e h K 23 tab_info23
theorem fa23_0 (A o : Nat) : fieldAddrA tab 23 (.pointer (some ⟨A, o, none⟩)) 0 = some (.pointer (some ⟨A, o + 0, none⟩)) := Eq.refl _
theorem fd23_0 (cs : Array Value) : fieldA tab 23 (.agg cs) 0 = partA tab 4 cs.toList 0 := Eq.refl _
theorem fa23_1 (A o : Nat) : fieldAddrA tab 23 (.pointer (some ⟨A, o, none⟩)) 1 = some (.pointer (some ⟨A, o + 1, none⟩)) := Eq.refl _
theorem fd23_1 (cs : Array Value) : fieldA tab 23 (.agg cs) 1 = partA tab 9 cs.toList 1 := Eq.refl _
theorem sz24 : sizeA tab 24 = some 8 := by kernel_rfl
theorem ag24 : aggA tab 24 = some true := by kernel_rfl
theorem ld24 (A o : Nat) (h : Heap) : loadA tab 24 (.pointer (some ⟨A, o, none⟩)) h = cutO (h.get A) o 8 := load_agg ag24 sz24
theorem pt24 (cs : List Value) (o : Nat) : partA tab 24 cs o = (cut cs o 8).map fun l => .agg l.toArray := part_agg ag24 sz24
theorem al24 (P : Program) (ov : Ov) (d : Option Tmp) (ty : TypeId) (pos : String) (af : Array Edge) (g : Option (Nat × Bool)) (e : Env) (h : Heap) (K : Value → Heap → Prop) : WOp P tab ov ⟨d, .alloc 24, ty, pos, af, g⟩ e h K = K (.pointer (some ⟨h.size, 0, none⟩)) (h.push (.row [.bool false, .string ⟨#[]⟩, .bool false, .string ⟨#[]⟩, .bool false, .string ⟨#[]⟩, .bool false, .string ⟨#[]⟩] 24 false)) := w_alloc d ty pos af g e h K 24 tab_info24
theorem ds24 : tab.desc 24 = some (.array 4 23) := by kernel_rfl
theorem ix24 (A o : Nat) (ik : IntKind) (i : Int) : indexAddrA tab 24 (.pointer (some ⟨A, o, none⟩)) (.int ik i) = if 0 ≤ i ∧ i < 4 then some (.pointer (some ⟨A, o + i.toNat * 2, none⟩)) else none := idx_arr ds24 (by kernel_rfl)
theorem sz25 : sizeA tab 25 = some 11 := by kernel_rfl
theorem ag25 : aggA tab 25 = some true := by kernel_rfl
theorem ld25 (A o : Nat) (h : Heap) : loadA tab 25 (.pointer (some ⟨A, o, none⟩)) h = cutO (h.get A) o 11 := load_agg ag25 sz25
theorem pt25 (cs : List Value) (o : Nat) : partA tab 25 cs o = (cut cs o 11).map fun l => .agg l.toArray := part_agg ag25 sz25
theorem al25 (P : Program) (ov : Ov) (d : Option Tmp) (ty : TypeId) (pos : String) (af : Array Edge) (g : Option (Nat × Bool)) (e : Env) (h : Heap) (K : Value → Heap → Prop) : WOp P tab ov ⟨d, .alloc 25, ty, pos, af, g⟩ e h K = K (.pointer (some ⟨h.size, 0, none⟩)) (h.push (.row [.string ⟨#[]⟩, .string ⟨#[]⟩, .int .i64 0, .bool false, .string ⟨#[]⟩, .bool false, .string ⟨#[]⟩, .bool false, .string ⟨#[]⟩, .bool false, .string ⟨#[]⟩] 25 false)) := w_alloc d ty pos af g e h K 25 tab_info25
theorem fa25_0 (A o : Nat) : fieldAddrA tab 25 (.pointer (some ⟨A, o, none⟩)) 0 = some (.pointer (some ⟨A, o + 0, none⟩)) := Eq.refl _
theorem fd25_0 (cs : Array Value) : fieldA tab 25 (.agg cs) 0 = partA tab 9 cs.toList 0 := Eq.refl _
theorem fa25_1 (A o : Nat) : fieldAddrA tab 25 (.pointer (some ⟨A, o, none⟩)) 1 = some (.pointer (some ⟨A, o + 1, none⟩)) := Eq.refl _
theorem fd25_1 (cs : Array Value) : fieldA tab 25 (.agg cs) 1 = partA tab 9 cs.toList 1 := Eq.refl _
theorem fa25_2 (A o : Nat) : fieldAddrA tab 25 (.pointer (some ⟨A, o, none⟩)) 2 = some (.pointer (some ⟨A, o + 2, none⟩)) := Eq.refl _
theorem fd25_2 (cs : Array Value) : fieldA tab 25 (.agg cs) 2 = partA tab 3 cs.toList 2 := Eq.refl _
theorem fa25_3 (A o : Nat) : fieldAddrA tab 25 (.pointer (some ⟨A, o, none⟩)) 3 = some (.pointer (some ⟨A, o + 3, none⟩)) := Eq.refl _
theorem fd25_3 (cs : Array Value) : fieldA tab 25 (.agg cs) 3 = partA tab 24 cs.toList 3 := Eq.refl _
theorem sz26 : sizeA tab 26 = some 11 := by kernel_rfl
theorem ag26 : aggA tab 26 = some true := by kernel_rfl
theorem ld26 (A o : Nat) (h : Heap) : loadA tab 26 (.pointer (some ⟨A, o, none⟩)) h = cutO (h.get A) o 11 := load_agg ag26 sz26
theorem pt26 (cs : List Value) (o : Nat) : partA tab 26 cs o = (cut cs o 11).map fun l => .agg l.toArray := part_agg ag26 sz26
theorem al26 (P : Program) (ov : Ov) (d : Option Tmp) (ty : TypeId) (pos : String) (af : Array Edge) (g : Option (Nat × Bool)) (e : Env) (h : Heap) (K : Value → Heap → Prop) : WOp P tab ov ⟨d, .alloc 26, ty, pos, af, g⟩ e h K = K (.pointer (some ⟨h.size, 0, none⟩)) (h.push (.row [.string ⟨#[]⟩, .string ⟨#[]⟩, .int .i64 0, .bool false, .string ⟨#[]⟩, .bool false, .string ⟨#[]⟩, .bool false, .string ⟨#[]⟩, .bool false, .string ⟨#[]⟩] 26 false)) := w_alloc d ty pos af g e h K 26 tab_info26
theorem fa26_0 (A o : Nat) : fieldAddrA tab 26 (.pointer (some ⟨A, o, none⟩)) 0 = some (.pointer (some ⟨A, o + 0, none⟩)) := Eq.refl _
theorem fd26_0 (cs : Array Value) : fieldA tab 26 (.agg cs) 0 = partA tab 9 cs.toList 0 := Eq.refl _
theorem fa26_1 (A o : Nat) : fieldAddrA tab 26 (.pointer (some ⟨A, o, none⟩)) 1 = some (.pointer (some ⟨A, o + 1, none⟩)) := Eq.refl _
theorem fd26_1 (cs : Array Value) : fieldA tab 26 (.agg cs) 1 = partA tab 9 cs.toList 1 := Eq.refl _
theorem fa26_2 (A o : Nat) : fieldAddrA tab 26 (.pointer (some ⟨A, o, none⟩)) 2 = some (.pointer (some ⟨A, o + 2, none⟩)) := Eq.refl _
theorem fd26_2 (cs : Array Value) : fieldA tab 26 (.agg cs) 2 = partA tab 3 cs.toList 2 := Eq.refl _
theorem fa26_3 (A o : Nat) : fieldAddrA tab 26 (.pointer (some ⟨A, o, none⟩)) 3 = some (.pointer (some ⟨A, o + 3, none⟩)) := Eq.refl _
theorem fd26_3 (cs : Array Value) : fieldA tab 26 (.agg cs) 3 = partA tab 24 cs.toList 3 := Eq.refl _
theorem sz27 : sizeA tab 27 = some 1 := by kernel_rfl
theorem ag27 : aggA tab 27 = some false := by kernel_rfl
theorem ld27 (A o : Nat) (h : Heap) : loadA tab 27 (.pointer (some ⟨A, o, none⟩)) h = cellO (h.get A) o := load_one ag27
theorem pt27 (cs : List Value) (o : Nat) : partA tab 27 cs o = cs[o]? := part_one ag27
theorem al27 (P : Program) (ov : Ov) (d : Option Tmp) (ty : TypeId) (pos : String) (af : Array Edge) (g : Option (Nat × Bool)) (e : Env) (h : Heap) (K : Value → Heap → Prop) : WOp P tab ov ⟨d, .alloc 27, ty, pos, af, g⟩ e h K = K (.pointer (some ⟨h.size, 0, none⟩)) (h.push (.row [.nilFunc] 27 false)) := w_alloc d ty pos af g e h K 27 tab_info27
theorem sz28 : sizeA tab 28 = some 1 := by kernel_rfl
theorem ag28 : aggA tab 28 = some false := by kernel_rfl
theorem ld28 (A o : Nat) (h : Heap) : loadA tab 28 (.pointer (some ⟨A, o, none⟩)) h = cellO (h.get A) o := load_one ag28
theorem pt28 (cs : List Value) (o : Nat) : partA tab 28 cs o = cs[o]? := part_one ag28
theorem al28 (P : Program) (ov : Ov) (d : Option Tmp) (ty : TypeId) (pos : String) (af : Array Edge) (g : Option (Nat × Bool)) (e : Env) (h : Heap) (K : Value → Heap → Prop) : WOp P tab ov ⟨d, .alloc 28, ty, pos, af, g⟩ e h K = K (.pointer (some ⟨h.size, 0, none⟩)) (h.push (.row [.nilFunc] 28 false)) := w_alloc d ty pos af g e h K 28 tab_info28
theorem sz29 : sizeA tab 29 = some 1 := by kernel_rfl
theorem ag29 : aggA tab 29 = some false := by kernel_rfl
theorem ld29 (A o : Nat) (h : Heap) : loadA tab 29 (.pointer (some ⟨A, o, none⟩)) h = cellO (h.get A) o := load_one ag29
theorem pt29 (cs : List Value) (o : Nat) : partA tab 29 cs o = cs[o]? := part_one ag29
theorem al29 (P : Program) (ov : Ov) (d : Option Tmp) (ty : TypeId) (pos : String) (af : Array Edge) (g : Option (Nat × Bool)) (e : Env) (h : Heap) (K : Value → Heap → Prop) : WOp P tab ov ⟨d, .alloc 29, ty, pos, af, g⟩ e h K = K (.pointer (some ⟨h.size, 0, none⟩)) (h.push (.row [.int .i64 0] 29 false)) := w_alloc d ty pos af g e h K 29 tab_info29
theorem ds29 : tab.desc 29 = some (.int .i64) := by kernel_rfl
theorem sz30 : sizeA tab 30 = some 1 := by kernel_rfl
theorem ag30 : aggA tab 30 = some false := by kernel_rfl
theorem ld30 (A o : Nat) (h : Heap) : loadA tab 30 (.pointer (some ⟨A, o, none⟩)) h = cellO (h.get A) o := load_one ag30
theorem pt30 (cs : List Value) (o : Nat) : partA tab 30 cs o = cs[o]? := part_one ag30
theorem al30 (P : Program) (ov : Ov) (d : Option Tmp) (ty : TypeId) (pos : String) (af : Array Edge) (g : Option (Nat × Bool)) (e : Env) (h : Heap) (K : Value → Heap → Prop) : WOp P tab ov ⟨d, .alloc 30, ty, pos, af, g⟩ e h K = K (.pointer (some ⟨h.size, 0, none⟩)) (h.push (.row [.nilFunc] 30 false)) := w_alloc d ty pos af g e h K 30 tab_info30
theorem sz31 : sizeA tab 31 = some 1 := by kernel_rfl
theorem ag31 : aggA tab 31 = some false := by kernel_rfl
theorem ld31 (A o : Nat) (h : Heap) : loadA tab 31 (.pointer (some ⟨A, o, none⟩)) h = cellO (h.get A) o := load_one ag31
theorem pt31 (cs : List Value) (o : Nat) : partA tab 31 cs o = cs[o]? := part_one ag31
theorem al31 (P : Program) (ov : Ov) (d : Option Tmp) (ty : TypeId) (pos : String) (af : Array Edge) (g : Option (Nat × Bool)) (e : Env) (h : Heap) (K : Value → Heap → Prop) : WOp P tab ov ⟨d, .alloc 31, ty, pos, af, g⟩ e h K = K (.pointer (some ⟨h.size, 0, none⟩)) (h.push (.row [.nilFunc] 31 false)) := w_alloc d ty pos af g e h K 31 tab_info31
theorem sz32 : sizeA tab 32 = some 1 := by kernel_rfl
theorem ag32 : aggA tab 32 = some false := by kernel_rfl
theorem ld32 (A o : Nat) (h : Heap) : loadA tab 32 (.pointer (some ⟨A, o, none⟩)) h = cellO (h.get A) o := load_one ag32
theorem pt32 (cs : List Value) (o : Nat) : partA tab 32 cs o = cs[o]? := part_one ag32
theorem al32 (P : Program) (ov : Ov) (d : Option Tmp) (ty : TypeId) (pos : String) (af : Array Edge) (g : Option (Nat × Bool)) (e : Env) (h : Heap) (K : Value → Heap → Prop) : WOp P tab ov ⟨d, .alloc 32, ty, pos, af, g⟩ e h K = K (.pointer (some ⟨h.size, 0, none⟩)) (h.push (.row [.nilFunc] 32 false)) := w_alloc d ty pos af g e h K 32 tab_info32
theorem sz33 : sizeA tab 33 = some 1 := by kernel_rfl
theorem ag33 : aggA tab 33 = some false := by kernel_rfl
theorem ld33 (A o : Nat) (h : Heap) : loadA tab 33 (.pointer (some ⟨A, o, none⟩)) h = cellO (h.get A) o := load_one ag33
theorem pt33 (cs : List Value) (o : Nat) : partA tab 33 cs o = cs[o]? := part_one ag33
theorem al33 (P : Program) (ov : Ov) (d : Option Tmp) (ty : TypeId) (pos : String) (af : Array Edge) (g : Option (Nat × Bool)) (e : Env) (h : Heap) (K : Value → Heap → Prop) : WOp P tab ov ⟨d, .alloc 33, ty, pos, af, g⟩ e h K = K (.pointer (some ⟨h.size, 0, none⟩)) (h.push (.row [.slice none 0 0] 33 false)) := w_alloc d ty pos af g e h K 33 tab_info33
theorem ds33 : tab.desc 33 = some (.slice 26) := by kernel_rfl
theorem ln33 (a : Option Addr) (n c : Nat) (h : Heap) : lenA tab 33 (.slice a n c) h = some (.int .i64 n) := lenA_slice ds33
theorem bs33 (n : Nat) (parts : List (Nat × Value)) (h : Heap) : buildSliceA tab 33 n parts h = if n * 11 > 16777216 || n > 16777216 then Option.none else (fillA (fun i => some (i * 11, 11)) (zerosA [.string ⟨#[]⟩, .string ⟨#[]⟩, .int .i64 0, .bool false, .string ⟨#[]⟩, .bool false, .string ⟨#[]⟩, .bool false, .string ⟨#[]⟩, .bool false, .string ⟨#[]⟩] n) parts).map fun cs => (.slice (some ⟨h.size, 0, none⟩) n n, h.push (.row cs 26 false)) := bsl ds33 tab_info26 n parts h
theorem ix33 (A o n c : Nat) (ik : IntKind) (i : Int) : indexAddrA tab 33 (.slice (some ⟨A, o, none⟩) n c) (.int ik i) = if 0 ≤ i ∧ i < n then some (.pointer (some ⟨A, o + i.toNat * 11, none⟩)) else none := idx_slice ds33 (by kernel_rfl)
theorem sz34 : sizeA tab 34 = some 1 := by kernel_rfl
theorem ag34 : aggA tab 34 = some false := by kernel_rfl
theorem ld34 (A o : Nat) (h : Heap) : loadA tab 34 (.pointer (some ⟨A, o, none⟩)) h = cellO (h.get A) o := load_one ag34
theorem pt34 (cs : List Value) (o : Nat) : partA tab 34 cs o = cs[o]? := part_one ag34
theorem al34 (P : Program) (ov : Ov) (d : Option Tmp) (ty : TypeId) (pos : String) (af : Array Edge) (g : Option (Nat × Bool)) (e : Env) (h : Heap) (K : Value → Heap → Prop) : WOp P tab ov ⟨d, .alloc 34, ty, pos, af, g⟩ e h K = K (.pointer (some ⟨h.size, 0, none⟩)) (h.push (.row [.nilFunc] 34 false)) := w_alloc d ty pos af g e h K 34 tab_info34
theorem sz35 : sizeA tab 35 = some 1 := by kernel_rfl
theorem ag35 : aggA tab 35 = some false := by kernel_rfl
theorem ld35 (A o : Nat) (h : Heap) : loadA tab 35 (.pointer (some ⟨A, o, none⟩)) h = cellO (h.get A) o := load_one ag35
theorem pt35 (cs : List Value) (o : Nat) : partA tab 35 cs o = cs[o]? := part_one ag35
theorem al35 (P : Program) (ov : Ov) (d : Option Tmp) (ty : TypeId) (pos : String) (af : Array Edge) (g : Option (Nat × Bool)) (e : Env) (h : Heap) (K : Value → Heap → Prop) : WOp P tab ov ⟨d, .alloc 35, ty, pos, af, g⟩ e h K = K (.pointer (some ⟨h.size, 0, none⟩)) (h.push (.row [.nilFunc] 35 false)) := w_alloc d ty pos af g e h K 35 tab_info35
theorem sz36 : sizeA tab 36 = some 1 := by kernel_rfl
theorem ag36 : aggA tab 36 = some false := by kernel_rfl
theorem ld36 (A o : Nat) (h : Heap) : loadA tab 36 (.pointer (some ⟨A, o, none⟩)) h = cellO (h.get A) o := load_one ag36
theorem pt36 (cs : List Value) (o : Nat) : partA tab 36 cs o = cs[o]? := part_one ag36
theorem al36 (P : Program) (ov : Ov) (d : Option Tmp) (ty : TypeId) (pos : String) (af : Array Edge) (g : Option (Nat × Bool)) (e : Env) (h : Heap) (K : Value → Heap → Prop) : WOp P tab ov ⟨d, .alloc 36, ty, pos, af, g⟩ e h K = K (.pointer (some ⟨h.size, 0, none⟩)) (h.push (.row [.nilFunc] 36 false)) := w_alloc d ty pos af g e h K 36 tab_info36
theorem sz37 : sizeA tab 37 = some 1 := by kernel_rfl
theorem ag37 : aggA tab 37 = some false := by kernel_rfl
theorem ld37 (A o : Nat) (h : Heap) : loadA tab 37 (.pointer (some ⟨A, o, none⟩)) h = cellO (h.get A) o := load_one ag37
theorem pt37 (cs : List Value) (o : Nat) : partA tab 37 cs o = cs[o]? := part_one ag37
theorem al37 (P : Program) (ov : Ov) (d : Option Tmp) (ty : TypeId) (pos : String) (af : Array Edge) (g : Option (Nat × Bool)) (e : Env) (h : Heap) (K : Value → Heap → Prop) : WOp P tab ov ⟨d, .alloc 37, ty, pos, af, g⟩ e h K = K (.pointer (some ⟨h.size, 0, none⟩)) (h.push (.row [.nilFunc] 37 false)) := w_alloc d ty pos af g e h K 37 tab_info37
theorem sz38 : sizeA tab 38 = some 1 := by kernel_rfl
theorem ag38 : aggA tab 38 = some false := by kernel_rfl
theorem ld38 (A o : Nat) (h : Heap) : loadA tab 38 (.pointer (some ⟨A, o, none⟩)) h = cellO (h.get A) o := load_one ag38
theorem pt38 (cs : List Value) (o : Nat) : partA tab 38 cs o = cs[o]? := part_one ag38
theorem al38 (P : Program) (ov : Ov) (d : Option Tmp) (ty : TypeId) (pos : String) (af : Array Edge) (g : Option (Nat × Bool)) (e : Env) (h : Heap) (K : Value → Heap → Prop) : WOp P tab ov ⟨d, .alloc 38, ty, pos, af, g⟩ e h K = K (.pointer (some ⟨h.size, 0, none⟩)) (h.push (.row [.nilFunc] 38 false)) := w_alloc d ty pos af g e h K 38 tab_info38
theorem sz39 : sizeA tab 39 = some 1 := by kernel_rfl
theorem ag39 : aggA tab 39 = some false := by kernel_rfl
theorem ld39 (A o : Nat) (h : Heap) : loadA tab 39 (.pointer (some ⟨A, o, none⟩)) h = cellO (h.get A) o := load_one ag39
theorem pt39 (cs : List Value) (o : Nat) : partA tab 39 cs o = cs[o]? := part_one ag39
theorem al39 (P : Program) (ov : Ov) (d : Option Tmp) (ty : TypeId) (pos : String) (af : Array Edge) (g : Option (Nat × Bool)) (e : Env) (h : Heap) (K : Value → Heap → Prop) : WOp P tab ov ⟨d, .alloc 39, ty, pos, af, g⟩ e h K = K (.pointer (some ⟨h.size, 0, none⟩)) (h.push (.row [.nilFunc] 39 false)) := w_alloc d ty pos af g e h K 39 tab_info39
theorem sz40 : sizeA tab 40 = some 1 := by kernel_rfl
theorem ag40 : aggA tab 40 = some false := by kernel_rfl
theorem ld40 (A o : Nat) (h : Heap) : loadA tab 40 (.pointer (some ⟨A, o, none⟩)) h = cellO (h.get A) o := load_one ag40
theorem pt40 (cs : List Value) (o : Nat) : partA tab 40 cs o = cs[o]? := part_one ag40
theorem al40 (P : Program) (ov : Ov) (d : Option Tmp) (ty : TypeId) (pos : String) (af : Array Edge) (g : Option (Nat × Bool)) (e : Env) (h : Heap) (K : Value → Heap → Prop) : WOp P tab ov ⟨d, .alloc 40, ty, pos, af, g⟩ e h K = K (.pointer (some ⟨h.size, 0, none⟩)) (h.push (.row [.nilFunc] 40 false)) := w_alloc d ty pos af g e h K 40 tab_info40
theorem sz41 : sizeA tab 41 = some 1 := by kernel_rfl
theorem ag41 : aggA tab 41 = some false := by kernel_rfl
theorem ld41 (A o : Nat) (h : Heap) : loadA tab 41 (.pointer (some ⟨A, o, none⟩)) h = cellO (h.get A) o := load_one ag41
theorem pt41 (cs : List Value) (o : Nat) : partA tab 41 cs o = cs[o]? := part_one ag41
theorem al41 (P : Program) (ov : Ov) (d : Option Tmp) (ty : TypeId) (pos : String) (af : Array Edge) (g : Option (Nat × Bool)) (e : Env) (h : Heap) (K : Value → Heap → Prop) : WOp P tab ov ⟨d, .alloc 41, ty, pos, af, g⟩ e h K = K (.pointer (some ⟨h.size, 0, none⟩)) (h.push (.row [.nilFunc] 41 false)) := w_alloc d ty pos af g e h K 41 tab_info41
theorem sz43 : sizeA tab 43 = some 1 := by kernel_rfl
theorem ag43 : aggA tab 43 = some false := by kernel_rfl
theorem ld43 (A o : Nat) (h : Heap) : loadA tab 43 (.pointer (some ⟨A, o, none⟩)) h = cellO (h.get A) o := load_one ag43
theorem pt43 (cs : List Value) (o : Nat) : partA tab 43 cs o = cs[o]? := part_one ag43
theorem al43 (P : Program) (ov : Ov) (d : Option Tmp) (ty : TypeId) (pos : String) (af : Array Edge) (g : Option (Nat × Bool)) (e : Env) (h : Heap) (K : Value → Heap → Prop) : WOp P tab ov ⟨d, .alloc 43, ty, pos, af, g⟩ e h K = K (.pointer (some ⟨h.size, 0, none⟩)) (h.push (.row [.nilFunc] 43 false)) := w_alloc d ty pos af g e h K 43 tab_info43
theorem sz44 : sizeA tab 44 = some 1 := by kernel_rfl
theorem ag44 : aggA tab 44 = some false := by kernel_rfl
theorem ld44 (A o : Nat) (h : Heap) : loadA tab 44 (.pointer (some ⟨A, o, none⟩)) h = cellO (h.get A) o := load_one ag44
theorem pt44 (cs : List Value) (o : Nat) : partA tab 44 cs o = cs[o]? := part_one ag44
theorem al44 (P : Program) (ov : Ov) (d : Option Tmp) (ty : TypeId) (pos : String) (af : Array Edge) (g : Option (Nat × Bool)) (e : Env) (h : Heap) (K : Value → Heap → Prop) : WOp P tab ov ⟨d, .alloc 44, ty, pos, af, g⟩ e h K = K (.pointer (some ⟨h.size, 0, none⟩)) (h.push (.row [.nilFunc] 44 false)) := w_alloc d ty pos af g e h K 44 tab_info44
theorem sz45 : sizeA tab 45 = some 1 := by kernel_rfl
theorem ag45 : aggA tab 45 = some false := by kernel_rfl
theorem ld45 (A o : Nat) (h : Heap) : loadA tab 45 (.pointer (some ⟨A, o, none⟩)) h = cellO (h.get A) o := load_one ag45
theorem pt45 (cs : List Value) (o : Nat) : partA tab 45 cs o = cs[o]? := part_one ag45
theorem al45 (P : Program) (ov : Ov) (d : Option Tmp) (ty : TypeId) (pos : String) (af : Array Edge) (g : Option (Nat × Bool)) (e : Env) (h : Heap) (K : Value → Heap → Prop) : WOp P tab ov ⟨d, .alloc 45, ty, pos, af, g⟩ e h K = K (.pointer (some ⟨h.size, 0, none⟩)) (h.push (.row [.nilFunc] 45 false)) := w_alloc d ty pos af g e h K 45 tab_info45
theorem sz46 : sizeA tab 46 = some 1 := by kernel_rfl
theorem ag46 : aggA tab 46 = some false := by kernel_rfl
theorem ld46 (A o : Nat) (h : Heap) : loadA tab 46 (.pointer (some ⟨A, o, none⟩)) h = cellO (h.get A) o := load_one ag46
theorem pt46 (cs : List Value) (o : Nat) : partA tab 46 cs o = cs[o]? := part_one ag46
theorem al46 (P : Program) (ov : Ov) (d : Option Tmp) (ty : TypeId) (pos : String) (af : Array Edge) (g : Option (Nat × Bool)) (e : Env) (h : Heap) (K : Value → Heap → Prop) : WOp P tab ov ⟨d, .alloc 46, ty, pos, af, g⟩ e h K = K (.pointer (some ⟨h.size, 0, none⟩)) (h.push (.row [.slice none 0 0] 46 false)) := w_alloc d ty pos af g e h K 46 tab_info46
theorem ds46 : tab.desc 46 = some (.slice 33) := by kernel_rfl
theorem ln46 (a : Option Addr) (n c : Nat) (h : Heap) : lenA tab 46 (.slice a n c) h = some (.int .i64 n) := lenA_slice ds46
theorem bs46 (n : Nat) (parts : List (Nat × Value)) (h : Heap) : buildSliceA tab 46 n parts h = if n * 1 > 16777216 || n > 16777216 then Option.none else (fillA (fun i => some (i * 1, 1)) (zerosA [.slice none 0 0] n) parts).map fun cs => (.slice (some ⟨h.size, 0, none⟩) n n, h.push (.row cs 33 false)) := bsl ds46 tab_info33 n parts h
theorem ix46 (A o n c : Nat) (ik : IntKind) (i : Int) : indexAddrA tab 46 (.slice (some ⟨A, o, none⟩) n c) (.int ik i) = if 0 ≤ i ∧ i < n then some (.pointer (some ⟨A, o + i.toNat * 1, none⟩)) else none := idx_slice ds46 (by kernel_rfl)
theorem sz47 : sizeA tab 47 = some 1 := by kernel_rfl
theorem ag47 : aggA tab 47 = some false := by kernel_rfl
theorem ld47 (A o : Nat) (h : Heap) : loadA tab 47 (.pointer (some ⟨A, o, none⟩)) h = cellO (h.get A) o := load_one ag47
theorem pt47 (cs : List Value) (o : Nat) : partA tab 47 cs o = cs[o]? := part_one ag47
theorem al47 (P : Program) (ov : Ov) (d : Option Tmp) (ty : TypeId) (pos : String) (af : Array Edge) (g : Option (Nat × Bool)) (e : Env) (h : Heap) (K : Value → Heap → Prop) : WOp P tab ov ⟨d, .alloc 47, ty, pos, af, g⟩ e h K = K (.pointer (some ⟨h.size, 0, none⟩)) (h.push (.row [.nilFunc] 47 false)) := w_alloc d ty pos af g e h K 47 tab_info47
theorem sz48 : sizeA tab 48 = some 1 := by kernel_rfl
theorem ag48 : aggA tab 48 = some false := by kernel_rfl
theorem ld48 (A o : Nat) (h : Heap) : loadA tab 48 (.pointer (some ⟨A, o, none⟩)) h = cellO (h.get A) o := load_one ag48
theorem pt48 (cs : List Value) (o : Nat) : partA tab 48 cs o = cs[o]? := part_one ag48
theorem al48 (P : Program) (ov : Ov) (d : Option Tmp) (ty : TypeId) (pos : String) (af : Array Edge) (g : Option (Nat × Bool)) (e : Env) (h : Heap) (K : Value → Heap → Prop) : WOp P tab ov ⟨d, .alloc 48, ty, pos, af, g⟩ e h K = K (.pointer (some ⟨h.size, 0, none⟩)) (h.push (.row [.nilFunc] 48 false)) := w_alloc d ty pos af g e h K 48 tab_info48
theorem sz49 : sizeA tab 49 = some 1 := by kernel_rfl
theorem ag49 : aggA tab 49 = some false := by kernel_rfl
theorem ld49 (A o : Nat) (h : Heap) : loadA tab 49 (.pointer (some ⟨A, o, none⟩)) h = cellO (h.get A) o := load_one ag49
theorem pt49 (cs : List Value) (o : Nat) : partA tab 49 cs o = cs[o]? := part_one ag49
theorem al49 (P : Program) (ov : Ov) (d : Option Tmp) (ty : TypeId) (pos : String) (af : Array Edge) (g : Option (Nat × Bool)) (e : Env) (h : Heap) (K : Value → Heap → Prop) : WOp P tab ov ⟨d, .alloc 49, ty, pos, af, g⟩ e h K = K (.pointer (some ⟨h.size, 0, none⟩)) (h.push (.row [.nilFunc] 49 false)) := w_alloc d ty pos af g e h K 49 tab_info49
theorem sz50 : sizeA tab 50 = some 1 := by kernel_rfl
theorem ag50 : aggA tab 50 = some false := by kernel_rfl
theorem ld50 (A o : Nat) (h : Heap) : loadA tab 50 (.pointer (some ⟨A, o, none⟩)) h = cellO (h.get A) o := load_one ag50
theorem pt50 (cs : List Value) (o : Nat) : partA tab 50 cs o = cs[o]? := part_one ag50
theorem al50 (P : Program) (ov : Ov) (d : Option Tmp) (ty : TypeId) (pos : String) (af : Array Edge) (g : Option (Nat × Bool)) (e : Env) (h : Heap) (K : Value → Heap → Prop) : WOp P tab ov ⟨d, .alloc 50, ty, pos, af, g⟩ e h K = K (.pointer (some ⟨h.size, 0, none⟩)) (h.push (.row [.nilFunc] 50 false)) := w_alloc d ty pos af g e h K 50 tab_info50
theorem sz51 : sizeA tab 51 = some 1 := by kernel_rfl
theorem ag51 : aggA tab 51 = some false := by kernel_rfl
theorem ld51 (A o : Nat) (h : Heap) : loadA tab 51 (.pointer (some ⟨A, o, none⟩)) h = cellO (h.get A) o := load_one ag51
theorem pt51 (cs : List Value) (o : Nat) : partA tab 51 cs o = cs[o]? := part_one ag51
theorem al51 (P : Program) (ov : Ov) (d : Option Tmp) (ty : TypeId) (pos : String) (af : Array Edge) (g : Option (Nat × Bool)) (e : Env) (h : Heap) (K : Value → Heap → Prop) : WOp P tab ov ⟨d, .alloc 51, ty, pos, af, g⟩ e h K = K (.pointer (some ⟨h.size, 0, none⟩)) (h.push (.row [.nilFunc] 51 false)) := w_alloc d ty pos af g e h K 51 tab_info51
theorem sz52 : sizeA tab 52 = some 1 := by kernel_rfl
theorem ag52 : aggA tab 52 = some false := by kernel_rfl
theorem ld52 (A o : Nat) (h : Heap) : loadA tab 52 (.pointer (some ⟨A, o, none⟩)) h = cellO (h.get A) o := load_one ag52
theorem pt52 (cs : List Value) (o : Nat) : partA tab 52 cs o = cs[o]? := part_one ag52
theorem al52 (P : Program) (ov : Ov) (d : Option Tmp) (ty : TypeId) (pos : String) (af : Array Edge) (g : Option (Nat × Bool)) (e : Env) (h : Heap) (K : Value → Heap → Prop) : WOp P tab ov ⟨d, .alloc 52, ty, pos, af, g⟩ e h K = K (.pointer (some ⟨h.size, 0, none⟩)) (h.push (.row [.nilFunc] 52 false)) := w_alloc d ty pos af g e h K 52 tab_info52
theorem sz53 : sizeA tab 53 = some 1 := by kernel_rfl
theorem ag53 : aggA tab 53 = some false := by kernel_rfl
theorem ld53 (A o : Nat) (h : Heap) : loadA tab 53 (.pointer (some ⟨A, o, none⟩)) h = cellO (h.get A) o := load_one ag53
theorem pt53 (cs : List Value) (o : Nat) : partA tab 53 cs o = cs[o]? := part_one ag53
theorem al53 (P : Program) (ov : Ov) (d : Option Tmp) (ty : TypeId) (pos : String) (af : Array Edge) (g : Option (Nat × Bool)) (e : Env) (h : Heap) (K : Value → Heap → Prop) : WOp P tab ov ⟨d, .alloc 53, ty, pos, af, g⟩ e h K = K (.pointer (some ⟨h.size, 0, none⟩)) (h.push (.row [.nilFunc] 53 false)) := w_alloc d ty pos af g e h K 53 tab_info53
theorem sz54 : sizeA tab 54 = some 1 := by kernel_rfl
theorem ag54 : aggA tab 54 = some false := by kernel_rfl
theorem ld54 (A o : Nat) (h : Heap) : loadA tab 54 (.pointer (some ⟨A, o, none⟩)) h = cellO (h.get A) o := load_one ag54
theorem pt54 (cs : List Value) (o : Nat) : partA tab 54 cs o = cs[o]? := part_one ag54
theorem al54 (P : Program) (ov : Ov) (d : Option Tmp) (ty : TypeId) (pos : String) (af : Array Edge) (g : Option (Nat × Bool)) (e : Env) (h : Heap) (K : Value → Heap → Prop) : WOp P tab ov ⟨d, .alloc 54, ty, pos, af, g⟩ e h K = K (.pointer (some ⟨h.size, 0, none⟩)) (h.push (.row [.nilFunc] 54 false)) := w_alloc d ty pos af g e h K 54 tab_info54
theorem sz55 : sizeA tab 55 = some 1 := by kernel_rfl
theorem ag55 : aggA tab 55 = some false := by kernel_rfl
theorem ld55 (A o : Nat) (h : Heap) : loadA tab 55 (.pointer (some ⟨A, o, none⟩)) h = cellO (h.get A) o := load_one ag55
theorem pt55 (cs : List Value) (o : Nat) : partA tab 55 cs o = cs[o]? := part_one ag55
theorem al55 (P : Program) (ov : Ov) (d : Option Tmp) (ty : TypeId) (pos : String) (af : Array Edge) (g : Option (Nat × Bool)) (e : Env) (h : Heap) (K : Value → Heap → Prop) : WOp P tab ov ⟨d, .alloc 55, ty, pos, af, g⟩ e h K = K (.pointer (some ⟨h.size, 0, none⟩)) (h.push (.row [.nilFunc] 55 false)) := w_alloc d ty pos af g e h K 55 tab_info55
theorem sz57 : sizeA tab 57 = some 1 := by kernel_rfl
theorem ag57 : aggA tab 57 = some false := by kernel_rfl
theorem ld57 (A o : Nat) (h : Heap) : loadA tab 57 (.pointer (some ⟨A, o, none⟩)) h = cellO (h.get A) o := load_one ag57
theorem pt57 (cs : List Value) (o : Nat) : partA tab 57 cs o = cs[o]? := part_one ag57
theorem al57 (P : Program) (ov : Ov) (d : Option Tmp) (ty : TypeId) (pos : String) (af : Array Edge) (g : Option (Nat × Bool)) (e : Env) (h : Heap) (K : Value → Heap → Prop) : WOp P tab ov ⟨d, .alloc 57, ty, pos, af, g⟩ e h K = K (.pointer (some ⟨h.size, 0, none⟩)) (h.push (.row [.nilFunc] 57 false)) := w_alloc d ty pos af g e h K 57 tab_info57
theorem sz58 : sizeA tab 58 = some 1 := by kernel_rfl
theorem ag58 : aggA tab 58 = some false := by kernel_rfl
theorem ld58 (A o : Nat) (h : Heap) : loadA tab 58 (.pointer (some ⟨A, o, none⟩)) h = cellO (h.get A) o := load_one ag58
theorem pt58 (cs : List Value) (o : Nat) : partA tab 58 cs o = cs[o]? := part_one ag58
theorem al58 (P : Program) (ov : Ov) (d : Option Tmp) (ty : TypeId) (pos : String) (af : Array Edge) (g : Option (Nat × Bool)) (e : Env) (h : Heap) (K : Value → Heap → Prop) : WOp P tab ov ⟨d, .alloc 58, ty, pos, af, g⟩ e h K = K (.pointer (some ⟨h.size, 0, none⟩)) (h.push (.row [.nilFunc] 58 false)) := w_alloc d ty pos af g e h K 58 tab_info58
theorem sz59 : sizeA tab 59 = some 1 := by kernel_rfl
theorem ag59 : aggA tab 59 = some false := by kernel_rfl
theorem ld59 (A o : Nat) (h : Heap) : loadA tab 59 (.pointer (some ⟨A, o, none⟩)) h = cellO (h.get A) o := load_one ag59
theorem pt59 (cs : List Value) (o : Nat) : partA tab 59 cs o = cs[o]? := part_one ag59
theorem al59 (P : Program) (ov : Ov) (d : Option Tmp) (ty : TypeId) (pos : String) (af : Array Edge) (g : Option (Nat × Bool)) (e : Env) (h : Heap) (K : Value → Heap → Prop) : WOp P tab ov ⟨d, .alloc 59, ty, pos, af, g⟩ e h K = K (.pointer (some ⟨h.size, 0, none⟩)) (h.push (.row [.nilFunc] 59 false)) := w_alloc d ty pos af g e h K 59 tab_info59
theorem sz60 : sizeA tab 60 = some 1 := by kernel_rfl
theorem ag60 : aggA tab 60 = some false := by kernel_rfl
theorem ld60 (A o : Nat) (h : Heap) : loadA tab 60 (.pointer (some ⟨A, o, none⟩)) h = cellO (h.get A) o := load_one ag60
theorem pt60 (cs : List Value) (o : Nat) : partA tab 60 cs o = cs[o]? := part_one ag60
theorem al60 (P : Program) (ov : Ov) (d : Option Tmp) (ty : TypeId) (pos : String) (af : Array Edge) (g : Option (Nat × Bool)) (e : Env) (h : Heap) (K : Value → Heap → Prop) : WOp P tab ov ⟨d, .alloc 60, ty, pos, af, g⟩ e h K = K (.pointer (some ⟨h.size, 0, none⟩)) (h.push (.row [.slice none 0 0] 60 false)) := w_alloc d ty pos af g e h K 60 tab_info60
theorem ds60 : tab.desc 60 = some (.slice 9) := by kernel_rfl
theorem ln60 (a : Option Addr) (n c : Nat) (h : Heap) : lenA tab 60 (.slice a n c) h = some (.int .i64 n) := lenA_slice ds60
theorem bs60 (n : Nat) (parts : List (Nat × Value)) (h : Heap) : buildSliceA tab 60 n parts h = if n * 1 > 16777216 || n > 16777216 then Option.none else (fillA (fun i => some (i * 1, 1)) (zerosA [.string ⟨#[]⟩] n) parts).map fun cs => (.slice (some ⟨h.size, 0, none⟩) n n, h.push (.row cs 9 false)) := bsl ds60 tab_info9 n parts h
theorem ix60 (A o n c : Nat) (ik : IntKind) (i : Int) : indexAddrA tab 60 (.slice (some ⟨A, o, none⟩) n c) (.int ik i) = if 0 ≤ i ∧ i < n then some (.pointer (some ⟨A, o + i.toNat * 1, none⟩)) else none := idx_slice ds60 (by kernel_rfl)
theorem sz61 : sizeA tab 61 = some 1 := by kernel_rfl
theorem ag61 : aggA tab 61 = some false := by kernel_rfl
theorem ld61 (A o : Nat) (h : Heap) : loadA tab 61 (.pointer (some ⟨A, o, none⟩)) h = cellO (h.get A) o := load_one ag61
theorem pt61 (cs : List Value) (o : Nat) : partA tab 61 cs o = cs[o]? := part_one ag61
theorem al61 (P : Program) (ov : Ov) (d : Option Tmp) (ty : TypeId) (pos : String) (af : Array Edge) (g : Option (Nat × Bool)) (e : Env) (h : Heap) (K : Value → Heap → Prop) : WOp P tab ov ⟨d, .alloc 61, ty, pos, af, g⟩ e h K = K (.pointer (some ⟨h.size, 0, none⟩)) (h.push (.row [.nilFunc] 61 false)) := w_alloc d ty pos af g e h K 61 tab_info61
theorem sz62 : sizeA tab 62 = some 1 := by kernel_rfl
theorem ag62 : aggA tab 62 = some false := by kernel_rfl
theorem ld62 (A o : Nat) (h : Heap) : loadA tab 62 (.pointer (some ⟨A, o, none⟩)) h = cellO (h.get A) o := load_one ag62
theorem pt62 (cs : List Value) (o : Nat) : partA tab 62 cs o = cs[o]? := part_one ag62
theorem al62 (P : Program) (ov : Ov) (d : Option Tmp) (ty : TypeId) (pos : String) (af : Array Edge) (g : Option (Nat × Bool)) (e : Env) (h : Heap) (K : Value → Heap → Prop) : WOp P tab ov ⟨d, .alloc 62, ty, pos, af, g⟩ e h K = K (.pointer (some ⟨h.size, 0, none⟩)) (h.push (.row [.nilFunc] 62 false)) := w_alloc d ty pos af g e h K 62 tab_info62
theorem sz63 : sizeA tab 63 = some 1 := by kernel_rfl
theorem ag63 : aggA tab 63 = some false := by kernel_rfl
theorem ld63 (A o : Nat) (h : Heap) : loadA tab 63 (.pointer (some ⟨A, o, none⟩)) h = cellO (h.get A) o := load_one ag63
theorem pt63 (cs : List Value) (o : Nat) : partA tab 63 cs o = cs[o]? := part_one ag63
theorem al63 (P : Program) (ov : Ov) (d : Option Tmp) (ty : TypeId) (pos : String) (af : Array Edge) (g : Option (Nat × Bool)) (e : Env) (h : Heap) (K : Value → Heap → Prop) : WOp P tab ov ⟨d, .alloc 63, ty, pos, af, g⟩ e h K = K (.pointer (some ⟨h.size, 0, none⟩)) (h.push (.row [.slice none 0 0] 63 false)) := w_alloc d ty pos af g e h K 63 tab_info63
theorem ds63 : tab.desc 63 = some (.slice 23) := by kernel_rfl
theorem ln63 (a : Option Addr) (n c : Nat) (h : Heap) : lenA tab 63 (.slice a n c) h = some (.int .i64 n) := lenA_slice ds63
theorem bs63 (n : Nat) (parts : List (Nat × Value)) (h : Heap) : buildSliceA tab 63 n parts h = if n * 2 > 16777216 || n > 16777216 then Option.none else (fillA (fun i => some (i * 2, 2)) (zerosA [.bool false, .string ⟨#[]⟩] n) parts).map fun cs => (.slice (some ⟨h.size, 0, none⟩) n n, h.push (.row cs 23 false)) := bsl ds63 tab_info23 n parts h
theorem ix63 (A o n c : Nat) (ik : IntKind) (i : Int) : indexAddrA tab 63 (.slice (some ⟨A, o, none⟩) n c) (.int ik i) = if 0 ≤ i ∧ i < n then some (.pointer (some ⟨A, o + i.toNat * 2, none⟩)) else none := idx_slice ds63 (by kernel_rfl)
theorem sz64 : sizeA tab 64 = some 1 := by kernel_rfl
theorem ag64 : aggA tab 64 = some false := by kernel_rfl
theorem ld64 (A o : Nat) (h : Heap) : loadA tab 64 (.pointer (some ⟨A, o, none⟩)) h = cellO (h.get A) o := load_one ag64
theorem pt64 (cs : List Value) (o : Nat) : partA tab 64 cs o = cs[o]? := part_one ag64
theorem al64 (P : Program) (ov : Ov) (d : Option Tmp) (ty : TypeId) (pos : String) (af : Array Edge) (g : Option (Nat × Bool)) (e : Env) (h : Heap) (K : Value → Heap → Prop) : WOp P tab ov ⟨d, .alloc 64, ty, pos, af, g⟩ e h K = K (.pointer (some ⟨h.size, 0, none⟩)) (h.push (.row [.nilFunc] 64 false)) := w_alloc d ty pos af g e h K 64 tab_info64
theorem sz65 : sizeA tab 65 = some 1 := by kernel_rfl
theorem ag65 : aggA tab 65 = some false := by kernel_rfl
theorem ld65 (A o : Nat) (h : Heap) : loadA tab 65 (.pointer (some ⟨A, o, none⟩)) h = cellO (h.get A) o := load_one ag65
theorem pt65 (cs : List Value) (o : Nat) : partA tab 65 cs o = cs[o]? := part_one ag65
theorem al65 (P : Program) (ov : Ov) (d : Option Tmp) (ty : TypeId) (pos : String) (af : Array Edge) (g : Option (Nat × Bool)) (e : Env) (h : Heap) (K : Value → Heap → Prop) : WOp P tab ov ⟨d, .alloc 65, ty, pos, af, g⟩ e h K = K (.pointer (some ⟨h.size, 0, none⟩)) (h.push (.row [.nilFunc] 65 false)) := w_alloc d ty pos af g e h K 65 tab_info65
theorem sz66 : sizeA tab 66 = some 1 := by kernel_rfl
theorem ag66 : aggA tab 66 = some false := by kernel_rfl
theorem ld66 (A o : Nat) (h : Heap) : loadA tab 66 (.pointer (some ⟨A, o, none⟩)) h = cellO (h.get A) o := load_one ag66
theorem pt66 (cs : List Value) (o : Nat) : partA tab 66 cs o = cs[o]? := part_one ag66
theorem al66 (P : Program) (ov : Ov) (d : Option Tmp) (ty : TypeId) (pos : String) (af : Array Edge) (g : Option (Nat × Bool)) (e : Env) (h : Heap) (K : Value → Heap → Prop) : WOp P tab ov ⟨d, .alloc 66, ty, pos, af, g⟩ e h K = K (.pointer (some ⟨h.size, 0, none⟩)) (h.push (.row [.nilFunc] 66 false)) := w_alloc d ty pos af g e h K 66 tab_info66
theorem sz67 : sizeA tab 67 = some 1 := by kernel_rfl
theorem ag67 : aggA tab 67 = some false := by kernel_rfl
theorem ld67 (A o : Nat) (h : Heap) : loadA tab 67 (.pointer (some ⟨A, o, none⟩)) h = cellO (h.get A) o := load_one ag67
theorem pt67 (cs : List Value) (o : Nat) : partA tab 67 cs o = cs[o]? := part_one ag67
theorem al67 (P : Program) (ov : Ov) (d : Option Tmp) (ty : TypeId) (pos : String) (af : Array Edge) (g : Option (Nat × Bool)) (e : Env) (h : Heap) (K : Value → Heap → Prop) : WOp P tab ov ⟨d, .alloc 67, ty, pos, af, g⟩ e h K = K (.pointer (some ⟨h.size, 0, none⟩)) (h.push (.row [.nilFunc] 67 false)) := w_alloc d ty pos af g e h K 67 tab_info67
theorem sz68 : sizeA tab 68 = some 1 := by kernel_rfl
theorem ag68 : aggA tab 68 = some false := by kernel_rfl
theorem ld68 (A o : Nat) (h : Heap) : loadA tab 68 (.pointer (some ⟨A, o, none⟩)) h = cellO (h.get A) o := load_one ag68
theorem pt68 (cs : List Value) (o : Nat) : partA tab 68 cs o = cs[o]? := part_one ag68
theorem al68 (P : Program) (ov : Ov) (d : Option Tmp) (ty : TypeId) (pos : String) (af : Array Edge) (g : Option (Nat × Bool)) (e : Env) (h : Heap) (K : Value → Heap → Prop) : WOp P tab ov ⟨d, .alloc 68, ty, pos, af, g⟩ e h K = K (.pointer (some ⟨h.size, 0, none⟩)) (h.push (.row [.nilFunc] 68 false)) := w_alloc d ty pos af g e h K 68 tab_info68
theorem sz69 : sizeA tab 69 = some 1 := by kernel_rfl
theorem ag69 : aggA tab 69 = some false := by kernel_rfl
theorem ld69 (A o : Nat) (h : Heap) : loadA tab 69 (.pointer (some ⟨A, o, none⟩)) h = cellO (h.get A) o := load_one ag69
theorem pt69 (cs : List Value) (o : Nat) : partA tab 69 cs o = cs[o]? := part_one ag69
theorem al69 (P : Program) (ov : Ov) (d : Option Tmp) (ty : TypeId) (pos : String) (af : Array Edge) (g : Option (Nat × Bool)) (e : Env) (h : Heap) (K : Value → Heap → Prop) : WOp P tab ov ⟨d, .alloc 69, ty, pos, af, g⟩ e h K = K (.pointer (some ⟨h.size, 0, none⟩)) (h.push (.row [.nilFunc] 69 false)) := w_alloc d ty pos af g e h K 69 tab_info69
theorem sz70 : sizeA tab 70 = some 1 := by kernel_rfl
theorem ag70 : aggA tab 70 = some false := by kernel_rfl
theorem ld70 (A o : Nat) (h : Heap) : loadA tab 70 (.pointer (some ⟨A, o, none⟩)) h = cellO (h.get A) o := load_one ag70
theorem pt70 (cs : List Value) (o : Nat) : partA tab 70 cs o = cs[o]? := part_one ag70
theorem al70 (P : Program) (ov : Ov) (d : Option Tmp) (ty : TypeId) (pos : String) (af : Array Edge) (g : Option (Nat × Bool)) (e : Env) (h : Heap) (K : Value → Heap → Prop) : WOp P tab ov ⟨d, .alloc 70, ty, pos, af, g⟩ e h K = K (.pointer (some ⟨h.size, 0, none⟩)) (h.push (.row [.pointer none] 70 false)) := w_alloc d ty pos af g e h K 70 tab_info70
theorem ds70 : tab.desc 70 = some (.pointer 73) := by kernel_rfl
theorem sz71 : sizeA tab 71 = some 1 := by kernel_rfl
theorem ag71 : aggA tab 71 = some false := by kernel_rfl
theorem ld71 (A o : Nat) (h : Heap) : loadA tab 71 (.pointer (some ⟨A, o, none⟩)) h = cellO (h.get A) o := load_one ag71
theorem pt71 (cs : List Value) (o : Nat) : partA tab 71 cs o = cs[o]? := part_one ag71
theorem al71 (P : Program) (ov : Ov) (d : Option Tmp) (ty : TypeId) (pos : String) (af : Array Edge) (g : Option (Nat × Bool)) (e : Env) (h : Heap) (K : Value → Heap → Prop) : WOp P tab ov ⟨d, .alloc 71, ty, pos, af, g⟩ e h K = K (.pointer (some ⟨h.size, 0, none⟩)) (h.push (.row [.slice none 0 0] 71 false)) := w_alloc d ty pos af g e h K 71 tab_info71
theorem ds71 : tab.desc 71 = some (.slice 5) := by kernel_rfl
theorem ln71 (a : Option Addr) (n c : Nat) (h : Heap) : lenA tab 71 (.slice a n c) h = some (.int .i64 n) := lenA_slice ds71
theorem bs71 (n : Nat) (parts : List (Nat × Value)) (h : Heap) : buildSliceA tab 71 n parts h = if n * 1 > 16777216 || n > 16777216 then Option.none else (fillA (fun i => some (i * 1, 1)) (zerosA [.int .u8 0] n) parts).map fun cs => (.slice (some ⟨h.size, 0, none⟩) n n, h.push (.row cs 5 false)) := bsl ds71 tab_info5 n parts h
theorem ix71 (A o n c : Nat) (ik : IntKind) (i : Int) : indexAddrA tab 71 (.slice (some ⟨A, o, none⟩) n c) (.int ik i) = if 0 ≤ i ∧ i < n then some (.pointer (some ⟨A, o + i.toNat * 1, none⟩)) else none := idx_slice ds71 (by kernel_rfl)
theorem sz72 : sizeA tab 72 = some 2 := by kernel_rfl
theorem ag72 : aggA tab 72 = some true := by kernel_rfl
theorem ld72 (A o : Nat) (h : Heap) : loadA tab 72 (.pointer (some ⟨A, o, none⟩)) h = cutO (h.get A) o 2 := load_agg ag72 sz72
theorem pt72 (cs : List Value) (o : Nat) : partA tab 72 cs o = (cut cs o 2).map fun l => .agg l.toArray := part_agg ag72 sz72
theorem al72 (P : Program) (ov : Ov) (d : Option Tmp) (ty : TypeId) (pos : String) (af : Array Edge) (g : Option (Nat × Bool)) (e : Env) (h : Heap) (K : Value → Heap → Prop) : WOp P tab ov ⟨d, .alloc 72, ty, pos, af, g⟩ e h K = K (.pointer (some ⟨h.size, 0, none⟩)) (h.push (.row [.pointer none, .slice none 0 0] 72 false)) := w_alloc d ty pos af g e h K 72 tab_info72
theorem fa72_0 (A o : Nat) : fieldAddrA tab 72 (.pointer (some ⟨A, o, none⟩)) 0 = some (.pointer (some ⟨A, o + 0, none⟩)) := Eq.refl _
theorem fd72_0 (cs : Array Value) : fieldA tab 72 (.agg cs) 0 = partA tab 70 cs.toList 0 := Eq.refl _
theorem fa72_1 (A o : Nat) : fieldAddrA tab 72 (.pointer (some ⟨A, o, none⟩)) 1 = some (.pointer (some ⟨A, o + 1, none⟩)) := Eq.refl _
theorem fd72_1 (cs : Array Value) : fieldA tab 72 (.agg cs) 1 = partA tab 71 cs.toList 1 := Eq.refl _
theorem sz73 : sizeA tab 73 = some 2 := by kernel_rfl
theorem ag73 : aggA tab 73 = some true := by kernel_rfl
theorem ld73 (A o : Nat) (h : Heap) : loadA tab 73 (.pointer (some ⟨A, o, none⟩)) h = cutO (h.get A) o 2 := load_agg ag73 sz73
theorem pt73 (cs : List Value) (o : Nat) : partA tab 73 cs o = (cut cs o 2).map fun l => .agg l.toArray := part_agg ag73 sz73
theorem al73 (P : Program) (ov : Ov) (d : Option Tmp) (ty : TypeId) (pos : String) (af : Array Edge) (g : Option (Nat × Bool)) (e : Env) (h : Heap) (K : Value → Heap → Prop) : WOp P tab ov ⟨d, .alloc 73, ty, pos, af, g⟩ e h K = K (.pointer (some ⟨h.size, 0, none⟩)) (h.push (.row [.pointer none, .slice none 0 0] 73 false)) := w_alloc d ty pos af g e h K 73 tab_info73
theorem fa73_0 (A o : Nat) : fieldAddrA tab 73 (.pointer (some ⟨A, o, none⟩)) 0 = some (.pointer (some ⟨A, o + 0, none⟩)) := Eq.refl _
theorem fd73_0 (cs : Array Value) : fieldA tab 73 (.agg cs) 0 = partA tab 70 cs.toList 0 := Eq.refl _
theorem fa73_1 (A o : Nat) : fieldAddrA tab 73 (.pointer (some ⟨A, o, none⟩)) 1 = some (.pointer (some ⟨A, o + 1, none⟩)) := Eq.refl _
theorem fd73_1 (cs : Array Value) : fieldA tab 73 (.agg cs) 1 = partA tab 71 cs.toList 1 := Eq.refl _
theorem sz74 : sizeA tab 74 = some 1 := by kernel_rfl
theorem ag74 : aggA tab 74 = some false := by kernel_rfl
theorem ld74 (A o : Nat) (h : Heap) : loadA tab 74 (.pointer (some ⟨A, o, none⟩)) h = cellO (h.get A) o := load_one ag74
theorem pt74 (cs : List Value) (o : Nat) : partA tab 74 cs o = cs[o]? := part_one ag74
theorem al74 (P : Program) (ov : Ov) (d : Option Tmp) (ty : TypeId) (pos : String) (af : Array Edge) (g : Option (Nat × Bool)) (e : Env) (h : Heap) (K : Value → Heap → Prop) : WOp P tab ov ⟨d, .alloc 74, ty, pos, af, g⟩ e h K = K (.pointer (some ⟨h.size, 0, none⟩)) (h.push (.row [.nilFunc] 74 false)) := w_alloc d ty pos af g e h K 74 tab_info74
theorem sz75 : sizeA tab 75 = some 1 := by kernel_rfl
theorem ag75 : aggA tab 75 = some false := by kernel_rfl
theorem ld75 (A o : Nat) (h : Heap) : loadA tab 75 (.pointer (some ⟨A, o, none⟩)) h = cellO (h.get A) o := load_one ag75
theorem pt75 (cs : List Value) (o : Nat) : partA tab 75 cs o = cs[o]? := part_one ag75
theorem al75 (P : Program) (ov : Ov) (d : Option Tmp) (ty : TypeId) (pos : String) (af : Array Edge) (g : Option (Nat × Bool)) (e : Env) (h : Heap) (K : Value → Heap → Prop) : WOp P tab ov ⟨d, .alloc 75, ty, pos, af, g⟩ e h K = K (.pointer (some ⟨h.size, 0, none⟩)) (h.push (.row [.nilIface] 75 false)) := w_alloc d ty pos af g e h K 75 tab_info75
theorem sz76 : sizeA tab 76 = some 1 := by kernel_rfl
theorem ag76 : aggA tab 76 = some false := by kernel_rfl
theorem ld76 (A o : Nat) (h : Heap) : loadA tab 76 (.pointer (some ⟨A, o, none⟩)) h = cellO (h.get A) o := load_one ag76
theorem pt76 (cs : List Value) (o : Nat) : partA tab 76 cs o = cs[o]? := part_one ag76
theorem al76 (P : Program) (ov : Ov) (d : Option Tmp) (ty : TypeId) (pos : String) (af : Array Edge) (g : Option (Nat × Bool)) (e : Env) (h : Heap) (K : Value → Heap → Prop) : WOp P tab ov ⟨d, .alloc 76, ty, pos, af, g⟩ e h K = K (.pointer (some ⟨h.size, 0, none⟩)) (h.push (.row [.nilIface] 76 false)) := w_alloc d ty pos af g e h K 76 tab_info76
theorem sz78 : sizeA tab 78 = some 1 := by kernel_rfl
theorem ag78 : aggA tab 78 = some false := by kernel_rfl
theorem ld78 (A o : Nat) (h : Heap) : loadA tab 78 (.pointer (some ⟨A, o, none⟩)) h = cellO (h.get A) o := load_one ag78
theorem pt78 (cs : List Value) (o : Nat) : partA tab 78 cs o = cs[o]? := part_one ag78
theorem al78 (P : Program) (ov : Ov) (d : Option Tmp) (ty : TypeId) (pos : String) (af : Array Edge) (g : Option (Nat × Bool)) (e : Env) (h : Heap) (K : Value → Heap → Prop) : WOp P tab ov ⟨d, .alloc 78, ty, pos, af, g⟩ e h K = K (.pointer (some ⟨h.size, 0, none⟩)) (h.push (.row [.nilFunc] 78 false)) := w_alloc d ty pos af g e h K 78 tab_info78
theorem sz79 : sizeA tab 79 = some 1 := by kernel_rfl
theorem ag79 : aggA tab 79 = some false := by kernel_rfl
theorem ld79 (A o : Nat) (h : Heap) : loadA tab 79 (.pointer (some ⟨A, o, none⟩)) h = cellO (h.get A) o := load_one ag79
theorem pt79 (cs : List Value) (o : Nat) : partA tab 79 cs o = cs[o]? := part_one ag79
theorem al79 (P : Program) (ov : Ov) (d : Option Tmp) (ty : TypeId) (pos : String) (af : Array Edge) (g : Option (Nat × Bool)) (e : Env) (h : Heap) (K : Value → Heap → Prop) : WOp P tab ov ⟨d, .alloc 79, ty, pos, af, g⟩ e h K = K (.pointer (some ⟨h.size, 0, none⟩)) (h.push (.row [.nilFunc] 79 false)) := w_alloc d ty pos af g e h K 79 tab_info79
theorem sz80 : sizeA tab 80 = some 1 := by kernel_rfl
theorem ag80 : aggA tab 80 = some false := by kernel_rfl
theorem ld80 (A o : Nat) (h : Heap) : loadA tab 80 (.pointer (some ⟨A, o, none⟩)) h = cellO (h.get A) o := load_one ag80
theorem pt80 (cs : List Value) (o : Nat) : partA tab 80 cs o = cs[o]? := part_one ag80
theorem al80 (P : Program) (ov : Ov) (d : Option Tmp) (ty : TypeId) (pos : String) (af : Array Edge) (g : Option (Nat × Bool)) (e : Env) (h : Heap) (K : Value → Heap → Prop) : WOp P tab ov ⟨d, .alloc 80, ty, pos, af, g⟩ e h K = K (.pointer (some ⟨h.size, 0, none⟩)) (h.push (.row [.nilFunc] 80 false)) := w_alloc d ty pos af g e h K 80 tab_info80
theorem sz81 : sizeA tab 81 = some 1 := by kernel_rfl
theorem ag81 : aggA tab 81 = some false := by kernel_rfl
theorem ld81 (A o : Nat) (h : Heap) : loadA tab 81 (.pointer (some ⟨A, o, none⟩)) h = cellO (h.get A) o := load_one ag81
theorem pt81 (cs : List Value) (o : Nat) : partA tab 81 cs o = cs[o]? := part_one ag81
theorem al81 (P : Program) (ov : Ov) (d : Option Tmp) (ty : TypeId) (pos : String) (af : Array Edge) (g : Option (Nat × Bool)) (e : Env) (h : Heap) (K : Value → Heap → Prop) : WOp P tab ov ⟨d, .alloc 81, ty, pos, af, g⟩ e h K = K (.pointer (some ⟨h.size, 0, none⟩)) (h.push (.row [.nilFunc] 81 false)) := w_alloc d ty pos af g e h K 81 tab_info81
theorem sz82 : sizeA tab 82 = some 1 := by kernel_rfl
theorem ag82 : aggA tab 82 = some false := by kernel_rfl
theorem ld82 (A o : Nat) (h : Heap) : loadA tab 82 (.pointer (some ⟨A, o, none⟩)) h = cellO (h.get A) o := load_one ag82
theorem pt82 (cs : List Value) (o : Nat) : partA tab 82 cs o = cs[o]? := part_one ag82
theorem al82 (P : Program) (ov : Ov) (d : Option Tmp) (ty : TypeId) (pos : String) (af : Array Edge) (g : Option (Nat × Bool)) (e : Env) (h : Heap) (K : Value → Heap → Prop) : WOp P tab ov ⟨d, .alloc 82, ty, pos, af, g⟩ e h K = K (.pointer (some ⟨h.size, 0, none⟩)) (h.push (.row [.int .u64 0] 82 false)) := w_alloc d ty pos af g e h K 82 tab_info82
theorem ds82 : tab.desc 82 = some (.int .u64) := by kernel_rfl
theorem sz83 : sizeA tab 83 = some 1 := by kernel_rfl
theorem ag83 : aggA tab 83 = some false := by kernel_rfl
theorem ld83 (A o : Nat) (h : Heap) : loadA tab 83 (.pointer (some ⟨A, o, none⟩)) h = cellO (h.get A) o := load_one ag83
theorem pt83 (cs : List Value) (o : Nat) : partA tab 83 cs o = cs[o]? := part_one ag83
theorem al83 (P : Program) (ov : Ov) (d : Option Tmp) (ty : TypeId) (pos : String) (af : Array Edge) (g : Option (Nat × Bool)) (e : Env) (h : Heap) (K : Value → Heap → Prop) : WOp P tab ov ⟨d, .alloc 83, ty, pos, af, g⟩ e h K = K (.pointer (some ⟨h.size, 0, none⟩)) (h.push (.row [.nilFunc] 83 false)) := w_alloc d ty pos af g e h K 83 tab_info83
theorem sz84 : sizeA tab 84 = some 1 := by kernel_rfl
theorem ag84 : aggA tab 84 = some false := by kernel_rfl
theorem ld84 (A o : Nat) (h : Heap) : loadA tab 84 (.pointer (some ⟨A, o, none⟩)) h = cellO (h.get A) o := load_one ag84
theorem pt84 (cs : List Value) (o : Nat) : partA tab 84 cs o = cs[o]? := part_one ag84
theorem al84 (P : Program) (ov : Ov) (d : Option Tmp) (ty : TypeId) (pos : String) (af : Array Edge) (g : Option (Nat × Bool)) (e : Env) (h : Heap) (K : Value → Heap → Prop) : WOp P tab ov ⟨d, .alloc 84, ty, pos, af, g⟩ e h K = K (.pointer (some ⟨h.size, 0, none⟩)) (h.push (.row [.nilFunc] 84 false)) := w_alloc d ty pos af g e h K 84 tab_info84
theorem sz85 : sizeA tab 85 = some 1 := by kernel_rfl
theorem ag85 : aggA tab 85 = some false := by kernel_rfl
theorem ld85 (A o : Nat) (h : Heap) : loadA tab 85 (.pointer (some ⟨A, o, none⟩)) h = cellO (h.get A) o := load_one ag85
theorem pt85 (cs : List Value) (o : Nat) : partA tab 85 cs o = cs[o]? := part_one ag85
theorem al85 (P : Program) (ov : Ov) (d : Option Tmp) (ty : TypeId) (pos : String) (af : Array Edge) (g : Option (Nat × Bool)) (e : Env) (h : Heap) (K : Value → Heap → Prop) : WOp P tab ov ⟨d, .alloc 85, ty, pos, af, g⟩ e h K = K (.pointer (some ⟨h.size, 0, none⟩)) (h.push (.row [.pointer none] 85 false)) := w_alloc d ty pos af g e h K 85 tab_info85
theorem ds85 : tab.desc 85 = some (.pointer 5) := by kernel_rfl
theorem sz86 : sizeA tab 86 = some 1 := by kernel_rfl
theorem ag86 : aggA tab 86 = some false := by kernel_rfl
theorem ld86 (A o : Nat) (h : Heap) : loadA tab 86 (.pointer (some ⟨A, o, none⟩)) h = cellO (h.get A) o := load_one ag86
theorem pt86 (cs : List Value) (o : Nat) : partA tab 86 cs o = cs[o]? := part_one ag86
theorem al86 (P : Program) (ov : Ov) (d : Option Tmp) (ty : TypeId) (pos : String) (af : Array Edge) (g : Option (Nat × Bool)) (e : Env) (h : Heap) (K : Value → Heap → Prop) : WOp P tab ov ⟨d, .alloc 86, ty, pos, af, g⟩ e h K = K (.pointer (some ⟨h.size, 0, none⟩)) (h.push (.row [.nilFunc] 86 false)) := w_alloc d ty pos af g e h K 86 tab_info86
theorem sz87 : sizeA tab 87 = some 1 := by kernel_rfl
theorem ag87 : aggA tab 87 = some false := by kernel_rfl
theorem ld87 (A o : Nat) (h : Heap) : loadA tab 87 (.pointer (some ⟨A, o, none⟩)) h = cellO (h.get A) o := load_one ag87
theorem pt87 (cs : List Value) (o : Nat) : partA tab 87 cs o = cs[o]? := part_one ag87
theorem al87 (P : Program) (ov : Ov) (d : Option Tmp) (ty : TypeId) (pos : String) (af : Array Edge) (g : Option (Nat × Bool)) (e : Env) (h : Heap) (K : Value → Heap → Prop) : WOp P tab ov ⟨d, .alloc 87, ty, pos, af, g⟩ e h K = K (.pointer (some ⟨h.size, 0, none⟩)) (h.push (.row [.pointer none] 87 false)) := w_alloc d ty pos af g e h K 87 tab_info87
theorem sz88 : sizeA tab 88 = some 1 := by kernel_rfl
theorem ag88 : aggA tab 88 = some false := by kernel_rfl
theorem ld88 (A o : Nat) (h : Heap) : loadA tab 88 (.pointer (some ⟨A, o, none⟩)) h = cellO (h.get A) o := load_one ag88
theorem pt88 (cs : List Value) (o : Nat) : partA tab 88 cs o = cs[o]? := part_one ag88
theorem al88 (P : Program) (ov : Ov) (d : Option Tmp) (ty : TypeId) (pos : String) (af : Array Edge) (g : Option (Nat × Bool)) (e : Env) (h : Heap) (K : Value → Heap → Prop) : WOp P tab ov ⟨d, .alloc 88, ty, pos, af, g⟩ e h K = K (.pointer (some ⟨h.size, 0, none⟩)) (h.push (.row [.nilFunc] 88 false)) := w_alloc d ty pos af g e h K 88 tab_info88
theorem sz89 : sizeA tab 89 = some 1 := by kernel_rfl
theorem ag89 : aggA tab 89 = some false := by kernel_rfl
theorem ld89 (A o : Nat) (h : Heap) : loadA tab 89 (.pointer (some ⟨A, o, none⟩)) h = cellO (h.get A) o := load_one ag89
theorem pt89 (cs : List Value) (o : Nat) : partA tab 89 cs o = cs[o]? := part_one ag89
theorem al89 (P : Program) (ov : Ov) (d : Option Tmp) (ty : TypeId) (pos : String) (af : Array Edge) (g : Option (Nat × Bool)) (e : Env) (h : Heap) (K : Value → Heap → Prop) : WOp P tab ov ⟨d, .alloc 89, ty, pos, af, g⟩ e h K = K (.pointer (some ⟨h.size, 0, none⟩)) (h.push (.row [.nilFunc] 89 false)) := w_alloc d ty pos af g e h K 89 tab_info89
theorem sz90 : sizeA tab 90 = some 4 := by kernel_rfl
theorem ag90 : aggA tab 90 = some true := by kernel_rfl
theorem ld90 (A o : Nat) (h : Heap) : loadA tab 90 (.pointer (some ⟨A, o, none⟩)) h = cutO (h.get A) o 4 := load_agg ag90 sz90
theorem pt90 (cs : List Value) (o : Nat) : partA tab 90 cs o = (cut cs o 4).map fun l => .agg l.toArray := part_agg ag90 sz90
theorem al90 (P : Program) (ov : Ov) (d : Option Tmp) (ty : TypeId) (pos : String) (af : Array Edge) (g : Option (Nat × Bool)) (e : Env) (h : Heap) (K : Value → Heap → Prop) : WOp P tab ov ⟨d, .alloc 90, ty, pos, af, g⟩ e h K = K (.pointer (some ⟨h.size, 0, none⟩)) (h.push (.row [.pointer none, .pointer none, .pointer none, .string ⟨#[]⟩] 90 false)) := w_alloc d ty pos af g e h K 90 tab_info90
theorem fa90_0 (A o : Nat) : fieldAddrA tab 90 (.pointer (some ⟨A, o, none⟩)) 0 = some (.pointer (some ⟨A, o + 0, none⟩)) := Eq.refl _
theorem fd90_0 (cs : Array Value) : fieldA tab 90 (.agg cs) 0 = partA tab 17 cs.toList 0 := Eq.refl _
theorem fa90_1 (A o : Nat) : fieldAddrA tab 90 (.pointer (some ⟨A, o, none⟩)) 1 = some (.pointer (some ⟨A, o + 1, none⟩)) := Eq.refl _
theorem fd90_1 (cs : Array Value) : fieldA tab 90 (.agg cs) 1 = partA tab 17 cs.toList 1 := Eq.refl _
theorem fa90_2 (A o : Nat) : fieldAddrA tab 90 (.pointer (some ⟨A, o, none⟩)) 2 = some (.pointer (some ⟨A, o + 2, none⟩)) := Eq.refl _
theorem fd90_2 (cs : Array Value) : fieldA tab 90 (.agg cs) 2 = partA tab 17 cs.toList 2 := Eq.refl _
theorem fa90_3 (A o : Nat) : fieldAddrA tab 90 (.pointer (some ⟨A, o, none⟩)) 3 = some (.pointer (some ⟨A, o + 3, none⟩)) := Eq.refl _
theorem fd90_3 (cs : Array Value) : fieldA tab 90 (.agg cs) 3 = partA tab 9 cs.toList 3 := Eq.refl _
theorem sz91 : sizeA tab 91 = some 4 := by kernel_rfl
theorem ag91 : aggA tab 91 = some true := by kernel_rfl
theorem ld91 (A o : Nat) (h : Heap) : loadA tab 91 (.pointer (some ⟨A, o, none⟩)) h = cutO (h.get A) o 4 := load_agg ag91 sz91
theorem pt91 (cs : List Value) (o : Nat) : partA tab 91 cs o = (cut cs o 4).map fun l => .agg l.toArray := part_agg ag91 sz91
theorem al91 (P : Program) (ov : Ov) (d : Option Tmp) (ty : TypeId) (pos : String) (af : Array Edge) (g : Option (Nat × Bool)) (e : Env) (h : Heap) (K : Value → Heap → Prop) : WOp P tab ov ⟨d, .alloc 91, ty, pos, af, g⟩ e h K = K (.pointer (some ⟨h.size, 0, none⟩)) (h.push (.row [.pointer none, .pointer none, .pointer none, .string ⟨#[]⟩] 91 false)) := w_alloc d ty pos af g e h K 91 tab_info91
theorem fa91_0 (A o : Nat) : fieldAddrA tab 91 (.pointer (some ⟨A, o, none⟩)) 0 = some (.pointer (some ⟨A, o + 0, none⟩)) := Eq.refl _
theorem fd91_0 (cs : Array Value) : fieldA tab 91 (.agg cs) 0 = partA tab 17 cs.toList 0 := Eq.refl _
theorem fa91_1 (A o : Nat) : fieldAddrA tab 91 (.pointer (some ⟨A, o, none⟩)) 1 = some (.pointer (some ⟨A, o + 1, none⟩)) := Eq.refl _
theorem fd91_1 (cs : Array Value) : fieldA tab 91 (.agg cs) 1 = partA tab 17 cs.toList 1 := Eq.refl _
theorem fa91_2 (A o : Nat) : fieldAddrA tab 91 (.pointer (some ⟨A, o, none⟩)) 2 = some (.pointer (some ⟨A, o + 2, none⟩)) := Eq.refl _
theorem fd91_2 (cs : Array Value) : fieldA tab 91 (.agg cs) 2 = partA tab 17 cs.toList 2 := Eq.refl _
theorem fa91_3 (A o : Nat) : fieldAddrA tab 91 (.pointer (some ⟨A, o, none⟩)) 3 = some (.pointer (some ⟨A, o + 3, none⟩)) := Eq.refl _
theorem fd91_3 (cs : Array Value) : fieldA tab 91 (.agg cs) 3 = partA tab 9 cs.toList 3 := Eq.refl _
theorem sz92 : sizeA tab 92 = some 0 := by kernel_rfl
theorem ag92 : aggA tab 92 = some true := by kernel_rfl
theorem ld92 (A o : Nat) (h : Heap) : loadA tab 92 (.pointer (some ⟨A, o, none⟩)) h = cutO (h.get A) o 0 := load_agg ag92 sz92
theorem pt92 (cs : List Value) (o : Nat) : partA tab 92 cs o = (cut cs o 0).map fun l => .agg l.toArray := part_agg ag92 sz92
theorem al92 (P : Program) (ov : Ov) (d : Option Tmp) (ty : TypeId) (pos : String) (af : Array Edge) (g : Option (Nat × Bool)) (e : Env) (h : Heap) (K : Value → Heap → Prop) : WOp P tab ov ⟨d, .alloc 92, ty, pos, af, g⟩ e h K = K (.pointer (some ⟨h.size, 0, none⟩)) (h.push (.row [] 92 false)) := w_alloc d ty pos af g e h K 92 tab_info92
theorem ds92 : tab.desc 92 = some (.array 0 16) := by kernel_rfl
theorem ix92 (A o : Nat) (ik : IntKind) (i : Int) : indexAddrA tab 92 (.pointer (some ⟨A, o, none⟩)) (.int ik i) = if 0 ≤ i ∧ i < 0 then some (.pointer (some ⟨A, o + i.toNat * 1, none⟩)) else none := idx_arr ds92 (by kernel_rfl)
theorem sz93 : sizeA tab 93 = some 0 := by kernel_rfl
theorem ag93 : aggA tab 93 = some true := by kernel_rfl
theorem ld93 (A o : Nat) (h : Heap) : loadA tab 93 (.pointer (some ⟨A, o, none⟩)) h = cutO (h.get A) o 0 := load_agg ag93 sz93
theorem pt93 (cs : List Value) (o : Nat) : partA tab 93 cs o = (cut cs o 0).map fun l => .agg l.toArray := part_agg ag93 sz93
theorem al93 (P : Program) (ov : Ov) (d : Option Tmp) (ty : TypeId) (pos : String) (af : Array Edge) (g : Option (Nat × Bool)) (e : Env) (h : Heap) (K : Value → Heap → Prop) : WOp P tab ov ⟨d, .alloc 93, ty, pos, af, g⟩ e h K = K (.pointer (some ⟨h.size, 0, none⟩)) (h.push (.row [] 93 false)) := w_alloc d ty pos af g e h K 93 tab_info93
theorem sz94 : sizeA tab 94 = some 0 := by kernel_rfl
theorem ag94 : aggA tab 94 = some true := by kernel_rfl
theorem ld94 (A o : Nat) (h : Heap) : loadA tab 94 (.pointer (some ⟨A, o, none⟩)) h = cutO (h.get A) o 0 := load_agg ag94 sz94
theorem pt94 (cs : List Value) (o : Nat) : partA tab 94 cs o = (cut cs o 0).map fun l => .agg l.toArray := part_agg ag94 sz94
theorem al94 (P : Program) (ov : Ov) (d : Option Tmp) (ty : TypeId) (pos : String) (af : Array Edge) (g : Option (Nat × Bool)) (e : Env) (h : Heap) (K : Value → Heap → Prop) : WOp P tab ov ⟨d, .alloc 94, ty, pos, af, g⟩ e h K = K (.pointer (some ⟨h.size, 0, none⟩)) (h.push (.row [] 94 false)) := w_alloc d ty pos af g e h K 94 tab_info94
theorem sz95 : sizeA tab 95 = some 1 := by kernel_rfl
theorem ag95 : aggA tab 95 = some false := by kernel_rfl
theorem ld95 (A o : Nat) (h : Heap) : loadA tab 95 (.pointer (some ⟨A, o, none⟩)) h = cellO (h.get A) o := load_one ag95
theorem pt95 (cs : List Value) (o : Nat) : partA tab 95 cs o = cs[o]? := part_one ag95
theorem al95 (P : Program) (ov : Ov) (d : Option Tmp) (ty : TypeId) (pos : String) (af : Array Edge) (g : Option (Nat × Bool)) (e : Env) (h : Heap) (K : Value → Heap → Prop) : WOp P tab ov ⟨d, .alloc 95, ty, pos, af, g⟩ e h K = K (.pointer (some ⟨h.size, 0, none⟩)) (h.push (.row [.nilFunc] 95 false)) := w_alloc d ty pos af g e h K 95 tab_info95
theorem sz96 : sizeA tab 96 = some 1 := by kernel_rfl
theorem ag96 : aggA tab 96 = some false := by kernel_rfl
theorem ld96 (A o : Nat) (h : Heap) : loadA tab 96 (.pointer (some ⟨A, o, none⟩)) h = cellO (h.get A) o := load_one ag96
theorem pt96 (cs : List Value) (o : Nat) : partA tab 96 cs o = cs[o]? := part_one ag96
theorem al96 (P : Program) (ov : Ov) (d : Option Tmp) (ty : TypeId) (pos : String) (af : Array Edge) (g : Option (Nat × Bool)) (e : Env) (h : Heap) (K : Value → Heap → Prop) : WOp P tab ov ⟨d, .alloc 96, ty, pos, af, g⟩ e h K = K (.pointer (some ⟨h.size, 0, none⟩)) (h.push (.row [.int .u32 0] 96 false)) := w_alloc d ty pos af g e h K 96 tab_info96
theorem ds96 : tab.desc 96 = some (.int .u32) := by kernel_rfl
theorem sz97 : sizeA tab 97 = some 1 := by kernel_rfl
theorem ag97 : aggA tab 97 = some false := by kernel_rfl
theorem ld97 (A o : Nat) (h : Heap) : loadA tab 97 (.pointer (some ⟨A, o, none⟩)) h = cellO (h.get A) o := load_one ag97
theorem pt97 (cs : List Value) (o : Nat) : partA tab 97 cs o = cs[o]? := part_one ag97
theorem al97 (P : Program) (ov : Ov) (d : Option Tmp) (ty : TypeId) (pos : String) (af : Array Edge) (g : Option (Nat × Bool)) (e : Env) (h : Heap) (K : Value → Heap → Prop) : WOp P tab ov ⟨d, .alloc 97, ty, pos, af, g⟩ e h K = K (.pointer (some ⟨h.size, 0, none⟩)) (h.push (.row [.int .u8 0] 97 false)) := w_alloc d ty pos af g e h K 97 tab_info97
theorem ds97 : tab.desc 97 = some (.int .u8) := by kernel_rfl
theorem sz98 : sizeA tab 98 = some 1 := by kernel_rfl
theorem ag98 : aggA tab 98 = some false := by kernel_rfl
theorem ld98 (A o : Nat) (h : Heap) : loadA tab 98 (.pointer (some ⟨A, o, none⟩)) h = cellO (h.get A) o := load_one ag98
theorem pt98 (cs : List Value) (o : Nat) : partA tab 98 cs o = cs[o]? := part_one ag98
theorem al98 (P : Program) (ov : Ov) (d : Option Tmp) (ty : TypeId) (pos : String) (af : Array Edge) (g : Option (Nat × Bool)) (e : Env) (h : Heap) (K : Value → Heap → Prop) : WOp P tab ov ⟨d, .alloc 98, ty, pos, af, g⟩ e h K = K (.pointer (some ⟨h.size, 0, none⟩)) (h.push (.row [.int .u8 0] 98 false)) := w_alloc d ty pos af g e h K 98 tab_info98
theorem ds98 : tab.desc 98 = some (.int .u8) := by kernel_rfl
theorem sz99 : sizeA tab 99 = some 1 := by kernel_rfl
theorem ag99 : aggA tab 99 = some false := by kernel_rfl
theorem ld99 (A o : Nat) (h : Heap) : loadA tab 99 (.pointer (some ⟨A, o, none⟩)) h = cellO (h.get A) o := load_one ag99
theorem pt99 (cs : List Value) (o : Nat) : partA tab 99 cs o = cs[o]? := part_one ag99
theorem al99 (P : Program) (ov : Ov) (d : Option Tmp) (ty : TypeId) (pos : String) (af : Array Edge) (g : Option (Nat × Bool)) (e : Env) (h : Heap) (K : Value → Heap → Prop) : WOp P tab ov ⟨d, .alloc 99, ty, pos, af, g⟩ e h K = K (.pointer (some ⟨h.size, 0, none⟩)) (h.push (.row [.nilFunc] 99 false)) := w_alloc d ty pos af g e h K 99 tab_info99
theorem sz100 : sizeA tab 100 = some 1 := by kernel_rfl
theorem ag100 : aggA tab 100 = some false := by kernel_rfl
theorem ld100 (A o : Nat) (h : Heap) : loadA tab 100 (.pointer (some ⟨A, o, none⟩)) h = cellO (h.get A) o := load_one ag100
theorem pt100 (cs : List Value) (o : Nat) : partA tab 100 cs o = cs[o]? := part_one ag100
theorem al100 (P : Program) (ov : Ov) (d : Option Tmp) (ty : TypeId) (pos : String) (af : Array Edge) (g : Option (Nat × Bool)) (e : Env) (h : Heap) (K : Value → Heap → Prop) : WOp P tab ov ⟨d, .alloc 100, ty, pos, af, g⟩ e h K = K (.pointer (some ⟨h.size, 0, none⟩)) (h.push (.row [.int .i32 0] 100 false)) := w_alloc d ty pos af g e h K 100 tab_info100
theorem ds100 : tab.desc 100 = some (.int .i32) := by kernel_rfl
theorem sz101 : sizeA tab 101 = some 1 := by kernel_rfl
theorem ag101 : aggA tab 101 = some false := by kernel_rfl
theorem ld101 (A o : Nat) (h : Heap) : loadA tab 101 (.pointer (some ⟨A, o, none⟩)) h = cellO (h.get A) o := load_one ag101
theorem pt101 (cs : List Value) (o : Nat) : partA tab 101 cs o = cs[o]? := part_one ag101
theorem al101 (P : Program) (ov : Ov) (d : Option Tmp) (ty : TypeId) (pos : String) (af : Array Edge) (g : Option (Nat × Bool)) (e : Env) (h : Heap) (K : Value → Heap → Prop) : WOp P tab ov ⟨d, .alloc 101, ty, pos, af, g⟩ e h K = K (.pointer (some ⟨h.size, 0, none⟩)) (h.push (.row [.int .i32 0] 101 false)) := w_alloc d ty pos af g e h K 101 tab_info101
theorem ds101 : tab.desc 101 = some (.int .i32) := by kernel_rfl
theorem sz102 : sizeA tab 102 = some 11 := by kernel_rfl
theorem ag102 : aggA tab 102 = some true := by kernel_rfl
theorem ld102 (A o : Nat) (h : Heap) : loadA tab 102 (.pointer (some ⟨A, o, none⟩)) h = cutO (h.get A) o 11 := load_agg ag102 sz102
theorem pt102 (cs : List Value) (o : Nat) : partA tab 102 cs o = (cut cs o 11).map fun l => .agg l.toArray := part_agg ag102 sz102
theorem al102 (P : Program) (ov : Ov) (d : Option Tmp) (ty : TypeId) (pos : String) (af : Array Edge) (g : Option (Nat × Bool)) (e : Env) (h : Heap) (K : Value → Heap → Prop) : WOp P tab ov ⟨d, .alloc 102, ty, pos, af, g⟩ e h K = K (.pointer (some ⟨h.size, 0, none⟩)) (h.push (.row [.int .u64 0, .int .u64 0, .int .u32 0, .int .u8 0, .int .u8 0, .int .u8 0, .int .u8 0, .nilFunc, .pointer none, .int .i32 0, .int .i32 0] 102 false)) := w_alloc d ty pos af g e h K 102 tab_info102
theorem fa102_0 (A o : Nat) : fieldAddrA tab 102 (.pointer (some ⟨A, o, none⟩)) 0 = some (.pointer (some ⟨A, o + 0, none⟩)) := Eq.refl _
theorem fd102_0 (cs : Array Value) : fieldA tab 102 (.agg cs) 0 = partA tab 12 cs.toList 0 := Eq.refl _
theorem fa102_1 (A o : Nat) : fieldAddrA tab 102 (.pointer (some ⟨A, o, none⟩)) 1 = some (.pointer (some ⟨A, o + 1, none⟩)) := Eq.refl _
theorem fd102_1 (cs : Array Value) : fieldA tab 102 (.agg cs) 1 = partA tab 12 cs.toList 1 := Eq.refl _
theorem fa102_2 (A o : Nat) : fieldAddrA tab 102 (.pointer (some ⟨A, o, none⟩)) 2 = some (.pointer (some ⟨A, o + 2, none⟩)) := Eq.refl _
theorem fd102_2 (cs : Array Value) : fieldA tab 102 (.agg cs) 2 = partA tab 96 cs.toList 2 := Eq.refl _
theorem fa102_3 (A o : Nat) : fieldAddrA tab 102 (.pointer (some ⟨A, o, none⟩)) 3 = some (.pointer (some ⟨A, o + 3, none⟩)) := Eq.refl _
theorem fd102_3 (cs : Array Value) : fieldA tab 102 (.agg cs) 3 = partA tab 97 cs.toList 3 := Eq.refl _
theorem fa102_4 (A o : Nat) : fieldAddrA tab 102 (.pointer (some ⟨A, o, none⟩)) 4 = some (.pointer (some ⟨A, o + 4, none⟩)) := Eq.refl _
theorem fd102_4 (cs : Array Value) : fieldA tab 102 (.agg cs) 4 = partA tab 5 cs.toList 4 := Eq.refl _
theorem fa102_5 (A o : Nat) : fieldAddrA tab 102 (.pointer (some ⟨A, o, none⟩)) 5 = some (.pointer (some ⟨A, o + 5, none⟩)) := Eq.refl _
theorem fd102_5 (cs : Array Value) : fieldA tab 102 (.agg cs) 5 = partA tab 5 cs.toList 5 := Eq.refl _
theorem fa102_6 (A o : Nat) : fieldAddrA tab 102 (.pointer (some ⟨A, o, none⟩)) 6 = some (.pointer (some ⟨A, o + 6, none⟩)) := Eq.refl _
theorem fd102_6 (cs : Array Value) : fieldA tab 102 (.agg cs) 6 = partA tab 98 cs.toList 6 := Eq.refl _
theorem fa102_7 (A o : Nat) : fieldAddrA tab 102 (.pointer (some ⟨A, o, none⟩)) 7 = some (.pointer (some ⟨A, o + 7, none⟩)) := Eq.refl _
theorem fd102_7 (cs : Array Value) : fieldA tab 102 (.agg cs) 7 = partA tab 99 cs.toList 7 := Eq.refl _
theorem fa102_8 (A o : Nat) : fieldAddrA tab 102 (.pointer (some ⟨A, o, none⟩)) 8 = some (.pointer (some ⟨A, o + 8, none⟩)) := Eq.refl _
theorem fd102_8 (cs : Array Value) : fieldA tab 102 (.agg cs) 8 = partA tab 85 cs.toList 8 := Eq.refl _
theorem fa102_9 (A o : Nat) : fieldAddrA tab 102 (.pointer (some ⟨A, o, none⟩)) 9 = some (.pointer (some ⟨A, o + 9, none⟩)) := Eq.refl _
theorem fd102_9 (cs : Array Value) : fieldA tab 102 (.agg cs) 9 = partA tab 100 cs.toList 9 := Eq.refl _
theorem fa102_10 (A o : Nat) : fieldAddrA tab 102 (.pointer (some ⟨A, o, none⟩)) 10 = some (.pointer (some ⟨A, o + 10, none⟩)) := Eq.refl _
theorem fd102_10 (cs : Array Value) : fieldA tab 102 (.agg cs) 10 = partA tab 101 cs.toList 10 := Eq.refl _
theorem sz103 : sizeA tab 103 = some 11 := by kernel_rfl
theorem ag103 : aggA tab 103 = some true := by kernel_rfl
theorem ld103 (A o : Nat) (h : Heap) : loadA tab 103 (.pointer (some ⟨A, o, none⟩)) h = cutO (h.get A) o 11 := load_agg ag103 sz103
theorem pt103 (cs : List Value) (o : Nat) : partA tab 103 cs o = (cut cs o 11).map fun l => .agg l.toArray := part_agg ag103 sz103
theorem al103 (P : Program) (ov : Ov) (d : Option Tmp) (ty : TypeId) (pos : String) (af : Array Edge) (g : Option (Nat × Bool)) (e : Env) (h : Heap) (K : Value → Heap → Prop) : WOp P tab ov ⟨d, .alloc 103, ty, pos, af, g⟩ e h K = K (.pointer (some ⟨h.size, 0, none⟩)) (h.push (.row [.int .u64 0, .int .u64 0, .int .u32 0, .int .u8 0, .int .u8 0, .int .u8 0, .int .u8 0, .nilFunc, .pointer none, .int .i32 0, .int .i32 0] 103 false)) := w_alloc d ty pos af g e h K 103 tab_info103
theorem fa103_0 (A o : Nat) : fieldAddrA tab 103 (.pointer (some ⟨A, o, none⟩)) 0 = some (.pointer (some ⟨A, o + 0, none⟩)) := Eq.refl _
theorem fd103_0 (cs : Array Value) : fieldA tab 103 (.agg cs) 0 = partA tab 12 cs.toList 0 := Eq.refl _
theorem fa103_1 (A o : Nat) : fieldAddrA tab 103 (.pointer (some ⟨A, o, none⟩)) 1 = some (.pointer (some ⟨A, o + 1, none⟩)) := Eq.refl _
theorem fd103_1 (cs : Array Value) : fieldA tab 103 (.agg cs) 1 = partA tab 12 cs.toList 1 := Eq.refl _
theorem fa103_2 (A o : Nat) : fieldAddrA tab 103 (.pointer (some ⟨A, o, none⟩)) 2 = some (.pointer (some ⟨A, o + 2, none⟩)) := Eq.refl _
theorem fd103_2 (cs : Array Value) : fieldA tab 103 (.agg cs) 2 = partA tab 96 cs.toList 2 := Eq.refl _
theorem fa103_3 (A o : Nat) : fieldAddrA tab 103 (.pointer (some ⟨A, o, none⟩)) 3 = some (.pointer (some ⟨A, o + 3, none⟩)) := Eq.refl _
theorem fd103_3 (cs : Array Value) : fieldA tab 103 (.agg cs) 3 = partA tab 97 cs.toList 3 := Eq.refl _
theorem fa103_4 (A o : Nat) : fieldAddrA tab 103 (.pointer (some ⟨A, o, none⟩)) 4 = some (.pointer (some ⟨A, o + 4, none⟩)) := Eq.refl _
theorem fd103_4 (cs : Array Value) : fieldA tab 103 (.agg cs) 4 = partA tab 5 cs.toList 4 := Eq.refl _
theorem fa103_5 (A o : Nat) : fieldAddrA tab 103 (.pointer (some ⟨A, o, none⟩)) 5 = some (.pointer (some ⟨A, o + 5, none⟩)) := Eq.refl _
theorem fd103_5 (cs : Array Value) : fieldA tab 103 (.agg cs) 5 = partA tab 5 cs.toList 5 := Eq.refl _
theorem fa103_6 (A o : Nat) : fieldAddrA tab 103 (.pointer (some ⟨A, o, none⟩)) 6 = some (.pointer (some ⟨A, o + 6, none⟩)) := Eq.refl _
theorem fd103_6 (cs : Array Value) : fieldA tab 103 (.agg cs) 6 = partA tab 98 cs.toList 6 := Eq.refl _
theorem fa103_7 (A o : Nat) : fieldAddrA tab 103 (.pointer (some ⟨A, o, none⟩)) 7 = some (.pointer (some ⟨A, o + 7, none⟩)) := Eq.refl _
theorem fd103_7 (cs : Array Value) : fieldA tab 103 (.agg cs) 7 = partA tab 99 cs.toList 7 := Eq.refl _
theorem fa103_8 (A o : Nat) : fieldAddrA tab 103 (.pointer (some ⟨A, o, none⟩)) 8 = some (.pointer (some ⟨A, o + 8, none⟩)) := Eq.refl _
theorem fd103_8 (cs : Array Value) : fieldA tab 103 (.agg cs) 8 = partA tab 85 cs.toList 8 := Eq.refl _
theorem fa103_9 (A o : Nat) : fieldAddrA tab 103 (.pointer (some ⟨A, o, none⟩)) 9 = some (.pointer (some ⟨A, o + 9, none⟩)) := Eq.refl _
theorem fd103_9 (cs : Array Value) : fieldA tab 103 (.agg cs) 9 = partA tab 100 cs.toList 9 := Eq.refl _
theorem fa103_10 (A o : Nat) : fieldAddrA tab 103 (.pointer (some ⟨A, o, none⟩)) 10 = some (.pointer (some ⟨A, o + 10, none⟩)) := Eq.refl _
theorem fd103_10 (cs : Array Value) : fieldA tab 103 (.agg cs) 10 = partA tab 101 cs.toList 10 := Eq.refl _
end Go.Proofs.Ytpnnbjakbplgeaa

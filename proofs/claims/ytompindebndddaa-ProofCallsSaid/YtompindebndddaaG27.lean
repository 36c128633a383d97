/- What the plain machine's operations come to at this seat's types. Written by a program (mksim.py). No condition. -/
import Derived.Test.YtompindebndddaaG2
import Derived.Test.YtompindebndddaaGSym
import Derived.Test.YtompindebndddaaG26
namespace Go.Proofs.Ytompindebndddaa
open Go.Am
theorem sz3 : sizeA tab 3 = some 1 := by kernel_rfl
theorem ag3 : aggA tab 3 = some false := by kernel_rfl
theorem ld3 (A o : Nat) (h : Heap) : loadA tab 3 (.pointer (some ⟨A, o, none⟩)) h = cellO (h.get A) o := load_one ag3
theorem al3 (P : Program) (ov : Ov) (d : Option Tmp) (ty : TypeId) (pos : String) (af : Array Edge) (g : Option (Nat × Bool)) (e : Env) (h : Heap) (K : Value → Heap → Prop) : WOp P tab ov ⟨d, .alloc 3, ty, pos, af, g⟩ e h K = K (.pointer (some ⟨h.size, 0, none⟩)) (h.push (.row [.int .i64 0] 3 false)) := w_alloc d ty pos af g e h K 3 tab_info3
theorem sz4 : sizeA tab 4 = some 1 := by kernel_rfl
theorem ag4 : aggA tab 4 = some false := by kernel_rfl
theorem ld4 (A o : Nat) (h : Heap) : loadA tab 4 (.pointer (some ⟨A, o, none⟩)) h = cellO (h.get A) o := load_one ag4
theorem sz9 : sizeA tab 9 = some 1 := by kernel_rfl
theorem ag9 : aggA tab 9 = some false := by kernel_rfl
theorem ld9 (A o : Nat) (h : Heap) : loadA tab 9 (.pointer (some ⟨A, o, none⟩)) h = cellO (h.get A) o := load_one ag9
theorem ds9 : tab.desc 9 = some .string := by kernel_rfl
theorem ln9 (s : ByteArray) (h : Heap) : lenA tab 9 (.string s) h = some (.int .i64 s.size) := lenA_str ds9
theorem ds22 : tab.desc 22 = some (.slice 47) := by kernel_rfl
theorem ln22 (a : Option Addr) (n c : Nat) (h : Heap) : lenA tab 22 (.slice a n c) h = some (.int .i64 n) := lenA_slice ds22
theorem bs22 (n : Nat) (parts : List (Nat × Value)) (h : Heap) : buildSliceA tab 22 n parts h = if n * 12 > 16777216 || n > 16777216 then Option.none else (fillA (fun i => some (i * 12, 12)) (zerosA [.string ⟨#[]⟩, .string ⟨#[]⟩, .int .i64 0, .bool false, .string ⟨#[]⟩, .bool false, .string ⟨#[]⟩, .bool false, .string ⟨#[]⟩, .bool false, .string ⟨#[]⟩, .slice none 0 0] n) parts).map fun cs => (.slice (some ⟨h.size, 0, none⟩) n n, h.push (.row cs 47 false)) := bsl ds22 tab_info47 n parts h
theorem ix22 (A o n c : Nat) (ik : IntKind) (i : Int) : indexAddrA tab 22 (.slice (some ⟨A, o, none⟩) n c) (.int ik i) = if 0 ≤ i ∧ i < n then some (.pointer (some ⟨A, o + i.toNat * 12, none⟩)) else none := idx_slice ds22 (by kernel_rfl)
theorem sz23 : sizeA tab 23 = some 1 := by kernel_rfl
theorem ag23 : aggA tab 23 = some false := by kernel_rfl
theorem ld23 (A o : Nat) (h : Heap) : loadA tab 23 (.pointer (some ⟨A, o, none⟩)) h = cellO (h.get A) o := load_one ag23
theorem al23 (P : Program) (ov : Ov) (d : Option Tmp) (ty : TypeId) (pos : String) (af : Array Edge) (g : Option (Nat × Bool)) (e : Env) (h : Heap) (K : Value → Heap → Prop) : WOp P tab ov ⟨d, .alloc 23, ty, pos, af, g⟩ e h K = K (.pointer (some ⟨h.size, 0, none⟩)) (h.push (.row [.slice none 0 0] 23 false)) := w_alloc d ty pos af g e h K 23 tab_info23
theorem ds23 : tab.desc 23 = some (.slice 39) := by kernel_rfl
theorem ln23 (a : Option Addr) (n c : Nat) (h : Heap) : lenA tab 23 (.slice a n c) h = some (.int .i64 n) := lenA_slice ds23
theorem bs23 (n : Nat) (parts : List (Nat × Value)) (h : Heap) : buildSliceA tab 23 n parts h = if n * 11 > 16777216 || n > 16777216 then Option.none else (fillA (fun i => some (i * 11, 11)) (zerosA [.string ⟨#[]⟩, .string ⟨#[]⟩, .int .i64 0, .bool false, .string ⟨#[]⟩, .bool false, .string ⟨#[]⟩, .bool false, .string ⟨#[]⟩, .bool false, .string ⟨#[]⟩] n) parts).map fun cs => (.slice (some ⟨h.size, 0, none⟩) n n, h.push (.row cs 39 false)) := bsl ds23 tab_info39 n parts h
theorem ix23 (A o n c : Nat) (ik : IntKind) (i : Int) : indexAddrA tab 23 (.slice (some ⟨A, o, none⟩) n c) (.int ik i) = if 0 ≤ i ∧ i < n then some (.pointer (some ⟨A, o + i.toNat * 11, none⟩)) else none := idx_slice ds23 (by kernel_rfl)
theorem ag24 : aggA tab 24 = some false := by kernel_rfl
theorem ld24 (A o : Nat) (h : Heap) : loadA tab 24 (.pointer (some ⟨A, o, none⟩)) h = cellO (h.get A) o := load_one ag24
theorem ds24 : tab.desc 24 = some (.slice 41) := by kernel_rfl
theorem ln24 (a : Option Addr) (n c : Nat) (h : Heap) : lenA tab 24 (.slice a n c) h = some (.int .i64 n) := lenA_slice ds24
theorem bs24 (n : Nat) (parts : List (Nat × Value)) (h : Heap) : buildSliceA tab 24 n parts h = if n * 13 > 16777216 || n > 16777216 then Option.none else (fillA (fun i => some (i * 13, 13)) (zerosA [.string ⟨#[]⟩, .string ⟨#[]⟩, .int .i64 0, .bool false, .string ⟨#[]⟩, .bool false, .string ⟨#[]⟩, .bool false, .string ⟨#[]⟩, .bool false, .string ⟨#[]⟩, .int .i64 0, .slice none 0 0] n) parts).map fun cs => (.slice (some ⟨h.size, 0, none⟩) n n, h.push (.row cs 41 false)) := bsl ds24 tab_info41 n parts h
theorem ix24 (A o n c : Nat) (ik : IntKind) (i : Int) : indexAddrA tab 24 (.slice (some ⟨A, o, none⟩) n c) (.int ik i) = if 0 ≤ i ∧ i < n then some (.pointer (some ⟨A, o + i.toNat * 13, none⟩)) else none := idx_slice ds24 (by kernel_rfl)
theorem sz32 : sizeA tab 32 = some 1 := by kernel_rfl
theorem ag32 : aggA tab 32 = some false := by kernel_rfl
theorem ld32 (A o : Nat) (h : Heap) : loadA tab 32 (.pointer (some ⟨A, o, none⟩)) h = cellO (h.get A) o := load_one ag32
theorem ds32 : tab.desc 32 = some (.slice 3) := by kernel_rfl
theorem ln32 (a : Option Addr) (n c : Nat) (h : Heap) : lenA tab 32 (.slice a n c) h = some (.int .i64 n) := lenA_slice ds32
theorem bs32 (n : Nat) (parts : List (Nat × Value)) (h : Heap) : buildSliceA tab 32 n parts h = if n * 1 > 16777216 || n > 16777216 then Option.none else (fillA (fun i => some (i * 1, 1)) (zerosA [.int .i64 0] n) parts).map fun cs => (.slice (some ⟨h.size, 0, none⟩) n n, h.push (.row cs 3 false)) := bsl ds32 tab_info3 n parts h
theorem ix32 (A o n c : Nat) (ik : IntKind) (i : Int) : indexAddrA tab 32 (.slice (some ⟨A, o, none⟩) n c) (.int ik i) = if 0 ≤ i ∧ i < n then some (.pointer (some ⟨A, o + i.toNat * 1, none⟩)) else none := idx_slice ds32 (by kernel_rfl)
theorem sz36 : sizeA tab 36 = some 2 := by kernel_rfl
theorem ag36 : aggA tab 36 = some true := by kernel_rfl
theorem ld36 (A o : Nat) (h : Heap) : loadA tab 36 (.pointer (some ⟨A, o, none⟩)) h = cutO (h.get A) o 2 := load_agg ag36 sz36
theorem al36 (P : Program) (ov : Ov) (d : Option Tmp) (ty : TypeId) (pos : String) (af : Array Edge) (g : Option (Nat × Bool)) (e : Env) (h : Heap) (K : Value → Heap → Prop) : WOp P tab ov ⟨d, .alloc 36, ty, pos, af, g⟩ e h K = K (.pointer (some ⟨h.size, 0, none⟩)) (h.push (.row [.bool false, .string ⟨#[]⟩] 36 false)) := w_alloc d ty pos af g e h K 36 tab_info36
theorem fa36_0 (A o : Nat) : fieldAddrA tab 36 (.pointer (some ⟨A, o, none⟩)) 0 = some (.pointer (some ⟨A, o + 0, none⟩)) := Eq.refl _
theorem fa36_1 (A o : Nat) : fieldAddrA tab 36 (.pointer (some ⟨A, o, none⟩)) 1 = some (.pointer (some ⟨A, o + 1, none⟩)) := Eq.refl _
theorem ds37 : tab.desc 37 = some (.array 4 36) := by kernel_rfl
theorem ix37 (A o : Nat) (ik : IntKind) (i : Int) : indexAddrA tab 37 (.pointer (some ⟨A, o, none⟩)) (.int ik i) = if 0 ≤ i ∧ i < 4 then some (.pointer (some ⟨A, o + i.toNat * 2, none⟩)) else none := idx_arr ds37 (by kernel_rfl)
theorem sz39 : sizeA tab 39 = some 11 := by kernel_rfl
theorem ag39 : aggA tab 39 = some true := by kernel_rfl
theorem ld39 (A o : Nat) (h : Heap) : loadA tab 39 (.pointer (some ⟨A, o, none⟩)) h = cutO (h.get A) o 11 := load_agg ag39 sz39
theorem al39 (P : Program) (ov : Ov) (d : Option Tmp) (ty : TypeId) (pos : String) (af : Array Edge) (g : Option (Nat × Bool)) (e : Env) (h : Heap) (K : Value → Heap → Prop) : WOp P tab ov ⟨d, .alloc 39, ty, pos, af, g⟩ e h K = K (.pointer (some ⟨h.size, 0, none⟩)) (h.push (.row [.string ⟨#[]⟩, .string ⟨#[]⟩, .int .i64 0, .bool false, .string ⟨#[]⟩, .bool false, .string ⟨#[]⟩, .bool false, .string ⟨#[]⟩, .bool false, .string ⟨#[]⟩] 39 false)) := w_alloc d ty pos af g e h K 39 tab_info39
theorem fa39_0 (A o : Nat) : fieldAddrA tab 39 (.pointer (some ⟨A, o, none⟩)) 0 = some (.pointer (some ⟨A, o + 0, none⟩)) := Eq.refl _
theorem fa39_1 (A o : Nat) : fieldAddrA tab 39 (.pointer (some ⟨A, o, none⟩)) 1 = some (.pointer (some ⟨A, o + 1, none⟩)) := Eq.refl _
theorem fa39_2 (A o : Nat) : fieldAddrA tab 39 (.pointer (some ⟨A, o, none⟩)) 2 = some (.pointer (some ⟨A, o + 2, none⟩)) := Eq.refl _
theorem fa39_3 (A o : Nat) : fieldAddrA tab 39 (.pointer (some ⟨A, o, none⟩)) 3 = some (.pointer (some ⟨A, o + 3, none⟩)) := Eq.refl _
theorem sz41 : sizeA tab 41 = some 13 := by kernel_rfl
theorem ag41 : aggA tab 41 = some true := by kernel_rfl
theorem ld41 (A o : Nat) (h : Heap) : loadA tab 41 (.pointer (some ⟨A, o, none⟩)) h = cutO (h.get A) o 13 := load_agg ag41 sz41
theorem al41 (P : Program) (ov : Ov) (d : Option Tmp) (ty : TypeId) (pos : String) (af : Array Edge) (g : Option (Nat × Bool)) (e : Env) (h : Heap) (K : Value → Heap → Prop) : WOp P tab ov ⟨d, .alloc 41, ty, pos, af, g⟩ e h K = K (.pointer (some ⟨h.size, 0, none⟩)) (h.push (.row [.string ⟨#[]⟩, .string ⟨#[]⟩, .int .i64 0, .bool false, .string ⟨#[]⟩, .bool false, .string ⟨#[]⟩, .bool false, .string ⟨#[]⟩, .bool false, .string ⟨#[]⟩, .int .i64 0, .slice none 0 0] 41 false)) := w_alloc d ty pos af g e h K 41 tab_info41
theorem fa41_0 (A o : Nat) : fieldAddrA tab 41 (.pointer (some ⟨A, o, none⟩)) 0 = some (.pointer (some ⟨A, o + 0, none⟩)) := Eq.refl _
theorem fa41_1 (A o : Nat) : fieldAddrA tab 41 (.pointer (some ⟨A, o, none⟩)) 1 = some (.pointer (some ⟨A, o + 11, none⟩)) := Eq.refl _
theorem fa41_2 (A o : Nat) : fieldAddrA tab 41 (.pointer (some ⟨A, o, none⟩)) 2 = some (.pointer (some ⟨A, o + 12, none⟩)) := Eq.refl _
theorem sz47 : sizeA tab 47 = some 12 := by kernel_rfl
theorem ag47 : aggA tab 47 = some true := by kernel_rfl
theorem ld47 (A o : Nat) (h : Heap) : loadA tab 47 (.pointer (some ⟨A, o, none⟩)) h = cutO (h.get A) o 12 := load_agg ag47 sz47
theorem fa47_0 (A o : Nat) : fieldAddrA tab 47 (.pointer (some ⟨A, o, none⟩)) 0 = some (.pointer (some ⟨A, o + 0, none⟩)) := Eq.refl _
theorem fa47_1 (A o : Nat) : fieldAddrA tab 47 (.pointer (some ⟨A, o, none⟩)) 1 = some (.pointer (some ⟨A, o + 11, none⟩)) := Eq.refl _
theorem ds60 : tab.desc 60 = some (.slice 9) := by kernel_rfl
theorem bs60 (n : Nat) (parts : List (Nat × Value)) (h : Heap) : buildSliceA tab 60 n parts h = if n * 1 > 16777216 || n > 16777216 then Option.none else (fillA (fun i => some (i * 1, 1)) (zerosA [.string ⟨#[]⟩] n) parts).map fun cs => (.slice (some ⟨h.size, 0, none⟩) n n, h.push (.row cs 9 false)) := bsl ds60 tab_info9 n parts h
theorem ds81 : tab.desc 81 = some (.slice 23) := by kernel_rfl
theorem bs81 (n : Nat) (parts : List (Nat × Value)) (h : Heap) : buildSliceA tab 81 n parts h = if n * 1 > 16777216 || n > 16777216 then Option.none else (fillA (fun i => some (i * 1, 1)) (zerosA [.slice none 0 0] n) parts).map fun cs => (.slice (some ⟨h.size, 0, none⟩) n n, h.push (.row cs 23 false)) := bsl ds81 tab_info23 n parts h
theorem ag84 : aggA tab 84 = some false := by kernel_rfl
theorem ld84 (A o : Nat) (h : Heap) : loadA tab 84 (.pointer (some ⟨A, o, none⟩)) h = cellO (h.get A) o := load_one ag84
theorem ds84 : tab.desc 84 = some (.slice 90) := by kernel_rfl
theorem ln84 (a : Option Addr) (n c : Nat) (h : Heap) : lenA tab 84 (.slice a n c) h = some (.int .i64 n) := lenA_slice ds84
theorem bs84 (n : Nat) (parts : List (Nat × Value)) (h : Heap) : buildSliceA tab 84 n parts h = if n * 13 > 16777216 || n > 16777216 then Option.none else (fillA (fun i => some (i * 13, 13)) (zerosA [.string ⟨#[]⟩, .string ⟨#[]⟩, .int .i64 0, .bool false, .string ⟨#[]⟩, .bool false, .string ⟨#[]⟩, .bool false, .string ⟨#[]⟩, .bool false, .string ⟨#[]⟩, .int .i64 0, .slice none 0 0] n) parts).map fun cs => (.slice (some ⟨h.size, 0, none⟩) n n, h.push (.row cs 90 false)) := bsl ds84 tab_info90 n parts h
theorem ix84 (A o n c : Nat) (ik : IntKind) (i : Int) : indexAddrA tab 84 (.slice (some ⟨A, o, none⟩) n c) (.int ik i) = if 0 ≤ i ∧ i < n then some (.pointer (some ⟨A, o + i.toNat * 13, none⟩)) else none := idx_slice ds84 (by kernel_rfl)
theorem sz90 : sizeA tab 90 = some 13 := by kernel_rfl
theorem ag90 : aggA tab 90 = some true := by kernel_rfl
theorem ld90 (A o : Nat) (h : Heap) : loadA tab 90 (.pointer (some ⟨A, o, none⟩)) h = cutO (h.get A) o 13 := load_agg ag90 sz90
theorem al90 (P : Program) (ov : Ov) (d : Option Tmp) (ty : TypeId) (pos : String) (af : Array Edge) (g : Option (Nat × Bool)) (e : Env) (h : Heap) (K : Value → Heap → Prop) : WOp P tab ov ⟨d, .alloc 90, ty, pos, af, g⟩ e h K = K (.pointer (some ⟨h.size, 0, none⟩)) (h.push (.row [.string ⟨#[]⟩, .string ⟨#[]⟩, .int .i64 0, .bool false, .string ⟨#[]⟩, .bool false, .string ⟨#[]⟩, .bool false, .string ⟨#[]⟩, .bool false, .string ⟨#[]⟩, .int .i64 0, .slice none 0 0] 90 false)) := w_alloc d ty pos af g e h K 90 tab_info90
theorem fa90_0 (A o : Nat) : fieldAddrA tab 90 (.pointer (some ⟨A, o, none⟩)) 0 = some (.pointer (some ⟨A, o + 0, none⟩)) := Eq.refl _
theorem fa90_1 (A o : Nat) : fieldAddrA tab 90 (.pointer (some ⟨A, o, none⟩)) 1 = some (.pointer (some ⟨A, o + 11, none⟩)) := Eq.refl _
theorem fa90_2 (A o : Nat) : fieldAddrA tab 90 (.pointer (some ⟨A, o, none⟩)) 2 = some (.pointer (some ⟨A, o + 12, none⟩)) := Eq.refl _
theorem ag103 : aggA tab 103 = some false := by kernel_rfl
theorem ld103 (A o : Nat) (h : Heap) : loadA tab 103 (.pointer (some ⟨A, o, none⟩)) h = cellO (h.get A) o := load_one ag103
theorem al103 (P : Program) (ov : Ov) (d : Option Tmp) (ty : TypeId) (pos : String) (af : Array Edge) (g : Option (Nat × Bool)) (e : Env) (h : Heap) (K : Value → Heap → Prop) : WOp P tab ov ⟨d, .alloc 103, ty, pos, af, g⟩ e h K = K (.pointer (some ⟨h.size, 0, none⟩)) (h.push (.row [.map none] 103 false)) := w_alloc d ty pos af g e h K 103 tab_info103
theorem ds140 : tab.desc 140 = some (.map 39 3) := by kernel_rfl
theorem sz143 : sizeA tab 143 = some 1 := by kernel_rfl
theorem ag143 : aggA tab 143 = some false := by kernel_rfl
theorem ld143 (A o : Nat) (h : Heap) : loadA tab 143 (.pointer (some ⟨A, o, none⟩)) h = cellO (h.get A) o := load_one ag143
theorem al143 (P : Program) (ov : Ov) (d : Option Tmp) (ty : TypeId) (pos : String) (af : Array Edge) (g : Option (Nat × Bool)) (e : Env) (h : Heap) (K : Value → Heap → Prop) : WOp P tab ov ⟨d, .alloc 143, ty, pos, af, g⟩ e h K = K (.pointer (some ⟨h.size, 0, none⟩)) (h.push (.row [.slice none 0 0] 143 false)) := w_alloc d ty pos af g e h K 143 tab_info143
theorem ds143 : tab.desc 143 = some (.slice 4) := by kernel_rfl
theorem ix143 (A o n c : Nat) (ik : IntKind) (i : Int) : indexAddrA tab 143 (.slice (some ⟨A, o, none⟩) n c) (.int ik i) = if 0 ≤ i ∧ i < n then some (.pointer (some ⟨A, o + i.toNat * 1, none⟩)) else none := idx_slice ds143 (by kernel_rfl)
theorem ds159 : tab.desc 159 = some (.slice 36) := by kernel_rfl
theorem ln159 (a : Option Addr) (n c : Nat) (h : Heap) : lenA tab 159 (.slice a n c) h = some (.int .i64 n) := lenA_slice ds159
theorem ix159 (A o n c : Nat) (ik : IntKind) (i : Int) : indexAddrA tab 159 (.slice (some ⟨A, o, none⟩) n c) (.int ik i) = if 0 ≤ i ∧ i < n then some (.pointer (some ⟨A, o + i.toNat * 2, none⟩)) else none := idx_slice ds159 (by kernel_rfl)
theorem sz192 : sizeA tab 192 = some 3 := by kernel_rfl
theorem fi4 (K : Value → Heap → Prop) (e : Env) (h : Heap) : finE tab Try.f4 K .ret e h = K (e.get 12) h := fin_tmp rfl
theorem fi5 (K : Value → Heap → Prop) (e : Env) (h : Heap) : finE tab Try.f5 K .ret e h = K (e.get 6) h := fin_tmp rfl
theorem fi7 (K : Value → Heap → Prop) (e : Env) (h : Heap) : finE tab Try.f7 K .ret e h = K (e.get 4) h := fin_tmp rfl
theorem fi8 (K : Value → Heap → Prop) (e : Env) (h : Heap) : finE tab Try.f8 K .ret e h = K (e.get 4) h := fin_tmp rfl
theorem fi9 (K : Value → Heap → Prop) (e : Env) (h : Heap) : finE tab Try.f9 K .ret e h = K (e.get 8) h := fin_tmp rfl
theorem fi10 (K : Value → Heap → Prop) (e : Env) (h : Heap) : finE tab Try.f10 K .ret e h = K (e.get 4) h := fin_tmp rfl
theorem fi11 (K : Value → Heap → Prop) (e : Env) (h : Heap) : finE tab Try.f11 K .ret e h = K (e.get 4) h := fin_tmp rfl
theorem fi12 (K : Value → Heap → Prop) (e : Env) (h : Heap) : finE tab Try.f12 K .ret e h = K (e.get 8) h := fin_tmp rfl
theorem fi14 (K : Value → Heap → Prop) (e : Env) (h : Heap) : finE tab Try.f14 K .ret e h = K (e.get 4) h := fin_tmp rfl
theorem fi15 (K : Value → Heap → Prop) (e : Env) (h : Heap) : finE tab Try.f15 K .ret e h = K (e.get 2) h := fin_tmp rfl
theorem fi17 (K : Value → Heap → Prop) (e : Env) (h : Heap) : finE tab Try.f17 K .ret e h = K (e.get 6) h := fin_tmp rfl
theorem fi19 (K : Value → Heap → Prop) (e : Env) (h : Heap) : finE tab Try.f19 K .ret e h = K (e.get 2) h := fin_tmp rfl
theorem fi20 (K : Value → Heap → Prop) (e : Env) (h : Heap) : finE tab Try.f20 K .ret e h = K (e.get 4) h := fin_tmp rfl
theorem fi21 (K : Value → Heap → Prop) (e : Env) (h : Heap) : finE tab Try.f21 K .ret e h = K (e.get 6) h := fin_tmp rfl
theorem fi22 (K : Value → Heap → Prop) (e : Env) (h : Heap) : finE tab Try.f22 K .ret e h = K (.tuple #[e.get 4, e.get 5]) h := fin_two rfl
theorem fi23 (K : Value → Heap → Prop) (e : Env) (h : Heap) : finE tab Try.f23 K .ret e h = K (e.get 4) h := fin_tmp rfl
theorem fi25 (K : Value → Heap → Prop) (e : Env) (h : Heap) : finE tab Try.f25 K .ret e h = K (e.get 4) h := fin_tmp rfl
theorem fi27 (K : Value → Heap → Prop) (e : Env) (h : Heap) : finE tab Try.f27 K .ret e h = K (e.get 2) h := fin_tmp rfl
theorem fi31 (K : Value → Heap → Prop) (e : Env) (h : Heap) : finE tab Try.f31 K .ret e h = K (e.get 2) h := fin_tmp rfl
theorem fi32 (K : Value → Heap → Prop) (e : Env) (h : Heap) : finE tab Try.f32 K .ret e h = K (e.get 4) h := fin_tmp rfl
theorem fi33 (K : Value → Heap → Prop) (e : Env) (h : Heap) : finE tab Try.f33 K .ret e h = K (e.get 2) h := fin_tmp rfl
theorem fi35 (K : Value → Heap → Prop) (e : Env) (h : Heap) : finE tab Try.f35 K .ret e h = K (e.get 4) h := fin_tmp rfl
theorem fi42 (K : Value → Heap → Prop) (e : Env) (h : Heap) : finE tab Try.f42 K .ret e h = K (e.get 2) h := fin_tmp rfl
theorem fi43 (K : Value → Heap → Prop) (e : Env) (h : Heap) : finE tab Try.f43 K .ret e h = K (e.get 4) h := fin_tmp rfl
theorem fi44 (K : Value → Heap → Prop) (e : Env) (h : Heap) : finE tab Try.f44 K .ret e h = K (.tuple #[e.get 4, e.get 5]) h := fin_two rfl
theorem fi46 (K : Value → Heap → Prop) (e : Env) (h : Heap) : finE tab Try.f46 K .ret e h = K (e.get 2) h := fin_tmp rfl
theorem fi47 (K : Value → Heap → Prop) (e : Env) (h : Heap) : finE tab Try.f47 K .ret e h = K (.tuple #[e.get 4, e.get 5]) h := fin_two rfl
theorem fi50 (K : Value → Heap → Prop) (e : Env) (h : Heap) : finE tab Try.f50 K .ret e h = K (e.get 2) h := fin_tmp rfl
theorem fi51 (K : Value → Heap → Prop) (e : Env) (h : Heap) : finE tab Try.f51 K .ret e h = K (e.get 4) h := fin_tmp rfl
theorem fi52 (K : Value → Heap → Prop) (e : Env) (h : Heap) : finE tab Try.f52 K .ret e h = K (.tuple #[e.get 4, e.get 5]) h := fin_two rfl
theorem fi56 (K : Value → Heap → Prop) (e : Env) (h : Heap) : finE tab Try.f56 K .ret e h = K (.tuple #[e.get 4, e.get 5]) h := fin_two rfl
theorem fi57 (K : Value → Heap → Prop) (e : Env) (h : Heap) : finE tab Try.f57 K .ret e h = K (e.get 4) h := fin_tmp rfl
theorem fi58 (K : Value → Heap → Prop) (e : Env) (h : Heap) : finE tab Try.f58 K .ret e h = valE (loadA tab 3 (e.get 4) h) h K := fin_cell rfl
theorem fi59 (K : Value → Heap → Prop) (e : Env) (h : Heap) : finE tab Try.f59 K .ret e h = K (.tuple #[e.get 4, e.get 5]) h := fin_two rfl
theorem fi60 (K : Value → Heap → Prop) (e : Env) (h : Heap) : finE tab Try.f60 K .ret e h = K (.tuple #[e.get 2, e.get 3]) h := fin_two rfl
theorem fi61 (K : Value → Heap → Prop) (e : Env) (h : Heap) : finE tab Try.f61 K .ret e h = K (.tuple #[e.get 4, e.get 5]) h := fin_two rfl
theorem fi62 (K : Value → Heap → Prop) (e : Env) (h : Heap) : finE tab Try.f62 K .ret e h = K (e.get 2) h := fin_tmp rfl
theorem fi63 (K : Value → Heap → Prop) (e : Env) (h : Heap) : finE tab Try.f63 K .ret e h = K (e.get 2) h := fin_tmp rfl
theorem fi64 (K : Value → Heap → Prop) (e : Env) (h : Heap) : finE tab Try.f64 K .ret e h = K (e.get 2) h := fin_tmp rfl
theorem fi65 (K : Value → Heap → Prop) (e : Env) (h : Heap) : finE tab Try.f65 K .ret e h = K (.tuple #[e.get 4, e.get 5]) h := fin_two rfl
theorem fi66 (K : Value → Heap → Prop) (e : Env) (h : Heap) : finE tab Try.f66 K .ret e h = K (e.get 2) h := fin_tmp rfl
theorem fi67 (K : Value → Heap → Prop) (e : Env) (h : Heap) : finE tab Try.f67 K .ret e h = K (.tuple #[e.get 2, e.get 3]) h := fin_two rfl
theorem fi68 (K : Value → Heap → Prop) (e : Env) (h : Heap) : finE tab Try.f68 K .ret e h = K (.tuple #[e.get 4, e.get 5]) h := fin_two rfl
theorem fi69 (K : Value → Heap → Prop) (e : Env) (h : Heap) : finE tab Try.f69 K .ret e h = K (e.get 4) h := fin_tmp rfl
theorem fi70 (K : Value → Heap → Prop) (e : Env) (h : Heap) : finE tab Try.f70 K .ret e h = K (e.get 4) h := fin_tmp rfl
theorem fi71 (K : Value → Heap → Prop) (e : Env) (h : Heap) : finE tab Try.f71 K .ret e h = K (e.get 2) h := fin_tmp rfl
theorem fi72 (K : Value → Heap → Prop) (e : Env) (h : Heap) : finE tab Try.f72 K .ret e h = K (e.get 4) h := fin_tmp rfl
theorem fi73 (K : Value → Heap → Prop) (e : Env) (h : Heap) : finE tab Try.f73 K .ret e h = K (e.get 4) h := fin_tmp rfl
theorem fi83 (K : Value → Heap → Prop) (e : Env) (h : Heap) : finE tab Try.f83 K .ret e h = K (e.get 4) h := fin_tmp rfl
theorem fi84 (K : Value → Heap → Prop) (e : Env) (h : Heap) : finE tab Try.f84 K .ret e h = K (e.get 3) h := fin_tmp rfl
theorem fi89 (K : Value → Heap → Prop) (e : Env) (h : Heap) : finE tab Try.f89 K .ret e h = K (e.get 2) h := fin_tmp rfl
theorem fi90 (K : Value → Heap → Prop) (e : Env) (h : Heap) : finE tab Try.f90 K .ret e h = K undef h := fin_no rfl
theorem fj90 (K : Value → Heap → Prop) (e : Env) (h : Heap) : finE tab Try.f90 K .normal e h = K undef h := fin_no2 rfl
theorem fi91 (K : Value → Heap → Prop) (e : Env) (h : Heap) : finE tab Try.f91 K .ret e h = K (e.get 4) h := fin_tmp rfl
theorem fi92 (K : Value → Heap → Prop) (e : Env) (h : Heap) : finE tab Try.f92 K .ret e h = K (e.get 4) h := fin_tmp rfl
theorem fi93 (K : Value → Heap → Prop) (e : Env) (h : Heap) : finE tab Try.f93 K .ret e h = K (e.get 2) h := fin_tmp rfl
theorem fi96 (K : Value → Heap → Prop) (e : Env) (h : Heap) : finE tab Try.f96 K .ret e h = K (.tuple #[e.get 4, e.get 5]) h := fin_two rfl
theorem fi112 (K : Value → Heap → Prop) (e : Env) (h : Heap) : finE tab Try.f112 K .ret e h = K (e.get 2) h := fin_tmp rfl
theorem fi115 (K : Value → Heap → Prop) (e : Env) (h : Heap) : finE tab Try.f115 K .ret e h = K (e.get 2) h := fin_tmp rfl
theorem fi118 (K : Value → Heap → Prop) (e : Env) (h : Heap) : finE tab Try.f118 K .ret e h = K (.tuple #[e.get 2, e.get 3]) h := fin_two rfl
theorem fi119 (K : Value → Heap → Prop) (e : Env) (h : Heap) : finE tab Try.f119 K .ret e h = K (e.get 2) h := fin_tmp rfl
theorem fi120 (K : Value → Heap → Prop) (e : Env) (h : Heap) : finE tab Try.f120 K .ret e h = K (e.get 6) h := fin_tmp rfl
theorem fi121 (K : Value → Heap → Prop) (e : Env) (h : Heap) : finE tab Try.f121 K .ret e h = K (e.get 4) h := fin_tmp rfl
theorem fi122 (K : Value → Heap → Prop) (e : Env) (h : Heap) : finE tab Try.f122 K .ret e h = K (e.get 4) h := fin_tmp rfl
theorem fi123 (K : Value → Heap → Prop) (e : Env) (h : Heap) : finE tab Try.f123 K .ret e h = K (e.get 2) h := fin_tmp rfl
theorem fi124 (K : Value → Heap → Prop) (e : Env) (h : Heap) : finE tab Try.f124 K .ret e h = K (e.get 2) h := fin_tmp rfl
theorem fi125 (K : Value → Heap → Prop) (e : Env) (h : Heap) : finE tab Try.f125 K .ret e h = K (e.get 2) h := fin_tmp rfl
theorem fi126 (K : Value → Heap → Prop) (e : Env) (h : Heap) : finE tab Try.f126 K .ret e h = K (.tuple #[e.get 4, e.get 5]) h := fin_two rfl
theorem fi127 (K : Value → Heap → Prop) (e : Env) (h : Heap) : finE tab Try.f127 K .ret e h = K (e.get 2) h := fin_tmp rfl
theorem fi128 (K : Value → Heap → Prop) (e : Env) (h : Heap) : finE tab Try.f128 K .ret e h = K (e.get 2) h := fin_tmp rfl
theorem fi136 (K : Value → Heap → Prop) (e : Env) (h : Heap) : finE tab Try.f136 K .ret e h = K (e.get 2) h := fin_tmp rfl
theorem fi145 (K : Value → Heap → Prop) (e : Env) (h : Heap) : finE tab Try.f145 K .ret e h = K undef h := fin_no rfl
theorem fj145 (K : Value → Heap → Prop) (e : Env) (h : Heap) : finE tab Try.f145 K .normal e h = K undef h := fin_no2 rfl
theorem fi146 (K : Value → Heap → Prop) (e : Env) (h : Heap) : finE tab Try.f146 K .ret e h = K (.tuple #[e.get 6, e.get 7]) h := fin_two rfl
theorem fi158 (K : Value → Heap → Prop) (e : Env) (h : Heap) : finE tab Try.f158 K .ret e h = K (e.get 2) h := fin_tmp rfl
theorem fi159 (K : Value → Heap → Prop) (e : Env) (h : Heap) : finE tab Try.f159 K .ret e h = K undef h := fin_no rfl
theorem fj159 (K : Value → Heap → Prop) (e : Env) (h : Heap) : finE tab Try.f159 K .normal e h = K undef h := fin_no2 rfl
theorem fi160 (K : Value → Heap → Prop) (e : Env) (h : Heap) : finE tab Try.f160 K .ret e h = K undef h := fin_no rfl
theorem fj160 (K : Value → Heap → Prop) (e : Env) (h : Heap) : finE tab Try.f160 K .normal e h = K undef h := fin_no2 rfl
theorem fi161 (K : Value → Heap → Prop) (e : Env) (h : Heap) : finE tab Try.f161 K .ret e h = K (e.get 4) h := fin_tmp rfl
theorem fi162 (K : Value → Heap → Prop) (e : Env) (h : Heap) : finE tab Try.f162 K .ret e h = K (e.get 3) h := fin_tmp rfl
theorem fi163 (K : Value → Heap → Prop) (e : Env) (h : Heap) : finE tab Try.f163 K .ret e h = K (e.get 4) h := fin_tmp rfl
theorem fi165 (K : Value → Heap → Prop) (e : Env) (h : Heap) : finE tab Try.f165 K .ret e h = K (e.get 2) h := fin_tmp rfl
theorem fi178 (K : Value → Heap → Prop) (e : Env) (h : Heap) : finE tab Try.f178 K .ret e h = K undef h := fin_no rfl
theorem fj178 (K : Value → Heap → Prop) (e : Env) (h : Heap) : finE tab Try.f178 K .normal e h = K undef h := fin_no2 rfl
theorem fi179 (K : Value → Heap → Prop) (e : Env) (h : Heap) : finE tab Try.f179 K .ret e h = K undef h := fin_no rfl
theorem fj179 (K : Value → Heap → Prop) (e : Env) (h : Heap) : finE tab Try.f179 K .normal e h = K undef h := fin_no2 rfl
theorem fi197 (K : Value → Heap → Prop) (e : Env) (h : Heap) : finE tab Try.f197 K .ret e h = K (e.get 4) h := fin_tmp rfl
theorem fi211 (K : Value → Heap → Prop) (e : Env) (h : Heap) : finE tab Try.f211 K .ret e h = K undef h := fin_no rfl
theorem fj211 (K : Value → Heap → Prop) (e : Env) (h : Heap) : finE tab Try.f211 K .normal e h = K undef h := fin_no2 rfl
theorem fi223 (K : Value → Heap → Prop) (e : Env) (h : Heap) : finE tab Try.f223 K .ret e h = K undef h := fin_no rfl
theorem fj223 (K : Value → Heap → Prop) (e : Env) (h : Heap) : finE tab Try.f223 K .normal e h = K undef h := fin_no2 rfl
end Go.Proofs.Ytompindebndddaa

/- What the plain machine's operations come to at this seat's types. Written by a program (mksim.py). No condition. -/
import Derived.Test.YtompindebndddaaG2
import Derived.Test.YtompindebndddaaGSym
import Derived.Test.YtompindebndddaaG13
namespace Go.Proofs.Ytompindebndddaa
open Go.Am
theorem sz3 : sizeA tab 3 = some 1 := by kernel_rfl
theorem ag3 : aggA tab 3 = some false := by kernel_rfl
theorem ld3 (A o : Nat) (h : Heap) : loadA tab 3 (.pointer (some ⟨A, o, none⟩)) h = cellO (h.get A) o := load_one ag3
theorem sz4 : sizeA tab 4 = some 1 := by kernel_rfl
theorem ag4 : aggA tab 4 = some false := by kernel_rfl
theorem ld4 (A o : Nat) (h : Heap) : loadA tab 4 (.pointer (some ⟨A, o, none⟩)) h = cellO (h.get A) o := load_one ag4
theorem sz9 : sizeA tab 9 = some 1 := by kernel_rfl
theorem ag9 : aggA tab 9 = some false := by kernel_rfl
theorem ld9 (A o : Nat) (h : Heap) : loadA tab 9 (.pointer (some ⟨A, o, none⟩)) h = cellO (h.get A) o := load_one ag9
theorem ds9 : tab.desc 9 = some .string := by kernel_rfl
theorem ln9 (s : ByteArray) (h : Heap) : lenA tab 9 (.string s) h = some (.int .i64 s.size) := lenA_str ds9
theorem ds22 : tab.desc 22 = some (.slice 47) := by kernel_rfl
theorem ln22 (a : Option Addr) (n c : Nat) (h : Heap) : lenA tab 22 (.slice a n c) h = some (.int .i64 n) := lenA_slice ds22
theorem bs22 (n : Nat) (parts : List (Nat × Value)) (h : Heap) : buildSliceA tab 22 n parts h = if n * 12 > 16777216 || n > 16777216 then Option.none else (fillA (fun i => some (i * 12, 12)) (zerosA [.string ⟨#[]⟩, .string ⟨#[]⟩, .int .i64 0, .bool false, .string ⟨#[]⟩, .bool false, .string ⟨#[]⟩, .bool false, .string ⟨#[]⟩, .bool false, .string ⟨#[]⟩, .slice none 0 0] n) parts).map fun cs => (.slice (some ⟨h.size, 0, none⟩) n n, h.push (.row cs 47 false)) := bsl ds22 tab_info47 n parts h
theorem ix22 (A o n c : Nat) (ik : IntKind) (i : Int) : indexAddrA tab 22 (.slice (some ⟨A, o, none⟩) n c) (.int ik i) = if 0 ≤ i ∧ i < n then some (.pointer (some ⟨A, o + i.toNat * 12, none⟩)) else none := idx_slice ds22 (by kernel_rfl)
theorem ag23 : aggA tab 23 = some false := by kernel_rfl
theorem ld23 (A o : Nat) (h : Heap) : loadA tab 23 (.pointer (some ⟨A, o, none⟩)) h = cellO (h.get A) o := load_one ag23
theorem ds23 : tab.desc 23 = some (.slice 39) := by kernel_rfl
theorem ln23 (a : Option Addr) (n c : Nat) (h : Heap) : lenA tab 23 (.slice a n c) h = some (.int .i64 n) := lenA_slice ds23
theorem bs23 (n : Nat) (parts : List (Nat × Value)) (h : Heap) : buildSliceA tab 23 n parts h = if n * 11 > 16777216 || n > 16777216 then Option.none else (fillA (fun i => some (i * 11, 11)) (zerosA [.string ⟨#[]⟩, .string ⟨#[]⟩, .int .i64 0, .bool false, .string ⟨#[]⟩, .bool false, .string ⟨#[]⟩, .bool false, .string ⟨#[]⟩, .bool false, .string ⟨#[]⟩] n) parts).map fun cs => (.slice (some ⟨h.size, 0, none⟩) n n, h.push (.row cs 39 false)) := bsl ds23 tab_info39 n parts h
theorem ix23 (A o n c : Nat) (ik : IntKind) (i : Int) : indexAddrA tab 23 (.slice (some ⟨A, o, none⟩) n c) (.int ik i) = if 0 ≤ i ∧ i < n then some (.pointer (some ⟨A, o + i.toNat * 11, none⟩)) else none := idx_slice ds23 (by kernel_rfl)
theorem ds24 : tab.desc 24 = some (.slice 41) := by kernel_rfl
theorem ln24 (a : Option Addr) (n c : Nat) (h : Heap) : lenA tab 24 (.slice a n c) h = some (.int .i64 n) := lenA_slice ds24
theorem ix24 (A o n c : Nat) (ik : IntKind) (i : Int) : indexAddrA tab 24 (.slice (some ⟨A, o, none⟩) n c) (.int ik i) = if 0 ≤ i ∧ i < n then some (.pointer (some ⟨A, o + i.toNat * 13, none⟩)) else none := idx_slice ds24 (by kernel_rfl)
theorem ds32 : tab.desc 32 = some (.slice 3) := by kernel_rfl
theorem ln32 (a : Option Addr) (n c : Nat) (h : Heap) : lenA tab 32 (.slice a n c) h = some (.int .i64 n) := lenA_slice ds32
theorem ix32 (A o n c : Nat) (ik : IntKind) (i : Int) : indexAddrA tab 32 (.slice (some ⟨A, o, none⟩) n c) (.int ik i) = if 0 ≤ i ∧ i < n then some (.pointer (some ⟨A, o + i.toNat * 1, none⟩)) else none := idx_slice ds32 (by kernel_rfl)
theorem sz36 : sizeA tab 36 = some 2 := by kernel_rfl
theorem ag36 : aggA tab 36 = some true := by kernel_rfl
theorem ld36 (A o : Nat) (h : Heap) : loadA tab 36 (.pointer (some ⟨A, o, none⟩)) h = cutO (h.get A) o 2 := load_agg ag36 sz36
theorem al36 (P : Program) (ov : Ov) (d : Option Tmp) (ty : TypeId) (pos : String) (af : Array Edge) (g : Option (Nat × Bool)) (e : Env) (h : Heap) (K : Value → Heap → Prop) : WOp P tab ov ⟨d, .alloc 36, ty, pos, af, g⟩ e h K = K (.pointer (some ⟨h.size, 0, none⟩)) (h.push (.row [.bool false, .string ⟨#[]⟩] 36 false)) := w_alloc d ty pos af g e h K 36 tab_info36
theorem fa36_0 (A o : Nat) : fieldAddrA tab 36 (.pointer (some ⟨A, o, none⟩)) 0 = some (.pointer (some ⟨A, o + 0, none⟩)) := Eq.refl _
theorem fa36_1 (A o : Nat) : fieldAddrA tab 36 (.pointer (some ⟨A, o, none⟩)) 1 = some (.pointer (some ⟨A, o + 1, none⟩)) := Eq.refl _
theorem sz37 : sizeA tab 37 = some 8 := by kernel_rfl
theorem ag37 : aggA tab 37 = some true := by kernel_rfl
theorem ld37 (A o : Nat) (h : Heap) : loadA tab 37 (.pointer (some ⟨A, o, none⟩)) h = cutO (h.get A) o 8 := load_agg ag37 sz37
theorem ds37 : tab.desc 37 = some (.array 4 36) := by kernel_rfl
theorem ix37 (A o : Nat) (ik : IntKind) (i : Int) : indexAddrA tab 37 (.pointer (some ⟨A, o, none⟩)) (.int ik i) = if 0 ≤ i ∧ i < 4 then some (.pointer (some ⟨A, o + i.toNat * 2, none⟩)) else none := idx_arr ds37 (by kernel_rfl)
theorem sz39 : sizeA tab 39 = some 11 := by kernel_rfl
theorem ag39 : aggA tab 39 = some true := by kernel_rfl
theorem ld39 (A o : Nat) (h : Heap) : loadA tab 39 (.pointer (some ⟨A, o, none⟩)) h = cutO (h.get A) o 11 := load_agg ag39 sz39
theorem al39 (P : Program) (ov : Ov) (d : Option Tmp) (ty : TypeId) (pos : String) (af : Array Edge) (g : Option (Nat × Bool)) (e : Env) (h : Heap) (K : Value → Heap → Prop) : WOp P tab ov ⟨d, .alloc 39, ty, pos, af, g⟩ e h K = K (.pointer (some ⟨h.size, 0, none⟩)) (h.push (.row [.string ⟨#[]⟩, .string ⟨#[]⟩, .int .i64 0, .bool false, .string ⟨#[]⟩, .bool false, .string ⟨#[]⟩, .bool false, .string ⟨#[]⟩, .bool false, .string ⟨#[]⟩] 39 false)) := w_alloc d ty pos af g e h K 39 tab_info39
theorem fa39_0 (A o : Nat) : fieldAddrA tab 39 (.pointer (some ⟨A, o, none⟩)) 0 = some (.pointer (some ⟨A, o + 0, none⟩)) := Eq.refl _
theorem fa39_1 (A o : Nat) : fieldAddrA tab 39 (.pointer (some ⟨A, o, none⟩)) 1 = some (.pointer (some ⟨A, o + 1, none⟩)) := Eq.refl _
theorem fa39_2 (A o : Nat) : fieldAddrA tab 39 (.pointer (some ⟨A, o, none⟩)) 2 = some (.pointer (some ⟨A, o + 2, none⟩)) := Eq.refl _
theorem fa39_3 (A o : Nat) : fieldAddrA tab 39 (.pointer (some ⟨A, o, none⟩)) 3 = some (.pointer (some ⟨A, o + 3, none⟩)) := Eq.refl _
theorem sz41 : sizeA tab 41 = some 13 := by kernel_rfl
theorem ag41 : aggA tab 41 = some true := by kernel_rfl
theorem ld41 (A o : Nat) (h : Heap) : loadA tab 41 (.pointer (some ⟨A, o, none⟩)) h = cutO (h.get A) o 13 := load_agg ag41 sz41
theorem al41 (P : Program) (ov : Ov) (d : Option Tmp) (ty : TypeId) (pos : String) (af : Array Edge) (g : Option (Nat × Bool)) (e : Env) (h : Heap) (K : Value → Heap → Prop) : WOp P tab ov ⟨d, .alloc 41, ty, pos, af, g⟩ e h K = K (.pointer (some ⟨h.size, 0, none⟩)) (h.push (.row [.string ⟨#[]⟩, .string ⟨#[]⟩, .int .i64 0, .bool false, .string ⟨#[]⟩, .bool false, .string ⟨#[]⟩, .bool false, .string ⟨#[]⟩, .bool false, .string ⟨#[]⟩, .int .i64 0, .slice none 0 0] 41 false)) := w_alloc d ty pos af g e h K 41 tab_info41
theorem fa41_0 (A o : Nat) : fieldAddrA tab 41 (.pointer (some ⟨A, o, none⟩)) 0 = some (.pointer (some ⟨A, o + 0, none⟩)) := Eq.refl _
theorem fa41_1 (A o : Nat) : fieldAddrA tab 41 (.pointer (some ⟨A, o, none⟩)) 1 = some (.pointer (some ⟨A, o + 11, none⟩)) := Eq.refl _
theorem fa41_2 (A o : Nat) : fieldAddrA tab 41 (.pointer (some ⟨A, o, none⟩)) 2 = some (.pointer (some ⟨A, o + 12, none⟩)) := Eq.refl _
theorem sz47 : sizeA tab 47 = some 12 := by kernel_rfl
theorem ag47 : aggA tab 47 = some true := by kernel_rfl
theorem ld47 (A o : Nat) (h : Heap) : loadA tab 47 (.pointer (some ⟨A, o, none⟩)) h = cutO (h.get A) o 12 := load_agg ag47 sz47
theorem fa47_0 (A o : Nat) : fieldAddrA tab 47 (.pointer (some ⟨A, o, none⟩)) 0 = some (.pointer (some ⟨A, o + 0, none⟩)) := Eq.refl _
theorem fa47_1 (A o : Nat) : fieldAddrA tab 47 (.pointer (some ⟨A, o, none⟩)) 1 = some (.pointer (some ⟨A, o + 11, none⟩)) := Eq.refl _
theorem ds60 : tab.desc 60 = some (.slice 9) := by kernel_rfl
theorem ln60 (a : Option Addr) (n c : Nat) (h : Heap) : lenA tab 60 (.slice a n c) h = some (.int .i64 n) := lenA_slice ds60
theorem bs60 (n : Nat) (parts : List (Nat × Value)) (h : Heap) : buildSliceA tab 60 n parts h = if n * 1 > 16777216 || n > 16777216 then Option.none else (fillA (fun i => some (i * 1, 1)) (zerosA [.string ⟨#[]⟩] n) parts).map fun cs => (.slice (some ⟨h.size, 0, none⟩) n n, h.push (.row cs 9 false)) := bsl ds60 tab_info9 n parts h
theorem ix60 (A o n c : Nat) (ik : IntKind) (i : Int) : indexAddrA tab 60 (.slice (some ⟨A, o, none⟩) n c) (.int ik i) = if 0 ≤ i ∧ i < n then some (.pointer (some ⟨A, o + i.toNat * 1, none⟩)) else none := idx_slice ds60 (by kernel_rfl)
theorem ds81 : tab.desc 81 = some (.slice 23) := by kernel_rfl
theorem bs81 (n : Nat) (parts : List (Nat × Value)) (h : Heap) : buildSliceA tab 81 n parts h = if n * 1 > 16777216 || n > 16777216 then Option.none else (fillA (fun i => some (i * 1, 1)) (zerosA [.slice none 0 0] n) parts).map fun cs => (.slice (some ⟨h.size, 0, none⟩) n n, h.push (.row cs 23 false)) := bsl ds81 tab_info23 n parts h
theorem sz103 : sizeA tab 103 = some 1 := by kernel_rfl
theorem ag103 : aggA tab 103 = some false := by kernel_rfl
theorem ld103 (A o : Nat) (h : Heap) : loadA tab 103 (.pointer (some ⟨A, o, none⟩)) h = cellO (h.get A) o := load_one ag103
theorem al103 (P : Program) (ov : Ov) (d : Option Tmp) (ty : TypeId) (pos : String) (af : Array Edge) (g : Option (Nat × Bool)) (e : Env) (h : Heap) (K : Value → Heap → Prop) : WOp P tab ov ⟨d, .alloc 103, ty, pos, af, g⟩ e h K = K (.pointer (some ⟨h.size, 0, none⟩)) (h.push (.row [.map none] 103 false)) := w_alloc d ty pos af g e h K 103 tab_info103
theorem ds103 : tab.desc 103 = some (.map 39 104) := by kernel_rfl
theorem sz104 : sizeA tab 104 = some 0 := by kernel_rfl
theorem al104 (P : Program) (ov : Ov) (d : Option Tmp) (ty : TypeId) (pos : String) (af : Array Edge) (g : Option (Nat × Bool)) (e : Env) (h : Heap) (K : Value → Heap → Prop) : WOp P tab ov ⟨d, .alloc 104, ty, pos, af, g⟩ e h K = K (.pointer (some ⟨h.size, 0, none⟩)) (h.push (.row [] 104 false)) := w_alloc d ty pos af g e h K 104 tab_info104
theorem ds159 : tab.desc 159 = some (.slice 36) := by kernel_rfl
theorem ln159 (a : Option Addr) (n c : Nat) (h : Heap) : lenA tab 159 (.slice a n c) h = some (.int .i64 n) := lenA_slice ds159
theorem ix159 (A o n c : Nat) (ik : IntKind) (i : Int) : indexAddrA tab 159 (.slice (some ⟨A, o, none⟩) n c) (.int ik i) = if 0 ≤ i ∧ i < n then some (.pointer (some ⟨A, o + i.toNat * 2, none⟩)) else none := idx_slice ds159 (by kernel_rfl)
theorem ag162 : aggA tab 162 = some false := by kernel_rfl
theorem ld162 (A o : Nat) (h : Heap) : loadA tab 162 (.pointer (some ⟨A, o, none⟩)) h = cellO (h.get A) o := load_one ag162
theorem ds162 : tab.desc 162 = some (.slice 192) := by kernel_rfl
theorem ln162 (a : Option Addr) (n c : Nat) (h : Heap) : lenA tab 162 (.slice a n c) h = some (.int .i64 n) := lenA_slice ds162
theorem bs162 (n : Nat) (parts : List (Nat × Value)) (h : Heap) : buildSliceA tab 162 n parts h = if n * 3 > 16777216 || n > 16777216 then Option.none else (fillA (fun i => some (i * 3, 3)) (zerosA [.string ⟨#[]⟩, .bool false, .string ⟨#[]⟩] n) parts).map fun cs => (.slice (some ⟨h.size, 0, none⟩) n n, h.push (.row cs 192 false)) := bsl ds162 tab_info192 n parts h
theorem ix162 (A o n c : Nat) (ik : IntKind) (i : Int) : indexAddrA tab 162 (.slice (some ⟨A, o, none⟩) n c) (.int ik i) = if 0 ≤ i ∧ i < n then some (.pointer (some ⟨A, o + i.toNat * 3, none⟩)) else none := idx_slice ds162 (by kernel_rfl)
theorem sz192 : sizeA tab 192 = some 3 := by kernel_rfl
theorem ag192 : aggA tab 192 = some true := by kernel_rfl
theorem ld192 (A o : Nat) (h : Heap) : loadA tab 192 (.pointer (some ⟨A, o, none⟩)) h = cutO (h.get A) o 3 := load_agg ag192 sz192
theorem al192 (P : Program) (ov : Ov) (d : Option Tmp) (ty : TypeId) (pos : String) (af : Array Edge) (g : Option (Nat × Bool)) (e : Env) (h : Heap) (K : Value → Heap → Prop) : WOp P tab ov ⟨d, .alloc 192, ty, pos, af, g⟩ e h K = K (.pointer (some ⟨h.size, 0, none⟩)) (h.push (.row [.string ⟨#[]⟩, .bool false, .string ⟨#[]⟩] 192 false)) := w_alloc d ty pos af g e h K 192 tab_info192
theorem fa192_0 (A o : Nat) : fieldAddrA tab 192 (.pointer (some ⟨A, o, none⟩)) 0 = some (.pointer (some ⟨A, o + 0, none⟩)) := Eq.refl _
theorem fa192_1 (A o : Nat) : fieldAddrA tab 192 (.pointer (some ⟨A, o, none⟩)) 1 = some (.pointer (some ⟨A, o + 1, none⟩)) := Eq.refl _
theorem fi3 (K : Value → Heap → Prop) (e : Env) (h : Heap) : finE tab Try.f3 K .ret e h = K (e.get 6) h := fin_tmp rfl
theorem fi4 (K : Value → Heap → Prop) (e : Env) (h : Heap) : finE tab Try.f4 K .ret e h = K (e.get 12) h := fin_tmp rfl
theorem fi9 (K : Value → Heap → Prop) (e : Env) (h : Heap) : finE tab Try.f9 K .ret e h = K (e.get 8) h := fin_tmp rfl
theorem fi14 (K : Value → Heap → Prop) (e : Env) (h : Heap) : finE tab Try.f14 K .ret e h = K (e.get 4) h := fin_tmp rfl
theorem fi15 (K : Value → Heap → Prop) (e : Env) (h : Heap) : finE tab Try.f15 K .ret e h = K (e.get 2) h := fin_tmp rfl
theorem fi16 (K : Value → Heap → Prop) (e : Env) (h : Heap) : finE tab Try.f16 K .ret e h = K (e.get 4) h := fin_tmp rfl
theorem fi17 (K : Value → Heap → Prop) (e : Env) (h : Heap) : finE tab Try.f17 K .ret e h = K (e.get 6) h := fin_tmp rfl
theorem fi18 (K : Value → Heap → Prop) (e : Env) (h : Heap) : finE tab Try.f18 K .ret e h = K (.tuple #[e.get 6, e.get 7, e.get 8]) h := fin_three rfl
theorem fi19 (K : Value → Heap → Prop) (e : Env) (h : Heap) : finE tab Try.f19 K .ret e h = K (e.get 2) h := fin_tmp rfl
theorem fi20 (K : Value → Heap → Prop) (e : Env) (h : Heap) : finE tab Try.f20 K .ret e h = K (e.get 4) h := fin_tmp rfl
theorem fi21 (K : Value → Heap → Prop) (e : Env) (h : Heap) : finE tab Try.f21 K .ret e h = K (e.get 6) h := fin_tmp rfl
theorem fi22 (K : Value → Heap → Prop) (e : Env) (h : Heap) : finE tab Try.f22 K .ret e h = K (.tuple #[e.get 4, e.get 5]) h := fin_two rfl
theorem fi23 (K : Value → Heap → Prop) (e : Env) (h : Heap) : finE tab Try.f23 K .ret e h = K (e.get 4) h := fin_tmp rfl
theorem fi29 (K : Value → Heap → Prop) (e : Env) (h : Heap) : finE tab Try.f29 K .ret e h = K (e.get 2) h := fin_tmp rfl
theorem fi42 (K : Value → Heap → Prop) (e : Env) (h : Heap) : finE tab Try.f42 K .ret e h = K (e.get 2) h := fin_tmp rfl
theorem fi46 (K : Value → Heap → Prop) (e : Env) (h : Heap) : finE tab Try.f46 K .ret e h = K (e.get 2) h := fin_tmp rfl
theorem fi50 (K : Value → Heap → Prop) (e : Env) (h : Heap) : finE tab Try.f50 K .ret e h = K (e.get 2) h := fin_tmp rfl
theorem fi51 (K : Value → Heap → Prop) (e : Env) (h : Heap) : finE tab Try.f51 K .ret e h = K (e.get 4) h := fin_tmp rfl
theorem fi75 (K : Value → Heap → Prop) (e : Env) (h : Heap) : finE tab Try.f75 K .ret e h = K (e.get 2) h := fin_tmp rfl
theorem fi76 (K : Value → Heap → Prop) (e : Env) (h : Heap) : finE tab Try.f76 K .ret e h = K (e.get 2) h := fin_tmp rfl
theorem fi77 (K : Value → Heap → Prop) (e : Env) (h : Heap) : finE tab Try.f77 K .ret e h = K (e.get 3) h := fin_tmp rfl
theorem fi78 (K : Value → Heap → Prop) (e : Env) (h : Heap) : finE tab Try.f78 K .ret e h = K (e.get 4) h := fin_tmp rfl
theorem fi79 (K : Value → Heap → Prop) (e : Env) (h : Heap) : finE tab Try.f79 K .ret e h = K (e.get 6) h := fin_tmp rfl
theorem fi80 (K : Value → Heap → Prop) (e : Env) (h : Heap) : finE tab Try.f80 K .ret e h = K (e.get 2) h := fin_tmp rfl
theorem fi81 (K : Value → Heap → Prop) (e : Env) (h : Heap) : finE tab Try.f81 K .ret e h = K (e.get 4) h := fin_tmp rfl
theorem fi82 (K : Value → Heap → Prop) (e : Env) (h : Heap) : finE tab Try.f82 K .ret e h = K (e.get 6) h := fin_tmp rfl
theorem fi83 (K : Value → Heap → Prop) (e : Env) (h : Heap) : finE tab Try.f83 K .ret e h = K (e.get 4) h := fin_tmp rfl
theorem fi84 (K : Value → Heap → Prop) (e : Env) (h : Heap) : finE tab Try.f84 K .ret e h = K (e.get 3) h := fin_tmp rfl
theorem fi86 (K : Value → Heap → Prop) (e : Env) (h : Heap) : finE tab Try.f86 K .ret e h = K (e.get 2) h := fin_tmp rfl
theorem fi87 (K : Value → Heap → Prop) (e : Env) (h : Heap) : finE tab Try.f87 K .ret e h = K (e.get 2) h := fin_tmp rfl
theorem fi88 (K : Value → Heap → Prop) (e : Env) (h : Heap) : finE tab Try.f88 K .ret e h = K (e.get 2) h := fin_tmp rfl
theorem fi115 (K : Value → Heap → Prop) (e : Env) (h : Heap) : finE tab Try.f115 K .ret e h = K (e.get 2) h := fin_tmp rfl
theorem fi130 (K : Value → Heap → Prop) (e : Env) (h : Heap) : finE tab Try.f130 K .ret e h = K (e.get 2) h := fin_tmp rfl
theorem fi131 (K : Value → Heap → Prop) (e : Env) (h : Heap) : finE tab Try.f131 K .ret e h = K (e.get 2) h := fin_tmp rfl
theorem fi132 (K : Value → Heap → Prop) (e : Env) (h : Heap) : finE tab Try.f132 K .ret e h = K (e.get 4) h := fin_tmp rfl
theorem fi133 (K : Value → Heap → Prop) (e : Env) (h : Heap) : finE tab Try.f133 K .ret e h = K (e.get 2) h := fin_tmp rfl
theorem fi134 (K : Value → Heap → Prop) (e : Env) (h : Heap) : finE tab Try.f134 K .ret e h = K (e.get 10) h := fin_tmp rfl
theorem fi135 (K : Value → Heap → Prop) (e : Env) (h : Heap) : finE tab Try.f135 K .ret e h = K (e.get 4) h := fin_tmp rfl
theorem fi136 (K : Value → Heap → Prop) (e : Env) (h : Heap) : finE tab Try.f136 K .ret e h = K (e.get 2) h := fin_tmp rfl
theorem fi137 (K : Value → Heap → Prop) (e : Env) (h : Heap) : finE tab Try.f137 K .ret e h = K (e.get 2) h := fin_tmp rfl
theorem fi138 (K : Value → Heap → Prop) (e : Env) (h : Heap) : finE tab Try.f138 K .ret e h = K (e.get 4) h := fin_tmp rfl
theorem fi139 (K : Value → Heap → Prop) (e : Env) (h : Heap) : finE tab Try.f139 K .ret e h = K (.tuple #[e.get 4, e.get 5]) h := fin_two rfl
theorem fi140 (K : Value → Heap → Prop) (e : Env) (h : Heap) : finE tab Try.f140 K .ret e h = K (.tuple #[e.get 6, e.get 7]) h := fin_two rfl
theorem fi142 (K : Value → Heap → Prop) (e : Env) (h : Heap) : finE tab Try.f142 K .ret e h = K (e.get 2) h := fin_tmp rfl
theorem fi143 (K : Value → Heap → Prop) (e : Env) (h : Heap) : finE tab Try.f143 K .ret e h = K (e.get 2) h := fin_tmp rfl
theorem fi144 (K : Value → Heap → Prop) (e : Env) (h : Heap) : finE tab Try.f144 K .ret e h = K (e.get 2) h := fin_tmp rfl
theorem fi150 (K : Value → Heap → Prop) (e : Env) (h : Heap) : finE tab Try.f150 K .ret e h = K (e.get 2) h := fin_tmp rfl
theorem fi158 (K : Value → Heap → Prop) (e : Env) (h : Heap) : finE tab Try.f158 K .ret e h = K (e.get 2) h := fin_tmp rfl
theorem fi165 (K : Value → Heap → Prop) (e : Env) (h : Heap) : finE tab Try.f165 K .ret e h = K (e.get 2) h := fin_tmp rfl
theorem fi166 (K : Value → Heap → Prop) (e : Env) (h : Heap) : finE tab Try.f166 K .ret e h = valE (loadA tab 39 (e.get 4) h) h K := fin_cell rfl
theorem fi167 (K : Value → Heap → Prop) (e : Env) (h : Heap) : finE tab Try.f167 K .ret e h = K (.tuple #[e.get 6, e.get 7]) h := fin_two rfl
theorem fi168 (K : Value → Heap → Prop) (e : Env) (h : Heap) : finE tab Try.f168 K .ret e h = K (e.get 4) h := fin_tmp rfl
theorem fi169 (K : Value → Heap → Prop) (e : Env) (h : Heap) : finE tab Try.f169 K .ret e h = K (e.get 2) h := fin_tmp rfl
theorem fi170 (K : Value → Heap → Prop) (e : Env) (h : Heap) : finE tab Try.f170 K .ret e h = K (e.get 4) h := fin_tmp rfl
theorem fi171 (K : Value → Heap → Prop) (e : Env) (h : Heap) : finE tab Try.f171 K .ret e h = valE (loadA tab 36 (e.get 4) h) h (fun x h' => K (.tuple #[x, e.get 5]) h') := fin_celltmp rfl
theorem fi172 (K : Value → Heap → Prop) (e : Env) (h : Heap) : finE tab Try.f172 K .ret e h = K (e.get 2) h := fin_tmp rfl
theorem fi173 (K : Value → Heap → Prop) (e : Env) (h : Heap) : finE tab Try.f173 K .ret e h = K (.tuple #[e.get 6, e.get 7]) h := fin_two rfl
theorem fi174 (K : Value → Heap → Prop) (e : Env) (h : Heap) : finE tab Try.f174 K .ret e h = K (e.get 2) h := fin_tmp rfl
theorem fi175 (K : Value → Heap → Prop) (e : Env) (h : Heap) : finE tab Try.f175 K .ret e h = K (e.get 2) h := fin_tmp rfl
theorem fi176 (K : Value → Heap → Prop) (e : Env) (h : Heap) : finE tab Try.f176 K .ret e h = K (e.get 2) h := fin_tmp rfl
theorem fi177 (K : Value → Heap → Prop) (e : Env) (h : Heap) : finE tab Try.f177 K .ret e h = K (e.get 2) h := fin_tmp rfl
theorem fi180 (K : Value → Heap → Prop) (e : Env) (h : Heap) : finE tab Try.f180 K .ret e h = K (e.get 4) h := fin_tmp rfl
theorem fi198 (K : Value → Heap → Prop) (e : Env) (h : Heap) : finE tab Try.f198 K .ret e h = valE (loadA tab 36 (e.get 4) h) h K := fin_cell rfl
theorem fi199 (K : Value → Heap → Prop) (e : Env) (h : Heap) : finE tab Try.f199 K .ret e h = K (e.get 2) h := fin_tmp rfl
theorem fi200 (K : Value → Heap → Prop) (e : Env) (h : Heap) : finE tab Try.f200 K .ret e h = K (e.get 4) h := fin_tmp rfl
theorem fi201 (K : Value → Heap → Prop) (e : Env) (h : Heap) : finE tab Try.f201 K .ret e h = valE (loadA tab 36 (e.get 4) h) h (fun x h' => K (.tuple #[x, e.get 5]) h') := fin_celltmp rfl
theorem fi202 (K : Value → Heap → Prop) (e : Env) (h : Heap) : finE tab Try.f202 K .ret e h = K (.tuple #[e.get 6, e.get 7]) h := fin_two rfl
theorem fi203 (K : Value → Heap → Prop) (e : Env) (h : Heap) : finE tab Try.f203 K .ret e h = K (e.get 2) h := fin_tmp rfl
theorem fi204 (K : Value → Heap → Prop) (e : Env) (h : Heap) : finE tab Try.f204 K .ret e h = K (e.get 4) h := fin_tmp rfl
theorem fi205 (K : Value → Heap → Prop) (e : Env) (h : Heap) : finE tab Try.f205 K .ret e h = K (e.get 4) h := fin_tmp rfl
theorem fi206 (K : Value → Heap → Prop) (e : Env) (h : Heap) : finE tab Try.f206 K .ret e h = valE (loadA tab 36 (e.get 4) h) h K := fin_cell rfl
theorem fi207 (K : Value → Heap → Prop) (e : Env) (h : Heap) : finE tab Try.f207 K .ret e h = K (e.get 2) h := fin_tmp rfl
theorem fi208 (K : Value → Heap → Prop) (e : Env) (h : Heap) : finE tab Try.f208 K .ret e h = K (e.get 4) h := fin_tmp rfl
theorem fi209 (K : Value → Heap → Prop) (e : Env) (h : Heap) : finE tab Try.f209 K .ret e h = K (e.get 4) h := fin_tmp rfl
theorem fi210 (K : Value → Heap → Prop) (e : Env) (h : Heap) : finE tab Try.f210 K .ret e h = K (e.get 0) h := fin_tmp rfl
theorem fi221 (K : Value → Heap → Prop) (e : Env) (h : Heap) : finE tab Try.f221 K .ret e h = K (e.get 4) h := fin_tmp rfl
theorem fi222 (K : Value → Heap → Prop) (e : Env) (h : Heap) : finE tab Try.f222 K .ret e h = K (e.get 4) h := fin_tmp rfl
end Go.Proofs.Ytompindebndddaa

/- What the plain machine's operations come to at this seat's types. Written by a program (mksim.py). No condition. -/
import Derived.Test.YtompindebndddaaG2
import Derived.Test.YtompindebndddaaGSym
import Derived.Test.YtompindebndddaaGFin
namespace Go.Proofs.Ytompindebndddaa
open Go.Am
theorem sz3 : sizeA tab 3 = some 1 := by kernel_rfl
theorem ag3 : aggA tab 3 = some false := by kernel_rfl
theorem ld3 (A o : Nat) (h : Heap) : loadA tab 3 (.pointer (some ⟨A, o, none⟩)) h = cellO (h.get A) o := load_one ag3
theorem sz4 : sizeA tab 4 = some 1 := by kernel_rfl
theorem ag4 : aggA tab 4 = some false := by kernel_rfl
theorem ld4 (A o : Nat) (h : Heap) : loadA tab 4 (.pointer (some ⟨A, o, none⟩)) h = cellO (h.get A) o := load_one ag4
theorem sz9 : sizeA tab 9 = some 1 := by kernel_rfl
theorem ag9 : aggA tab 9 = some false := by kernel_rfl
theorem ld9 (A o : Nat) (h : Heap) : loadA tab 9 (.pointer (some ⟨A, o, none⟩)) h = cellO (h.get A) o := load_one ag9
theorem ds9 : tab.desc 9 = some .string := by kernel_rfl
theorem ln9 (s : ByteArray) (h : Heap) : lenA tab 9 (.string s) h = some (.int .i64 s.size) := lenA_str ds9
theorem ds22 : tab.desc 22 = some (.slice 47) := by kernel_rfl
theorem ln22 (a : Option Addr) (n c : Nat) (h : Heap) : lenA tab 22 (.slice a n c) h = some (.int .i64 n) := lenA_slice ds22
theorem ix22 (A o n c : Nat) (ik : IntKind) (i : Int) : indexAddrA tab 22 (.slice (some ⟨A, o, none⟩) n c) (.int ik i) = if 0 ≤ i ∧ i < n then some (.pointer (some ⟨A, o + i.toNat * 12, none⟩)) else none := idx_slice ds22 (by kernel_rfl)
theorem ag23 : aggA tab 23 = some false := by kernel_rfl
theorem ld23 (A o : Nat) (h : Heap) : loadA tab 23 (.pointer (some ⟨A, o, none⟩)) h = cellO (h.get A) o := load_one ag23
theorem ds23 : tab.desc 23 = some (.slice 39) := by kernel_rfl
theorem ln23 (a : Option Addr) (n c : Nat) (h : Heap) : lenA tab 23 (.slice a n c) h = some (.int .i64 n) := lenA_slice ds23
theorem bs23 (n : Nat) (parts : List (Nat × Value)) (h : Heap) : buildSliceA tab 23 n parts h = if n * 11 > 16777216 || n > 16777216 then Option.none else (fillA (fun i => some (i * 11, 11)) (zerosA [.string ⟨#[]⟩, .string ⟨#[]⟩, .int .i64 0, .bool false, .string ⟨#[]⟩, .bool false, .string ⟨#[]⟩, .bool false, .string ⟨#[]⟩, .bool false, .string ⟨#[]⟩] n) parts).map fun cs => (.slice (some ⟨h.size, 0, none⟩) n n, h.push (.row cs 39 false)) := bsl ds23 tab_info39 n parts h
theorem ix23 (A o n c : Nat) (ik : IntKind) (i : Int) : indexAddrA tab 23 (.slice (some ⟨A, o, none⟩) n c) (.int ik i) = if 0 ≤ i ∧ i < n then some (.pointer (some ⟨A, o + i.toNat * 11, none⟩)) else none := idx_slice ds23 (by kernel_rfl)
theorem ds24 : tab.desc 24 = some (.slice 41) := by kernel_rfl
theorem ln24 (a : Option Addr) (n c : Nat) (h : Heap) : lenA tab 24 (.slice a n c) h = some (.int .i64 n) := lenA_slice ds24
theorem ix24 (A o n c : Nat) (ik : IntKind) (i : Int) : indexAddrA tab 24 (.slice (some ⟨A, o, none⟩) n c) (.int ik i) = if 0 ≤ i ∧ i < n then some (.pointer (some ⟨A, o + i.toNat * 13, none⟩)) else none := idx_slice ds24 (by kernel_rfl)
theorem sz36 : sizeA tab 36 = some 2 := by kernel_rfl
theorem ag36 : aggA tab 36 = some true := by kernel_rfl
theorem ld36 (A o : Nat) (h : Heap) : loadA tab 36 (.pointer (some ⟨A, o, none⟩)) h = cutO (h.get A) o 2 := load_agg ag36 sz36
theorem fa36_0 (A o : Nat) : fieldAddrA tab 36 (.pointer (some ⟨A, o, none⟩)) 0 = some (.pointer (some ⟨A, o + 0, none⟩)) := Eq.refl _
theorem fa36_1 (A o : Nat) : fieldAddrA tab 36 (.pointer (some ⟨A, o, none⟩)) 1 = some (.pointer (some ⟨A, o + 1, none⟩)) := Eq.refl _
theorem ds37 : tab.desc 37 = some (.array 4 36) := by kernel_rfl
theorem ix37 (A o : Nat) (ik : IntKind) (i : Int) : indexAddrA tab 37 (.pointer (some ⟨A, o, none⟩)) (.int ik i) = if 0 ≤ i ∧ i < 4 then some (.pointer (some ⟨A, o + i.toNat * 2, none⟩)) else none := idx_arr ds37 (by kernel_rfl)
theorem sz39 : sizeA tab 39 = some 11 := by kernel_rfl
theorem ag39 : aggA tab 39 = some true := by kernel_rfl
theorem ld39 (A o : Nat) (h : Heap) : loadA tab 39 (.pointer (some ⟨A, o, none⟩)) h = cutO (h.get A) o 11 := load_agg ag39 sz39
theorem fa39_0 (A o : Nat) : fieldAddrA tab 39 (.pointer (some ⟨A, o, none⟩)) 0 = some (.pointer (some ⟨A, o + 0, none⟩)) := Eq.refl _
theorem fa39_1 (A o : Nat) : fieldAddrA tab 39 (.pointer (some ⟨A, o, none⟩)) 1 = some (.pointer (some ⟨A, o + 1, none⟩)) := Eq.refl _
theorem fa39_2 (A o : Nat) : fieldAddrA tab 39 (.pointer (some ⟨A, o, none⟩)) 2 = some (.pointer (some ⟨A, o + 2, none⟩)) := Eq.refl _
theorem fa39_3 (A o : Nat) : fieldAddrA tab 39 (.pointer (some ⟨A, o, none⟩)) 3 = some (.pointer (some ⟨A, o + 3, none⟩)) := Eq.refl _
theorem sz41 : sizeA tab 41 = some 13 := by kernel_rfl
theorem fa41_0 (A o : Nat) : fieldAddrA tab 41 (.pointer (some ⟨A, o, none⟩)) 0 = some (.pointer (some ⟨A, o + 0, none⟩)) := Eq.refl _
theorem fa41_2 (A o : Nat) : fieldAddrA tab 41 (.pointer (some ⟨A, o, none⟩)) 2 = some (.pointer (some ⟨A, o + 12, none⟩)) := Eq.refl _
theorem sz47 : sizeA tab 47 = some 12 := by kernel_rfl
theorem fa47_0 (A o : Nat) : fieldAddrA tab 47 (.pointer (some ⟨A, o, none⟩)) 0 = some (.pointer (some ⟨A, o + 0, none⟩)) := Eq.refl _
theorem fa47_1 (A o : Nat) : fieldAddrA tab 47 (.pointer (some ⟨A, o, none⟩)) 1 = some (.pointer (some ⟨A, o + 11, none⟩)) := Eq.refl _
theorem ag60 : aggA tab 60 = some false := by kernel_rfl
theorem ld60 (A o : Nat) (h : Heap) : loadA tab 60 (.pointer (some ⟨A, o, none⟩)) h = cellO (h.get A) o := load_one ag60
theorem ds60 : tab.desc 60 = some (.slice 9) := by kernel_rfl
theorem ln60 (a : Option Addr) (n c : Nat) (h : Heap) : lenA tab 60 (.slice a n c) h = some (.int .i64 n) := lenA_slice ds60
theorem bs60 (n : Nat) (parts : List (Nat × Value)) (h : Heap) : buildSliceA tab 60 n parts h = if n * 1 > 16777216 || n > 16777216 then Option.none else (fillA (fun i => some (i * 1, 1)) (zerosA [.string ⟨#[]⟩] n) parts).map fun cs => (.slice (some ⟨h.size, 0, none⟩) n n, h.push (.row cs 9 false)) := bsl ds60 tab_info9 n parts h
theorem ix60 (A o n c : Nat) (ik : IntKind) (i : Int) : indexAddrA tab 60 (.slice (some ⟨A, o, none⟩) n c) (.int ik i) = if 0 ≤ i ∧ i < n then some (.pointer (some ⟨A, o + i.toNat * 1, none⟩)) else none := idx_slice ds60 (by kernel_rfl)
theorem ag61 : aggA tab 61 = some false := by kernel_rfl
theorem ld61 (A o : Nat) (h : Heap) : loadA tab 61 (.pointer (some ⟨A, o, none⟩)) h = cellO (h.get A) o := load_one ag61
theorem ds61 : tab.desc 61 = some (.slice 123) := by kernel_rfl
theorem ln61 (a : Option Addr) (n c : Nat) (h : Heap) : lenA tab 61 (.slice a n c) h = some (.int .i64 n) := lenA_slice ds61
theorem ix61 (A o n c : Nat) (ik : IntKind) (i : Int) : indexAddrA tab 61 (.slice (some ⟨A, o, none⟩) n c) (.int ik i) = if 0 ≤ i ∧ i < n then some (.pointer (some ⟨A, o + i.toNat * 2, none⟩)) else none := idx_slice ds61 (by kernel_rfl)
theorem ag62 : aggA tab 62 = some false := by kernel_rfl
theorem ld62 (A o : Nat) (h : Heap) : loadA tab 62 (.pointer (some ⟨A, o, none⟩)) h = cellO (h.get A) o := load_one ag62
theorem ds62 : tab.desc 62 = some (.slice 73) := by kernel_rfl
theorem ln62 (a : Option Addr) (n c : Nat) (h : Heap) : lenA tab 62 (.slice a n c) h = some (.int .i64 n) := lenA_slice ds62
theorem ix62 (A o n c : Nat) (ik : IntKind) (i : Int) : indexAddrA tab 62 (.slice (some ⟨A, o, none⟩) n c) (.int ik i) = if 0 ≤ i ∧ i < n then some (.pointer (some ⟨A, o + i.toNat * 2, none⟩)) else none := idx_slice ds62 (by kernel_rfl)
theorem ag63 : aggA tab 63 = some false := by kernel_rfl
theorem ld63 (A o : Nat) (h : Heap) : loadA tab 63 (.pointer (some ⟨A, o, none⟩)) h = cellO (h.get A) o := load_one ag63
theorem ds63 : tab.desc 63 = some (.slice 124) := by kernel_rfl
theorem ln63 (a : Option Addr) (n c : Nat) (h : Heap) : lenA tab 63 (.slice a n c) h = some (.int .i64 n) := lenA_slice ds63
theorem ix63 (A o n c : Nat) (ik : IntKind) (i : Int) : indexAddrA tab 63 (.slice (some ⟨A, o, none⟩) n c) (.int ik i) = if 0 ≤ i ∧ i < n then some (.pointer (some ⟨A, o + i.toNat * 12, none⟩)) else none := idx_slice ds63 (by kernel_rfl)
theorem ag64 : aggA tab 64 = some false := by kernel_rfl
theorem ld64 (A o : Nat) (h : Heap) : loadA tab 64 (.pointer (some ⟨A, o, none⟩)) h = cellO (h.get A) o := load_one ag64
theorem ds64 : tab.desc 64 = some (.slice 126) := by kernel_rfl
theorem ln64 (a : Option Addr) (n c : Nat) (h : Heap) : lenA tab 64 (.slice a n c) h = some (.int .i64 n) := lenA_slice ds64
theorem ix64 (A o n c : Nat) (ik : IntKind) (i : Int) : indexAddrA tab 64 (.slice (some ⟨A, o, none⟩) n c) (.int ik i) = if 0 ≤ i ∧ i < n then some (.pointer (some ⟨A, o + i.toNat * 13, none⟩)) else none := idx_slice ds64 (by kernel_rfl)
theorem sz66 : sizeA tab 66 = some 7 := by kernel_rfl
theorem ag66 : aggA tab 66 = some true := by kernel_rfl
theorem ld66 (A o : Nat) (h : Heap) : loadA tab 66 (.pointer (some ⟨A, o, none⟩)) h = cutO (h.get A) o 7 := load_agg ag66 sz66
theorem fa66_0 (A o : Nat) : fieldAddrA tab 66 (.pointer (some ⟨A, o, none⟩)) 0 = some (.pointer (some ⟨A, o + 0, none⟩)) := Eq.refl _
theorem fa66_1 (A o : Nat) : fieldAddrA tab 66 (.pointer (some ⟨A, o, none⟩)) 1 = some (.pointer (some ⟨A, o + 1, none⟩)) := Eq.refl _
theorem fa66_2 (A o : Nat) : fieldAddrA tab 66 (.pointer (some ⟨A, o, none⟩)) 2 = some (.pointer (some ⟨A, o + 2, none⟩)) := Eq.refl _
theorem fa66_3 (A o : Nat) : fieldAddrA tab 66 (.pointer (some ⟨A, o, none⟩)) 3 = some (.pointer (some ⟨A, o + 3, none⟩)) := Eq.refl _
theorem fa66_4 (A o : Nat) : fieldAddrA tab 66 (.pointer (some ⟨A, o, none⟩)) 4 = some (.pointer (some ⟨A, o + 4, none⟩)) := Eq.refl _
theorem fa66_5 (A o : Nat) : fieldAddrA tab 66 (.pointer (some ⟨A, o, none⟩)) 5 = some (.pointer (some ⟨A, o + 5, none⟩)) := Eq.refl _
theorem fa66_6 (A o : Nat) : fieldAddrA tab 66 (.pointer (some ⟨A, o, none⟩)) 6 = some (.pointer (some ⟨A, o + 6, none⟩)) := Eq.refl _
theorem sz73 : sizeA tab 73 = some 2 := by kernel_rfl
theorem ag73 : aggA tab 73 = some true := by kernel_rfl
theorem ld73 (A o : Nat) (h : Heap) : loadA tab 73 (.pointer (some ⟨A, o, none⟩)) h = cutO (h.get A) o 2 := load_agg ag73 sz73
theorem fa73_0 (A o : Nat) : fieldAddrA tab 73 (.pointer (some ⟨A, o, none⟩)) 0 = some (.pointer (some ⟨A, o + 0, none⟩)) := Eq.refl _
theorem fa73_1 (A o : Nat) : fieldAddrA tab 73 (.pointer (some ⟨A, o, none⟩)) 1 = some (.pointer (some ⟨A, o + 1, none⟩)) := Eq.refl _
theorem ds81 : tab.desc 81 = some (.slice 23) := by kernel_rfl
theorem bs81 (n : Nat) (parts : List (Nat × Value)) (h : Heap) : buildSliceA tab 81 n parts h = if n * 1 > 16777216 || n > 16777216 then Option.none else (fillA (fun i => some (i * 1, 1)) (zerosA [.slice none 0 0] n) parts).map fun cs => (.slice (some ⟨h.size, 0, none⟩) n n, h.push (.row cs 23 false)) := bsl ds81 tab_info23 n parts h
theorem sz123 : sizeA tab 123 = some 2 := by kernel_rfl
theorem ag123 : aggA tab 123 = some true := by kernel_rfl
theorem ld123 (A o : Nat) (h : Heap) : loadA tab 123 (.pointer (some ⟨A, o, none⟩)) h = cutO (h.get A) o 2 := load_agg ag123 sz123
theorem al123 (P : Program) (ov : Ov) (d : Option Tmp) (ty : TypeId) (pos : String) (af : Array Edge) (g : Option (Nat × Bool)) (e : Env) (h : Heap) (K : Value → Heap → Prop) : WOp P tab ov ⟨d, .alloc 123, ty, pos, af, g⟩ e h K = K (.pointer (some ⟨h.size, 0, none⟩)) (h.push (.row [.string ⟨#[]⟩, .int .i64 0] 123 false)) := w_alloc d ty pos af g e h K 123 tab_info123
theorem fa123_0 (A o : Nat) : fieldAddrA tab 123 (.pointer (some ⟨A, o, none⟩)) 0 = some (.pointer (some ⟨A, o + 0, none⟩)) := Eq.refl _
theorem fa123_1 (A o : Nat) : fieldAddrA tab 123 (.pointer (some ⟨A, o, none⟩)) 1 = some (.pointer (some ⟨A, o + 1, none⟩)) := Eq.refl _
theorem sz124 : sizeA tab 124 = some 12 := by kernel_rfl
theorem fa124_0 (A o : Nat) : fieldAddrA tab 124 (.pointer (some ⟨A, o, none⟩)) 0 = some (.pointer (some ⟨A, o + 0, none⟩)) := Eq.refl _
theorem fa124_1 (A o : Nat) : fieldAddrA tab 124 (.pointer (some ⟨A, o, none⟩)) 1 = some (.pointer (some ⟨A, o + 11, none⟩)) := Eq.refl _
theorem sz126 : sizeA tab 126 = some 13 := by kernel_rfl
theorem ag126 : aggA tab 126 = some true := by kernel_rfl
theorem ld126 (A o : Nat) (h : Heap) : loadA tab 126 (.pointer (some ⟨A, o, none⟩)) h = cutO (h.get A) o 13 := load_agg ag126 sz126
theorem al126 (P : Program) (ov : Ov) (d : Option Tmp) (ty : TypeId) (pos : String) (af : Array Edge) (g : Option (Nat × Bool)) (e : Env) (h : Heap) (K : Value → Heap → Prop) : WOp P tab ov ⟨d, .alloc 126, ty, pos, af, g⟩ e h K = K (.pointer (some ⟨h.size, 0, none⟩)) (h.push (.row [.string ⟨#[]⟩, .string ⟨#[]⟩, .string ⟨#[]⟩, .int .i64 0, .bool false, .string ⟨#[]⟩, .bool false, .string ⟨#[]⟩, .bool false, .string ⟨#[]⟩, .bool false, .string ⟨#[]⟩, .slice none 0 0] 126 false)) := w_alloc d ty pos af g e h K 126 tab_info126
theorem fa126_0 (A o : Nat) : fieldAddrA tab 126 (.pointer (some ⟨A, o, none⟩)) 0 = some (.pointer (some ⟨A, o + 0, none⟩)) := Eq.refl _
theorem fa126_1 (A o : Nat) : fieldAddrA tab 126 (.pointer (some ⟨A, o, none⟩)) 1 = some (.pointer (some ⟨A, o + 1, none⟩)) := Eq.refl _
theorem fa126_2 (A o : Nat) : fieldAddrA tab 126 (.pointer (some ⟨A, o, none⟩)) 2 = some (.pointer (some ⟨A, o + 12, none⟩)) := Eq.refl _
theorem sz192 : sizeA tab 192 = some 3 := by kernel_rfl
theorem fi6 (K : Value → Heap → Prop) (e : Env) (h : Heap) : finE tab Try.f6 K .ret e h = K (e.get 6) h := fin_tmp rfl
theorem fi9 (K : Value → Heap → Prop) (e : Env) (h : Heap) : finE tab Try.f9 K .ret e h = K (e.get 8) h := fin_tmp rfl
theorem fi14 (K : Value → Heap → Prop) (e : Env) (h : Heap) : finE tab Try.f14 K .ret e h = K (e.get 4) h := fin_tmp rfl
theorem fi15 (K : Value → Heap → Prop) (e : Env) (h : Heap) : finE tab Try.f15 K .ret e h = K (e.get 2) h := fin_tmp rfl
theorem fi20 (K : Value → Heap → Prop) (e : Env) (h : Heap) : finE tab Try.f20 K .ret e h = K (e.get 4) h := fin_tmp rfl
theorem fi23 (K : Value → Heap → Prop) (e : Env) (h : Heap) : finE tab Try.f23 K .ret e h = K (e.get 4) h := fin_tmp rfl
theorem fi29 (K : Value → Heap → Prop) (e : Env) (h : Heap) : finE tab Try.f29 K .ret e h = K (e.get 2) h := fin_tmp rfl
theorem fi37 (K : Value → Heap → Prop) (e : Env) (h : Heap) : finE tab Try.f37 K .ret e h = K (e.get 2) h := fin_tmp rfl
theorem fi38 (K : Value → Heap → Prop) (e : Env) (h : Heap) : finE tab Try.f38 K .ret e h = K (e.get 2) h := fin_tmp rfl
theorem fi39 (K : Value → Heap → Prop) (e : Env) (h : Heap) : finE tab Try.f39 K .ret e h = K (e.get 4) h := fin_tmp rfl
theorem fi40 (K : Value → Heap → Prop) (e : Env) (h : Heap) : finE tab Try.f40 K .ret e h = K (e.get 4) h := fin_tmp rfl
theorem fi41 (K : Value → Heap → Prop) (e : Env) (h : Heap) : finE tab Try.f41 K .ret e h = K (e.get 6) h := fin_tmp rfl
theorem fi42 (K : Value → Heap → Prop) (e : Env) (h : Heap) : finE tab Try.f42 K .ret e h = K (e.get 2) h := fin_tmp rfl
theorem fi86 (K : Value → Heap → Prop) (e : Env) (h : Heap) : finE tab Try.f86 K .ret e h = K (e.get 2) h := fin_tmp rfl
theorem fi87 (K : Value → Heap → Prop) (e : Env) (h : Heap) : finE tab Try.f87 K .ret e h = K (e.get 2) h := fin_tmp rfl
theorem fi88 (K : Value → Heap → Prop) (e : Env) (h : Heap) : finE tab Try.f88 K .ret e h = K (e.get 2) h := fin_tmp rfl
theorem fi99 (K : Value → Heap → Prop) (e : Env) (h : Heap) : finE tab Try.f99 K .ret e h = K (e.get 6) h := fin_tmp rfl
theorem fi100 (K : Value → Heap → Prop) (e : Env) (h : Heap) : finE tab Try.f100 K .ret e h = K (e.get 2) h := fin_tmp rfl
theorem fi101 (K : Value → Heap → Prop) (e : Env) (h : Heap) : finE tab Try.f101 K .ret e h = K (e.get 2) h := fin_tmp rfl
theorem fi102 (K : Value → Heap → Prop) (e : Env) (h : Heap) : finE tab Try.f102 K .ret e h = K (e.get 2) h := fin_tmp rfl
theorem fi103 (K : Value → Heap → Prop) (e : Env) (h : Heap) : finE tab Try.f103 K .ret e h = K (e.get 6) h := fin_tmp rfl
theorem fi104 (K : Value → Heap → Prop) (e : Env) (h : Heap) : finE tab Try.f104 K .ret e h = K (e.get 4) h := fin_tmp rfl
theorem fi105 (K : Value → Heap → Prop) (e : Env) (h : Heap) : finE tab Try.f105 K .ret e h = K (e.get 4) h := fin_tmp rfl
theorem fi106 (K : Value → Heap → Prop) (e : Env) (h : Heap) : finE tab Try.f106 K .ret e h = K (e.get 4) h := fin_tmp rfl
theorem fi107 (K : Value → Heap → Prop) (e : Env) (h : Heap) : finE tab Try.f107 K .ret e h = K (e.get 3) h := fin_tmp rfl
theorem fi110 (K : Value → Heap → Prop) (e : Env) (h : Heap) : finE tab Try.f110 K .ret e h = K (e.get 4) h := fin_tmp rfl
theorem fi142 (K : Value → Heap → Prop) (e : Env) (h : Heap) : finE tab Try.f142 K .ret e h = K (e.get 2) h := fin_tmp rfl
theorem fi143 (K : Value → Heap → Prop) (e : Env) (h : Heap) : finE tab Try.f143 K .ret e h = K (e.get 2) h := fin_tmp rfl
theorem fi144 (K : Value → Heap → Prop) (e : Env) (h : Heap) : finE tab Try.f144 K .ret e h = K (e.get 2) h := fin_tmp rfl
theorem fi147 (K : Value → Heap → Prop) (e : Env) (h : Heap) : finE tab Try.f147 K .ret e h = K (.tuple #[e.get 4, e.get 5]) h := fin_two rfl
theorem fi148 (K : Value → Heap → Prop) (e : Env) (h : Heap) : finE tab Try.f148 K .ret e h = K (e.get 4) h := fin_tmp rfl
theorem fi149 (K : Value → Heap → Prop) (e : Env) (h : Heap) : finE tab Try.f149 K .ret e h = K (e.get 4) h := fin_tmp rfl
theorem fi150 (K : Value → Heap → Prop) (e : Env) (h : Heap) : finE tab Try.f150 K .ret e h = K (e.get 2) h := fin_tmp rfl
theorem fi153 (K : Value → Heap → Prop) (e : Env) (h : Heap) : finE tab Try.f153 K .ret e h = K (e.get 4) h := fin_tmp rfl
theorem fi165 (K : Value → Heap → Prop) (e : Env) (h : Heap) : finE tab Try.f165 K .ret e h = K (e.get 2) h := fin_tmp rfl
theorem fi174 (K : Value → Heap → Prop) (e : Env) (h : Heap) : finE tab Try.f174 K .ret e h = K (e.get 2) h := fin_tmp rfl
theorem fi175 (K : Value → Heap → Prop) (e : Env) (h : Heap) : finE tab Try.f175 K .ret e h = K (e.get 2) h := fin_tmp rfl
theorem fi176 (K : Value → Heap → Prop) (e : Env) (h : Heap) : finE tab Try.f176 K .ret e h = K (e.get 2) h := fin_tmp rfl
theorem fi177 (K : Value → Heap → Prop) (e : Env) (h : Heap) : finE tab Try.f177 K .ret e h = K (e.get 2) h := fin_tmp rfl
theorem fi180 (K : Value → Heap → Prop) (e : Env) (h : Heap) : finE tab Try.f180 K .ret e h = K (e.get 4) h := fin_tmp rfl
theorem fi210 (K : Value → Heap → Prop) (e : Env) (h : Heap) : finE tab Try.f210 K .ret e h = K (e.get 0) h := fin_tmp rfl
end Go.Proofs.Ytompindebndddaa

/- What the plain machine's operations come to at this seat's types. Written by a program (mksim.py). No condition. -/
import Derived.Test.YtemapihoobmonaaDoorG11
import Derived.Test.YtemapihoobmonaaDoorGSym
import Derived.Test.YtemapihoobmonaaDoorG14
namespace Go.Proofs.YtemapihoobmonaaDoor
open Go.Am
theorem sz3 : sizeA tab 3 = some 1 := by kernel_rfl
theorem ag3 : aggA tab 3 = some false := by kernel_rfl
theorem ld3 (A o : Nat) (h : Heap) : loadA tab 3 (.pointer (some ⟨A, o, none⟩)) h = cellO (h.get A) o := load_one ag3
theorem sz4 : sizeA tab 4 = some 1 := by kernel_rfl
theorem ag4 : aggA tab 4 = some false := by kernel_rfl
theorem ld4 (A o : Nat) (h : Heap) : loadA tab 4 (.pointer (some ⟨A, o, none⟩)) h = cellO (h.get A) o := load_one ag4
theorem sz9 : sizeA tab 9 = some 1 := by kernel_rfl
theorem ag9 : aggA tab 9 = some false := by kernel_rfl
theorem ld9 (A o : Nat) (h : Heap) : loadA tab 9 (.pointer (some ⟨A, o, none⟩)) h = cellO (h.get A) o := load_one ag9
theorem ds9 : tab.desc 9 = some .string := by kernel_rfl
theorem ln9 (s : ByteArray) (h : Heap) : lenA tab 9 (.string s) h = some (.int .i64 s.size) := lenA_str ds9
theorem ds22 : tab.desc 22 = some (.slice 46) := by kernel_rfl
theorem ln22 (a : Option Addr) (n c : Nat) (h : Heap) : lenA tab 22 (.slice a n c) h = some (.int .i64 n) := lenA_slice ds22
theorem bs22 (n : Nat) (parts : List (Nat × Value)) (h : Heap) : buildSliceA tab 22 n parts h = if n * 12 > 16777216 || n > 16777216 then Option.none else (fillA (fun i => some (i * 12, 12)) (zerosA [.string ⟨#[]⟩, .string ⟨#[]⟩, .int .i64 0, .bool false, .string ⟨#[]⟩, .bool false, .string ⟨#[]⟩, .bool false, .string ⟨#[]⟩, .bool false, .string ⟨#[]⟩, .slice none 0 0] n) parts).map fun cs => (.slice (some ⟨h.size, 0, none⟩) n n, h.push (.row cs 46 false)) := bsl ds22 tab_info46 n parts h
theorem ix22 (A o n c : Nat) (ik : IntKind) (i : Int) : indexAddrA tab 22 (.slice (some ⟨A, o, none⟩) n c) (.int ik i) = if 0 ≤ i ∧ i < n then some (.pointer (some ⟨A, o + i.toNat * 12, none⟩)) else none := idx_slice ds22 (by kernel_rfl)
theorem sz23 : sizeA tab 23 = some 1 := by kernel_rfl
theorem ag23 : aggA tab 23 = some false := by kernel_rfl
theorem ld23 (A o : Nat) (h : Heap) : loadA tab 23 (.pointer (some ⟨A, o, none⟩)) h = cellO (h.get A) o := load_one ag23
theorem al23 (P : Program) (ov : Ov) (d : Option Tmp) (ty : TypeId) (pos : String) (af : Array Edge) (g : Option (Nat × Bool)) (e : Env) (h : Heap) (K : Value → Heap → Prop) : WOp P tab ov ⟨d, .alloc 23, ty, pos, af, g⟩ e h K = K (.pointer (some ⟨h.size, 0, none⟩)) (h.push (.row [.slice none 0 0] 23 false)) := w_alloc d ty pos af g e h K 23 tab_info23
theorem ds23 : tab.desc 23 = some (.slice 36) := by kernel_rfl
theorem ln23 (a : Option Addr) (n c : Nat) (h : Heap) : lenA tab 23 (.slice a n c) h = some (.int .i64 n) := lenA_slice ds23
theorem bs23 (n : Nat) (parts : List (Nat × Value)) (h : Heap) : buildSliceA tab 23 n parts h = if n * 11 > 16777216 || n > 16777216 then Option.none else (fillA (fun i => some (i * 11, 11)) (zerosA [.string ⟨#[]⟩, .string ⟨#[]⟩, .int .i64 0, .bool false, .string ⟨#[]⟩, .bool false, .string ⟨#[]⟩, .bool false, .string ⟨#[]⟩, .bool false, .string ⟨#[]⟩] n) parts).map fun cs => (.slice (some ⟨h.size, 0, none⟩) n n, h.push (.row cs 36 false)) := bsl ds23 tab_info36 n parts h
theorem ix23 (A o n c : Nat) (ik : IntKind) (i : Int) : indexAddrA tab 23 (.slice (some ⟨A, o, none⟩) n c) (.int ik i) = if 0 ≤ i ∧ i < n then some (.pointer (some ⟨A, o + i.toNat * 11, none⟩)) else none := idx_slice ds23 (by kernel_rfl)
theorem sz33 : sizeA tab 33 = some 2 := by kernel_rfl
theorem ag33 : aggA tab 33 = some true := by kernel_rfl
theorem ld33 (A o : Nat) (h : Heap) : loadA tab 33 (.pointer (some ⟨A, o, none⟩)) h = cutO (h.get A) o 2 := load_agg ag33 sz33
theorem al33 (P : Program) (ov : Ov) (d : Option Tmp) (ty : TypeId) (pos : String) (af : Array Edge) (g : Option (Nat × Bool)) (e : Env) (h : Heap) (K : Value → Heap → Prop) : WOp P tab ov ⟨d, .alloc 33, ty, pos, af, g⟩ e h K = K (.pointer (some ⟨h.size, 0, none⟩)) (h.push (.row [.bool false, .string ⟨#[]⟩] 33 false)) := w_alloc d ty pos af g e h K 33 tab_info33
theorem fa33_0 (A o : Nat) : fieldAddrA tab 33 (.pointer (some ⟨A, o, none⟩)) 0 = some (.pointer (some ⟨A, o + 0, none⟩)) := Eq.refl _
theorem fa33_1 (A o : Nat) : fieldAddrA tab 33 (.pointer (some ⟨A, o, none⟩)) 1 = some (.pointer (some ⟨A, o + 1, none⟩)) := Eq.refl _
theorem sz34 : sizeA tab 34 = some 8 := by kernel_rfl
theorem ag34 : aggA tab 34 = some true := by kernel_rfl
theorem ld34 (A o : Nat) (h : Heap) : loadA tab 34 (.pointer (some ⟨A, o, none⟩)) h = cutO (h.get A) o 8 := load_agg ag34 sz34
theorem ds34 : tab.desc 34 = some (.array 4 33) := by kernel_rfl
theorem ix34 (A o : Nat) (ik : IntKind) (i : Int) : indexAddrA tab 34 (.pointer (some ⟨A, o, none⟩)) (.int ik i) = if 0 ≤ i ∧ i < 4 then some (.pointer (some ⟨A, o + i.toNat * 2, none⟩)) else none := idx_arr ds34 (by kernel_rfl)
theorem sz36 : sizeA tab 36 = some 11 := by kernel_rfl
theorem ag36 : aggA tab 36 = some true := by kernel_rfl
theorem ld36 (A o : Nat) (h : Heap) : loadA tab 36 (.pointer (some ⟨A, o, none⟩)) h = cutO (h.get A) o 11 := load_agg ag36 sz36
theorem al36 (P : Program) (ov : Ov) (d : Option Tmp) (ty : TypeId) (pos : String) (af : Array Edge) (g : Option (Nat × Bool)) (e : Env) (h : Heap) (K : Value → Heap → Prop) : WOp P tab ov ⟨d, .alloc 36, ty, pos, af, g⟩ e h K = K (.pointer (some ⟨h.size, 0, none⟩)) (h.push (.row [.string ⟨#[]⟩, .string ⟨#[]⟩, .int .i64 0, .bool false, .string ⟨#[]⟩, .bool false, .string ⟨#[]⟩, .bool false, .string ⟨#[]⟩, .bool false, .string ⟨#[]⟩] 36 false)) := w_alloc d ty pos af g e h K 36 tab_info36
theorem fa36_0 (A o : Nat) : fieldAddrA tab 36 (.pointer (some ⟨A, o, none⟩)) 0 = some (.pointer (some ⟨A, o + 0, none⟩)) := Eq.refl _
theorem fa36_1 (A o : Nat) : fieldAddrA tab 36 (.pointer (some ⟨A, o, none⟩)) 1 = some (.pointer (some ⟨A, o + 1, none⟩)) := Eq.refl _
theorem fa36_2 (A o : Nat) : fieldAddrA tab 36 (.pointer (some ⟨A, o, none⟩)) 2 = some (.pointer (some ⟨A, o + 2, none⟩)) := Eq.refl _
theorem fa36_3 (A o : Nat) : fieldAddrA tab 36 (.pointer (some ⟨A, o, none⟩)) 3 = some (.pointer (some ⟨A, o + 3, none⟩)) := Eq.refl _
theorem sz46 : sizeA tab 46 = some 12 := by kernel_rfl
theorem ag46 : aggA tab 46 = some true := by kernel_rfl
theorem ld46 (A o : Nat) (h : Heap) : loadA tab 46 (.pointer (some ⟨A, o, none⟩)) h = cutO (h.get A) o 12 := load_agg ag46 sz46
theorem al46 (P : Program) (ov : Ov) (d : Option Tmp) (ty : TypeId) (pos : String) (af : Array Edge) (g : Option (Nat × Bool)) (e : Env) (h : Heap) (K : Value → Heap → Prop) : WOp P tab ov ⟨d, .alloc 46, ty, pos, af, g⟩ e h K = K (.pointer (some ⟨h.size, 0, none⟩)) (h.push (.row [.string ⟨#[]⟩, .string ⟨#[]⟩, .int .i64 0, .bool false, .string ⟨#[]⟩, .bool false, .string ⟨#[]⟩, .bool false, .string ⟨#[]⟩, .bool false, .string ⟨#[]⟩, .slice none 0 0] 46 false)) := w_alloc d ty pos af g e h K 46 tab_info46
theorem fa46_0 (A o : Nat) : fieldAddrA tab 46 (.pointer (some ⟨A, o, none⟩)) 0 = some (.pointer (some ⟨A, o + 0, none⟩)) := Eq.refl _
theorem fa46_1 (A o : Nat) : fieldAddrA tab 46 (.pointer (some ⟨A, o, none⟩)) 1 = some (.pointer (some ⟨A, o + 11, none⟩)) := Eq.refl _
theorem sz47 : sizeA tab 47 = some 1 := by kernel_rfl
theorem ag47 : aggA tab 47 = some false := by kernel_rfl
theorem ld47 (A o : Nat) (h : Heap) : loadA tab 47 (.pointer (some ⟨A, o, none⟩)) h = cellO (h.get A) o := load_one ag47
theorem al47 (P : Program) (ov : Ov) (d : Option Tmp) (ty : TypeId) (pos : String) (af : Array Edge) (g : Option (Nat × Bool)) (e : Env) (h : Heap) (K : Value → Heap → Prop) : WOp P tab ov ⟨d, .alloc 47, ty, pos, af, g⟩ e h K = K (.pointer (some ⟨h.size, 0, none⟩)) (h.push (.row [.map none] 47 false)) := w_alloc d ty pos af g e h K 47 tab_info47
theorem ds47 : tab.desc 47 = some (.map 36 53) := by kernel_rfl
theorem ag51 : aggA tab 51 = some false := by kernel_rfl
theorem ld51 (A o : Nat) (h : Heap) : loadA tab 51 (.pointer (some ⟨A, o, none⟩)) h = cellO (h.get A) o := load_one ag51
theorem ds51 : tab.desc 51 = some (.slice 71) := by kernel_rfl
theorem ln51 (a : Option Addr) (n c : Nat) (h : Heap) : lenA tab 51 (.slice a n c) h = some (.int .i64 n) := lenA_slice ds51
theorem bs51 (n : Nat) (parts : List (Nat × Value)) (h : Heap) : buildSliceA tab 51 n parts h = if n * 3 > 16777216 || n > 16777216 then Option.none else (fillA (fun i => some (i * 3, 3)) (zerosA [.string ⟨#[]⟩, .bool false, .string ⟨#[]⟩] n) parts).map fun cs => (.slice (some ⟨h.size, 0, none⟩) n n, h.push (.row cs 71 false)) := bsl ds51 tab_info71 n parts h
theorem ix51 (A o n c : Nat) (ik : IntKind) (i : Int) : indexAddrA tab 51 (.slice (some ⟨A, o, none⟩) n c) (.int ik i) = if 0 ≤ i ∧ i < n then some (.pointer (some ⟨A, o + i.toNat * 3, none⟩)) else none := idx_slice ds51 (by kernel_rfl)
theorem sz53 : sizeA tab 53 = some 0 := by kernel_rfl
theorem al53 (P : Program) (ov : Ov) (d : Option Tmp) (ty : TypeId) (pos : String) (af : Array Edge) (g : Option (Nat × Bool)) (e : Env) (h : Heap) (K : Value → Heap → Prop) : WOp P tab ov ⟨d, .alloc 53, ty, pos, af, g⟩ e h K = K (.pointer (some ⟨h.size, 0, none⟩)) (h.push (.row [] 53 false)) := w_alloc d ty pos af g e h K 53 tab_info53
theorem ag56 : aggA tab 56 = some false := by kernel_rfl
theorem ld56 (A o : Nat) (h : Heap) : loadA tab 56 (.pointer (some ⟨A, o, none⟩)) h = cellO (h.get A) o := load_one ag56
theorem sz71 : sizeA tab 71 = some 3 := by kernel_rfl
theorem ag71 : aggA tab 71 = some true := by kernel_rfl
theorem ld71 (A o : Nat) (h : Heap) : loadA tab 71 (.pointer (some ⟨A, o, none⟩)) h = cutO (h.get A) o 3 := load_agg ag71 sz71
theorem al71 (P : Program) (ov : Ov) (d : Option Tmp) (ty : TypeId) (pos : String) (af : Array Edge) (g : Option (Nat × Bool)) (e : Env) (h : Heap) (K : Value → Heap → Prop) : WOp P tab ov ⟨d, .alloc 71, ty, pos, af, g⟩ e h K = K (.pointer (some ⟨h.size, 0, none⟩)) (h.push (.row [.string ⟨#[]⟩, .bool false, .string ⟨#[]⟩] 71 false)) := w_alloc d ty pos af g e h K 71 tab_info71
theorem fa71_0 (A o : Nat) : fieldAddrA tab 71 (.pointer (some ⟨A, o, none⟩)) 0 = some (.pointer (some ⟨A, o + 0, none⟩)) := Eq.refl _
theorem fa71_1 (A o : Nat) : fieldAddrA tab 71 (.pointer (some ⟨A, o, none⟩)) 1 = some (.pointer (some ⟨A, o + 1, none⟩)) := Eq.refl _
theorem ds79 : tab.desc 79 = some (.slice 33) := by kernel_rfl
theorem ln79 (a : Option Addr) (n c : Nat) (h : Heap) : lenA tab 79 (.slice a n c) h = some (.int .i64 n) := lenA_slice ds79
theorem ix79 (A o n c : Nat) (ik : IntKind) (i : Int) : indexAddrA tab 79 (.slice (some ⟨A, o, none⟩) n c) (.int ik i) = if 0 ≤ i ∧ i < n then some (.pointer (some ⟨A, o + i.toNat * 2, none⟩)) else none := idx_slice ds79 (by kernel_rfl)
theorem ds83 : tab.desc 83 = some (.map 9 53) := by kernel_rfl
theorem ds84 : tab.desc 84 = some (.slice 9) := by kernel_rfl
theorem ln84 (a : Option Addr) (n c : Nat) (h : Heap) : lenA tab 84 (.slice a n c) h = some (.int .i64 n) := lenA_slice ds84
theorem bs84 (n : Nat) (parts : List (Nat × Value)) (h : Heap) : buildSliceA tab 84 n parts h = if n * 1 > 16777216 || n > 16777216 then Option.none else (fillA (fun i => some (i * 1, 1)) (zerosA [.string ⟨#[]⟩] n) parts).map fun cs => (.slice (some ⟨h.size, 0, none⟩) n n, h.push (.row cs 9 false)) := bsl ds84 tab_info9 n parts h
theorem ix84 (A o n c : Nat) (ik : IntKind) (i : Int) : indexAddrA tab 84 (.slice (some ⟨A, o, none⟩) n c) (.int ik i) = if 0 ≤ i ∧ i < n then some (.pointer (some ⟨A, o + i.toNat * 1, none⟩)) else none := idx_slice ds84 (by kernel_rfl)
theorem fi3 (K : Value → Heap → Prop) (e : Env) (h : Heap) : finE tab Tryd.f3 K .ret e h = K (e.get 6) h := fin_tmp rfl
theorem fi5 (K : Value → Heap → Prop) (e : Env) (h : Heap) : finE tab Tryd.f5 K .ret e h = K (e.get 4) h := fin_tmp rfl
theorem fi6 (K : Value → Heap → Prop) (e : Env) (h : Heap) : finE tab Tryd.f6 K .ret e h = K (.tuple #[e.get 6, e.get 7, e.get 8]) h := fin_three rfl
theorem fi7 (K : Value → Heap → Prop) (e : Env) (h : Heap) : finE tab Tryd.f7 K .ret e h = K (e.get 4) h := fin_tmp rfl
theorem fi8 (K : Value → Heap → Prop) (e : Env) (h : Heap) : finE tab Tryd.f8 K .ret e h = K (e.get 2) h := fin_tmp rfl
theorem fi9 (K : Value → Heap → Prop) (e : Env) (h : Heap) : finE tab Tryd.f9 K .ret e h = K (e.get 2) h := fin_tmp rfl
theorem fi10 (K : Value → Heap → Prop) (e : Env) (h : Heap) : finE tab Tryd.f10 K .ret e h = K (e.get 4) h := fin_tmp rfl
theorem fi11 (K : Value → Heap → Prop) (e : Env) (h : Heap) : finE tab Tryd.f11 K .ret e h = K (e.get 6) h := fin_tmp rfl
theorem fi14 (K : Value → Heap → Prop) (e : Env) (h : Heap) : finE tab Tryd.f14 K .ret e h = K (e.get 4) h := fin_tmp rfl
theorem fi15 (K : Value → Heap → Prop) (e : Env) (h : Heap) : finE tab Tryd.f15 K .ret e h = K (e.get 2) h := fin_tmp rfl
theorem fi16 (K : Value → Heap → Prop) (e : Env) (h : Heap) : finE tab Tryd.f16 K .ret e h = K (e.get 4) h := fin_tmp rfl
theorem fi17 (K : Value → Heap → Prop) (e : Env) (h : Heap) : finE tab Tryd.f17 K .ret e h = K (e.get 2) h := fin_tmp rfl
theorem fi18 (K : Value → Heap → Prop) (e : Env) (h : Heap) : finE tab Tryd.f18 K .ret e h = K (e.get 2) h := fin_tmp rfl
theorem fi19 (K : Value → Heap → Prop) (e : Env) (h : Heap) : finE tab Tryd.f19 K .ret e h = K (e.get 6) h := fin_tmp rfl
theorem fi20 (K : Value → Heap → Prop) (e : Env) (h : Heap) : finE tab Tryd.f20 K .ret e h = valE (loadA tab 36 (e.get 4) h) h K := fin_cell rfl
theorem fi21 (K : Value → Heap → Prop) (e : Env) (h : Heap) : finE tab Tryd.f21 K .ret e h = K (e.get 2) h := fin_tmp rfl
theorem fi23 (K : Value → Heap → Prop) (e : Env) (h : Heap) : finE tab Tryd.f23 K .ret e h = K (e.get 2) h := fin_tmp rfl
theorem fi24 (K : Value → Heap → Prop) (e : Env) (h : Heap) : finE tab Tryd.f24 K .ret e h = K (e.get 2) h := fin_tmp rfl
theorem fi25 (K : Value → Heap → Prop) (e : Env) (h : Heap) : finE tab Tryd.f25 K .ret e h = K undef h := fin_no rfl
theorem fj25 (K : Value → Heap → Prop) (e : Env) (h : Heap) : finE tab Tryd.f25 K .normal e h = K undef h := fin_no2 rfl
theorem fi26 (K : Value → Heap → Prop) (e : Env) (h : Heap) : finE tab Tryd.f26 K .ret e h = K (.tuple #[e.get 6, e.get 7]) h := fin_two rfl
theorem fi27 (K : Value → Heap → Prop) (e : Env) (h : Heap) : finE tab Tryd.f27 K .ret e h = valE (loadA tab 33 (e.get 4) h) h K := fin_cell rfl
theorem fi28 (K : Value → Heap → Prop) (e : Env) (h : Heap) : finE tab Tryd.f28 K .ret e h = K undef h := fin_no rfl
theorem fj28 (K : Value → Heap → Prop) (e : Env) (h : Heap) : finE tab Tryd.f28 K .normal e h = K undef h := fin_no2 rfl
theorem fi29 (K : Value → Heap → Prop) (e : Env) (h : Heap) : finE tab Tryd.f29 K .ret e h = K (e.get 4) h := fin_tmp rfl
theorem fi30 (K : Value → Heap → Prop) (e : Env) (h : Heap) : finE tab Tryd.f30 K .ret e h = K (e.get 4) h := fin_tmp rfl
theorem fi31 (K : Value → Heap → Prop) (e : Env) (h : Heap) : finE tab Tryd.f31 K .ret e h = K (e.get 4) h := fin_tmp rfl
theorem fi32 (K : Value → Heap → Prop) (e : Env) (h : Heap) : finE tab Tryd.f32 K .ret e h = K (e.get 2) h := fin_tmp rfl
theorem fi33 (K : Value → Heap → Prop) (e : Env) (h : Heap) : finE tab Tryd.f33 K .ret e h = K (e.get 2) h := fin_tmp rfl
theorem fi34 (K : Value → Heap → Prop) (e : Env) (h : Heap) : finE tab Tryd.f34 K .ret e h = K (e.get 4) h := fin_tmp rfl
theorem fi35 (K : Value → Heap → Prop) (e : Env) (h : Heap) : finE tab Tryd.f35 K .ret e h = K (e.get 2) h := fin_tmp rfl
theorem fi36 (K : Value → Heap → Prop) (e : Env) (h : Heap) : finE tab Tryd.f36 K .ret e h = K (e.get 2) h := fin_tmp rfl
theorem fi37 (K : Value → Heap → Prop) (e : Env) (h : Heap) : finE tab Tryd.f37 K .ret e h = K (e.get 2) h := fin_tmp rfl
theorem fi38 (K : Value → Heap → Prop) (e : Env) (h : Heap) : finE tab Tryd.f38 K .ret e h = K (e.get 4) h := fin_tmp rfl
theorem fi39 (K : Value → Heap → Prop) (e : Env) (h : Heap) : finE tab Tryd.f39 K .ret e h = valE (loadA tab 33 (e.get 4) h) h (fun x h' => K (.tuple #[x, e.get 5]) h') := fin_celltmp rfl
theorem fi40 (K : Value → Heap → Prop) (e : Env) (h : Heap) : finE tab Tryd.f40 K .ret e h = K (e.get 2) h := fin_tmp rfl
theorem fi41 (K : Value → Heap → Prop) (e : Env) (h : Heap) : finE tab Tryd.f41 K .ret e h = K (.tuple #[e.get 6, e.get 7]) h := fin_two rfl
theorem fi42 (K : Value → Heap → Prop) (e : Env) (h : Heap) : finE tab Tryd.f42 K .ret e h = K undef h := fin_no rfl
theorem fj42 (K : Value → Heap → Prop) (e : Env) (h : Heap) : finE tab Tryd.f42 K .normal e h = K undef h := fin_no2 rfl
theorem fi44 (K : Value → Heap → Prop) (e : Env) (h : Heap) : finE tab Tryd.f44 K .ret e h = K (e.get 2) h := fin_tmp rfl
theorem fi45 (K : Value → Heap → Prop) (e : Env) (h : Heap) : finE tab Tryd.f45 K .ret e h = K (e.get 2) h := fin_tmp rfl
theorem fi46 (K : Value → Heap → Prop) (e : Env) (h : Heap) : finE tab Tryd.f46 K .ret e h = K (e.get 2) h := fin_tmp rfl
theorem fi47 (K : Value → Heap → Prop) (e : Env) (h : Heap) : finE tab Tryd.f47 K .ret e h = K (e.get 4) h := fin_tmp rfl
theorem fi48 (K : Value → Heap → Prop) (e : Env) (h : Heap) : finE tab Tryd.f48 K .ret e h = K (e.get 2) h := fin_tmp rfl
theorem fi49 (K : Value → Heap → Prop) (e : Env) (h : Heap) : finE tab Tryd.f49 K .ret e h = K (e.get 2) h := fin_tmp rfl
theorem fi50 (K : Value → Heap → Prop) (e : Env) (h : Heap) : finE tab Tryd.f50 K .ret e h = K (e.get 2) h := fin_tmp rfl
theorem fi51 (K : Value → Heap → Prop) (e : Env) (h : Heap) : finE tab Tryd.f51 K .ret e h = K (e.get 4) h := fin_tmp rfl
theorem fi52 (K : Value → Heap → Prop) (e : Env) (h : Heap) : finE tab Tryd.f52 K .ret e h = K (e.get 2) h := fin_tmp rfl
theorem fi53 (K : Value → Heap → Prop) (e : Env) (h : Heap) : finE tab Tryd.f53 K .ret e h = K (e.get 2) h := fin_tmp rfl
theorem fi54 (K : Value → Heap → Prop) (e : Env) (h : Heap) : finE tab Tryd.f54 K .ret e h = K (e.get 2) h := fin_tmp rfl
theorem fi55 (K : Value → Heap → Prop) (e : Env) (h : Heap) : finE tab Tryd.f55 K .ret e h = K (e.get 4) h := fin_tmp rfl
theorem fi56 (K : Value → Heap → Prop) (e : Env) (h : Heap) : finE tab Tryd.f56 K .ret e h = K (e.get 4) h := fin_tmp rfl
theorem fi57 (K : Value → Heap → Prop) (e : Env) (h : Heap) : finE tab Tryd.f57 K .ret e h = K (e.get 2) h := fin_tmp rfl
theorem fi58 (K : Value → Heap → Prop) (e : Env) (h : Heap) : finE tab Tryd.f58 K .ret e h = K (e.get 4) h := fin_tmp rfl
theorem fi59 (K : Value → Heap → Prop) (e : Env) (h : Heap) : finE tab Tryd.f59 K .ret e h = K (e.get 4) h := fin_tmp rfl
theorem fi60 (K : Value → Heap → Prop) (e : Env) (h : Heap) : finE tab Tryd.f60 K .ret e h = K undef h := fin_no rfl
theorem fj60 (K : Value → Heap → Prop) (e : Env) (h : Heap) : finE tab Tryd.f60 K .normal e h = K undef h := fin_no2 rfl
theorem fi61 (K : Value → Heap → Prop) (e : Env) (h : Heap) : finE tab Tryd.f61 K .ret e h = K undef h := fin_no rfl
theorem fj61 (K : Value → Heap → Prop) (e : Env) (h : Heap) : finE tab Tryd.f61 K .normal e h = K undef h := fin_no2 rfl
theorem fi64 (K : Value → Heap → Prop) (e : Env) (h : Heap) : finE tab Tryd.f64 K .ret e h = K (e.get 6) h := fin_tmp rfl
theorem fi65 (K : Value → Heap → Prop) (e : Env) (h : Heap) : finE tab Tryd.f65 K .ret e h = K (e.get 2) h := fin_tmp rfl
theorem fi66 (K : Value → Heap → Prop) (e : Env) (h : Heap) : finE tab Tryd.f66 K .ret e h = K (e.get 2) h := fin_tmp rfl
theorem fi67 (K : Value → Heap → Prop) (e : Env) (h : Heap) : finE tab Tryd.f67 K .ret e h = K (e.get 2) h := fin_tmp rfl
theorem fi68 (K : Value → Heap → Prop) (e : Env) (h : Heap) : finE tab Tryd.f68 K .ret e h = K (e.get 4) h := fin_tmp rfl
theorem fi69 (K : Value → Heap → Prop) (e : Env) (h : Heap) : finE tab Tryd.f69 K .ret e h = K (e.get 2) h := fin_tmp rfl
theorem fi70 (K : Value → Heap → Prop) (e : Env) (h : Heap) : finE tab Tryd.f70 K .ret e h = K (e.get 2) h := fin_tmp rfl
theorem fi71 (K : Value → Heap → Prop) (e : Env) (h : Heap) : finE tab Tryd.f71 K .ret e h = K (e.get 4) h := fin_tmp rfl
theorem fi72 (K : Value → Heap → Prop) (e : Env) (h : Heap) : finE tab Tryd.f72 K .ret e h = K (e.get 4) h := fin_tmp rfl
theorem fi73 (K : Value → Heap → Prop) (e : Env) (h : Heap) : finE tab Tryd.f73 K .ret e h = K undef h := fin_no rfl
theorem fj73 (K : Value → Heap → Prop) (e : Env) (h : Heap) : finE tab Tryd.f73 K .normal e h = K undef h := fin_no2 rfl
theorem fi78 (K : Value → Heap → Prop) (e : Env) (h : Heap) : finE tab Tryd.f78 K .ret e h = K (e.get 2) h := fin_tmp rfl
theorem fi79 (K : Value → Heap → Prop) (e : Env) (h : Heap) : finE tab Tryd.f79 K .ret e h = K (e.get 4) h := fin_tmp rfl
theorem fi80 (K : Value → Heap → Prop) (e : Env) (h : Heap) : finE tab Tryd.f80 K .ret e h = K (e.get 0) h := fin_tmp rfl
theorem fi81 (K : Value → Heap → Prop) (e : Env) (h : Heap) : finE tab Tryd.f81 K .ret e h = K (e.get 2) h := fin_tmp rfl
theorem fi82 (K : Value → Heap → Prop) (e : Env) (h : Heap) : finE tab Tryd.f82 K .ret e h = K (e.get 2) h := fin_tmp rfl
theorem fi83 (K : Value → Heap → Prop) (e : Env) (h : Heap) : finE tab Tryd.f83 K .ret e h = K (e.get 2) h := fin_tmp rfl
theorem fi84 (K : Value → Heap → Prop) (e : Env) (h : Heap) : finE tab Tryd.f84 K .ret e h = K undef h := fin_no rfl
theorem fj84 (K : Value → Heap → Prop) (e : Env) (h : Heap) : finE tab Tryd.f84 K .normal e h = K undef h := fin_no2 rfl
theorem fi87 (K : Value → Heap → Prop) (e : Env) (h : Heap) : finE tab Tryd.f87 K .ret e h = K (e.get 4) h := fin_tmp rfl
end Go.Proofs.YtemapihoobmonaaDoor

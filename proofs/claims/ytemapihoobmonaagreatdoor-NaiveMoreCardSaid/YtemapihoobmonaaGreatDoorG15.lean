/- What the plain machine's operations come to at this seat's types. Written by a program (mksim.py). No condition. -/
import Derived.Test.YtemapihoobmonaaGreatDoorG11
import Derived.Test.YtemapihoobmonaaGreatDoorGSym
import Derived.Test.YtemapihoobmonaaGreatDoorG14
namespace Go.Proofs.YtemapihoobmonaaGreatDoor
open Go.Am
theorem sz3 : zaL tab 3 = some 1 := by kernel_rfl
theorem ag3 : aggA tab 3 = some false := by kernel_rfl
theorem ld3 (A o : Nat) (h : Heap) : za6 tab 3 (.pointer (some ⟨A, o, none⟩)) h = ziE (h.get A) o := zd3 ag3
theorem sz4 : zaL tab 4 = some 1 := by kernel_rfl
theorem ag4 : aggA tab 4 = some false := by kernel_rfl
theorem ld4 (A o : Nat) (h : Heap) : za6 tab 4 (.pointer (some ⟨A, o, none⟩)) h = ziE (h.get A) o := zd3 ag4
theorem sz9 : zaL tab 9 = some 1 := by kernel_rfl
theorem ag9 : aggA tab 9 = some false := by kernel_rfl
theorem ld9 (A o : Nat) (h : Heap) : za6 tab 9 (.pointer (some ⟨A, o, none⟩)) h = ziE (h.get A) o := zd3 ag9
theorem ds9 : tab.desc 9 = some .string := by kernel_rfl
theorem ln9 (s : ByteArray) (h : Heap) : lenA tab 9 (.string s) h = some (.int .i64 s.size) := zuP ds9
theorem sz23 : zaL tab 23 = some 2 := by kernel_rfl
theorem ag23 : aggA tab 23 = some true := by kernel_rfl
theorem ld23 (A o : Nat) (h : Heap) : za6 tab 23 (.pointer (some ⟨A, o, none⟩)) h = cutO (h.get A) o 2 := zfJ ag23 sz23
theorem al23 (P : Program) (ov : Ov) (d : Option Tmp) (ty : TypeId) (pos : String) (af : Array Edge) (g : Option (Nat × Bool)) (e : Env) (h : Heap) (K : Value → Heap → Prop) : WOp P tab ov ⟨d, .alloc 23, ty, pos, af, g⟩ e h K = K (.pointer (some ⟨h.size, 0, none⟩)) (h.push (.row [.bool false, .string ⟨#[]⟩] 23 false)) := zfp d ty pos af g e h K 23 zqI
theorem zem (A o : Nat) : zaq tab 23 (.pointer (some ⟨A, o, none⟩)) 0 = some (.pointer (some ⟨A, o + 0, none⟩)) := Eq.refl _
theorem zdr (A o : Nat) : zaq tab 23 (.pointer (some ⟨A, o, none⟩)) 1 = some (.pointer (some ⟨A, o + 1, none⟩)) := Eq.refl _
theorem sz24 : zaL tab 24 = some 8 := by kernel_rfl
theorem ag24 : aggA tab 24 = some true := by kernel_rfl
theorem ld24 (A o : Nat) (h : Heap) : za6 tab 24 (.pointer (some ⟨A, o, none⟩)) h = cutO (h.get A) o 8 := zfJ ag24 sz24
theorem ds24 : tab.desc 24 = some (.array 4 23) := by kernel_rfl
theorem ix24 (A o : Nat) (ik : IntKind) (i : Int) : zat tab 24 (.pointer (some ⟨A, o, none⟩)) (.int ik i) = if 0 ≤ i ∧ i < 4 then some (.pointer (some ⟨A, o + i.toNat * 2, none⟩)) else none := zxG ds24 (by kernel_rfl)
theorem sz26 : zaL tab 26 = some 11 := by kernel_rfl
theorem ag26 : aggA tab 26 = some true := by kernel_rfl
theorem ld26 (A o : Nat) (h : Heap) : za6 tab 26 (.pointer (some ⟨A, o, none⟩)) h = cutO (h.get A) o 11 := zfJ ag26 sz26
theorem al26 (P : Program) (ov : Ov) (d : Option Tmp) (ty : TypeId) (pos : String) (af : Array Edge) (g : Option (Nat × Bool)) (e : Env) (h : Heap) (K : Value → Heap → Prop) : WOp P tab ov ⟨d, .alloc 26, ty, pos, af, g⟩ e h K = K (.pointer (some ⟨h.size, 0, none⟩)) (h.push (.row [.string ⟨#[]⟩, .string ⟨#[]⟩, .int .i64 0, .bool false, .string ⟨#[]⟩, .bool false, .string ⟨#[]⟩, .bool false, .string ⟨#[]⟩, .bool false, .string ⟨#[]⟩] 26 false)) := zfp d ty pos af g e h K 26 zbN
theorem zjf (A o : Nat) : zaq tab 26 (.pointer (some ⟨A, o, none⟩)) 0 = some (.pointer (some ⟨A, o + 0, none⟩)) := Eq.refl _
theorem zju (A o : Nat) : zaq tab 26 (.pointer (some ⟨A, o, none⟩)) 1 = some (.pointer (some ⟨A, o + 1, none⟩)) := Eq.refl _
theorem zgV (A o : Nat) : zaq tab 26 (.pointer (some ⟨A, o, none⟩)) 2 = some (.pointer (some ⟨A, o + 2, none⟩)) := Eq.refl _
theorem zee (A o : Nat) : zaq tab 26 (.pointer (some ⟨A, o, none⟩)) 3 = some (.pointer (some ⟨A, o + 3, none⟩)) := Eq.refl _
theorem sz27 : zaL tab 27 = some 1 := by kernel_rfl
theorem ag27 : aggA tab 27 = some false := by kernel_rfl
theorem ld27 (A o : Nat) (h : Heap) : za6 tab 27 (.pointer (some ⟨A, o, none⟩)) h = ziE (h.get A) o := zd3 ag27
theorem al27 (P : Program) (ov : Ov) (d : Option Tmp) (ty : TypeId) (pos : String) (af : Array Edge) (g : Option (Nat × Bool)) (e : Env) (h : Heap) (K : Value → Heap → Prop) : WOp P tab ov ⟨d, .alloc 27, ty, pos, af, g⟩ e h K = K (.pointer (some ⟨h.size, 0, none⟩)) (h.push (.row [.slice none 0 0] 27 false)) := zfp d ty pos af g e h K 27 zqZ
theorem ds27 : tab.desc 27 = some (.slice 26) := by kernel_rfl
theorem ln27 (a : Option Addr) (n c : Nat) (h : Heap) : lenA tab 27 (.slice a n c) h = some (.int .i64 n) := zcR ds27
theorem bs27 (n : Nat) (parts : List (Nat × Value)) (h : Heap) : zaG tab 27 n parts h = if n * 11 > 16777216 || n > 16777216 then Option.none else (zdS (fun i => some (i * 11, 11)) (zbC [.string ⟨#[]⟩, .string ⟨#[]⟩, .int .i64 0, .bool false, .string ⟨#[]⟩, .bool false, .string ⟨#[]⟩, .bool false, .string ⟨#[]⟩, .bool false, .string ⟨#[]⟩] n) parts).map fun cs => (.slice (some ⟨h.size, 0, none⟩) n n, h.push (.row cs 26 false)) := bsl ds27 zbN n parts h
theorem ix27 (A o n c : Nat) (ik : IntKind) (i : Int) : zat tab 27 (.slice (some ⟨A, o, none⟩) n c) (.int ik i) = if 0 ≤ i ∧ i < n then some (.pointer (some ⟨A, o + i.toNat * 11, none⟩)) else none := zdq ds27 (by kernel_rfl)
theorem sz29 : zaL tab 29 = some 12 := by kernel_rfl
theorem ag29 : aggA tab 29 = some true := by kernel_rfl
theorem ld29 (A o : Nat) (h : Heap) : za6 tab 29 (.pointer (some ⟨A, o, none⟩)) h = cutO (h.get A) o 12 := zfJ ag29 sz29
theorem al29 (P : Program) (ov : Ov) (d : Option Tmp) (ty : TypeId) (pos : String) (af : Array Edge) (g : Option (Nat × Bool)) (e : Env) (h : Heap) (K : Value → Heap → Prop) : WOp P tab ov ⟨d, .alloc 29, ty, pos, af, g⟩ e h K = K (.pointer (some ⟨h.size, 0, none⟩)) (h.push (.row [.string ⟨#[]⟩, .string ⟨#[]⟩, .int .i64 0, .bool false, .string ⟨#[]⟩, .bool false, .string ⟨#[]⟩, .bool false, .string ⟨#[]⟩, .bool false, .string ⟨#[]⟩, .slice none 0 0] 29 false)) := zfp d ty pos af g e h K 29 zbT
theorem zep (A o : Nat) : zaq tab 29 (.pointer (some ⟨A, o, none⟩)) 0 = some (.pointer (some ⟨A, o + 0, none⟩)) := Eq.refl _
theorem zdL (A o : Nat) : zaq tab 29 (.pointer (some ⟨A, o, none⟩)) 1 = some (.pointer (some ⟨A, o + 11, none⟩)) := Eq.refl _
theorem ds30 : tab.desc 30 = some (.slice 3) := by kernel_rfl
theorem ln30 (a : Option Addr) (n c : Nat) (h : Heap) : lenA tab 30 (.slice a n c) h = some (.int .i64 n) := zcR ds30
theorem ix30 (A o n c : Nat) (ik : IntKind) (i : Int) : zat tab 30 (.slice (some ⟨A, o, none⟩) n c) (.int ik i) = if 0 ≤ i ∧ i < n then some (.pointer (some ⟨A, o + i.toNat * 1, none⟩)) else none := zdq ds30 (by kernel_rfl)
theorem ds32 : tab.desc 32 = some (.slice 29) := by kernel_rfl
theorem ln32 (a : Option Addr) (n c : Nat) (h : Heap) : lenA tab 32 (.slice a n c) h = some (.int .i64 n) := zcR ds32
theorem bs32 (n : Nat) (parts : List (Nat × Value)) (h : Heap) : zaG tab 32 n parts h = if n * 12 > 16777216 || n > 16777216 then Option.none else (zdS (fun i => some (i * 12, 12)) (zbC [.string ⟨#[]⟩, .string ⟨#[]⟩, .int .i64 0, .bool false, .string ⟨#[]⟩, .bool false, .string ⟨#[]⟩, .bool false, .string ⟨#[]⟩, .bool false, .string ⟨#[]⟩, .slice none 0 0] n) parts).map fun cs => (.slice (some ⟨h.size, 0, none⟩) n n, h.push (.row cs 29 false)) := bsl ds32 zbT n parts h
theorem ix32 (A o n c : Nat) (ik : IntKind) (i : Int) : zat tab 32 (.slice (some ⟨A, o, none⟩) n c) (.int ik i) = if 0 ≤ i ∧ i < n then some (.pointer (some ⟨A, o + i.toNat * 12, none⟩)) else none := zdq ds32 (by kernel_rfl)
theorem ag36 : aggA tab 36 = some false := by kernel_rfl
theorem ld36 (A o : Nat) (h : Heap) : za6 tab 36 (.pointer (some ⟨A, o, none⟩)) h = ziE (h.get A) o := zd3 ag36
theorem ds36 : tab.desc 36 = some (.slice 141) := by kernel_rfl
theorem ln36 (a : Option Addr) (n c : Nat) (h : Heap) : lenA tab 36 (.slice a n c) h = some (.int .i64 n) := zcR ds36
theorem bs36 (n : Nat) (parts : List (Nat × Value)) (h : Heap) : zaG tab 36 n parts h = if n * 3 > 16777216 || n > 16777216 then Option.none else (zdS (fun i => some (i * 3, 3)) (zbC [.string ⟨#[]⟩, .bool false, .string ⟨#[]⟩] n) parts).map fun cs => (.slice (some ⟨h.size, 0, none⟩) n n, h.push (.row cs 141 false)) := bsl ds36 zcr n parts h
theorem ix36 (A o n c : Nat) (ik : IntKind) (i : Int) : zat tab 36 (.slice (some ⟨A, o, none⟩) n c) (.int ik i) = if 0 ≤ i ∧ i < n then some (.pointer (some ⟨A, o + i.toNat * 3, none⟩)) else none := zdq ds36 (by kernel_rfl)
theorem ds49 : tab.desc 49 = some (.slice 9) := by kernel_rfl
theorem ln49 (a : Option Addr) (n c : Nat) (h : Heap) : lenA tab 49 (.slice a n c) h = some (.int .i64 n) := zcR ds49
theorem bs49 (n : Nat) (parts : List (Nat × Value)) (h : Heap) : zaG tab 49 n parts h = if n * 1 > 16777216 || n > 16777216 then Option.none else (zdS (fun i => some (i * 1, 1)) (zbC [.string ⟨#[]⟩] n) parts).map fun cs => (.slice (some ⟨h.size, 0, none⟩) n n, h.push (.row cs 9 false)) := bsl ds49 zf0 n parts h
theorem ix49 (A o n c : Nat) (ik : IntKind) (i : Int) : zat tab 49 (.slice (some ⟨A, o, none⟩) n c) (.int ik i) = if 0 ≤ i ∧ i < n then some (.pointer (some ⟨A, o + i.toNat * 1, none⟩)) else none := zdq ds49 (by kernel_rfl)
theorem sz91 : zaL tab 91 = some 1 := by kernel_rfl
theorem ag91 : aggA tab 91 = some false := by kernel_rfl
theorem ld91 (A o : Nat) (h : Heap) : za6 tab 91 (.pointer (some ⟨A, o, none⟩)) h = ziE (h.get A) o := zd3 ag91
theorem al91 (P : Program) (ov : Ov) (d : Option Tmp) (ty : TypeId) (pos : String) (af : Array Edge) (g : Option (Nat × Bool)) (e : Env) (h : Heap) (K : Value → Heap → Prop) : WOp P tab ov ⟨d, .alloc 91, ty, pos, af, g⟩ e h K = K (.pointer (some ⟨h.size, 0, none⟩)) (h.push (.row [.map none] 91 false)) := zfp d ty pos af g e h K 91 zqR
theorem ds91 : tab.desc 91 = some (.map 26 95) := by kernel_rfl
theorem sz95 : zaL tab 95 = some 0 := by kernel_rfl
theorem al95 (P : Program) (ov : Ov) (d : Option Tmp) (ty : TypeId) (pos : String) (af : Array Edge) (g : Option (Nat × Bool)) (e : Env) (h : Heap) (K : Value → Heap → Prop) : WOp P tab ov ⟨d, .alloc 95, ty, pos, af, g⟩ e h K = K (.pointer (some ⟨h.size, 0, none⟩)) (h.push (.row [] 95 false)) := zfp d ty pos af g e h K 95 zpD
theorem zyQ : aggA tab 137 = some false := by kernel_rfl
theorem zzE (A o : Nat) (h : Heap) : za6 tab 137 (.pointer (some ⟨A, o, none⟩)) h = ziE (h.get A) o := zd3 zyQ
theorem zfv : zaL tab 141 = some 3 := by kernel_rfl
theorem zw5 : aggA tab 141 = some true := by kernel_rfl
theorem zu7 (A o : Nat) (h : Heap) : za6 tab 141 (.pointer (some ⟨A, o, none⟩)) h = cutO (h.get A) o 3 := zfJ zw5 zfv
theorem zwy (P : Program) (ov : Ov) (d : Option Tmp) (ty : TypeId) (pos : String) (af : Array Edge) (g : Option (Nat × Bool)) (e : Env) (h : Heap) (K : Value → Heap → Prop) : WOp P tab ov ⟨d, .alloc 141, ty, pos, af, g⟩ e h K = K (.pointer (some ⟨h.size, 0, none⟩)) (h.push (.row [.string ⟨#[]⟩, .bool false, .string ⟨#[]⟩] 141 false)) := zfp d ty pos af g e h K 141 zcr
theorem zdm (A o : Nat) : zaq tab 141 (.pointer (some ⟨A, o, none⟩)) 0 = some (.pointer (some ⟨A, o + 0, none⟩)) := Eq.refl _
theorem zhY (A o : Nat) : zaq tab 141 (.pointer (some ⟨A, o, none⟩)) 1 = some (.pointer (some ⟨A, o + 1, none⟩)) := Eq.refl _
theorem zjQ : tab.desc 183 = some (.slice 23) := by kernel_rfl
theorem zu0 (a : Option Addr) (n c : Nat) (h : Heap) : lenA tab 183 (.slice a n c) h = some (.int .i64 n) := zcR zjQ
theorem zuu (A o n c : Nat) (ik : IntKind) (i : Int) : zat tab 183 (.slice (some ⟨A, o, none⟩) n c) (.int ik i) = if 0 ≤ i ∧ i < n then some (.pointer (some ⟨A, o + i.toNat * 2, none⟩)) else none := zdq zjQ (by kernel_rfl)
theorem zx9 : tab.desc 185 = some (.map 9 95) := by kernel_rfl
theorem fi3 (K : Value → Heap → Prop) (e : Env) (h : Heap) : finE tab Tryz.f3 K .ret e h = K (e.get 6) h := zak rfl
theorem fi4 (K : Value → Heap → Prop) (e : Env) (h : Heap) : finE tab Tryz.f4 K .ret e h = K (e.get 6) h := zak rfl
theorem fi7 (K : Value → Heap → Prop) (e : Env) (h : Heap) : finE tab Tryz.f7 K .ret e h = K (e.get 6) h := zak rfl
theorem fi11 (K : Value → Heap → Prop) (e : Env) (h : Heap) : finE tab Tryz.f11 K .ret e h = K (e.get 4) h := zak rfl
theorem fi12 (K : Value → Heap → Prop) (e : Env) (h : Heap) : finE tab Tryz.f12 K .ret e h = K (e.get 4) h := zak rfl
theorem fi13 (K : Value → Heap → Prop) (e : Env) (h : Heap) : finE tab Tryz.f13 K .ret e h = K (e.get 4) h := zak rfl
theorem fi14 (K : Value → Heap → Prop) (e : Env) (h : Heap) : finE tab Tryz.f14 K .ret e h = K (e.get 6) h := zak rfl
theorem fi15 (K : Value → Heap → Prop) (e : Env) (h : Heap) : finE tab Tryz.f15 K .ret e h = K (.tuple #[e.get 6, e.get 7]) h := znH rfl
theorem fi16 (K : Value → Heap → Prop) (e : Env) (h : Heap) : finE tab Tryz.f16 K .ret e h = K (e.get 4) h := zak rfl
theorem fi17 (K : Value → Heap → Prop) (e : Env) (h : Heap) : finE tab Tryz.f17 K .ret e h = K (e.get 4) h := zak rfl
theorem fi18 (K : Value → Heap → Prop) (e : Env) (h : Heap) : finE tab Tryz.f18 K .ret e h = valE (za6 tab 26 (e.get 4) h) h K := zjX rfl
theorem fi19 (K : Value → Heap → Prop) (e : Env) (h : Heap) : finE tab Tryz.f19 K .ret e h = K (e.get 2) h := zak rfl
theorem fi20 (K : Value → Heap → Prop) (e : Env) (h : Heap) : finE tab Tryz.f20 K .ret e h = K (.tuple #[e.get 6, e.get 7, e.get 8]) h := zrw rfl
theorem fi21 (K : Value → Heap → Prop) (e : Env) (h : Heap) : finE tab Tryz.f21 K .ret e h = K (e.get 4) h := zak rfl
theorem fi24 (K : Value → Heap → Prop) (e : Env) (h : Heap) : finE tab Tryz.f24 K .ret e h = K (e.get 2) h := zak rfl
theorem fi37 (K : Value → Heap → Prop) (e : Env) (h : Heap) : finE tab Tryz.f37 K .ret e h = K (e.get 2) h := zak rfl
theorem fi52 (K : Value → Heap → Prop) (e : Env) (h : Heap) : finE tab Tryz.f52 K .ret e h = K (e.get 2) h := zak rfl
theorem fi53 (K : Value → Heap → Prop) (e : Env) (h : Heap) : finE tab Tryz.f53 K .ret e h = K (e.get 2) h := zak rfl
theorem fi54 (K : Value → Heap → Prop) (e : Env) (h : Heap) : finE tab Tryz.f54 K .ret e h = K (e.get 4) h := zak rfl
theorem fi55 (K : Value → Heap → Prop) (e : Env) (h : Heap) : finE tab Tryz.f55 K .ret e h = K (e.get 2) h := zak rfl
theorem fi56 (K : Value → Heap → Prop) (e : Env) (h : Heap) : finE tab Tryz.f56 K .ret e h = K (e.get 2) h := zak rfl
theorem fi57 (K : Value → Heap → Prop) (e : Env) (h : Heap) : finE tab Tryz.f57 K .ret e h = K (e.get 6) h := zak rfl
theorem fi58 (K : Value → Heap → Prop) (e : Env) (h : Heap) : finE tab Tryz.f58 K .ret e h = valE (za6 tab 26 (e.get 4) h) h K := zjX rfl
theorem fi59 (K : Value → Heap → Prop) (e : Env) (h : Heap) : finE tab Tryz.f59 K .ret e h = K (e.get 2) h := zak rfl
theorem fi62 (K : Value → Heap → Prop) (e : Env) (h : Heap) : finE tab Tryz.f62 K .ret e h = K (e.get 2) h := zak rfl
theorem fi65 (K : Value → Heap → Prop) (e : Env) (h : Heap) : finE tab Tryz.f65 K .ret e h = K (e.get 4) h := zak rfl
theorem fi66 (K : Value → Heap → Prop) (e : Env) (h : Heap) : finE tab Tryz.f66 K .ret e h = K (e.get 2) h := zak rfl
theorem fi90 (K : Value → Heap → Prop) (e : Env) (h : Heap) : finE tab Tryz.f90 K .ret e h = K (e.get 2) h := zak rfl
theorem fi91 (K : Value → Heap → Prop) (e : Env) (h : Heap) : finE tab Tryz.f91 K .ret e h = K (e.get 2) h := zak rfl
theorem fi92 (K : Value → Heap → Prop) (e : Env) (h : Heap) : finE tab Tryz.f92 K .ret e h = K (e.get 2) h := zak rfl
theorem fi93 (K : Value → Heap → Prop) (e : Env) (h : Heap) : finE tab Tryz.f93 K .ret e h = K (e.get 2) h := zak rfl
theorem fi94 (K : Value → Heap → Prop) (e : Env) (h : Heap) : finE tab Tryz.f94 K .ret e h = K undef h := zhs rfl
theorem fj94 (K : Value → Heap → Prop) (e : Env) (h : Heap) : finE tab Tryz.f94 K .normal e h = K undef h := zfg rfl
theorem fi95 (K : Value → Heap → Prop) (e : Env) (h : Heap) : finE tab Tryz.f95 K .ret e h = K (.tuple #[e.get 6, e.get 7]) h := znH rfl
theorem fi96 (K : Value → Heap → Prop) (e : Env) (h : Heap) : finE tab Tryz.f96 K .ret e h = valE (za6 tab 23 (e.get 4) h) h K := zjX rfl
theorem fi97 (K : Value → Heap → Prop) (e : Env) (h : Heap) : finE tab Tryz.f97 K .ret e h = K undef h := zhs rfl
theorem fj97 (K : Value → Heap → Prop) (e : Env) (h : Heap) : finE tab Tryz.f97 K .normal e h = K undef h := zfg rfl
theorem fi98 (K : Value → Heap → Prop) (e : Env) (h : Heap) : finE tab Tryz.f98 K .ret e h = K (e.get 4) h := zak rfl
theorem fi99 (K : Value → Heap → Prop) (e : Env) (h : Heap) : finE tab Tryz.f99 K .ret e h = K (e.get 4) h := zak rfl
theorem zy6 (K : Value → Heap → Prop) (e : Env) (h : Heap) : finE tab Tryz.f100 K .ret e h = K (e.get 4) h := zak rfl
theorem zyE (K : Value → Heap → Prop) (e : Env) (h : Heap) : finE tab Tryz.f102 K .ret e h = K (e.get 2) h := zak rfl
theorem zy7 (K : Value → Heap → Prop) (e : Env) (h : Heap) : finE tab Tryz.f108 K .ret e h = K (e.get 4) h := zak rfl
theorem zyB (K : Value → Heap → Prop) (e : Env) (h : Heap) : finE tab Tryz.f120 K .ret e h = K (e.get 2) h := zak rfl
theorem zzd (K : Value → Heap → Prop) (e : Env) (h : Heap) : finE tab Tryz.f121 K .ret e h = K (e.get 2) h := zak rfl
theorem zzq (K : Value → Heap → Prop) (e : Env) (h : Heap) : finE tab Tryz.f122 K .ret e h = K (e.get 2) h := zak rfl
theorem zyJ (K : Value → Heap → Prop) (e : Env) (h : Heap) : finE tab Tryz.f123 K .ret e h = K (e.get 2) h := zak rfl
theorem zzP (K : Value → Heap → Prop) (e : Env) (h : Heap) : finE tab Tryz.f124 K .ret e h = K (e.get 2) h := zak rfl
theorem zyv (K : Value → Heap → Prop) (e : Env) (h : Heap) : finE tab Tryz.f125 K .ret e h = K (e.get 2) h := zak rfl
theorem zyH (K : Value → Heap → Prop) (e : Env) (h : Heap) : finE tab Tryz.f126 K .ret e h = K (e.get 4) h := zak rfl
theorem zyx (K : Value → Heap → Prop) (e : Env) (h : Heap) : finE tab Tryz.f127 K .ret e h = K (e.get 2) h := zak rfl
theorem zy1 (K : Value → Heap → Prop) (e : Env) (h : Heap) : finE tab Tryz.f128 K .ret e h = K (e.get 2) h := zak rfl
theorem zyD (K : Value → Heap → Prop) (e : Env) (h : Heap) : finE tab Tryz.f129 K .ret e h = K (e.get 2) h := zak rfl
theorem zzM (K : Value → Heap → Prop) (e : Env) (h : Heap) : finE tab Tryz.f130 K .ret e h = K (e.get 4) h := zak rfl
theorem zzh (K : Value → Heap → Prop) (e : Env) (h : Heap) : finE tab Tryz.f131 K .ret e h = valE (za6 tab 23 (e.get 4) h) h (fun x h' => K (.tuple #[x, e.get 5]) h') := znF rfl
theorem zza (K : Value → Heap → Prop) (e : Env) (h : Heap) : finE tab Tryz.f132 K .ret e h = K (e.get 2) h := zak rfl
theorem zzU (K : Value → Heap → Prop) (e : Env) (h : Heap) : finE tab Tryz.f133 K .ret e h = K (.tuple #[e.get 6, e.get 7]) h := znH rfl
theorem zyV (K : Value → Heap → Prop) (e : Env) (h : Heap) : finE tab Tryz.f134 K .ret e h = K undef h := zhs rfl
theorem zzV (K : Value → Heap → Prop) (e : Env) (h : Heap) : finE tab Tryz.f134 K .normal e h = K undef h := zfg rfl
theorem zzy (K : Value → Heap → Prop) (e : Env) (h : Heap) : finE tab Tryz.f136 K .ret e h = K (e.get 2) h := zak rfl
theorem zyO (K : Value → Heap → Prop) (e : Env) (h : Heap) : finE tab Tryz.f137 K .ret e h = K (e.get 2) h := zak rfl
theorem zyz (K : Value → Heap → Prop) (e : Env) (h : Heap) : finE tab Tryz.f140 K .ret e h = K (e.get 4) h := zak rfl
theorem zyU (K : Value → Heap → Prop) (e : Env) (h : Heap) : finE tab Tryz.f151 K .ret e h = K (e.get 4) h := zak rfl
theorem zzJ (K : Value → Heap → Prop) (e : Env) (h : Heap) : finE tab Tryz.f155 K .ret e h = K (e.get 2) h := zak rfl
theorem zyP (K : Value → Heap → Prop) (e : Env) (h : Heap) : finE tab Tryz.f156 K .ret e h = K (e.get 2) h := zak rfl
theorem zyy (K : Value → Heap → Prop) (e : Env) (h : Heap) : finE tab Tryz.f157 K .ret e h = K (e.get 2) h := zak rfl
theorem zy2 (K : Value → Heap → Prop) (e : Env) (h : Heap) : finE tab Tryz.f158 K .ret e h = K (e.get 4) h := zak rfl
theorem zzH (K : Value → Heap → Prop) (e : Env) (h : Heap) : finE tab Tryz.f159 K .ret e h = K (e.get 2) h := zak rfl
theorem zzw (K : Value → Heap → Prop) (e : Env) (h : Heap) : finE tab Tryz.f160 K .ret e h = K (e.get 2) h := zak rfl
theorem zzT (K : Value → Heap → Prop) (e : Env) (h : Heap) : finE tab Tryz.f161 K .ret e h = K (e.get 4) h := zak rfl
theorem zzI (K : Value → Heap → Prop) (e : Env) (h : Heap) : finE tab Tryz.f162 K .ret e h = K (e.get 2) h := zak rfl
theorem zzm (K : Value → Heap → Prop) (e : Env) (h : Heap) : finE tab Tryz.f163 K .ret e h = K (e.get 2) h := zak rfl
theorem zzQ (K : Value → Heap → Prop) (e : Env) (h : Heap) : finE tab Tryz.f164 K .ret e h = K (e.get 2) h := zak rfl
theorem zyC (K : Value → Heap → Prop) (e : Env) (h : Heap) : finE tab Tryz.f165 K .ret e h = K (e.get 2) h := zak rfl
theorem zzp (K : Value → Heap → Prop) (e : Env) (h : Heap) : finE tab Tryz.f166 K .ret e h = K (e.get 2) h := zak rfl
theorem zyu (K : Value → Heap → Prop) (e : Env) (h : Heap) : finE tab Tryz.f167 K .ret e h = K (e.get 2) h := zak rfl
theorem zzn (K : Value → Heap → Prop) (e : Env) (h : Heap) : finE tab Tryz.f168 K .ret e h = K (e.get 4) h := zak rfl
theorem zyK (K : Value → Heap → Prop) (e : Env) (h : Heap) : finE tab Tryz.f169 K .ret e h = K (e.get 4) h := zak rfl
theorem zzl (K : Value → Heap → Prop) (e : Env) (h : Heap) : finE tab Tryz.f170 K .ret e h = K (e.get 2) h := zak rfl
theorem zzN (K : Value → Heap → Prop) (e : Env) (h : Heap) : finE tab Tryz.f171 K .ret e h = K (e.get 4) h := zak rfl
theorem zyL (K : Value → Heap → Prop) (e : Env) (h : Heap) : finE tab Tryz.f172 K .ret e h = K (e.get 4) h := zak rfl
theorem zzb (K : Value → Heap → Prop) (e : Env) (h : Heap) : finE tab Tryz.f173 K .ret e h = K undef h := zhs rfl
theorem zyd (K : Value → Heap → Prop) (e : Env) (h : Heap) : finE tab Tryz.f173 K .normal e h = K undef h := zfg rfl
theorem zzF (K : Value → Heap → Prop) (e : Env) (h : Heap) : finE tab Tryz.f174 K .ret e h = K undef h := zhs rfl
theorem zyR (K : Value → Heap → Prop) (e : Env) (h : Heap) : finE tab Tryz.f174 K .normal e h = K undef h := zfg rfl
theorem zzK (K : Value → Heap → Prop) (e : Env) (h : Heap) : finE tab Tryz.f181 K .ret e h = K (e.get 2) h := zak rfl
theorem zy8 (K : Value → Heap → Prop) (e : Env) (h : Heap) : finE tab Tryz.f182 K .ret e h = K (e.get 2) h := zak rfl
theorem zze (K : Value → Heap → Prop) (e : Env) (h : Heap) : finE tab Tryz.f183 K .ret e h = K (e.get 2) h := zak rfl
theorem zzt (K : Value → Heap → Prop) (e : Env) (h : Heap) : finE tab Tryz.f184 K .ret e h = K (e.get 2) h := zak rfl
theorem zzj (K : Value → Heap → Prop) (e : Env) (h : Heap) : finE tab Tryz.f185 K .ret e h = K (e.get 6) h := zak rfl
theorem zy4 (K : Value → Heap → Prop) (e : Env) (h : Heap) : finE tab Tryz.f186 K .ret e h = K (e.get 2) h := zak rfl
theorem zzo (K : Value → Heap → Prop) (e : Env) (h : Heap) : finE tab Tryz.f187 K .ret e h = K (e.get 2) h := zak rfl
theorem zzz (K : Value → Heap → Prop) (e : Env) (h : Heap) : finE tab Tryz.f188 K .ret e h = K (e.get 2) h := zak rfl
theorem zyN (K : Value → Heap → Prop) (e : Env) (h : Heap) : finE tab Tryz.f189 K .ret e h = K (e.get 4) h := zak rfl
theorem zzB (K : Value → Heap → Prop) (e : Env) (h : Heap) : finE tab Tryz.f190 K .ret e h = K (e.get 2) h := zak rfl
theorem zy3 (K : Value → Heap → Prop) (e : Env) (h : Heap) : finE tab Tryz.f191 K .ret e h = K (e.get 2) h := zak rfl
theorem zyt (K : Value → Heap → Prop) (e : Env) (h : Heap) : finE tab Tryz.f192 K .ret e h = K (e.get 4) h := zak rfl
theorem zzR (K : Value → Heap → Prop) (e : Env) (h : Heap) : finE tab Tryz.f193 K .ret e h = K (e.get 4) h := zak rfl
theorem zzA (K : Value → Heap → Prop) (e : Env) (h : Heap) : finE tab Tryz.f194 K .ret e h = K undef h := zhs rfl
theorem zzG (K : Value → Heap → Prop) (e : Env) (h : Heap) : finE tab Tryz.f194 K .normal e h = K undef h := zfg rfl
theorem zyA (K : Value → Heap → Prop) (e : Env) (h : Heap) : finE tab Tryz.f214 K .ret e h = K (e.get 0) h := zak rfl
theorem zyF (K : Value → Heap → Prop) (e : Env) (h : Heap) : finE tab Tryz.f215 K .ret e h = K (e.get 2) h := zak rfl
theorem zyw (K : Value → Heap → Prop) (e : Env) (h : Heap) : finE tab Tryz.f216 K .ret e h = K (e.get 0) h := zak rfl
theorem zzx (K : Value → Heap → Prop) (e : Env) (h : Heap) : finE tab Tryz.f217 K .ret e h = K (e.get 2) h := zak rfl
theorem zyW (K : Value → Heap → Prop) (e : Env) (h : Heap) : finE tab Tryz.f218 K .ret e h = K (e.get 2) h := zak rfl
theorem zzL (K : Value → Heap → Prop) (e : Env) (h : Heap) : finE tab Tryz.f219 K .ret e h = K (e.get 2) h := zak rfl
theorem zzi (K : Value → Heap → Prop) (e : Env) (h : Heap) : finE tab Tryz.f220 K .ret e h = K undef h := zhs rfl
theorem zzv (K : Value → Heap → Prop) (e : Env) (h : Heap) : finE tab Tryz.f220 K .normal e h = K undef h := zfg rfl
end Go.Proofs.YtemapihoobmonaaGreatDoor

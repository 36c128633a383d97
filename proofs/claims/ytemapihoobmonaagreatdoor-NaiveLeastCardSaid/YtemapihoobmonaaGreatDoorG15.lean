/- What the plain machine's operations come to at this seat's types. Written by a program (mksim.py). No condition. -/
import Derived.Test.YtemapihoobmonaaGreatDoorG11
import Derived.Test.YtemapihoobmonaaGreatDoorGSym
import Derived.Test.YtemapihoobmonaaGreatDoorG14
namespace Go.Proofs.YtemapihoobmonaaGreatDoor
open Go.Am
theorem sz3 : zaQ tab 3 = some 1 := by kernel_rfl
theorem ag3 : aggA tab 3 = some false := by kernel_rfl
theorem ld3 (A o : Nat) (h : Heap) : za6 tab 3 (.pointer (some ⟨A, o, none⟩)) h = ziS (h.get A) o := zdN ag3
theorem sz4 : zaQ tab 4 = some 1 := by kernel_rfl
theorem ag4 : aggA tab 4 = some false := by kernel_rfl
theorem ld4 (A o : Nat) (h : Heap) : za6 tab 4 (.pointer (some ⟨A, o, none⟩)) h = ziS (h.get A) o := zdN ag4
theorem sz9 : zaQ tab 9 = some 1 := by kernel_rfl
theorem ag9 : aggA tab 9 = some false := by kernel_rfl
theorem ld9 (A o : Nat) (h : Heap) : za6 tab 9 (.pointer (some ⟨A, o, none⟩)) h = ziS (h.get A) o := zdN ag9
theorem ds9 : tab.desc 9 = some .string := by kernel_rfl
theorem ln9 (s : ByteArray) (h : Heap) : lenA tab 9 (.string s) h = some (.int .i64 s.size) := zvX ds9
theorem sz23 : zaQ tab 23 = some 2 := by kernel_rfl
theorem ag23 : aggA tab 23 = some true := by kernel_rfl
theorem ld23 (A o : Nat) (h : Heap) : za6 tab 23 (.pointer (some ⟨A, o, none⟩)) h = cutO (h.get A) o 2 := zf7 ag23 sz23
theorem al23 (P : Program) (ov : Ov) (d : Option Tmp) (ty : TypeId) (pos : String) (af : Array Edge) (g : Option (Nat × Bool)) (e : Env) (h : Heap) (K : Value → Heap → Prop) : WOp P tab ov ⟨d, .alloc 23, ty, pos, af, g⟩ e h K = K (.pointer (some ⟨h.size, 0, none⟩)) (h.push (.row [.bool false, .string ⟨#[]⟩] 23 false)) := ze3 d ty pos af g e h K 23 zpT
theorem zeB (A o : Nat) : zau tab 23 (.pointer (some ⟨A, o, none⟩)) 0 = some (.pointer (some ⟨A, o + 0, none⟩)) := Eq.refl _
theorem zdJ (A o : Nat) : zau tab 23 (.pointer (some ⟨A, o, none⟩)) 1 = some (.pointer (some ⟨A, o + 1, none⟩)) := Eq.refl _
theorem sz24 : zaQ tab 24 = some 8 := by kernel_rfl
theorem ag24 : aggA tab 24 = some true := by kernel_rfl
theorem ld24 (A o : Nat) (h : Heap) : za6 tab 24 (.pointer (some ⟨A, o, none⟩)) h = cutO (h.get A) o 8 := zf7 ag24 sz24
theorem ds24 : tab.desc 24 = some (.array 4 23) := by kernel_rfl
theorem ix24 (A o : Nat) (ik : IntKind) (i : Int) : zaw tab 24 (.pointer (some ⟨A, o, none⟩)) (.int ik i) = if 0 ≤ i ∧ i < 4 then some (.pointer (some ⟨A, o + i.toNat * 2, none⟩)) else none := zw3 ds24 (by kernel_rfl)
theorem sz26 : zaQ tab 26 = some 11 := by kernel_rfl
theorem ag26 : aggA tab 26 = some true := by kernel_rfl
theorem ld26 (A o : Nat) (h : Heap) : za6 tab 26 (.pointer (some ⟨A, o, none⟩)) h = cutO (h.get A) o 11 := zf7 ag26 sz26
theorem al26 (P : Program) (ov : Ov) (d : Option Tmp) (ty : TypeId) (pos : String) (af : Array Edge) (g : Option (Nat × Bool)) (e : Env) (h : Heap) (K : Value → Heap → Prop) : WOp P tab ov ⟨d, .alloc 26, ty, pos, af, g⟩ e h K = K (.pointer (some ⟨h.size, 0, none⟩)) (h.push (.row [.string ⟨#[]⟩, .string ⟨#[]⟩, .int .i64 0, .bool false, .string ⟨#[]⟩, .bool false, .string ⟨#[]⟩, .bool false, .string ⟨#[]⟩, .bool false, .string ⟨#[]⟩] 26 false)) := ze3 d ty pos af g e h K 26 zbw
theorem zjm (A o : Nat) : zau tab 26 (.pointer (some ⟨A, o, none⟩)) 0 = some (.pointer (some ⟨A, o + 0, none⟩)) := Eq.refl _
theorem zjL (A o : Nat) : zau tab 26 (.pointer (some ⟨A, o, none⟩)) 1 = some (.pointer (some ⟨A, o + 1, none⟩)) := Eq.refl _
theorem zgJ (A o : Nat) : zau tab 26 (.pointer (some ⟨A, o, none⟩)) 2 = some (.pointer (some ⟨A, o + 2, none⟩)) := Eq.refl _
theorem zd9 (A o : Nat) : zau tab 26 (.pointer (some ⟨A, o, none⟩)) 3 = some (.pointer (some ⟨A, o + 3, none⟩)) := Eq.refl _
theorem sz27 : zaQ tab 27 = some 1 := by kernel_rfl
theorem ag27 : aggA tab 27 = some false := by kernel_rfl
theorem ld27 (A o : Nat) (h : Heap) : za6 tab 27 (.pointer (some ⟨A, o, none⟩)) h = ziS (h.get A) o := zdN ag27
theorem al27 (P : Program) (ov : Ov) (d : Option Tmp) (ty : TypeId) (pos : String) (af : Array Edge) (g : Option (Nat × Bool)) (e : Env) (h : Heap) (K : Value → Heap → Prop) : WOp P tab ov ⟨d, .alloc 27, ty, pos, af, g⟩ e h K = K (.pointer (some ⟨h.size, 0, none⟩)) (h.push (.row [.slice none 0 0] 27 false)) := ze3 d ty pos af g e h K 27 zqh
theorem ds27 : tab.desc 27 = some (.slice 26) := by kernel_rfl
theorem ln27 (a : Option Addr) (n c : Nat) (h : Heap) : lenA tab 27 (.slice a n c) h = some (.int .i64 n) := zcX ds27
theorem bs27 (n : Nat) (parts : List (Nat × Value)) (h : Heap) : zaI tab 27 n parts h = if n * 11 > 16777216 || n > 16777216 then Option.none else (zd6 (fun i => some (i * 11, 11)) (zbB [.string ⟨#[]⟩, .string ⟨#[]⟩, .int .i64 0, .bool false, .string ⟨#[]⟩, .bool false, .string ⟨#[]⟩, .bool false, .string ⟨#[]⟩, .bool false, .string ⟨#[]⟩] n) parts).map fun cs => (.slice (some ⟨h.size, 0, none⟩) n n, h.push (.row cs 26 false)) := bsl ds27 zbw n parts h
theorem ix27 (A o n c : Nat) (ik : IntKind) (i : Int) : zaw tab 27 (.slice (some ⟨A, o, none⟩) n c) (.int ik i) = if 0 ≤ i ∧ i < n then some (.pointer (some ⟨A, o + i.toNat * 11, none⟩)) else none := zdv ds27 (by kernel_rfl)
theorem sz29 : zaQ tab 29 = some 12 := by kernel_rfl
theorem ag29 : aggA tab 29 = some true := by kernel_rfl
theorem ld29 (A o : Nat) (h : Heap) : za6 tab 29 (.pointer (some ⟨A, o, none⟩)) h = cutO (h.get A) o 12 := zf7 ag29 sz29
theorem al29 (P : Program) (ov : Ov) (d : Option Tmp) (ty : TypeId) (pos : String) (af : Array Edge) (g : Option (Nat × Bool)) (e : Env) (h : Heap) (K : Value → Heap → Prop) : WOp P tab ov ⟨d, .alloc 29, ty, pos, af, g⟩ e h K = K (.pointer (some ⟨h.size, 0, none⟩)) (h.push (.row [.string ⟨#[]⟩, .string ⟨#[]⟩, .int .i64 0, .bool false, .string ⟨#[]⟩, .bool false, .string ⟨#[]⟩, .bool false, .string ⟨#[]⟩, .bool false, .string ⟨#[]⟩, .slice none 0 0] 29 false)) := ze3 d ty pos af g e h K 29 zjl
theorem zeT (A o : Nat) : zau tab 29 (.pointer (some ⟨A, o, none⟩)) 0 = some (.pointer (some ⟨A, o + 0, none⟩)) := Eq.refl _
theorem zeW (A o : Nat) : zau tab 29 (.pointer (some ⟨A, o, none⟩)) 1 = some (.pointer (some ⟨A, o + 11, none⟩)) := Eq.refl _
theorem ds30 : tab.desc 30 = some (.slice 3) := by kernel_rfl
theorem ln30 (a : Option Addr) (n c : Nat) (h : Heap) : lenA tab 30 (.slice a n c) h = some (.int .i64 n) := zcX ds30
theorem ix30 (A o n c : Nat) (ik : IntKind) (i : Int) : zaw tab 30 (.slice (some ⟨A, o, none⟩) n c) (.int ik i) = if 0 ≤ i ∧ i < n then some (.pointer (some ⟨A, o + i.toNat * 1, none⟩)) else none := zdv ds30 (by kernel_rfl)
theorem ds32 : tab.desc 32 = some (.slice 29) := by kernel_rfl
theorem ln32 (a : Option Addr) (n c : Nat) (h : Heap) : lenA tab 32 (.slice a n c) h = some (.int .i64 n) := zcX ds32
theorem bs32 (n : Nat) (parts : List (Nat × Value)) (h : Heap) : zaI tab 32 n parts h = if n * 12 > 16777216 || n > 16777216 then Option.none else (zd6 (fun i => some (i * 12, 12)) (zbB [.string ⟨#[]⟩, .string ⟨#[]⟩, .int .i64 0, .bool false, .string ⟨#[]⟩, .bool false, .string ⟨#[]⟩, .bool false, .string ⟨#[]⟩, .bool false, .string ⟨#[]⟩, .slice none 0 0] n) parts).map fun cs => (.slice (some ⟨h.size, 0, none⟩) n n, h.push (.row cs 29 false)) := bsl ds32 zjl n parts h
theorem ix32 (A o n c : Nat) (ik : IntKind) (i : Int) : zaw tab 32 (.slice (some ⟨A, o, none⟩) n c) (.int ik i) = if 0 ≤ i ∧ i < n then some (.pointer (some ⟨A, o + i.toNat * 12, none⟩)) else none := zdv ds32 (by kernel_rfl)
theorem ag36 : aggA tab 36 = some false := by kernel_rfl
theorem ld36 (A o : Nat) (h : Heap) : za6 tab 36 (.pointer (some ⟨A, o, none⟩)) h = ziS (h.get A) o := zdN ag36
theorem ds36 : tab.desc 36 = some (.slice 141) := by kernel_rfl
theorem ln36 (a : Option Addr) (n c : Nat) (h : Heap) : lenA tab 36 (.slice a n c) h = some (.int .i64 n) := zcX ds36
theorem bs36 (n : Nat) (parts : List (Nat × Value)) (h : Heap) : zaI tab 36 n parts h = if n * 3 > 16777216 || n > 16777216 then Option.none else (zd6 (fun i => some (i * 3, 3)) (zbB [.string ⟨#[]⟩, .bool false, .string ⟨#[]⟩] n) parts).map fun cs => (.slice (some ⟨h.size, 0, none⟩) n n, h.push (.row cs 141 false)) := bsl ds36 zcr n parts h
theorem ix36 (A o n c : Nat) (ik : IntKind) (i : Int) : zaw tab 36 (.slice (some ⟨A, o, none⟩) n c) (.int ik i) = if 0 ≤ i ∧ i < n then some (.pointer (some ⟨A, o + i.toNat * 3, none⟩)) else none := zdv ds36 (by kernel_rfl)
theorem ds49 : tab.desc 49 = some (.slice 9) := by kernel_rfl
theorem ln49 (a : Option Addr) (n c : Nat) (h : Heap) : lenA tab 49 (.slice a n c) h = some (.int .i64 n) := zcX ds49
theorem bs49 (n : Nat) (parts : List (Nat × Value)) (h : Heap) : zaI tab 49 n parts h = if n * 1 > 16777216 || n > 16777216 then Option.none else (zd6 (fun i => some (i * 1, 1)) (zbB [.string ⟨#[]⟩] n) parts).map fun cs => (.slice (some ⟨h.size, 0, none⟩) n n, h.push (.row cs 9 false)) := bsl ds49 zfK n parts h
theorem ix49 (A o n c : Nat) (ik : IntKind) (i : Int) : zaw tab 49 (.slice (some ⟨A, o, none⟩) n c) (.int ik i) = if 0 ≤ i ∧ i < n then some (.pointer (some ⟨A, o + i.toNat * 1, none⟩)) else none := zdv ds49 (by kernel_rfl)
theorem sz91 : zaQ tab 91 = some 1 := by kernel_rfl
theorem ag91 : aggA tab 91 = some false := by kernel_rfl
theorem ld91 (A o : Nat) (h : Heap) : za6 tab 91 (.pointer (some ⟨A, o, none⟩)) h = ziS (h.get A) o := zdN ag91
theorem al91 (P : Program) (ov : Ov) (d : Option Tmp) (ty : TypeId) (pos : String) (af : Array Edge) (g : Option (Nat × Bool)) (e : Env) (h : Heap) (K : Value → Heap → Prop) : WOp P tab ov ⟨d, .alloc 91, ty, pos, af, g⟩ e h K = K (.pointer (some ⟨h.size, 0, none⟩)) (h.push (.row [.map none] 91 false)) := ze3 d ty pos af g e h K 91 zpx
theorem ds91 : tab.desc 91 = some (.map 26 95) := by kernel_rfl
theorem sz95 : zaQ tab 95 = some 0 := by kernel_rfl
theorem al95 (P : Program) (ov : Ov) (d : Option Tmp) (ty : TypeId) (pos : String) (af : Array Edge) (g : Option (Nat × Bool)) (e : Env) (h : Heap) (K : Value → Heap → Prop) : WOp P tab ov ⟨d, .alloc 95, ty, pos, af, g⟩ e h K = K (.pointer (some ⟨h.size, 0, none⟩)) (h.push (.row [] 95 false)) := ze3 d ty pos af g e h K 95 zp2
theorem zyH : aggA tab 137 = some false := by kernel_rfl
theorem zzl (A o : Nat) (h : Heap) : za6 tab 137 (.pointer (some ⟨A, o, none⟩)) h = ziS (h.get A) o := zdN zyH
theorem ze4 : zaQ tab 141 = some 3 := by kernel_rfl
theorem zwO : aggA tab 141 = some true := by kernel_rfl
theorem zvg (A o : Nat) (h : Heap) : za6 tab 141 (.pointer (some ⟨A, o, none⟩)) h = cutO (h.get A) o 3 := zf7 zwO ze4
theorem zxt (P : Program) (ov : Ov) (d : Option Tmp) (ty : TypeId) (pos : String) (af : Array Edge) (g : Option (Nat × Bool)) (e : Env) (h : Heap) (K : Value → Heap → Prop) : WOp P tab ov ⟨d, .alloc 141, ty, pos, af, g⟩ e h K = K (.pointer (some ⟨h.size, 0, none⟩)) (h.push (.row [.string ⟨#[]⟩, .bool false, .string ⟨#[]⟩] 141 false)) := ze3 d ty pos af g e h K 141 zcr
theorem zdq (A o : Nat) : zau tab 141 (.pointer (some ⟨A, o, none⟩)) 0 = some (.pointer (some ⟨A, o + 0, none⟩)) := Eq.refl _
theorem ziH (A o : Nat) : zau tab 141 (.pointer (some ⟨A, o, none⟩)) 1 = some (.pointer (some ⟨A, o + 1, none⟩)) := Eq.refl _
theorem zkP : tab.desc 183 = some (.slice 23) := by kernel_rfl
theorem zuJ (a : Option Addr) (n c : Nat) (h : Heap) : lenA tab 183 (.slice a n c) h = some (.int .i64 n) := zcX zkP
theorem zv5 (A o n c : Nat) (ik : IntKind) (i : Int) : zaw tab 183 (.slice (some ⟨A, o, none⟩) n c) (.int ik i) = if 0 ≤ i ∧ i < n then some (.pointer (some ⟨A, o + i.toNat * 2, none⟩)) else none := zdv zkP (by kernel_rfl)
theorem zx8 : tab.desc 185 = some (.map 9 95) := by kernel_rfl
theorem fi3 (K : Value → Heap → Prop) (e : Env) (h : Heap) : finE tab Tryz.f3 K .ret e h = K (e.get 6) h := zaj rfl
theorem fi4 (K : Value → Heap → Prop) (e : Env) (h : Heap) : finE tab Tryz.f4 K .ret e h = K (e.get 6) h := zaj rfl
theorem fi7 (K : Value → Heap → Prop) (e : Env) (h : Heap) : finE tab Tryz.f7 K .ret e h = K (e.get 6) h := zaj rfl
theorem fi11 (K : Value → Heap → Prop) (e : Env) (h : Heap) : finE tab Tryz.f11 K .ret e h = K (e.get 4) h := zaj rfl
theorem fi12 (K : Value → Heap → Prop) (e : Env) (h : Heap) : finE tab Tryz.f12 K .ret e h = K (e.get 4) h := zaj rfl
theorem fi13 (K : Value → Heap → Prop) (e : Env) (h : Heap) : finE tab Tryz.f13 K .ret e h = K (e.get 4) h := zaj rfl
theorem fi14 (K : Value → Heap → Prop) (e : Env) (h : Heap) : finE tab Tryz.f14 K .ret e h = K (e.get 6) h := zaj rfl
theorem fi15 (K : Value → Heap → Prop) (e : Env) (h : Heap) : finE tab Tryz.f15 K .ret e h = K (.tuple #[e.get 6, e.get 7]) h := zix rfl
theorem fi16 (K : Value → Heap → Prop) (e : Env) (h : Heap) : finE tab Tryz.f16 K .ret e h = K (e.get 4) h := zaj rfl
theorem fi17 (K : Value → Heap → Prop) (e : Env) (h : Heap) : finE tab Tryz.f17 K .ret e h = K (e.get 4) h := zaj rfl
theorem fi18 (K : Value → Heap → Prop) (e : Env) (h : Heap) : finE tab Tryz.f18 K .ret e h = valE (za6 tab 26 (e.get 4) h) h K := zku rfl
theorem fi19 (K : Value → Heap → Prop) (e : Env) (h : Heap) : finE tab Tryz.f19 K .ret e h = K (e.get 2) h := zaj rfl
theorem fi20 (K : Value → Heap → Prop) (e : Env) (h : Heap) : finE tab Tryz.f20 K .ret e h = K (.tuple #[e.get 6, e.get 7, e.get 8]) h := ztH rfl
theorem fi21 (K : Value → Heap → Prop) (e : Env) (h : Heap) : finE tab Tryz.f21 K .ret e h = K (e.get 4) h := zaj rfl
theorem fi24 (K : Value → Heap → Prop) (e : Env) (h : Heap) : finE tab Tryz.f24 K .ret e h = K (e.get 2) h := zaj rfl
theorem fi35 (K : Value → Heap → Prop) (e : Env) (h : Heap) : finE tab Tryz.f35 K .ret e h = K (e.get 6) h := zaj rfl
theorem fi36 (K : Value → Heap → Prop) (e : Env) (h : Heap) : finE tab Tryz.f36 K .ret e h = K (e.get 2) h := zaj rfl
theorem fi37 (K : Value → Heap → Prop) (e : Env) (h : Heap) : finE tab Tryz.f37 K .ret e h = K (e.get 2) h := zaj rfl
theorem fi52 (K : Value → Heap → Prop) (e : Env) (h : Heap) : finE tab Tryz.f52 K .ret e h = K (e.get 2) h := zaj rfl
theorem fi53 (K : Value → Heap → Prop) (e : Env) (h : Heap) : finE tab Tryz.f53 K .ret e h = K (e.get 2) h := zaj rfl
theorem fi54 (K : Value → Heap → Prop) (e : Env) (h : Heap) : finE tab Tryz.f54 K .ret e h = K (e.get 4) h := zaj rfl
theorem fi55 (K : Value → Heap → Prop) (e : Env) (h : Heap) : finE tab Tryz.f55 K .ret e h = K (e.get 2) h := zaj rfl
theorem fi56 (K : Value → Heap → Prop) (e : Env) (h : Heap) : finE tab Tryz.f56 K .ret e h = K (e.get 2) h := zaj rfl
theorem fi57 (K : Value → Heap → Prop) (e : Env) (h : Heap) : finE tab Tryz.f57 K .ret e h = K (e.get 6) h := zaj rfl
theorem fi58 (K : Value → Heap → Prop) (e : Env) (h : Heap) : finE tab Tryz.f58 K .ret e h = valE (za6 tab 26 (e.get 4) h) h K := zku rfl
theorem fi59 (K : Value → Heap → Prop) (e : Env) (h : Heap) : finE tab Tryz.f59 K .ret e h = K (e.get 2) h := zaj rfl
theorem fi62 (K : Value → Heap → Prop) (e : Env) (h : Heap) : finE tab Tryz.f62 K .ret e h = K (e.get 2) h := zaj rfl
theorem fi65 (K : Value → Heap → Prop) (e : Env) (h : Heap) : finE tab Tryz.f65 K .ret e h = K (e.get 4) h := zaj rfl
theorem fi66 (K : Value → Heap → Prop) (e : Env) (h : Heap) : finE tab Tryz.f66 K .ret e h = K (e.get 2) h := zaj rfl
theorem fi82 (K : Value → Heap → Prop) (e : Env) (h : Heap) : finE tab Tryz.f82 K .ret e h = K (e.get 4) h := zaj rfl
theorem fi90 (K : Value → Heap → Prop) (e : Env) (h : Heap) : finE tab Tryz.f90 K .ret e h = K (e.get 2) h := zaj rfl
theorem fi91 (K : Value → Heap → Prop) (e : Env) (h : Heap) : finE tab Tryz.f91 K .ret e h = K (e.get 2) h := zaj rfl
theorem fi92 (K : Value → Heap → Prop) (e : Env) (h : Heap) : finE tab Tryz.f92 K .ret e h = K (e.get 2) h := zaj rfl
theorem fi93 (K : Value → Heap → Prop) (e : Env) (h : Heap) : finE tab Tryz.f93 K .ret e h = K (e.get 2) h := zaj rfl
theorem fi94 (K : Value → Heap → Prop) (e : Env) (h : Heap) : finE tab Tryz.f94 K .ret e h = K undef h := ziL rfl
theorem fj94 (K : Value → Heap → Prop) (e : Env) (h : Heap) : finE tab Tryz.f94 K .normal e h = K undef h := ze7 rfl
theorem fi95 (K : Value → Heap → Prop) (e : Env) (h : Heap) : finE tab Tryz.f95 K .ret e h = K (.tuple #[e.get 6, e.get 7]) h := zix rfl
theorem fi96 (K : Value → Heap → Prop) (e : Env) (h : Heap) : finE tab Tryz.f96 K .ret e h = valE (za6 tab 23 (e.get 4) h) h K := zku rfl
theorem fi97 (K : Value → Heap → Prop) (e : Env) (h : Heap) : finE tab Tryz.f97 K .ret e h = K undef h := ziL rfl
theorem fj97 (K : Value → Heap → Prop) (e : Env) (h : Heap) : finE tab Tryz.f97 K .normal e h = K undef h := ze7 rfl
theorem fi98 (K : Value → Heap → Prop) (e : Env) (h : Heap) : finE tab Tryz.f98 K .ret e h = K (e.get 4) h := zaj rfl
theorem fi99 (K : Value → Heap → Prop) (e : Env) (h : Heap) : finE tab Tryz.f99 K .ret e h = K (e.get 4) h := zaj rfl
theorem zzG (K : Value → Heap → Prop) (e : Env) (h : Heap) : finE tab Tryz.f100 K .ret e h = K (e.get 4) h := zaj rfl
theorem zzR (K : Value → Heap → Prop) (e : Env) (h : Heap) : finE tab Tryz.f102 K .ret e h = K (e.get 2) h := zaj rfl
theorem zy9 (K : Value → Heap → Prop) (e : Env) (h : Heap) : finE tab Tryz.f108 K .ret e h = K (e.get 4) h := zaj rfl
theorem zyW (K : Value → Heap → Prop) (e : Env) (h : Heap) : finE tab Tryz.f115 K .ret e h = K (e.get 2) h := zaj rfl
theorem zzA (K : Value → Heap → Prop) (e : Env) (h : Heap) : finE tab Tryz.f116 K .ret e h = K (e.get 4) h := zaj rfl
theorem zz1 (K : Value → Heap → Prop) (e : Env) (h : Heap) : finE tab Tryz.f117 K .ret e h = K (e.get 3) h := zaj rfl
theorem zyM (K : Value → Heap → Prop) (e : Env) (h : Heap) : finE tab Tryz.f118 K .ret e h = K (.tuple #[e.get 4, e.get 5]) h := zix rfl
theorem zz0 (K : Value → Heap → Prop) (e : Env) (h : Heap) : finE tab Tryz.f120 K .ret e h = K (e.get 2) h := zaj rfl
theorem zy4 (K : Value → Heap → Prop) (e : Env) (h : Heap) : finE tab Tryz.f121 K .ret e h = K (e.get 2) h := zaj rfl
theorem zyN (K : Value → Heap → Prop) (e : Env) (h : Heap) : finE tab Tryz.f122 K .ret e h = K (e.get 2) h := zaj rfl
theorem zzs (K : Value → Heap → Prop) (e : Env) (h : Heap) : finE tab Tryz.f123 K .ret e h = K (e.get 2) h := zaj rfl
theorem zAb (K : Value → Heap → Prop) (e : Env) (h : Heap) : finE tab Tryz.f124 K .ret e h = K (e.get 2) h := zaj rfl
theorem zzv (K : Value → Heap → Prop) (e : Env) (h : Heap) : finE tab Tryz.f125 K .ret e h = K (e.get 2) h := zaj rfl
theorem zyY (K : Value → Heap → Prop) (e : Env) (h : Heap) : finE tab Tryz.f126 K .ret e h = K (e.get 4) h := zaj rfl
theorem zyG (K : Value → Heap → Prop) (e : Env) (h : Heap) : finE tab Tryz.f127 K .ret e h = K (e.get 2) h := zaj rfl
theorem zz6 (K : Value → Heap → Prop) (e : Env) (h : Heap) : finE tab Tryz.f128 K .ret e h = K (e.get 2) h := zaj rfl
theorem zy6 (K : Value → Heap → Prop) (e : Env) (h : Heap) : finE tab Tryz.f129 K .ret e h = K (e.get 2) h := zaj rfl
theorem zyL (K : Value → Heap → Prop) (e : Env) (h : Heap) : finE tab Tryz.f130 K .ret e h = K (e.get 4) h := zaj rfl
theorem zy2 (K : Value → Heap → Prop) (e : Env) (h : Heap) : finE tab Tryz.f131 K .ret e h = valE (za6 tab 23 (e.get 4) h) h (fun x h' => K (.tuple #[x, e.get 5]) h') := znz rfl
theorem zzm (K : Value → Heap → Prop) (e : Env) (h : Heap) : finE tab Tryz.f132 K .ret e h = K (e.get 2) h := zaj rfl
theorem zzj (K : Value → Heap → Prop) (e : Env) (h : Heap) : finE tab Tryz.f133 K .ret e h = K (.tuple #[e.get 6, e.get 7]) h := zix rfl
theorem zyT (K : Value → Heap → Prop) (e : Env) (h : Heap) : finE tab Tryz.f134 K .ret e h = K undef h := ziL rfl
theorem zzZ (K : Value → Heap → Prop) (e : Env) (h : Heap) : finE tab Tryz.f134 K .normal e h = K undef h := ze7 rfl
theorem zzV (K : Value → Heap → Prop) (e : Env) (h : Heap) : finE tab Tryz.f136 K .ret e h = K (e.get 2) h := zaj rfl
theorem zzU (K : Value → Heap → Prop) (e : Env) (h : Heap) : finE tab Tryz.f137 K .ret e h = K (e.get 2) h := zaj rfl
theorem zzc (K : Value → Heap → Prop) (e : Env) (h : Heap) : finE tab Tryz.f140 K .ret e h = K (e.get 4) h := zaj rfl
theorem zzN (K : Value → Heap → Prop) (e : Env) (h : Heap) : finE tab Tryz.f150 K .ret e h = K (e.get 2) h := zaj rfl
theorem zzp (K : Value → Heap → Prop) (e : Env) (h : Heap) : finE tab Tryz.f151 K .ret e h = K (e.get 4) h := zaj rfl
theorem zzg (K : Value → Heap → Prop) (e : Env) (h : Heap) : finE tab Tryz.f152 K .ret e h = K (.tuple #[e.get 6, e.get 7]) h := zix rfl
theorem zyO (K : Value → Heap → Prop) (e : Env) (h : Heap) : finE tab Tryz.f155 K .ret e h = K (e.get 2) h := zaj rfl
theorem zzD (K : Value → Heap → Prop) (e : Env) (h : Heap) : finE tab Tryz.f156 K .ret e h = K (e.get 2) h := zaj rfl
theorem zzT (K : Value → Heap → Prop) (e : Env) (h : Heap) : finE tab Tryz.f157 K .ret e h = K (e.get 2) h := zaj rfl
theorem zzY (K : Value → Heap → Prop) (e : Env) (h : Heap) : finE tab Tryz.f158 K .ret e h = K (e.get 4) h := zaj rfl
theorem zy1 (K : Value → Heap → Prop) (e : Env) (h : Heap) : finE tab Tryz.f159 K .ret e h = K (e.get 2) h := zaj rfl
theorem zyF (K : Value → Heap → Prop) (e : Env) (h : Heap) : finE tab Tryz.f160 K .ret e h = K (e.get 2) h := zaj rfl
theorem zyQ (K : Value → Heap → Prop) (e : Env) (h : Heap) : finE tab Tryz.f161 K .ret e h = K (e.get 4) h := zaj rfl
theorem zz2 (K : Value → Heap → Prop) (e : Env) (h : Heap) : finE tab Tryz.f162 K .ret e h = K (e.get 2) h := zaj rfl
theorem zyI (K : Value → Heap → Prop) (e : Env) (h : Heap) : finE tab Tryz.f163 K .ret e h = K (e.get 2) h := zaj rfl
theorem zAe (K : Value → Heap → Prop) (e : Env) (h : Heap) : finE tab Tryz.f164 K .ret e h = K (e.get 2) h := zaj rfl
theorem zyS (K : Value → Heap → Prop) (e : Env) (h : Heap) : finE tab Tryz.f165 K .ret e h = K (e.get 2) h := zaj rfl
theorem zzC (K : Value → Heap → Prop) (e : Env) (h : Heap) : finE tab Tryz.f166 K .ret e h = K (e.get 2) h := zaj rfl
theorem zzh (K : Value → Heap → Prop) (e : Env) (h : Heap) : finE tab Tryz.f167 K .ret e h = K (e.get 2) h := zaj rfl
theorem zzd (K : Value → Heap → Prop) (e : Env) (h : Heap) : finE tab Tryz.f168 K .ret e h = K (e.get 4) h := zaj rfl
theorem zzO (K : Value → Heap → Prop) (e : Env) (h : Heap) : finE tab Tryz.f169 K .ret e h = K (e.get 4) h := zaj rfl
theorem zyX (K : Value → Heap → Prop) (e : Env) (h : Heap) : finE tab Tryz.f170 K .ret e h = K (e.get 2) h := zaj rfl
theorem zAa (K : Value → Heap → Prop) (e : Env) (h : Heap) : finE tab Tryz.f171 K .ret e h = K (e.get 4) h := zaj rfl
theorem zzI (K : Value → Heap → Prop) (e : Env) (h : Heap) : finE tab Tryz.f172 K .ret e h = K (e.get 4) h := zaj rfl
theorem zzJ (K : Value → Heap → Prop) (e : Env) (h : Heap) : finE tab Tryz.f173 K .ret e h = K undef h := ziL rfl
theorem zx4 (K : Value → Heap → Prop) (e : Env) (h : Heap) : finE tab Tryz.f173 K .normal e h = K undef h := ze7 rfl
theorem zzk (K : Value → Heap → Prop) (e : Env) (h : Heap) : finE tab Tryz.f174 K .ret e h = K undef h := ziL rfl
theorem zyR (K : Value → Heap → Prop) (e : Env) (h : Heap) : finE tab Tryz.f174 K .normal e h = K undef h := ze7 rfl
theorem zzB (K : Value → Heap → Prop) (e : Env) (h : Heap) : finE tab Tryz.f181 K .ret e h = K (e.get 2) h := zaj rfl
theorem zza (K : Value → Heap → Prop) (e : Env) (h : Heap) : finE tab Tryz.f182 K .ret e h = K (e.get 2) h := zaj rfl
theorem zzK (K : Value → Heap → Prop) (e : Env) (h : Heap) : finE tab Tryz.f183 K .ret e h = K (e.get 2) h := zaj rfl
theorem zy0 (K : Value → Heap → Prop) (e : Env) (h : Heap) : finE tab Tryz.f184 K .ret e h = K (e.get 2) h := zaj rfl
theorem zz5 (K : Value → Heap → Prop) (e : Env) (h : Heap) : finE tab Tryz.f185 K .ret e h = K (e.get 6) h := zaj rfl
theorem zzF (K : Value → Heap → Prop) (e : Env) (h : Heap) : finE tab Tryz.f186 K .ret e h = K (e.get 2) h := zaj rfl
theorem zzP (K : Value → Heap → Prop) (e : Env) (h : Heap) : finE tab Tryz.f187 K .ret e h = K (e.get 2) h := zaj rfl
theorem zyZ (K : Value → Heap → Prop) (e : Env) (h : Heap) : finE tab Tryz.f188 K .ret e h = K (e.get 2) h := zaj rfl
theorem zzb (K : Value → Heap → Prop) (e : Env) (h : Heap) : finE tab Tryz.f189 K .ret e h = K (e.get 4) h := zaj rfl
theorem zzf (K : Value → Heap → Prop) (e : Env) (h : Heap) : finE tab Tryz.f190 K .ret e h = K (e.get 2) h := zaj rfl
theorem zzW (K : Value → Heap → Prop) (e : Env) (h : Heap) : finE tab Tryz.f191 K .ret e h = K (e.get 2) h := zaj rfl
theorem zzu (K : Value → Heap → Prop) (e : Env) (h : Heap) : finE tab Tryz.f192 K .ret e h = K (e.get 4) h := zaj rfl
theorem zyK (K : Value → Heap → Prop) (e : Env) (h : Heap) : finE tab Tryz.f193 K .ret e h = K (e.get 4) h := zaj rfl
theorem zzz (K : Value → Heap → Prop) (e : Env) (h : Heap) : finE tab Tryz.f194 K .ret e h = K undef h := ziL rfl
theorem zzX (K : Value → Heap → Prop) (e : Env) (h : Heap) : finE tab Tryz.f194 K .normal e h = K undef h := ze7 rfl
theorem zz7 (K : Value → Heap → Prop) (e : Env) (h : Heap) : finE tab Tryz.f214 K .ret e h = K (e.get 0) h := zaj rfl
theorem zyJ (K : Value → Heap → Prop) (e : Env) (h : Heap) : finE tab Tryz.f215 K .ret e h = K (e.get 2) h := zaj rfl
theorem zzo (K : Value → Heap → Prop) (e : Env) (h : Heap) : finE tab Tryz.f216 K .ret e h = K (e.get 0) h := zaj rfl
theorem zy8 (K : Value → Heap → Prop) (e : Env) (h : Heap) : finE tab Tryz.f217 K .ret e h = K (e.get 2) h := zaj rfl
theorem zzL (K : Value → Heap → Prop) (e : Env) (h : Heap) : finE tab Tryz.f218 K .ret e h = K (e.get 2) h := zaj rfl
theorem zzS (K : Value → Heap → Prop) (e : Env) (h : Heap) : finE tab Tryz.f219 K .ret e h = K (e.get 2) h := zaj rfl
theorem zzi (K : Value → Heap → Prop) (e : Env) (h : Heap) : finE tab Tryz.f220 K .ret e h = K undef h := ziL rfl
theorem zAd (K : Value → Heap → Prop) (e : Env) (h : Heap) : finE tab Tryz.f220 K .normal e h = K undef h := ze7 rfl
end Go.Proofs.YtemapihoobmonaaGreatDoor

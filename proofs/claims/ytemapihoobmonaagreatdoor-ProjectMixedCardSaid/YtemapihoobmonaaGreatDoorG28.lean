/- What the plain machine's operations come to at this seat's types. Written by a program (mksim.py). No condition. -/
import Derived.Test.YtemapihoobmonaaGreatDoorG11
import Derived.Test.YtemapihoobmonaaGreatDoorGSym
import Derived.Test.YtemapihoobmonaaGreatDoorG27
namespace Go.Proofs.YtemapihoobmonaaGreatDoor
open Go.Am
theorem sz3 : zaH tab 3 = some 1 := by kernel_rfl
theorem ag3 : aggA tab 3 = some false := by kernel_rfl
theorem ld3 (A o : Nat) (h : Heap) : zaM tab 3 (.pointer (some ⟨A, o, none⟩)) h = zgR (h.get A) o := zcz ag3
theorem sz4 : zaH tab 4 = some 1 := by kernel_rfl
theorem ag4 : aggA tab 4 = some false := by kernel_rfl
theorem ld4 (A o : Nat) (h : Heap) : zaM tab 4 (.pointer (some ⟨A, o, none⟩)) h = zgR (h.get A) o := zcz ag4
theorem sz9 : zaH tab 9 = some 1 := by kernel_rfl
theorem ag9 : aggA tab 9 = some false := by kernel_rfl
theorem ld9 (A o : Nat) (h : Heap) : zaM tab 9 (.pointer (some ⟨A, o, none⟩)) h = zgR (h.get A) o := zcz ag9
theorem ds9 : tab.desc 9 = some .string := by kernel_rfl
theorem ln9 (s : ByteArray) (h : Heap) : lenA tab 9 (.string s) h = some (.int .i64 s.size) := zuG ds9
theorem sz23 : zaH tab 23 = some 2 := by kernel_rfl
theorem ag23 : aggA tab 23 = some true := by kernel_rfl
theorem ld23 (A o : Nat) (h : Heap) : zaM tab 23 (.pointer (some ⟨A, o, none⟩)) h = cutO (h.get A) o 2 := zdr ag23 sz23
theorem al23 (P : Program) (ov : Ov) (d : Option Tmp) (ty : TypeId) (pos : String) (af : Array Edge) (g : Option (Nat × Bool)) (e : Env) (h : Heap) (K : Value → Heap → Prop) : WOp P tab ov ⟨d, .alloc 23, ty, pos, af, g⟩ e h K = K (.pointer (some ⟨h.size, 0, none⟩)) (h.push (.row [.bool false, .string ⟨#[]⟩] 23 false)) := zgM d ty pos af g e h K 23 zqF
theorem ztH (A o : Nat) : zac tab 23 (.pointer (some ⟨A, o, none⟩)) 0 = some (.pointer (some ⟨A, o + 0, none⟩)) := Eq.refl _
theorem zoW (A o : Nat) : zac tab 23 (.pointer (some ⟨A, o, none⟩)) 1 = some (.pointer (some ⟨A, o + 1, none⟩)) := Eq.refl _
theorem ds24 : tab.desc 24 = some (.array 4 23) := by kernel_rfl
theorem ix24 (A o : Nat) (ik : IntKind) (i : Int) : zal tab 24 (.pointer (some ⟨A, o, none⟩)) (.int ik i) = if 0 ≤ i ∧ i < 4 then some (.pointer (some ⟨A, o + i.toNat * 2, none⟩)) else none := zxT ds24 (by kernel_rfl)
theorem sz26 : zaH tab 26 = some 11 := by kernel_rfl
theorem ag26 : aggA tab 26 = some true := by kernel_rfl
theorem ld26 (A o : Nat) (h : Heap) : zaM tab 26 (.pointer (some ⟨A, o, none⟩)) h = cutO (h.get A) o 11 := zdr ag26 sz26
theorem al26 (P : Program) (ov : Ov) (d : Option Tmp) (ty : TypeId) (pos : String) (af : Array Edge) (g : Option (Nat × Bool)) (e : Env) (h : Heap) (K : Value → Heap → Prop) : WOp P tab ov ⟨d, .alloc 26, ty, pos, af, g⟩ e h K = K (.pointer (some ⟨h.size, 0, none⟩)) (h.push (.row [.string ⟨#[]⟩, .string ⟨#[]⟩, .int .i64 0, .bool false, .string ⟨#[]⟩, .bool false, .string ⟨#[]⟩, .bool false, .string ⟨#[]⟩, .bool false, .string ⟨#[]⟩] 26 false)) := zgM d ty pos af g e h K 26 zri
theorem zsf (A o : Nat) : zac tab 26 (.pointer (some ⟨A, o, none⟩)) 0 = some (.pointer (some ⟨A, o + 0, none⟩)) := Eq.refl _
theorem zsj (A o : Nat) : zac tab 26 (.pointer (some ⟨A, o, none⟩)) 1 = some (.pointer (some ⟨A, o + 1, none⟩)) := Eq.refl _
theorem zpr (A o : Nat) : zac tab 26 (.pointer (some ⟨A, o, none⟩)) 2 = some (.pointer (some ⟨A, o + 2, none⟩)) := Eq.refl _
theorem zj2 (A o : Nat) : zac tab 26 (.pointer (some ⟨A, o, none⟩)) 3 = some (.pointer (some ⟨A, o + 3, none⟩)) := Eq.refl _
theorem ag27 : aggA tab 27 = some false := by kernel_rfl
theorem ld27 (A o : Nat) (h : Heap) : zaM tab 27 (.pointer (some ⟨A, o, none⟩)) h = zgR (h.get A) o := zcz ag27
theorem ds27 : tab.desc 27 = some (.slice 26) := by kernel_rfl
theorem ln27 (a : Option Addr) (n c : Nat) (h : Heap) : lenA tab 27 (.slice a n c) h = some (.int .i64 n) := zbs ds27
theorem ix27 (A o n c : Nat) (ik : IntKind) (i : Int) : zal tab 27 (.slice (some ⟨A, o, none⟩) n c) (.int ik i) = if 0 ≤ i ∧ i < n then some (.pointer (some ⟨A, o + i.toNat * 11, none⟩)) else none := zbV ds27 (by kernel_rfl)
theorem sz29 : zaH tab 29 = some 12 := by kernel_rfl
theorem ag29 : aggA tab 29 = some true := by kernel_rfl
theorem ld29 (A o : Nat) (h : Heap) : zaM tab 29 (.pointer (some ⟨A, o, none⟩)) h = cutO (h.get A) o 12 := zdr ag29 sz29
theorem zwL (A o : Nat) : zac tab 29 (.pointer (some ⟨A, o, none⟩)) 0 = some (.pointer (some ⟨A, o + 0, none⟩)) := Eq.refl _
theorem zwA (A o : Nat) : zac tab 29 (.pointer (some ⟨A, o, none⟩)) 1 = some (.pointer (some ⟨A, o + 11, none⟩)) := Eq.refl _
theorem ds30 : tab.desc 30 = some (.slice 3) := by kernel_rfl
theorem ln30 (a : Option Addr) (n c : Nat) (h : Heap) : lenA tab 30 (.slice a n c) h = some (.int .i64 n) := zbs ds30
theorem ix30 (A o n c : Nat) (ik : IntKind) (i : Int) : zal tab 30 (.slice (some ⟨A, o, none⟩) n c) (.int ik i) = if 0 ≤ i ∧ i < n then some (.pointer (some ⟨A, o + i.toNat * 1, none⟩)) else none := zbV ds30 (by kernel_rfl)
theorem ds32 : tab.desc 32 = some (.slice 29) := by kernel_rfl
theorem ln32 (a : Option Addr) (n c : Nat) (h : Heap) : lenA tab 32 (.slice a n c) h = some (.int .i64 n) := zbs ds32
theorem bs32 (n : Nat) (parts : List (Nat × Value)) (h : Heap) : zaG tab 32 n parts h = if n * 12 > 16777216 || n > 16777216 then Option.none else (zdY (fun i => some (i * 12, 12)) (zbz [.string ⟨#[]⟩, .string ⟨#[]⟩, .int .i64 0, .bool false, .string ⟨#[]⟩, .bool false, .string ⟨#[]⟩, .bool false, .string ⟨#[]⟩, .bool false, .string ⟨#[]⟩, .slice none 0 0] n) parts).map fun cs => (.slice (some ⟨h.size, 0, none⟩) n n, h.push (.row cs 29 false)) := bsl ds32 zrb n parts h
theorem ix32 (A o n c : Nat) (ik : IntKind) (i : Int) : zal tab 32 (.slice (some ⟨A, o, none⟩) n c) (.int ik i) = if 0 ≤ i ∧ i < n then some (.pointer (some ⟨A, o + i.toNat * 12, none⟩)) else none := zbV ds32 (by kernel_rfl)
theorem ds36 : tab.desc 36 = some (.slice 141) := by kernel_rfl
theorem bs36 (n : Nat) (parts : List (Nat × Value)) (h : Heap) : zaG tab 36 n parts h = if n * 3 > 16777216 || n > 16777216 then Option.none else (zdY (fun i => some (i * 3, 3)) (zbz [.string ⟨#[]⟩, .bool false, .string ⟨#[]⟩] n) parts).map fun cs => (.slice (some ⟨h.size, 0, none⟩) n n, h.push (.row cs 141 false)) := bsl ds36 zns n parts h
theorem sz44 : zaH tab 44 = some 1 := by kernel_rfl
theorem ag44 : aggA tab 44 = some false := by kernel_rfl
theorem ld44 (A o : Nat) (h : Heap) : zaM tab 44 (.pointer (some ⟨A, o, none⟩)) h = zgR (h.get A) o := zcz ag44
theorem ag49 : aggA tab 49 = some false := by kernel_rfl
theorem ld49 (A o : Nat) (h : Heap) : zaM tab 49 (.pointer (some ⟨A, o, none⟩)) h = zgR (h.get A) o := zcz ag49
theorem ds49 : tab.desc 49 = some (.slice 9) := by kernel_rfl
theorem ln49 (a : Option Addr) (n c : Nat) (h : Heap) : lenA tab 49 (.slice a n c) h = some (.int .i64 n) := zbs ds49
theorem bs49 (n : Nat) (parts : List (Nat × Value)) (h : Heap) : zaG tab 49 n parts h = if n * 1 > 16777216 || n > 16777216 then Option.none else (zdY (fun i => some (i * 1, 1)) (zbz [.string ⟨#[]⟩] n) parts).map fun cs => (.slice (some ⟨h.size, 0, none⟩) n n, h.push (.row cs 9 false)) := bsl ds49 zmB n parts h
theorem ix49 (A o n c : Nat) (ik : IntKind) (i : Int) : zal tab 49 (.slice (some ⟨A, o, none⟩) n c) (.int ik i) = if 0 ≤ i ∧ i < n then some (.pointer (some ⟨A, o + i.toNat * 1, none⟩)) else none := zbV ds49 (by kernel_rfl)
theorem ag50 : aggA tab 50 = some false := by kernel_rfl
theorem ld50 (A o : Nat) (h : Heap) : zaM tab 50 (.pointer (some ⟨A, o, none⟩)) h = zgR (h.get A) o := zcz ag50
theorem ds50 : tab.desc 50 = some (.slice 110) := by kernel_rfl
theorem ln50 (a : Option Addr) (n c : Nat) (h : Heap) : lenA tab 50 (.slice a n c) h = some (.int .i64 n) := zbs ds50
theorem ix50 (A o n c : Nat) (ik : IntKind) (i : Int) : zal tab 50 (.slice (some ⟨A, o, none⟩) n c) (.int ik i) = if 0 ≤ i ∧ i < n then some (.pointer (some ⟨A, o + i.toNat * 2, none⟩)) else none := zbV ds50 (by kernel_rfl)
theorem ag51 : aggA tab 51 = some false := by kernel_rfl
theorem ld51 (A o : Nat) (h : Heap) : zaM tab 51 (.pointer (some ⟨A, o, none⟩)) h = zgR (h.get A) o := zcz ag51
theorem ds51 : tab.desc 51 = some (.slice 112) := by kernel_rfl
theorem ln51 (a : Option Addr) (n c : Nat) (h : Heap) : lenA tab 51 (.slice a n c) h = some (.int .i64 n) := zbs ds51
theorem ix51 (A o n c : Nat) (ik : IntKind) (i : Int) : zal tab 51 (.slice (some ⟨A, o, none⟩) n c) (.int ik i) = if 0 ≤ i ∧ i < n then some (.pointer (some ⟨A, o + i.toNat * 2, none⟩)) else none := zbV ds51 (by kernel_rfl)
theorem ag52 : aggA tab 52 = some false := by kernel_rfl
theorem ld52 (A o : Nat) (h : Heap) : zaM tab 52 (.pointer (some ⟨A, o, none⟩)) h = zgR (h.get A) o := zcz ag52
theorem ds52 : tab.desc 52 = some (.slice 113) := by kernel_rfl
theorem ln52 (a : Option Addr) (n c : Nat) (h : Heap) : lenA tab 52 (.slice a n c) h = some (.int .i64 n) := zbs ds52
theorem ix52 (A o n c : Nat) (ik : IntKind) (i : Int) : zal tab 52 (.slice (some ⟨A, o, none⟩) n c) (.int ik i) = if 0 ≤ i ∧ i < n then some (.pointer (some ⟨A, o + i.toNat * 12, none⟩)) else none := zbV ds52 (by kernel_rfl)
theorem ag53 : aggA tab 53 = some false := by kernel_rfl
theorem ld53 (A o : Nat) (h : Heap) : zaM tab 53 (.pointer (some ⟨A, o, none⟩)) h = zgR (h.get A) o := zcz ag53
theorem ds53 : tab.desc 53 = some (.slice 115) := by kernel_rfl
theorem ln53 (a : Option Addr) (n c : Nat) (h : Heap) : lenA tab 53 (.slice a n c) h = some (.int .i64 n) := zbs ds53
theorem ix53 (A o n c : Nat) (ik : IntKind) (i : Int) : zal tab 53 (.slice (some ⟨A, o, none⟩) n c) (.int ik i) = if 0 ≤ i ∧ i < n then some (.pointer (some ⟨A, o + i.toNat * 13, none⟩)) else none := zbV ds53 (by kernel_rfl)
theorem sz55 : zaH tab 55 = some 7 := by kernel_rfl
theorem ag55 : aggA tab 55 = some true := by kernel_rfl
theorem ld55 (A o : Nat) (h : Heap) : zaM tab 55 (.pointer (some ⟨A, o, none⟩)) h = cutO (h.get A) o 7 := zdr ag55 sz55
theorem al55 (P : Program) (ov : Ov) (d : Option Tmp) (ty : TypeId) (pos : String) (af : Array Edge) (g : Option (Nat × Bool)) (e : Env) (h : Heap) (K : Value → Heap → Prop) : WOp P tab ov ⟨d, .alloc 55, ty, pos, af, g⟩ e h K = K (.pointer (some ⟨h.size, 0, none⟩)) (h.push (.row [.slice none 0 0, .slice none 0 0, .slice none 0 0, .int .i64 0, .int .i64 0, .slice none 0 0, .slice none 0 0] 55 false)) := zgM d ty pos af g e h K 55 zpR
theorem zwz (A o : Nat) : zac tab 55 (.pointer (some ⟨A, o, none⟩)) 0 = some (.pointer (some ⟨A, o + 0, none⟩)) := Eq.refl _
theorem zyy (A o : Nat) : zac tab 55 (.pointer (some ⟨A, o, none⟩)) 1 = some (.pointer (some ⟨A, o + 1, none⟩)) := Eq.refl _
theorem zsr (A o : Nat) : zac tab 55 (.pointer (some ⟨A, o, none⟩)) 2 = some (.pointer (some ⟨A, o + 2, none⟩)) := Eq.refl _
theorem zyX (A o : Nat) : zac tab 55 (.pointer (some ⟨A, o, none⟩)) 5 = some (.pointer (some ⟨A, o + 5, none⟩)) := Eq.refl _
theorem zyF (A o : Nat) : zac tab 55 (.pointer (some ⟨A, o, none⟩)) 6 = some (.pointer (some ⟨A, o + 6, none⟩)) := Eq.refl _
theorem sz57 : zaH tab 57 = some 12 := by kernel_rfl
theorem ag57 : aggA tab 57 = some true := by kernel_rfl
theorem ld57 (A o : Nat) (h : Heap) : zaM tab 57 (.pointer (some ⟨A, o, none⟩)) h = cutO (h.get A) o 12 := zdr ag57 sz57
theorem al57 (P : Program) (ov : Ov) (d : Option Tmp) (ty : TypeId) (pos : String) (af : Array Edge) (g : Option (Nat × Bool)) (e : Env) (h : Heap) (K : Value → Heap → Prop) : WOp P tab ov ⟨d, .alloc 57, ty, pos, af, g⟩ e h K = K (.pointer (some ⟨h.size, 0, none⟩)) (h.push (.row [.int .i64 0, .string ⟨#[]⟩, .string ⟨#[]⟩, .int .i64 0, .bool false, .string ⟨#[]⟩, .bool false, .string ⟨#[]⟩, .bool false, .string ⟨#[]⟩, .bool false, .string ⟨#[]⟩] 57 false)) := zgM d ty pos af g e h K 57 zqd
theorem zoX (A o : Nat) : zac tab 57 (.pointer (some ⟨A, o, none⟩)) 0 = some (.pointer (some ⟨A, o + 0, none⟩)) := Eq.refl _
theorem zwF (A o : Nat) : zac tab 57 (.pointer (some ⟨A, o, none⟩)) 1 = some (.pointer (some ⟨A, o + 1, none⟩)) := Eq.refl _
theorem sz62 : zaH tab 62 = some 2 := by kernel_rfl
theorem ag62 : aggA tab 62 = some true := by kernel_rfl
theorem ld62 (A o : Nat) (h : Heap) : zaM tab 62 (.pointer (some ⟨A, o, none⟩)) h = cutO (h.get A) o 2 := zdr ag62 sz62
theorem al62 (P : Program) (ov : Ov) (d : Option Tmp) (ty : TypeId) (pos : String) (af : Array Edge) (g : Option (Nat × Bool)) (e : Env) (h : Heap) (K : Value → Heap → Prop) : WOp P tab ov ⟨d, .alloc 62, ty, pos, af, g⟩ e h K = K (.pointer (some ⟨h.size, 0, none⟩)) (h.push (.row [.string ⟨#[]⟩, .string ⟨#[]⟩] 62 false)) := zgM d ty pos af g e h K 62 zdK
theorem zpv (A o : Nat) : zac tab 62 (.pointer (some ⟨A, o, none⟩)) 0 = some (.pointer (some ⟨A, o + 0, none⟩)) := Eq.refl _
theorem zo7 (A o : Nat) : zac tab 62 (.pointer (some ⟨A, o, none⟩)) 1 = some (.pointer (some ⟨A, o + 1, none⟩)) := Eq.refl _
theorem ds69 : tab.desc 69 = some (.slice 62) := by kernel_rfl
theorem ln69 (a : Option Addr) (n c : Nat) (h : Heap) : lenA tab 69 (.slice a n c) h = some (.int .i64 n) := zbs ds69
theorem bs69 (n : Nat) (parts : List (Nat × Value)) (h : Heap) : zaG tab 69 n parts h = if n * 2 > 16777216 || n > 16777216 then Option.none else (zdY (fun i => some (i * 2, 2)) (zbz [.string ⟨#[]⟩, .string ⟨#[]⟩] n) parts).map fun cs => (.slice (some ⟨h.size, 0, none⟩) n n, h.push (.row cs 62 false)) := bsl ds69 zdK n parts h
theorem ix69 (A o n c : Nat) (ik : IntKind) (i : Int) : zal tab 69 (.slice (some ⟨A, o, none⟩) n c) (.int ik i) = if 0 ≤ i ∧ i < n then some (.pointer (some ⟨A, o + i.toNat * 2, none⟩)) else none := zbV ds69 (by kernel_rfl)
theorem zAn : zaH tab 110 = some 2 := by kernel_rfl
theorem ztt (A o : Nat) : zac tab 110 (.pointer (some ⟨A, o, none⟩)) 0 = some (.pointer (some ⟨A, o + 0, none⟩)) := Eq.refl _
theorem znm : zaH tab 112 = some 2 := by kernel_rfl
theorem zwV : aggA tab 112 = some true := by kernel_rfl
theorem zzO (A o : Nat) (h : Heap) : zaM tab 112 (.pointer (some ⟨A, o, none⟩)) h = cutO (h.get A) o 2 := zdr zwV znm
theorem zoj (A o : Nat) : zac tab 112 (.pointer (some ⟨A, o, none⟩)) 0 = some (.pointer (some ⟨A, o + 0, none⟩)) := Eq.refl _
theorem zkz (A o : Nat) : zac tab 112 (.pointer (some ⟨A, o, none⟩)) 1 = some (.pointer (some ⟨A, o + 1, none⟩)) := Eq.refl _
theorem zyI : zaH tab 113 = some 12 := by kernel_rfl
theorem zr1 (A o : Nat) : zac tab 113 (.pointer (some ⟨A, o, none⟩)) 0 = some (.pointer (some ⟨A, o + 0, none⟩)) := Eq.refl _
theorem zsq (A o : Nat) : zac tab 113 (.pointer (some ⟨A, o, none⟩)) 1 = some (.pointer (some ⟨A, o + 11, none⟩)) := Eq.refl _
theorem zy7 : zaH tab 115 = some 13 := by kernel_rfl
theorem zsD (A o : Nat) : zac tab 115 (.pointer (some ⟨A, o, none⟩)) 0 = some (.pointer (some ⟨A, o + 0, none⟩)) := Eq.refl _
theorem zsp (A o : Nat) : zac tab 115 (.pointer (some ⟨A, o, none⟩)) 1 = some (.pointer (some ⟨A, o + 1, none⟩)) := Eq.refl _
theorem ztc (A o : Nat) : zac tab 115 (.pointer (some ⟨A, o, none⟩)) 2 = some (.pointer (some ⟨A, o + 12, none⟩)) := Eq.refl _
theorem zkt : tab.desc 131 = some (.slice 133) := by kernel_rfl
theorem zy5 (a : Option Addr) (n c : Nat) (h : Heap) : lenA tab 131 (.slice a n c) h = some (.int .i64 n) := zbs zkt
theorem zzx (n : Nat) (parts : List (Nat × Value)) (h : Heap) : zaG tab 131 n parts h = if n * 3 > 16777216 || n > 16777216 then Option.none else (zdY (fun i => some (i * 3, 3)) (zbz [.int .i64 0, .string ⟨#[]⟩, .string ⟨#[]⟩] n) parts).map fun cs => (.slice (some ⟨h.size, 0, none⟩) n n, h.push (.row cs 133 false)) := bsl zkt zdi n parts h
theorem zvB (A o n c : Nat) (ik : IntKind) (i : Int) : zal tab 131 (.slice (some ⟨A, o, none⟩) n c) (.int ik i) = if 0 ≤ i ∧ i < n then some (.pointer (some ⟨A, o + i.toNat * 3, none⟩)) else none := zbV zkt (by kernel_rfl)
theorem ziz : zaH tab 133 = some 3 := by kernel_rfl
theorem zyn : aggA tab 133 = some true := by kernel_rfl
theorem zvY (A o : Nat) (h : Heap) : zaM tab 133 (.pointer (some ⟨A, o, none⟩)) h = cutO (h.get A) o 3 := zdr zyn ziz
theorem zzX (P : Program) (ov : Ov) (d : Option Tmp) (ty : TypeId) (pos : String) (af : Array Edge) (g : Option (Nat × Bool)) (e : Env) (h : Heap) (K : Value → Heap → Prop) : WOp P tab ov ⟨d, .alloc 133, ty, pos, af, g⟩ e h K = K (.pointer (some ⟨h.size, 0, none⟩)) (h.push (.row [.int .i64 0, .string ⟨#[]⟩, .string ⟨#[]⟩] 133 false)) := zgM d ty pos af g e h K 133 zdi
theorem ztb (A o : Nat) : zac tab 133 (.pointer (some ⟨A, o, none⟩)) 0 = some (.pointer (some ⟨A, o + 0, none⟩)) := Eq.refl _
theorem zyb (A o : Nat) : zac tab 133 (.pointer (some ⟨A, o, none⟩)) 1 = some (.pointer (some ⟨A, o + 1, none⟩)) := Eq.refl _
theorem zzN : zaH tab 141 = some 3 := by kernel_rfl
theorem zoM (A o : Nat) : zac tab 147 (.pointer (some ⟨A, o, none⟩)) 0 = some (.pointer (some ⟨A, o + 0, none⟩)) := Eq.refl _
theorem zk9 (A o : Nat) : zac tab 147 (.pointer (some ⟨A, o, none⟩)) 1 = some (.pointer (some ⟨A, o + 1, none⟩)) := Eq.refl _
theorem zuv : tab.desc 183 = some (.slice 23) := by kernel_rfl
theorem zyE (a : Option Addr) (n c : Nat) (h : Heap) : lenA tab 183 (.slice a n c) h = some (.int .i64 n) := zbs zuv
theorem zyY (A o n c : Nat) (ik : IntKind) (i : Int) : zal tab 183 (.slice (some ⟨A, o, none⟩) n c) (.int ik i) = if 0 ≤ i ∧ i < n then some (.pointer (some ⟨A, o + i.toNat * 2, none⟩)) else none := zbV zuv (by kernel_rfl)
theorem znJ (A o : Nat) : zac tab 195 (.pointer (some ⟨A, o, none⟩)) 0 = some (.pointer (some ⟨A, o + 0, none⟩)) := Eq.refl _
theorem zkb (A o : Nat) : zac tab 195 (.pointer (some ⟨A, o, none⟩)) 1 = some (.pointer (some ⟨A, o + 1, none⟩)) := Eq.refl _
theorem zik (A o : Nat) : zac tab 195 (.pointer (some ⟨A, o, none⟩)) 2 = some (.pointer (some ⟨A, o + 2, none⟩)) := Eq.refl _
theorem ztl (A o : Nat) : zac tab 197 (.pointer (some ⟨A, o, none⟩)) 0 = some (.pointer (some ⟨A, o + 0, none⟩)) := Eq.refl _
theorem fi5 (K : Value → Heap → Prop) (e : Env) (h : Heap) : finE tab Tryz.f5 K .ret e h = K (e.get 10) h := zaq rfl
theorem fi6 (K : Value → Heap → Prop) (e : Env) (h : Heap) : finE tab Tryz.f6 K .ret e h = K (e.get 8) h := zaq rfl
theorem fi8 (K : Value → Heap → Prop) (e : Env) (h : Heap) : finE tab Tryz.f8 K .ret e h = K (e.get 10) h := zaq rfl
theorem fi11 (K : Value → Heap → Prop) (e : Env) (h : Heap) : finE tab Tryz.f11 K .ret e h = K (e.get 4) h := zaq rfl
theorem fi12 (K : Value → Heap → Prop) (e : Env) (h : Heap) : finE tab Tryz.f12 K .ret e h = K (e.get 4) h := zaq rfl
theorem fi13 (K : Value → Heap → Prop) (e : Env) (h : Heap) : finE tab Tryz.f13 K .ret e h = K (e.get 4) h := zaq rfl
theorem fi15 (K : Value → Heap → Prop) (e : Env) (h : Heap) : finE tab Tryz.f15 K .ret e h = K (.tuple #[e.get 6, e.get 7]) h := zym rfl
theorem fi16 (K : Value → Heap → Prop) (e : Env) (h : Heap) : finE tab Tryz.f16 K .ret e h = K (e.get 4) h := zaq rfl
theorem fi18 (K : Value → Heap → Prop) (e : Env) (h : Heap) : finE tab Tryz.f18 K .ret e h = valE (zaM tab 26 (e.get 4) h) h K := zk3 rfl
theorem fi19 (K : Value → Heap → Prop) (e : Env) (h : Heap) : finE tab Tryz.f19 K .ret e h = K (e.get 2) h := zaq rfl
theorem fi21 (K : Value → Heap → Prop) (e : Env) (h : Heap) : finE tab Tryz.f21 K .ret e h = K (e.get 4) h := zaq rfl
theorem fi23 (K : Value → Heap → Prop) (e : Env) (h : Heap) : finE tab Tryz.f23 K .ret e h = K (e.get 2) h := zaq rfl
theorem fi24 (K : Value → Heap → Prop) (e : Env) (h : Heap) : finE tab Tryz.f24 K .ret e h = K (e.get 2) h := zaq rfl
theorem fi25 (K : Value → Heap → Prop) (e : Env) (h : Heap) : finE tab Tryz.f25 K .ret e h = K (e.get 6) h := zaq rfl
theorem fi29 (K : Value → Heap → Prop) (e : Env) (h : Heap) : finE tab Tryz.f29 K .ret e h = K (e.get 4) h := zaq rfl
theorem fi31 (K : Value → Heap → Prop) (e : Env) (h : Heap) : finE tab Tryz.f31 K .ret e h = K (e.get 6) h := zaq rfl
theorem fi33 (K : Value → Heap → Prop) (e : Env) (h : Heap) : finE tab Tryz.f33 K .ret e h = K (e.get 4) h := zaq rfl
theorem fi38 (K : Value → Heap → Prop) (e : Env) (h : Heap) : finE tab Tryz.f38 K .ret e h = K (e.get 10) h := zaq rfl
theorem fi39 (K : Value → Heap → Prop) (e : Env) (h : Heap) : finE tab Tryz.f39 K .ret e h = K (e.get 6) h := zaq rfl
theorem fi40 (K : Value → Heap → Prop) (e : Env) (h : Heap) : finE tab Tryz.f40 K .ret e h = K (e.get 8) h := zaq rfl
theorem fi69 (K : Value → Heap → Prop) (e : Env) (h : Heap) : finE tab Tryz.f69 K .ret e h = K (e.get 6) h := zaq rfl
theorem fi70 (K : Value → Heap → Prop) (e : Env) (h : Heap) : finE tab Tryz.f70 K .ret e h = valE (zaM tab 57 (e.get 2) h) h (fun x h' => K (.tuple #[x, e.get 3]) h') := zn0 rfl
theorem fi71 (K : Value → Heap → Prop) (e : Env) (h : Heap) : finE tab Tryz.f71 K .ret e h = K (e.get 6) h := zaq rfl
theorem fi80 (K : Value → Heap → Prop) (e : Env) (h : Heap) : finE tab Tryz.f80 K .ret e h = K (e.get 4) h := zaq rfl
theorem fi81 (K : Value → Heap → Prop) (e : Env) (h : Heap) : finE tab Tryz.f81 K .ret e h = K (e.get 4) h := zaq rfl
theorem fi83 (K : Value → Heap → Prop) (e : Env) (h : Heap) : finE tab Tryz.f83 K .ret e h = K (e.get 4) h := zaq rfl
theorem fi84 (K : Value → Heap → Prop) (e : Env) (h : Heap) : finE tab Tryz.f84 K .ret e h = K undef h := zi5 rfl
theorem fj84 (K : Value → Heap → Prop) (e : Env) (h : Heap) : finE tab Tryz.f84 K .normal e h = K undef h := zff rfl
theorem fi85 (K : Value → Heap → Prop) (e : Env) (h : Heap) : finE tab Tryz.f85 K .ret e h = K (e.get 4) h := zaq rfl
theorem fi86 (K : Value → Heap → Prop) (e : Env) (h : Heap) : finE tab Tryz.f86 K .ret e h = K (e.get 4) h := zaq rfl
theorem fi87 (K : Value → Heap → Prop) (e : Env) (h : Heap) : finE tab Tryz.f87 K .ret e h = K (e.get 4) h := zaq rfl
theorem zzs (K : Value → Heap → Prop) (e : Env) (h : Heap) : finE tab Tryz.f104 K .ret e h = K (e.get 2) h := zaq rfl
theorem zz6 (K : Value → Heap → Prop) (e : Env) (h : Heap) : finE tab Tryz.f105 K .ret e h = valE (zaM tab 26 (e.get 2) h) h K := zk3 rfl
theorem zAe (K : Value → Heap → Prop) (e : Env) (h : Heap) : finE tab Tryz.f106 K .ret e h = K undef h := zi5 rfl
theorem zAi (K : Value → Heap → Prop) (e : Env) (h : Heap) : finE tab Tryz.f106 K .normal e h = K undef h := zff rfl
theorem zAb (K : Value → Heap → Prop) (e : Env) (h : Heap) : finE tab Tryz.f107 K .ret e h = K (e.get 2) h := zaq rfl
theorem zzB (K : Value → Heap → Prop) (e : Env) (h : Heap) : finE tab Tryz.f108 K .ret e h = K (e.get 4) h := zaq rfl
theorem zAl (K : Value → Heap → Prop) (e : Env) (h : Heap) : finE tab Tryz.f109 K .ret e h = K (e.get 4) h := zaq rfl
theorem zAm (K : Value → Heap → Prop) (e : Env) (h : Heap) : finE tab Tryz.f113 K .ret e h = K (e.get 4) h := zaq rfl
theorem zzm (K : Value → Heap → Prop) (e : Env) (h : Heap) : finE tab Tryz.f114 K .ret e h = K (e.get 2) h := zaq rfl
theorem zzu (K : Value → Heap → Prop) (e : Env) (h : Heap) : finE tab Tryz.f119 K .ret e h = K undef h := zi5 rfl
theorem zzK (K : Value → Heap → Prop) (e : Env) (h : Heap) : finE tab Tryz.f119 K .normal e h = K undef h := zff rfl
theorem zAq (K : Value → Heap → Prop) (e : Env) (h : Heap) : finE tab Tryz.f125 K .ret e h = K (e.get 2) h := zaq rfl
theorem zAo (K : Value → Heap → Prop) (e : Env) (h : Heap) : finE tab Tryz.f138 K .ret e h = K (e.get 4) h := zaq rfl
theorem zzT (K : Value → Heap → Prop) (e : Env) (h : Heap) : finE tab Tryz.f140 K .ret e h = K (e.get 4) h := zaq rfl
theorem zzG (K : Value → Heap → Prop) (e : Env) (h : Heap) : finE tab Tryz.f141 K .ret e h = K (e.get 4) h := zaq rfl
theorem zzD (K : Value → Heap → Prop) (e : Env) (h : Heap) : finE tab Tryz.f142 K .ret e h = K (e.get 4) h := zaq rfl
theorem zz1 (K : Value → Heap → Prop) (e : Env) (h : Heap) : finE tab Tryz.f143 K .ret e h = K (e.get 3) h := zaq rfl
theorem zzW (K : Value → Heap → Prop) (e : Env) (h : Heap) : finE tab Tryz.f149 K .ret e h = K (e.get 4) h := zaq rfl
theorem zzP (K : Value → Heap → Prop) (e : Env) (h : Heap) : finE tab Tryz.f153 K .ret e h = K undef h := zi5 rfl
theorem zys (K : Value → Heap → Prop) (e : Env) (h : Heap) : finE tab Tryz.f153 K .normal e h = K undef h := zff rfl
theorem zzA (K : Value → Heap → Prop) (e : Env) (h : Heap) : finE tab Tryz.f154 K .ret e h = K undef h := zi5 rfl
theorem zz5 (K : Value → Heap → Prop) (e : Env) (h : Heap) : finE tab Tryz.f154 K .normal e h = K undef h := zff rfl
theorem zzy (K : Value → Heap → Prop) (e : Env) (h : Heap) : finE tab Tryz.f159 K .ret e h = K (e.get 2) h := zaq rfl
theorem zzt (K : Value → Heap → Prop) (e : Env) (h : Heap) : finE tab Tryz.f160 K .ret e h = K (e.get 2) h := zaq rfl
theorem zzI (K : Value → Heap → Prop) (e : Env) (h : Heap) : finE tab Tryz.f161 K .ret e h = K (e.get 4) h := zaq rfl
theorem zzC (K : Value → Heap → Prop) (e : Env) (h : Heap) : finE tab Tryz.f162 K .ret e h = K (e.get 2) h := zaq rfl
theorem zzU (K : Value → Heap → Prop) (e : Env) (h : Heap) : finE tab Tryz.f163 K .ret e h = K (e.get 2) h := zaq rfl
theorem zzV (K : Value → Heap → Prop) (e : Env) (h : Heap) : finE tab Tryz.f164 K .ret e h = K (e.get 2) h := zaq rfl
theorem zzv (K : Value → Heap → Prop) (e : Env) (h : Heap) : finE tab Tryz.f177 K .ret e h = valE (zaM tab 26 (e.get 2) h) h K := zk3 rfl
theorem zzR (K : Value → Heap → Prop) (e : Env) (h : Heap) : finE tab Tryz.f180 K .ret e h = K undef h := zi5 rfl
theorem zAf (K : Value → Heap → Prop) (e : Env) (h : Heap) : finE tab Tryz.f180 K .normal e h = K undef h := zff rfl
theorem zzL (K : Value → Heap → Prop) (e : Env) (h : Heap) : finE tab Tryz.f185 K .ret e h = K (e.get 6) h := zaq rfl
theorem zzQ (K : Value → Heap → Prop) (e : Env) (h : Heap) : finE tab Tryz.f186 K .ret e h = K (e.get 2) h := zaq rfl
theorem zzz (K : Value → Heap → Prop) (e : Env) (h : Heap) : finE tab Tryz.f187 K .ret e h = K (e.get 2) h := zaq rfl
theorem zzi (K : Value → Heap → Prop) (e : Env) (h : Heap) : finE tab Tryz.f188 K .ret e h = K (e.get 2) h := zaq rfl
theorem zzq (K : Value → Heap → Prop) (e : Env) (h : Heap) : finE tab Tryz.f189 K .ret e h = K (e.get 4) h := zaq rfl
theorem zz8 (K : Value → Heap → Prop) (e : Env) (h : Heap) : finE tab Tryz.f190 K .ret e h = K (e.get 2) h := zaq rfl
theorem zAg (K : Value → Heap → Prop) (e : Env) (h : Heap) : finE tab Tryz.f191 K .ret e h = K (e.get 2) h := zaq rfl
theorem zAj (K : Value → Heap → Prop) (e : Env) (h : Heap) : finE tab Tryz.f199 K .ret e h = K (e.get 2) h := zaq rfl
theorem zzF (K : Value → Heap → Prop) (e : Env) (h : Heap) : finE tab Tryz.f200 K .ret e h = K (e.get 2) h := zaq rfl
theorem zAh (K : Value → Heap → Prop) (e : Env) (h : Heap) : finE tab Tryz.f201 K .ret e h = K (e.get 2) h := zaq rfl
theorem zzM (K : Value → Heap → Prop) (e : Env) (h : Heap) : finE tab Tryz.f213 K .ret e h = K undef h := zi5 rfl
theorem zzo (K : Value → Heap → Prop) (e : Env) (h : Heap) : finE tab Tryz.f213 K .normal e h = K undef h := zff rfl
theorem zAa (K : Value → Heap → Prop) (e : Env) (h : Heap) : finE tab Tryz.f215 K .ret e h = K (e.get 2) h := zaq rfl
theorem zAp (K : Value → Heap → Prop) (e : Env) (h : Heap) : finE tab Tryz.f216 K .ret e h = K (e.get 0) h := zaq rfl
theorem zzp (K : Value → Heap → Prop) (e : Env) (h : Heap) : finE tab Tryz.f217 K .ret e h = K (e.get 2) h := zaq rfl
theorem zz7 (K : Value → Heap → Prop) (e : Env) (h : Heap) : finE tab Tryz.f218 K .ret e h = K (e.get 2) h := zaq rfl
theorem zzn (K : Value → Heap → Prop) (e : Env) (h : Heap) : finE tab Tryz.f219 K .ret e h = K (e.get 2) h := zaq rfl
theorem zzH (K : Value → Heap → Prop) (e : Env) (h : Heap) : finE tab Tryz.f223 K .ret e h = K (.tuple #[e.get 2, e.get 3, e.get 4]) h := zsI rfl
end Go.Proofs.YtemapihoobmonaaGreatDoor

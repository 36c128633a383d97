/- What the plain machine's operations come to at this seat's types. Written by a program (mksim.py). No condition. -/
import Derived.Test.YtemapihoobmonaaGreatDoorG11
import Derived.Test.YtemapihoobmonaaGreatDoorGSym
import Derived.Test.YtemapihoobmonaaGreatDoorG26
namespace Go.Proofs.YtemapihoobmonaaGreatDoor
open Go.Am
theorem sz3 : zaN tab 3 = some 1 := by kernel_rfl
theorem ag3 : aggA tab 3 = some false := by kernel_rfl
theorem ld3 (A o : Nat) (h : Heap) : zaT tab 3 (.pointer (some ⟨A, o, none⟩)) h = zgW (h.get A) o := zcC ag3
theorem sz4 : zaN tab 4 = some 1 := by kernel_rfl
theorem ag4 : aggA tab 4 = some false := by kernel_rfl
theorem ld4 (A o : Nat) (h : Heap) : zaT tab 4 (.pointer (some ⟨A, o, none⟩)) h = zgW (h.get A) o := zcC ag4
theorem ds5 : tab.desc 5 = some (.int .u8) := by kernel_rfl
theorem sz9 : zaN tab 9 = some 1 := by kernel_rfl
theorem ag9 : aggA tab 9 = some false := by kernel_rfl
theorem ld9 (A o : Nat) (h : Heap) : zaT tab 9 (.pointer (some ⟨A, o, none⟩)) h = zgW (h.get A) o := zcC ag9
theorem ds9 : tab.desc 9 = some .string := by kernel_rfl
theorem ln9 (s : ByteArray) (h : Heap) : lenA tab 9 (.string s) h = some (.int .i64 s.size) := zvv ds9
theorem sz23 : zaN tab 23 = some 2 := by kernel_rfl
theorem ag23 : aggA tab 23 = some true := by kernel_rfl
theorem ld23 (A o : Nat) (h : Heap) : zaT tab 23 (.pointer (some ⟨A, o, none⟩)) h = cutO (h.get A) o 2 := zd3 ag23 sz23
theorem al23 (P : Program) (ov : Ov) (d : Option Tmp) (ty : TypeId) (pos : String) (af : Array Edge) (g : Option (Nat × Bool)) (e : Env) (h : Heap) (K : Value → Heap → Prop) : WOp P tab ov ⟨d, .alloc 23, ty, pos, af, g⟩ e h K = K (.pointer (some ⟨h.size, 0, none⟩)) (h.push (.row [.bool false, .string ⟨#[]⟩] 23 false)) := ziW d ty pos af g e h K 23 zp3
theorem zo3 (A o : Nat) : zaf tab 23 (.pointer (some ⟨A, o, none⟩)) 0 = some (.pointer (some ⟨A, o + 0, none⟩)) := Eq.refl _
theorem zmp (A o : Nat) : zaf tab 23 (.pointer (some ⟨A, o, none⟩)) 1 = some (.pointer (some ⟨A, o + 1, none⟩)) := Eq.refl _
theorem ds24 : tab.desc 24 = some (.array 4 23) := by kernel_rfl
theorem ix24 (A o : Nat) (ik : IntKind) (i : Int) : zas tab 24 (.pointer (some ⟨A, o, none⟩)) (.int ik i) = if 0 ≤ i ∧ i < 4 then some (.pointer (some ⟨A, o + i.toNat * 2, none⟩)) else none := zxk ds24 (by kernel_rfl)
theorem sz26 : zaN tab 26 = some 11 := by kernel_rfl
theorem ag26 : aggA tab 26 = some true := by kernel_rfl
theorem ld26 (A o : Nat) (h : Heap) : zaT tab 26 (.pointer (some ⟨A, o, none⟩)) h = cutO (h.get A) o 11 := zd3 ag26 sz26
theorem al26 (P : Program) (ov : Ov) (d : Option Tmp) (ty : TypeId) (pos : String) (af : Array Edge) (g : Option (Nat × Bool)) (e : Env) (h : Heap) (K : Value → Heap → Prop) : WOp P tab ov ⟨d, .alloc 26, ty, pos, af, g⟩ e h K = K (.pointer (some ⟨h.size, 0, none⟩)) (h.push (.row [.string ⟨#[]⟩, .string ⟨#[]⟩, .int .i64 0, .bool false, .string ⟨#[]⟩, .bool false, .string ⟨#[]⟩, .bool false, .string ⟨#[]⟩, .bool false, .string ⟨#[]⟩] 26 false)) := ziW d ty pos af g e h K 26 zgZ
theorem zo4 (A o : Nat) : zaf tab 26 (.pointer (some ⟨A, o, none⟩)) 0 = some (.pointer (some ⟨A, o + 0, none⟩)) := Eq.refl _
theorem zpj (A o : Nat) : zaf tab 26 (.pointer (some ⟨A, o, none⟩)) 1 = some (.pointer (some ⟨A, o + 1, none⟩)) := Eq.refl _
theorem zj7 (A o : Nat) : zaf tab 26 (.pointer (some ⟨A, o, none⟩)) 2 = some (.pointer (some ⟨A, o + 2, none⟩)) := Eq.refl _
theorem zhD (A o : Nat) : zaf tab 26 (.pointer (some ⟨A, o, none⟩)) 3 = some (.pointer (some ⟨A, o + 3, none⟩)) := Eq.refl _
theorem ag27 : aggA tab 27 = some false := by kernel_rfl
theorem ld27 (A o : Nat) (h : Heap) : zaT tab 27 (.pointer (some ⟨A, o, none⟩)) h = zgW (h.get A) o := zcC ag27
theorem ds27 : tab.desc 27 = some (.slice 26) := by kernel_rfl
theorem ln27 (a : Option Addr) (n c : Nat) (h : Heap) : lenA tab 27 (.slice a n c) h = some (.int .i64 n) := zbU ds27
theorem bs27 (n : Nat) (parts : List (Nat × Value)) (h : Heap) : zaC tab 27 n parts h = if n * 11 > 16777216 || n > 16777216 then Option.none else (zcP (fun i => some (i * 11, 11)) (zbo [.string ⟨#[]⟩, .string ⟨#[]⟩, .int .i64 0, .bool false, .string ⟨#[]⟩, .bool false, .string ⟨#[]⟩, .bool false, .string ⟨#[]⟩, .bool false, .string ⟨#[]⟩] n) parts).map fun cs => (.slice (some ⟨h.size, 0, none⟩) n n, h.push (.row cs 26 false)) := bsl ds27 zgZ n parts h
theorem ix27 (A o n c : Nat) (ik : IntKind) (i : Int) : zas tab 27 (.slice (some ⟨A, o, none⟩) n c) (.int ik i) = if 0 ≤ i ∧ i < n then some (.pointer (some ⟨A, o + i.toNat * 11, none⟩)) else none := zcm ds27 (by kernel_rfl)
theorem sz29 : zaN tab 29 = some 12 := by kernel_rfl
theorem ag29 : aggA tab 29 = some true := by kernel_rfl
theorem ld29 (A o : Nat) (h : Heap) : zaT tab 29 (.pointer (some ⟨A, o, none⟩)) h = cutO (h.get A) o 12 := zd3 ag29 sz29
theorem zwk (A o : Nat) : zaf tab 29 (.pointer (some ⟨A, o, none⟩)) 0 = some (.pointer (some ⟨A, o + 0, none⟩)) := Eq.refl _
theorem zv2 (A o : Nat) : zaf tab 29 (.pointer (some ⟨A, o, none⟩)) 1 = some (.pointer (some ⟨A, o + 11, none⟩)) := Eq.refl _
theorem ds32 : tab.desc 32 = some (.slice 29) := by kernel_rfl
theorem ln32 (a : Option Addr) (n c : Nat) (h : Heap) : lenA tab 32 (.slice a n c) h = some (.int .i64 n) := zbU ds32
theorem bs32 (n : Nat) (parts : List (Nat × Value)) (h : Heap) : zaC tab 32 n parts h = if n * 12 > 16777216 || n > 16777216 then Option.none else (zcP (fun i => some (i * 12, 12)) (zbo [.string ⟨#[]⟩, .string ⟨#[]⟩, .int .i64 0, .bool false, .string ⟨#[]⟩, .bool false, .string ⟨#[]⟩, .bool false, .string ⟨#[]⟩, .bool false, .string ⟨#[]⟩, .slice none 0 0] n) parts).map fun cs => (.slice (some ⟨h.size, 0, none⟩) n n, h.push (.row cs 29 false)) := bsl ds32 zqD n parts h
theorem ix32 (A o n c : Nat) (ik : IntKind) (i : Int) : zas tab 32 (.slice (some ⟨A, o, none⟩) n c) (.int ik i) = if 0 ≤ i ∧ i < n then some (.pointer (some ⟨A, o + i.toNat * 12, none⟩)) else none := zcm ds32 (by kernel_rfl)
theorem ds36 : tab.desc 36 = some (.slice 141) := by kernel_rfl
theorem bs36 (n : Nat) (parts : List (Nat × Value)) (h : Heap) : zaC tab 36 n parts h = if n * 3 > 16777216 || n > 16777216 then Option.none else (zcP (fun i => some (i * 3, 3)) (zbo [.string ⟨#[]⟩, .bool false, .string ⟨#[]⟩] n) parts).map fun cs => (.slice (some ⟨h.size, 0, none⟩) n n, h.push (.row cs 141 false)) := bsl ds36 zoH n parts h
theorem sz44 : zaN tab 44 = some 1 := by kernel_rfl
theorem ag44 : aggA tab 44 = some false := by kernel_rfl
theorem ld44 (A o : Nat) (h : Heap) : zaT tab 44 (.pointer (some ⟨A, o, none⟩)) h = zgW (h.get A) o := zcC ag44
theorem ag49 : aggA tab 49 = some false := by kernel_rfl
theorem ld49 (A o : Nat) (h : Heap) : zaT tab 49 (.pointer (some ⟨A, o, none⟩)) h = zgW (h.get A) o := zcC ag49
theorem ds49 : tab.desc 49 = some (.slice 9) := by kernel_rfl
theorem ln49 (a : Option Addr) (n c : Nat) (h : Heap) : lenA tab 49 (.slice a n c) h = some (.int .i64 n) := zbU ds49
theorem bs49 (n : Nat) (parts : List (Nat × Value)) (h : Heap) : zaC tab 49 n parts h = if n * 1 > 16777216 || n > 16777216 then Option.none else (zcP (fun i => some (i * 1, 1)) (zbo [.string ⟨#[]⟩] n) parts).map fun cs => (.slice (some ⟨h.size, 0, none⟩) n n, h.push (.row cs 9 false)) := bsl ds49 zcp n parts h
theorem ix49 (A o n c : Nat) (ik : IntKind) (i : Int) : zas tab 49 (.slice (some ⟨A, o, none⟩) n c) (.int ik i) = if 0 ≤ i ∧ i < n then some (.pointer (some ⟨A, o + i.toNat * 1, none⟩)) else none := zcm ds49 (by kernel_rfl)
theorem ag50 : aggA tab 50 = some false := by kernel_rfl
theorem ld50 (A o : Nat) (h : Heap) : zaT tab 50 (.pointer (some ⟨A, o, none⟩)) h = zgW (h.get A) o := zcC ag50
theorem ds50 : tab.desc 50 = some (.slice 110) := by kernel_rfl
theorem ln50 (a : Option Addr) (n c : Nat) (h : Heap) : lenA tab 50 (.slice a n c) h = some (.int .i64 n) := zbU ds50
theorem bs50 (n : Nat) (parts : List (Nat × Value)) (h : Heap) : zaC tab 50 n parts h = if n * 2 > 16777216 || n > 16777216 then Option.none else (zcP (fun i => some (i * 2, 2)) (zbo [.string ⟨#[]⟩, .int .i64 0] n) parts).map fun cs => (.slice (some ⟨h.size, 0, none⟩) n n, h.push (.row cs 110 false)) := bsl ds50 ziz n parts h
theorem ix50 (A o n c : Nat) (ik : IntKind) (i : Int) : zas tab 50 (.slice (some ⟨A, o, none⟩) n c) (.int ik i) = if 0 ≤ i ∧ i < n then some (.pointer (some ⟨A, o + i.toNat * 2, none⟩)) else none := zcm ds50 (by kernel_rfl)
theorem ag51 : aggA tab 51 = some false := by kernel_rfl
theorem ld51 (A o : Nat) (h : Heap) : zaT tab 51 (.pointer (some ⟨A, o, none⟩)) h = zgW (h.get A) o := zcC ag51
theorem ds51 : tab.desc 51 = some (.slice 112) := by kernel_rfl
theorem ln51 (a : Option Addr) (n c : Nat) (h : Heap) : lenA tab 51 (.slice a n c) h = some (.int .i64 n) := zbU ds51
theorem bs51 (n : Nat) (parts : List (Nat × Value)) (h : Heap) : zaC tab 51 n parts h = if n * 2 > 16777216 || n > 16777216 then Option.none else (zcP (fun i => some (i * 2, 2)) (zbo [.string ⟨#[]⟩, .slice none 0 0] n) parts).map fun cs => (.slice (some ⟨h.size, 0, none⟩) n n, h.push (.row cs 112 false)) := bsl ds51 zjp n parts h
theorem ix51 (A o n c : Nat) (ik : IntKind) (i : Int) : zas tab 51 (.slice (some ⟨A, o, none⟩) n c) (.int ik i) = if 0 ≤ i ∧ i < n then some (.pointer (some ⟨A, o + i.toNat * 2, none⟩)) else none := zcm ds51 (by kernel_rfl)
theorem ag52 : aggA tab 52 = some false := by kernel_rfl
theorem ld52 (A o : Nat) (h : Heap) : zaT tab 52 (.pointer (some ⟨A, o, none⟩)) h = zgW (h.get A) o := zcC ag52
theorem ds52 : tab.desc 52 = some (.slice 113) := by kernel_rfl
theorem ln52 (a : Option Addr) (n c : Nat) (h : Heap) : lenA tab 52 (.slice a n c) h = some (.int .i64 n) := zbU ds52
theorem bs52 (n : Nat) (parts : List (Nat × Value)) (h : Heap) : zaC tab 52 n parts h = if n * 12 > 16777216 || n > 16777216 then Option.none else (zcP (fun i => some (i * 12, 12)) (zbo [.string ⟨#[]⟩, .string ⟨#[]⟩, .int .i64 0, .bool false, .string ⟨#[]⟩, .bool false, .string ⟨#[]⟩, .bool false, .string ⟨#[]⟩, .bool false, .string ⟨#[]⟩, .slice none 0 0] n) parts).map fun cs => (.slice (some ⟨h.size, 0, none⟩) n n, h.push (.row cs 113 false)) := bsl ds52 zie n parts h
theorem ix52 (A o n c : Nat) (ik : IntKind) (i : Int) : zas tab 52 (.slice (some ⟨A, o, none⟩) n c) (.int ik i) = if 0 ≤ i ∧ i < n then some (.pointer (some ⟨A, o + i.toNat * 12, none⟩)) else none := zcm ds52 (by kernel_rfl)
theorem ag53 : aggA tab 53 = some false := by kernel_rfl
theorem ld53 (A o : Nat) (h : Heap) : zaT tab 53 (.pointer (some ⟨A, o, none⟩)) h = zgW (h.get A) o := zcC ag53
theorem ds53 : tab.desc 53 = some (.slice 115) := by kernel_rfl
theorem ln53 (a : Option Addr) (n c : Nat) (h : Heap) : lenA tab 53 (.slice a n c) h = some (.int .i64 n) := zbU ds53
theorem bs53 (n : Nat) (parts : List (Nat × Value)) (h : Heap) : zaC tab 53 n parts h = if n * 13 > 16777216 || n > 16777216 then Option.none else (zcP (fun i => some (i * 13, 13)) (zbo [.string ⟨#[]⟩, .string ⟨#[]⟩, .string ⟨#[]⟩, .int .i64 0, .bool false, .string ⟨#[]⟩, .bool false, .string ⟨#[]⟩, .bool false, .string ⟨#[]⟩, .bool false, .string ⟨#[]⟩, .slice none 0 0] n) parts).map fun cs => (.slice (some ⟨h.size, 0, none⟩) n n, h.push (.row cs 115 false)) := bsl ds53 zjo n parts h
theorem ix53 (A o n c : Nat) (ik : IntKind) (i : Int) : zas tab 53 (.slice (some ⟨A, o, none⟩) n c) (.int ik i) = if 0 ≤ i ∧ i < n then some (.pointer (some ⟨A, o + i.toNat * 13, none⟩)) else none := zcm ds53 (by kernel_rfl)
theorem sz55 : zaN tab 55 = some 7 := by kernel_rfl
theorem ag55 : aggA tab 55 = some true := by kernel_rfl
theorem ld55 (A o : Nat) (h : Heap) : zaT tab 55 (.pointer (some ⟨A, o, none⟩)) h = cutO (h.get A) o 7 := zd3 ag55 sz55
theorem al55 (P : Program) (ov : Ov) (d : Option Tmp) (ty : TypeId) (pos : String) (af : Array Edge) (g : Option (Nat × Bool)) (e : Env) (h : Heap) (K : Value → Heap → Prop) : WOp P tab ov ⟨d, .alloc 55, ty, pos, af, g⟩ e h K = K (.pointer (some ⟨h.size, 0, none⟩)) (h.push (.row [.slice none 0 0, .slice none 0 0, .slice none 0 0, .int .i64 0, .int .i64 0, .slice none 0 0, .slice none 0 0] 55 false)) := ziW d ty pos af g e h K 55 zqW
theorem zpH (A o : Nat) : zaf tab 55 (.pointer (some ⟨A, o, none⟩)) 0 = some (.pointer (some ⟨A, o + 0, none⟩)) := Eq.refl _
theorem zv8 (A o : Nat) : zaf tab 55 (.pointer (some ⟨A, o, none⟩)) 1 = some (.pointer (some ⟨A, o + 1, none⟩)) := Eq.refl _
theorem znn (A o : Nat) : zaf tab 55 (.pointer (some ⟨A, o, none⟩)) 2 = some (.pointer (some ⟨A, o + 2, none⟩)) := Eq.refl _
theorem zyI (A o : Nat) : zaf tab 55 (.pointer (some ⟨A, o, none⟩)) 3 = some (.pointer (some ⟨A, o + 3, none⟩)) := Eq.refl _
theorem zyL (A o : Nat) : zaf tab 55 (.pointer (some ⟨A, o, none⟩)) 4 = some (.pointer (some ⟨A, o + 4, none⟩)) := Eq.refl _
theorem zwf (A o : Nat) : zaf tab 55 (.pointer (some ⟨A, o, none⟩)) 5 = some (.pointer (some ⟨A, o + 5, none⟩)) := Eq.refl _
theorem zv3 (A o : Nat) : zaf tab 55 (.pointer (some ⟨A, o, none⟩)) 6 = some (.pointer (some ⟨A, o + 6, none⟩)) := Eq.refl _
theorem sz57 : zaN tab 57 = some 12 := by kernel_rfl
theorem ag57 : aggA tab 57 = some true := by kernel_rfl
theorem ld57 (A o : Nat) (h : Heap) : zaT tab 57 (.pointer (some ⟨A, o, none⟩)) h = cutO (h.get A) o 12 := zd3 ag57 sz57
theorem al57 (P : Program) (ov : Ov) (d : Option Tmp) (ty : TypeId) (pos : String) (af : Array Edge) (g : Option (Nat × Bool)) (e : Env) (h : Heap) (K : Value → Heap → Prop) : WOp P tab ov ⟨d, .alloc 57, ty, pos, af, g⟩ e h K = K (.pointer (some ⟨h.size, 0, none⟩)) (h.push (.row [.int .i64 0, .string ⟨#[]⟩, .string ⟨#[]⟩, .int .i64 0, .bool false, .string ⟨#[]⟩, .bool false, .string ⟨#[]⟩, .bool false, .string ⟨#[]⟩, .bool false, .string ⟨#[]⟩] 57 false)) := ziW d ty pos af g e h K 57 zqX
theorem zj1 (A o : Nat) : zaf tab 57 (.pointer (some ⟨A, o, none⟩)) 0 = some (.pointer (some ⟨A, o + 0, none⟩)) := Eq.refl _
theorem ztN (A o : Nat) : zaf tab 57 (.pointer (some ⟨A, o, none⟩)) 1 = some (.pointer (some ⟨A, o + 1, none⟩)) := Eq.refl _
theorem sz62 : zaN tab 62 = some 2 := by kernel_rfl
theorem ag62 : aggA tab 62 = some true := by kernel_rfl
theorem ld62 (A o : Nat) (h : Heap) : zaT tab 62 (.pointer (some ⟨A, o, none⟩)) h = cutO (h.get A) o 2 := zd3 ag62 sz62
theorem al62 (P : Program) (ov : Ov) (d : Option Tmp) (ty : TypeId) (pos : String) (af : Array Edge) (g : Option (Nat × Bool)) (e : Env) (h : Heap) (K : Value → Heap → Prop) : WOp P tab ov ⟨d, .alloc 62, ty, pos, af, g⟩ e h K = K (.pointer (some ⟨h.size, 0, none⟩)) (h.push (.row [.string ⟨#[]⟩, .string ⟨#[]⟩] 62 false)) := ziW d ty pos af g e h K 62 zdM
theorem zhy (A o : Nat) : zaf tab 62 (.pointer (some ⟨A, o, none⟩)) 0 = some (.pointer (some ⟨A, o + 0, none⟩)) := Eq.refl _
theorem zi2 (A o : Nat) : zaf tab 62 (.pointer (some ⟨A, o, none⟩)) 1 = some (.pointer (some ⟨A, o + 1, none⟩)) := Eq.refl _
theorem ds69 : tab.desc 69 = some (.slice 62) := by kernel_rfl
theorem ln69 (a : Option Addr) (n c : Nat) (h : Heap) : lenA tab 69 (.slice a n c) h = some (.int .i64 n) := zbU ds69
theorem bs69 (n : Nat) (parts : List (Nat × Value)) (h : Heap) : zaC tab 69 n parts h = if n * 2 > 16777216 || n > 16777216 then Option.none else (zcP (fun i => some (i * 2, 2)) (zbo [.string ⟨#[]⟩, .string ⟨#[]⟩] n) parts).map fun cs => (.slice (some ⟨h.size, 0, none⟩) n n, h.push (.row cs 62 false)) := bsl ds69 zdM n parts h
theorem ix69 (A o n c : Nat) (ik : IntKind) (i : Int) : zas tab 69 (.slice (some ⟨A, o, none⟩) n c) (.int ik i) = if 0 ≤ i ∧ i < n then some (.pointer (some ⟨A, o + i.toNat * 2, none⟩)) else none := zcm ds69 (by kernel_rfl)
theorem zzn : zaN tab 110 = some 2 := by kernel_rfl
theorem zr4 (A o : Nat) : zaf tab 110 (.pointer (some ⟨A, o, none⟩)) 0 = some (.pointer (some ⟨A, o + 0, none⟩)) := Eq.refl _
theorem zh7 : zaN tab 112 = some 2 := by kernel_rfl
theorem zwU : aggA tab 112 = some true := by kernel_rfl
theorem zzY (A o : Nat) (h : Heap) : zaT tab 112 (.pointer (some ⟨A, o, none⟩)) h = cutO (h.get A) o 2 := zd3 zwU zh7
theorem zfN (A o : Nat) : zaf tab 112 (.pointer (some ⟨A, o, none⟩)) 0 = some (.pointer (some ⟨A, o + 0, none⟩)) := Eq.refl _
theorem zec (A o : Nat) : zaf tab 112 (.pointer (some ⟨A, o, none⟩)) 1 = some (.pointer (some ⟨A, o + 1, none⟩)) := Eq.refl _
theorem zxg : zaN tab 113 = some 12 := by kernel_rfl
theorem zlw (A o : Nat) : zaf tab 113 (.pointer (some ⟨A, o, none⟩)) 0 = some (.pointer (some ⟨A, o + 0, none⟩)) := Eq.refl _
theorem zkT (A o : Nat) : zaf tab 113 (.pointer (some ⟨A, o, none⟩)) 1 = some (.pointer (some ⟨A, o + 11, none⟩)) := Eq.refl _
theorem zxs : zaN tab 115 = some 13 := by kernel_rfl
theorem zk7 (A o : Nat) : zaf tab 115 (.pointer (some ⟨A, o, none⟩)) 0 = some (.pointer (some ⟨A, o + 0, none⟩)) := Eq.refl _
theorem zkB (A o : Nat) : zaf tab 115 (.pointer (some ⟨A, o, none⟩)) 1 = some (.pointer (some ⟨A, o + 1, none⟩)) := Eq.refl _
theorem zkz (A o : Nat) : zaf tab 115 (.pointer (some ⟨A, o, none⟩)) 2 = some (.pointer (some ⟨A, o + 12, none⟩)) := Eq.refl _
theorem zvK : tab.desc 118 = some (.slice 5) := by kernel_rfl
theorem zy9 (n : Nat) (parts : List (Nat × Value)) (h : Heap) : zaC tab 118 n parts h = if n * 1 > 16777216 || n > 16777216 then Option.none else (zcP (fun i => some (i * 1, 1)) (zbo [.int .u8 0] n) parts).map fun cs => (.slice (some ⟨h.size, 0, none⟩) n n, h.push (.row cs 5 false)) := bsl zvK zh0 n parts h
theorem znX (A o : Nat) : zaf tab 123 (.pointer (some ⟨A, o, none⟩)) 0 = some (.pointer (some ⟨A, o + 0, none⟩)) := Eq.refl _
theorem zkl (A o : Nat) : zaf tab 123 (.pointer (some ⟨A, o, none⟩)) 1 = some (.pointer (some ⟨A, o + 1, none⟩)) := Eq.refl _
theorem zi1 (A o : Nat) : zaf tab 123 (.pointer (some ⟨A, o, none⟩)) 2 = some (.pointer (some ⟨A, o + 2, none⟩)) := Eq.refl _
theorem zzA : zaN tab 141 = some 3 := by kernel_rfl
theorem zn8 (A o : Nat) : zaf tab 147 (.pointer (some ⟨A, o, none⟩)) 0 = some (.pointer (some ⟨A, o + 0, none⟩)) := Eq.refl _
theorem zk4 (A o : Nat) : zaf tab 147 (.pointer (some ⟨A, o, none⟩)) 1 = some (.pointer (some ⟨A, o + 1, none⟩)) := Eq.refl _
theorem ztx : tab.desc 183 = some (.slice 23) := by kernel_rfl
theorem zyg (a : Option Addr) (n c : Nat) (h : Heap) : lenA tab 183 (.slice a n c) h = some (.int .i64 n) := zbU ztx
theorem zyK (A o n c : Nat) (ik : IntKind) (i : Int) : zas tab 183 (.slice (some ⟨A, o, none⟩) n c) (.int ik i) = if 0 ≤ i ∧ i < n then some (.pointer (some ⟨A, o + i.toNat * 2, none⟩)) else none := zcm ztx (by kernel_rfl)
theorem zoY (A o : Nat) : zaf tab 195 (.pointer (some ⟨A, o, none⟩)) 0 = some (.pointer (some ⟨A, o + 0, none⟩)) := Eq.refl _
theorem zkk (A o : Nat) : zaf tab 195 (.pointer (some ⟨A, o, none⟩)) 1 = some (.pointer (some ⟨A, o + 1, none⟩)) := Eq.refl _
theorem zh2 (A o : Nat) : zaf tab 195 (.pointer (some ⟨A, o, none⟩)) 2 = some (.pointer (some ⟨A, o + 2, none⟩)) := Eq.refl _
theorem zsI (A o : Nat) : zaf tab 197 (.pointer (some ⟨A, o, none⟩)) 0 = some (.pointer (some ⟨A, o + 0, none⟩)) := Eq.refl _
theorem fi5 (K : Value → Heap → Prop) (e : Env) (h : Heap) : finE tab Tryz.f5 K .ret e h = K (e.get 10) h := zam rfl
theorem fi6 (K : Value → Heap → Prop) (e : Env) (h : Heap) : finE tab Tryz.f6 K .ret e h = K (e.get 8) h := zam rfl
theorem fi11 (K : Value → Heap → Prop) (e : Env) (h : Heap) : finE tab Tryz.f11 K .ret e h = K (e.get 4) h := zam rfl
theorem fi12 (K : Value → Heap → Prop) (e : Env) (h : Heap) : finE tab Tryz.f12 K .ret e h = K (e.get 4) h := zam rfl
theorem fi13 (K : Value → Heap → Prop) (e : Env) (h : Heap) : finE tab Tryz.f13 K .ret e h = K (e.get 4) h := zam rfl
theorem fi15 (K : Value → Heap → Prop) (e : Env) (h : Heap) : finE tab Tryz.f15 K .ret e h = K (.tuple #[e.get 6, e.get 7]) h := zxU rfl
theorem fi16 (K : Value → Heap → Prop) (e : Env) (h : Heap) : finE tab Tryz.f16 K .ret e h = K (e.get 4) h := zam rfl
theorem fi18 (K : Value → Heap → Prop) (e : Env) (h : Heap) : finE tab Tryz.f18 K .ret e h = valE (zaT tab 26 (e.get 4) h) h K := zf2 rfl
theorem fi19 (K : Value → Heap → Prop) (e : Env) (h : Heap) : finE tab Tryz.f19 K .ret e h = K (e.get 2) h := zam rfl
theorem fi21 (K : Value → Heap → Prop) (e : Env) (h : Heap) : finE tab Tryz.f21 K .ret e h = K (e.get 4) h := zam rfl
theorem fi23 (K : Value → Heap → Prop) (e : Env) (h : Heap) : finE tab Tryz.f23 K .ret e h = K (e.get 2) h := zam rfl
theorem fi24 (K : Value → Heap → Prop) (e : Env) (h : Heap) : finE tab Tryz.f24 K .ret e h = K (e.get 2) h := zam rfl
theorem fi25 (K : Value → Heap → Prop) (e : Env) (h : Heap) : finE tab Tryz.f25 K .ret e h = K (e.get 6) h := zam rfl
theorem fi27 (K : Value → Heap → Prop) (e : Env) (h : Heap) : finE tab Tryz.f27 K .ret e h = K (e.get 4) h := zam rfl
theorem fi28 (K : Value → Heap → Prop) (e : Env) (h : Heap) : finE tab Tryz.f28 K .ret e h = valE (zaT tab 57 (e.get 2) h) h (fun x h' => K (.tuple #[x, e.get 3]) h') := zjf rfl
theorem fi29 (K : Value → Heap → Prop) (e : Env) (h : Heap) : finE tab Tryz.f29 K .ret e h = K (e.get 4) h := zam rfl
theorem fi30 (K : Value → Heap → Prop) (e : Env) (h : Heap) : finE tab Tryz.f30 K .ret e h = valE (zaT tab 55 (e.get 2) h) h K := zf2 rfl
theorem fi31 (K : Value → Heap → Prop) (e : Env) (h : Heap) : finE tab Tryz.f31 K .ret e h = K (e.get 6) h := zam rfl
theorem fi32 (K : Value → Heap → Prop) (e : Env) (h : Heap) : finE tab Tryz.f32 K .ret e h = K (e.get 6) h := zam rfl
theorem fi33 (K : Value → Heap → Prop) (e : Env) (h : Heap) : finE tab Tryz.f33 K .ret e h = K (e.get 4) h := zam rfl
theorem fi34 (K : Value → Heap → Prop) (e : Env) (h : Heap) : finE tab Tryz.f34 K .ret e h = K (e.get 6) h := zam rfl
theorem fi37 (K : Value → Heap → Prop) (e : Env) (h : Heap) : finE tab Tryz.f37 K .ret e h = K (e.get 2) h := zam rfl
theorem fi41 (K : Value → Heap → Prop) (e : Env) (h : Heap) : finE tab Tryz.f41 K .ret e h = K (e.get 6) h := zam rfl
theorem fi69 (K : Value → Heap → Prop) (e : Env) (h : Heap) : finE tab Tryz.f69 K .ret e h = K (e.get 6) h := zam rfl
theorem fi70 (K : Value → Heap → Prop) (e : Env) (h : Heap) : finE tab Tryz.f70 K .ret e h = valE (zaT tab 57 (e.get 2) h) h (fun x h' => K (.tuple #[x, e.get 3]) h') := zjf rfl
theorem fi71 (K : Value → Heap → Prop) (e : Env) (h : Heap) : finE tab Tryz.f71 K .ret e h = K (e.get 6) h := zam rfl
theorem fi72 (K : Value → Heap → Prop) (e : Env) (h : Heap) : finE tab Tryz.f72 K .ret e h = K (e.get 2) h := zam rfl
theorem fi74 (K : Value → Heap → Prop) (e : Env) (h : Heap) : finE tab Tryz.f74 K .ret e h = K (e.get 4) h := zam rfl
theorem fi75 (K : Value → Heap → Prop) (e : Env) (h : Heap) : finE tab Tryz.f75 K .ret e h = K (e.get 4) h := zam rfl
theorem fi76 (K : Value → Heap → Prop) (e : Env) (h : Heap) : finE tab Tryz.f76 K .ret e h = K (e.get 2) h := zam rfl
theorem fi77 (K : Value → Heap → Prop) (e : Env) (h : Heap) : finE tab Tryz.f77 K .ret e h = valE (zaT tab 26 (e.get 2) h) h K := zf2 rfl
theorem fi78 (K : Value → Heap → Prop) (e : Env) (h : Heap) : finE tab Tryz.f78 K .ret e h = K (e.get 2) h := zam rfl
theorem fi79 (K : Value → Heap → Prop) (e : Env) (h : Heap) : finE tab Tryz.f79 K .ret e h = K (e.get 2) h := zam rfl
theorem fi80 (K : Value → Heap → Prop) (e : Env) (h : Heap) : finE tab Tryz.f80 K .ret e h = K (e.get 4) h := zam rfl
theorem fi81 (K : Value → Heap → Prop) (e : Env) (h : Heap) : finE tab Tryz.f81 K .ret e h = K (e.get 4) h := zam rfl
theorem fi90 (K : Value → Heap → Prop) (e : Env) (h : Heap) : finE tab Tryz.f90 K .ret e h = K (e.get 2) h := zam rfl
theorem zzN (K : Value → Heap → Prop) (e : Env) (h : Heap) : finE tab Tryz.f104 K .ret e h = K (e.get 2) h := zam rfl
theorem zzz (K : Value → Heap → Prop) (e : Env) (h : Heap) : finE tab Tryz.f105 K .ret e h = valE (zaT tab 26 (e.get 2) h) h K := zf2 rfl
theorem zz9 (K : Value → Heap → Prop) (e : Env) (h : Heap) : finE tab Tryz.f106 K .ret e h = K undef h := zyk rfl
theorem zzM (K : Value → Heap → Prop) (e : Env) (h : Heap) : finE tab Tryz.f106 K .normal e h = K undef h := zwA rfl
theorem zyZ (K : Value → Heap → Prop) (e : Env) (h : Heap) : finE tab Tryz.f107 K .ret e h = K (e.get 2) h := zam rfl
theorem zzL (K : Value → Heap → Prop) (e : Env) (h : Heap) : finE tab Tryz.f108 K .ret e h = K (e.get 4) h := zam rfl
theorem zyY (K : Value → Heap → Prop) (e : Env) (h : Heap) : finE tab Tryz.f109 K .ret e h = K (e.get 4) h := zam rfl
theorem zzm (K : Value → Heap → Prop) (e : Env) (h : Heap) : finE tab Tryz.f111 K .ret e h = K (e.get 2) h := zam rfl
theorem zzD (K : Value → Heap → Prop) (e : Env) (h : Heap) : finE tab Tryz.f112 K .ret e h = K (e.get 2) h := zam rfl
theorem zz5 (K : Value → Heap → Prop) (e : Env) (h : Heap) : finE tab Tryz.f113 K .ret e h = K (e.get 4) h := zam rfl
theorem zy5 (K : Value → Heap → Prop) (e : Env) (h : Heap) : finE tab Tryz.f114 K .ret e h = K (e.get 2) h := zam rfl
theorem zza (K : Value → Heap → Prop) (e : Env) (h : Heap) : finE tab Tryz.f120 K .ret e h = K (e.get 2) h := zam rfl
theorem zzS (K : Value → Heap → Prop) (e : Env) (h : Heap) : finE tab Tryz.f121 K .ret e h = K (e.get 2) h := zam rfl
theorem zy3 (K : Value → Heap → Prop) (e : Env) (h : Heap) : finE tab Tryz.f122 K .ret e h = K (e.get 2) h := zam rfl
theorem zy2 (K : Value → Heap → Prop) (e : Env) (h : Heap) : finE tab Tryz.f125 K .ret e h = K (e.get 2) h := zam rfl
theorem zzU (K : Value → Heap → Prop) (e : Env) (h : Heap) : finE tab Tryz.f138 K .ret e h = K (e.get 4) h := zam rfl
theorem zzZ (K : Value → Heap → Prop) (e : Env) (h : Heap) : finE tab Tryz.f140 K .ret e h = K (e.get 4) h := zam rfl
theorem zzj (K : Value → Heap → Prop) (e : Env) (h : Heap) : finE tab Tryz.f141 K .ret e h = K (e.get 4) h := zam rfl
theorem zy4 (K : Value → Heap → Prop) (e : Env) (h : Heap) : finE tab Tryz.f142 K .ret e h = K (e.get 4) h := zam rfl
theorem zz3 (K : Value → Heap → Prop) (e : Env) (h : Heap) : finE tab Tryz.f143 K .ret e h = K (e.get 3) h := zam rfl
theorem zzh (K : Value → Heap → Prop) (e : Env) (h : Heap) : finE tab Tryz.f147 K .ret e h = K (e.get 2) h := zam rfl
theorem zz0 (K : Value → Heap → Prop) (e : Env) (h : Heap) : finE tab Tryz.f148 K .ret e h = K (.tuple #[e.get 2, e.get 3, e.get 4]) h := zlP rfl
theorem zz6 (K : Value → Heap → Prop) (e : Env) (h : Heap) : finE tab Tryz.f149 K .ret e h = K (e.get 4) h := zam rfl
theorem zzE (K : Value → Heap → Prop) (e : Env) (h : Heap) : finE tab Tryz.f155 K .ret e h = K (e.get 2) h := zam rfl
theorem zz1 (K : Value → Heap → Prop) (e : Env) (h : Heap) : finE tab Tryz.f156 K .ret e h = K (e.get 2) h := zam rfl
theorem zzt (K : Value → Heap → Prop) (e : Env) (h : Heap) : finE tab Tryz.f157 K .ret e h = K (e.get 2) h := zam rfl
theorem zzk (K : Value → Heap → Prop) (e : Env) (h : Heap) : finE tab Tryz.f159 K .ret e h = K (e.get 2) h := zam rfl
theorem zzP (K : Value → Heap → Prop) (e : Env) (h : Heap) : finE tab Tryz.f160 K .ret e h = K (e.get 2) h := zam rfl
theorem zze (K : Value → Heap → Prop) (e : Env) (h : Heap) : finE tab Tryz.f161 K .ret e h = K (e.get 4) h := zam rfl
theorem zyW (K : Value → Heap → Prop) (e : Env) (h : Heap) : finE tab Tryz.f162 K .ret e h = K (e.get 2) h := zam rfl
theorem zzH (K : Value → Heap → Prop) (e : Env) (h : Heap) : finE tab Tryz.f163 K .ret e h = K (e.get 2) h := zam rfl
theorem zy1 (K : Value → Heap → Prop) (e : Env) (h : Heap) : finE tab Tryz.f164 K .ret e h = K (e.get 2) h := zam rfl
theorem zAa (K : Value → Heap → Prop) (e : Env) (h : Heap) : finE tab Tryz.f177 K .ret e h = valE (zaT tab 26 (e.get 2) h) h K := zf2 rfl
theorem zzO (K : Value → Heap → Prop) (e : Env) (h : Heap) : finE tab Tryz.f181 K .ret e h = K (e.get 2) h := zam rfl
theorem zzw (K : Value → Heap → Prop) (e : Env) (h : Heap) : finE tab Tryz.f182 K .ret e h = K (e.get 2) h := zam rfl
theorem zzi (K : Value → Heap → Prop) (e : Env) (h : Heap) : finE tab Tryz.f183 K .ret e h = K (e.get 2) h := zam rfl
theorem zzy (K : Value → Heap → Prop) (e : Env) (h : Heap) : finE tab Tryz.f184 K .ret e h = K (e.get 2) h := zam rfl
theorem zzC (K : Value → Heap → Prop) (e : Env) (h : Heap) : finE tab Tryz.f185 K .ret e h = K (e.get 6) h := zam rfl
theorem zzc (K : Value → Heap → Prop) (e : Env) (h : Heap) : finE tab Tryz.f186 K .ret e h = K (e.get 2) h := zam rfl
theorem zzV (K : Value → Heap → Prop) (e : Env) (h : Heap) : finE tab Tryz.f187 K .ret e h = K (e.get 2) h := zam rfl
theorem zy6 (K : Value → Heap → Prop) (e : Env) (h : Heap) : finE tab Tryz.f188 K .ret e h = K (e.get 2) h := zam rfl
theorem zzT (K : Value → Heap → Prop) (e : Env) (h : Heap) : finE tab Tryz.f189 K .ret e h = K (e.get 4) h := zam rfl
theorem zzp (K : Value → Heap → Prop) (e : Env) (h : Heap) : finE tab Tryz.f190 K .ret e h = K (e.get 2) h := zam rfl
theorem zzd (K : Value → Heap → Prop) (e : Env) (h : Heap) : finE tab Tryz.f191 K .ret e h = K (e.get 2) h := zam rfl
theorem zzQ (K : Value → Heap → Prop) (e : Env) (h : Heap) : finE tab Tryz.f199 K .ret e h = K (e.get 2) h := zam rfl
theorem zz4 (K : Value → Heap → Prop) (e : Env) (h : Heap) : finE tab Tryz.f200 K .ret e h = K (e.get 2) h := zam rfl
theorem zAb (K : Value → Heap → Prop) (e : Env) (h : Heap) : finE tab Tryz.f201 K .ret e h = K (e.get 2) h := zam rfl
theorem zzo (K : Value → Heap → Prop) (e : Env) (h : Heap) : finE tab Tryz.f214 K .ret e h = K (e.get 0) h := zam rfl
theorem zzX (K : Value → Heap → Prop) (e : Env) (h : Heap) : finE tab Tryz.f215 K .ret e h = K (e.get 2) h := zam rfl
theorem zz2 (K : Value → Heap → Prop) (e : Env) (h : Heap) : finE tab Tryz.f216 K .ret e h = K (e.get 0) h := zam rfl
theorem zzF (K : Value → Heap → Prop) (e : Env) (h : Heap) : finE tab Tryz.f217 K .ret e h = K (e.get 2) h := zam rfl
theorem zzv (K : Value → Heap → Prop) (e : Env) (h : Heap) : finE tab Tryz.f218 K .ret e h = K (e.get 2) h := zam rfl
theorem zzs (K : Value → Heap → Prop) (e : Env) (h : Heap) : finE tab Tryz.f219 K .ret e h = K (e.get 2) h := zam rfl
theorem zz8 (K : Value → Heap → Prop) (e : Env) (h : Heap) : finE tab Tryz.f223 K .ret e h = K (.tuple #[e.get 2, e.get 3, e.get 4]) h := zlP rfl
end Go.Proofs.YtemapihoobmonaaGreatDoor

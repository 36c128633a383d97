/- What the plain machine's operations come to at this seat's types. Written by a program (mksim.py). No condition. -/
import Derived.Test.YtemapihoobmonaaGreatDoorG11
import Derived.Test.YtemapihoobmonaaGreatDoorGSym
import Derived.Test.YtemapihoobmonaaGreatDoorG25
namespace Go.Proofs.YtemapihoobmonaaGreatDoor
open Go.Am
theorem sz3 : zaN tab 3 = some 1 := by kernel_rfl
theorem ag3 : aggA tab 3 = some false := by kernel_rfl
theorem ld3 (A o : Nat) (h : Heap) : zaS tab 3 (.pointer (some ⟨A, o, none⟩)) h = zgp (h.get A) o := zcF ag3
theorem sz4 : zaN tab 4 = some 1 := by kernel_rfl
theorem ag4 : aggA tab 4 = some false := by kernel_rfl
theorem ld4 (A o : Nat) (h : Heap) : zaS tab 4 (.pointer (some ⟨A, o, none⟩)) h = zgp (h.get A) o := zcF ag4
theorem ds5 : tab.desc 5 = some (.int .u8) := by kernel_rfl
theorem sz9 : zaN tab 9 = some 1 := by kernel_rfl
theorem ag9 : aggA tab 9 = some false := by kernel_rfl
theorem ld9 (A o : Nat) (h : Heap) : zaS tab 9 (.pointer (some ⟨A, o, none⟩)) h = zgp (h.get A) o := zcF ag9
theorem ds9 : tab.desc 9 = some .string := by kernel_rfl
theorem ln9 (s : ByteArray) (h : Heap) : lenA tab 9 (.string s) h = some (.int .i64 s.size) := ztQ ds9
theorem sz23 : zaN tab 23 = some 2 := by kernel_rfl
theorem ag23 : aggA tab 23 = some true := by kernel_rfl
theorem ld23 (A o : Nat) (h : Heap) : zaS tab 23 (.pointer (some ⟨A, o, none⟩)) h = cutO (h.get A) o 2 := zd0 ag23 sz23
theorem al23 (P : Program) (ov : Ov) (d : Option Tmp) (ty : TypeId) (pos : String) (af : Array Edge) (g : Option (Nat × Bool)) (e : Env) (h : Heap) (K : Value → Heap → Prop) : WOp P tab ov ⟨d, .alloc 23, ty, pos, af, g⟩ e h K = K (.pointer (some ⟨h.size, 0, none⟩)) (h.push (.row [.bool false, .string ⟨#[]⟩] 23 false)) := zk3 d ty pos af g e h K 23 zpw
theorem zmb (A o : Nat) : zad tab 23 (.pointer (some ⟨A, o, none⟩)) 0 = some (.pointer (some ⟨A, o + 0, none⟩)) := Eq.refl _
theorem zj1 (A o : Nat) : zad tab 23 (.pointer (some ⟨A, o, none⟩)) 1 = some (.pointer (some ⟨A, o + 1, none⟩)) := Eq.refl _
theorem ds24 : tab.desc 24 = some (.array 4 23) := by kernel_rfl
theorem ix24 (A o : Nat) (ik : IntKind) (i : Int) : zas tab 24 (.pointer (some ⟨A, o, none⟩)) (.int ik i) = if 0 ≤ i ∧ i < 4 then some (.pointer (some ⟨A, o + i.toNat * 2, none⟩)) else none := zvO ds24 (by kernel_rfl)
theorem sz26 : zaN tab 26 = some 11 := by kernel_rfl
theorem ag26 : aggA tab 26 = some true := by kernel_rfl
theorem ld26 (A o : Nat) (h : Heap) : zaS tab 26 (.pointer (some ⟨A, o, none⟩)) h = cutO (h.get A) o 11 := zd0 ag26 sz26
theorem al26 (P : Program) (ov : Ov) (d : Option Tmp) (ty : TypeId) (pos : String) (af : Array Edge) (g : Option (Nat × Bool)) (e : Env) (h : Heap) (K : Value → Heap → Prop) : WOp P tab ov ⟨d, .alloc 26, ty, pos, af, g⟩ e h K = K (.pointer (some ⟨h.size, 0, none⟩)) (h.push (.row [.string ⟨#[]⟩, .string ⟨#[]⟩, .int .i64 0, .bool false, .string ⟨#[]⟩, .bool false, .string ⟨#[]⟩, .bool false, .string ⟨#[]⟩, .bool false, .string ⟨#[]⟩] 26 false)) := zk3 d ty pos af g e h K 26 zpJ
theorem zl1 (A o : Nat) : zad tab 26 (.pointer (some ⟨A, o, none⟩)) 0 = some (.pointer (some ⟨A, o + 0, none⟩)) := Eq.refl _
theorem zlF (A o : Nat) : zad tab 26 (.pointer (some ⟨A, o, none⟩)) 1 = some (.pointer (some ⟨A, o + 1, none⟩)) := Eq.refl _
theorem ziF (A o : Nat) : zad tab 26 (.pointer (some ⟨A, o, none⟩)) 2 = some (.pointer (some ⟨A, o + 2, none⟩)) := Eq.refl _
theorem zfn (A o : Nat) : zad tab 26 (.pointer (some ⟨A, o, none⟩)) 3 = some (.pointer (some ⟨A, o + 3, none⟩)) := Eq.refl _
theorem ag27 : aggA tab 27 = some false := by kernel_rfl
theorem ld27 (A o : Nat) (h : Heap) : zaS tab 27 (.pointer (some ⟨A, o, none⟩)) h = zgp (h.get A) o := zcF ag27
theorem ds27 : tab.desc 27 = some (.slice 26) := by kernel_rfl
theorem ln27 (a : Option Addr) (n c : Nat) (h : Heap) : lenA tab 27 (.slice a n c) h = some (.int .i64 n) := zbO ds27
theorem ix27 (A o n c : Nat) (ik : IntKind) (i : Int) : zas tab 27 (.slice (some ⟨A, o, none⟩) n c) (.int ik i) = if 0 ≤ i ∧ i < n then some (.pointer (some ⟨A, o + i.toNat * 11, none⟩)) else none := zck ds27 (by kernel_rfl)
theorem sz29 : zaN tab 29 = some 12 := by kernel_rfl
theorem ag29 : aggA tab 29 = some true := by kernel_rfl
theorem ld29 (A o : Nat) (h : Heap) : zaS tab 29 (.pointer (some ⟨A, o, none⟩)) h = cutO (h.get A) o 12 := zd0 ag29 sz29
theorem zvi (A o : Nat) : zad tab 29 (.pointer (some ⟨A, o, none⟩)) 0 = some (.pointer (some ⟨A, o + 0, none⟩)) := Eq.refl _
theorem zvy (A o : Nat) : zad tab 29 (.pointer (some ⟨A, o, none⟩)) 1 = some (.pointer (some ⟨A, o + 11, none⟩)) := Eq.refl _
theorem ds32 : tab.desc 32 = some (.slice 29) := by kernel_rfl
theorem ln32 (a : Option Addr) (n c : Nat) (h : Heap) : lenA tab 32 (.slice a n c) h = some (.int .i64 n) := zbO ds32
theorem bs32 (n : Nat) (parts : List (Nat × Value)) (h : Heap) : zaK tab 32 n parts h = if n * 12 > 16777216 || n > 16777216 then Option.none else (zeW (fun i => some (i * 12, 12)) (zbQ [.string ⟨#[]⟩, .string ⟨#[]⟩, .int .i64 0, .bool false, .string ⟨#[]⟩, .bool false, .string ⟨#[]⟩, .bool false, .string ⟨#[]⟩, .bool false, .string ⟨#[]⟩, .slice none 0 0] n) parts).map fun cs => (.slice (some ⟨h.size, 0, none⟩) n n, h.push (.row cs 29 false)) := bsl ds32 zqt n parts h
theorem ix32 (A o n c : Nat) (ik : IntKind) (i : Int) : zas tab 32 (.slice (some ⟨A, o, none⟩) n c) (.int ik i) = if 0 ≤ i ∧ i < n then some (.pointer (some ⟨A, o + i.toNat * 12, none⟩)) else none := zck ds32 (by kernel_rfl)
theorem ds36 : tab.desc 36 = some (.slice 141) := by kernel_rfl
theorem bs36 (n : Nat) (parts : List (Nat × Value)) (h : Heap) : zaK tab 36 n parts h = if n * 3 > 16777216 || n > 16777216 then Option.none else (zeW (fun i => some (i * 3, 3)) (zbQ [.string ⟨#[]⟩, .bool false, .string ⟨#[]⟩] n) parts).map fun cs => (.slice (some ⟨h.size, 0, none⟩) n n, h.push (.row cs 141 false)) := bsl ds36 znW n parts h
theorem sz44 : zaN tab 44 = some 1 := by kernel_rfl
theorem ag44 : aggA tab 44 = some false := by kernel_rfl
theorem ld44 (A o : Nat) (h : Heap) : zaS tab 44 (.pointer (some ⟨A, o, none⟩)) h = zgp (h.get A) o := zcF ag44
theorem ag49 : aggA tab 49 = some false := by kernel_rfl
theorem ld49 (A o : Nat) (h : Heap) : zaS tab 49 (.pointer (some ⟨A, o, none⟩)) h = zgp (h.get A) o := zcF ag49
theorem ds49 : tab.desc 49 = some (.slice 9) := by kernel_rfl
theorem ln49 (a : Option Addr) (n c : Nat) (h : Heap) : lenA tab 49 (.slice a n c) h = some (.int .i64 n) := zbO ds49
theorem bs49 (n : Nat) (parts : List (Nat × Value)) (h : Heap) : zaK tab 49 n parts h = if n * 1 > 16777216 || n > 16777216 then Option.none else (zeW (fun i => some (i * 1, 1)) (zbQ [.string ⟨#[]⟩] n) parts).map fun cs => (.slice (some ⟨h.size, 0, none⟩) n n, h.push (.row cs 9 false)) := bsl ds49 zcJ n parts h
theorem ix49 (A o n c : Nat) (ik : IntKind) (i : Int) : zas tab 49 (.slice (some ⟨A, o, none⟩) n c) (.int ik i) = if 0 ≤ i ∧ i < n then some (.pointer (some ⟨A, o + i.toNat * 1, none⟩)) else none := zck ds49 (by kernel_rfl)
theorem ag50 : aggA tab 50 = some false := by kernel_rfl
theorem ld50 (A o : Nat) (h : Heap) : zaS tab 50 (.pointer (some ⟨A, o, none⟩)) h = zgp (h.get A) o := zcF ag50
theorem ds50 : tab.desc 50 = some (.slice 110) := by kernel_rfl
theorem ln50 (a : Option Addr) (n c : Nat) (h : Heap) : lenA tab 50 (.slice a n c) h = some (.int .i64 n) := zbO ds50
theorem ix50 (A o n c : Nat) (ik : IntKind) (i : Int) : zas tab 50 (.slice (some ⟨A, o, none⟩) n c) (.int ik i) = if 0 ≤ i ∧ i < n then some (.pointer (some ⟨A, o + i.toNat * 2, none⟩)) else none := zck ds50 (by kernel_rfl)
theorem ag51 : aggA tab 51 = some false := by kernel_rfl
theorem ld51 (A o : Nat) (h : Heap) : zaS tab 51 (.pointer (some ⟨A, o, none⟩)) h = zgp (h.get A) o := zcF ag51
theorem ds51 : tab.desc 51 = some (.slice 112) := by kernel_rfl
theorem ln51 (a : Option Addr) (n c : Nat) (h : Heap) : lenA tab 51 (.slice a n c) h = some (.int .i64 n) := zbO ds51
theorem ix51 (A o n c : Nat) (ik : IntKind) (i : Int) : zas tab 51 (.slice (some ⟨A, o, none⟩) n c) (.int ik i) = if 0 ≤ i ∧ i < n then some (.pointer (some ⟨A, o + i.toNat * 2, none⟩)) else none := zck ds51 (by kernel_rfl)
theorem ag52 : aggA tab 52 = some false := by kernel_rfl
theorem ld52 (A o : Nat) (h : Heap) : zaS tab 52 (.pointer (some ⟨A, o, none⟩)) h = zgp (h.get A) o := zcF ag52
theorem ds52 : tab.desc 52 = some (.slice 113) := by kernel_rfl
theorem ln52 (a : Option Addr) (n c : Nat) (h : Heap) : lenA tab 52 (.slice a n c) h = some (.int .i64 n) := zbO ds52
theorem ix52 (A o n c : Nat) (ik : IntKind) (i : Int) : zas tab 52 (.slice (some ⟨A, o, none⟩) n c) (.int ik i) = if 0 ≤ i ∧ i < n then some (.pointer (some ⟨A, o + i.toNat * 12, none⟩)) else none := zck ds52 (by kernel_rfl)
theorem ag53 : aggA tab 53 = some false := by kernel_rfl
theorem ld53 (A o : Nat) (h : Heap) : zaS tab 53 (.pointer (some ⟨A, o, none⟩)) h = zgp (h.get A) o := zcF ag53
theorem ds53 : tab.desc 53 = some (.slice 115) := by kernel_rfl
theorem ln53 (a : Option Addr) (n c : Nat) (h : Heap) : lenA tab 53 (.slice a n c) h = some (.int .i64 n) := zbO ds53
theorem ix53 (A o n c : Nat) (ik : IntKind) (i : Int) : zas tab 53 (.slice (some ⟨A, o, none⟩) n c) (.int ik i) = if 0 ≤ i ∧ i < n then some (.pointer (some ⟨A, o + i.toNat * 13, none⟩)) else none := zck ds53 (by kernel_rfl)
theorem sz55 : zaN tab 55 = some 7 := by kernel_rfl
theorem ag55 : aggA tab 55 = some true := by kernel_rfl
theorem ld55 (A o : Nat) (h : Heap) : zaS tab 55 (.pointer (some ⟨A, o, none⟩)) h = cutO (h.get A) o 7 := zd0 ag55 sz55
theorem al55 (P : Program) (ov : Ov) (d : Option Tmp) (ty : TypeId) (pos : String) (af : Array Edge) (g : Option (Nat × Bool)) (e : Env) (h : Heap) (K : Value → Heap → Prop) : WOp P tab ov ⟨d, .alloc 55, ty, pos, af, g⟩ e h K = K (.pointer (some ⟨h.size, 0, none⟩)) (h.push (.row [.slice none 0 0, .slice none 0 0, .slice none 0 0, .int .i64 0, .int .i64 0, .slice none 0 0, .slice none 0 0] 55 false)) := zk3 d ty pos af g e h K 55 zqH
theorem ztz (A o : Nat) : zad tab 55 (.pointer (some ⟨A, o, none⟩)) 0 = some (.pointer (some ⟨A, o + 0, none⟩)) := Eq.refl _
theorem zxu (A o : Nat) : zad tab 55 (.pointer (some ⟨A, o, none⟩)) 1 = some (.pointer (some ⟨A, o + 1, none⟩)) := Eq.refl _
theorem zpb (A o : Nat) : zad tab 55 (.pointer (some ⟨A, o, none⟩)) 2 = some (.pointer (some ⟨A, o + 2, none⟩)) := Eq.refl _
theorem zxs (A o : Nat) : zad tab 55 (.pointer (some ⟨A, o, none⟩)) 5 = some (.pointer (some ⟨A, o + 5, none⟩)) := Eq.refl _
theorem zxX (A o : Nat) : zad tab 55 (.pointer (some ⟨A, o, none⟩)) 6 = some (.pointer (some ⟨A, o + 6, none⟩)) := Eq.refl _
theorem sz57 : zaN tab 57 = some 12 := by kernel_rfl
theorem ag57 : aggA tab 57 = some true := by kernel_rfl
theorem ld57 (A o : Nat) (h : Heap) : zaS tab 57 (.pointer (some ⟨A, o, none⟩)) h = cutO (h.get A) o 12 := zd0 ag57 sz57
theorem al57 (P : Program) (ov : Ov) (d : Option Tmp) (ty : TypeId) (pos : String) (af : Array Edge) (g : Option (Nat × Bool)) (e : Env) (h : Heap) (K : Value → Heap → Prop) : WOp P tab ov ⟨d, .alloc 57, ty, pos, af, g⟩ e h K = K (.pointer (some ⟨h.size, 0, none⟩)) (h.push (.row [.int .i64 0, .string ⟨#[]⟩, .string ⟨#[]⟩, .int .i64 0, .bool false, .string ⟨#[]⟩, .bool false, .string ⟨#[]⟩, .bool false, .string ⟨#[]⟩, .bool false, .string ⟨#[]⟩] 57 false)) := zk3 d ty pos af g e h K 57 zqC
theorem zjZ (A o : Nat) : zad tab 57 (.pointer (some ⟨A, o, none⟩)) 0 = some (.pointer (some ⟨A, o + 0, none⟩)) := Eq.refl _
theorem zoO (A o : Nat) : zad tab 57 (.pointer (some ⟨A, o, none⟩)) 1 = some (.pointer (some ⟨A, o + 1, none⟩)) := Eq.refl _
theorem sz62 : zaN tab 62 = some 2 := by kernel_rfl
theorem ag62 : aggA tab 62 = some true := by kernel_rfl
theorem ld62 (A o : Nat) (h : Heap) : zaS tab 62 (.pointer (some ⟨A, o, none⟩)) h = cutO (h.get A) o 2 := zd0 ag62 sz62
theorem zvg (A o : Nat) : zad tab 62 (.pointer (some ⟨A, o, none⟩)) 0 = some (.pointer (some ⟨A, o + 0, none⟩)) := Eq.refl _
theorem zvj (A o : Nat) : zad tab 62 (.pointer (some ⟨A, o, none⟩)) 1 = some (.pointer (some ⟨A, o + 1, none⟩)) := Eq.refl _
theorem ds69 : tab.desc 69 = some (.slice 62) := by kernel_rfl
theorem ln69 (a : Option Addr) (n c : Nat) (h : Heap) : lenA tab 69 (.slice a n c) h = some (.int .i64 n) := zbO ds69
theorem ix69 (A o n c : Nat) (ik : IntKind) (i : Int) : zas tab 69 (.slice (some ⟨A, o, none⟩) n c) (.int ik i) = if 0 ≤ i ∧ i < n then some (.pointer (some ⟨A, o + i.toNat * 2, none⟩)) else none := zck ds69 (by kernel_rfl)
theorem zzb : zaN tab 110 = some 2 := by kernel_rfl
theorem ztD (A o : Nat) : zad tab 110 (.pointer (some ⟨A, o, none⟩)) 0 = some (.pointer (some ⟨A, o + 0, none⟩)) := Eq.refl _
theorem zjb : zaN tab 112 = some 2 := by kernel_rfl
theorem zv4 : aggA tab 112 = some true := by kernel_rfl
theorem zyo (A o : Nat) (h : Heap) : zaS tab 112 (.pointer (some ⟨A, o, none⟩)) h = cutO (h.get A) o 2 := zd0 zv4 zjb
theorem zhN (A o : Nat) : zad tab 112 (.pointer (some ⟨A, o, none⟩)) 0 = some (.pointer (some ⟨A, o + 0, none⟩)) := Eq.refl _
theorem ze3 (A o : Nat) : zad tab 112 (.pointer (some ⟨A, o, none⟩)) 1 = some (.pointer (some ⟨A, o + 1, none⟩)) := Eq.refl _
theorem zxx : zaN tab 113 = some 12 := by kernel_rfl
theorem zrO (A o : Nat) : zad tab 113 (.pointer (some ⟨A, o, none⟩)) 0 = some (.pointer (some ⟨A, o + 0, none⟩)) := Eq.refl _
theorem zsU (A o : Nat) : zad tab 113 (.pointer (some ⟨A, o, none⟩)) 1 = some (.pointer (some ⟨A, o + 11, none⟩)) := Eq.refl _
theorem zxN : zaN tab 115 = some 13 := by kernel_rfl
theorem zss (A o : Nat) : zad tab 115 (.pointer (some ⟨A, o, none⟩)) 0 = some (.pointer (some ⟨A, o + 0, none⟩)) := Eq.refl _
theorem zsP (A o : Nat) : zad tab 115 (.pointer (some ⟨A, o, none⟩)) 1 = some (.pointer (some ⟨A, o + 1, none⟩)) := Eq.refl _
theorem zrt (A o : Nat) : zad tab 115 (.pointer (some ⟨A, o, none⟩)) 2 = some (.pointer (some ⟨A, o + 12, none⟩)) := Eq.refl _
theorem zr7 : tab.desc 118 = some (.slice 5) := by kernel_rfl
theorem zx5 (n : Nat) (parts : List (Nat × Value)) (h : Heap) : zaK tab 118 n parts h = if n * 1 > 16777216 || n > 16777216 then Option.none else (zeW (fun i => some (i * 1, 1)) (zbQ [.int .u8 0] n) parts).map fun cs => (.slice (some ⟨h.size, 0, none⟩) n n, h.push (.row cs 5 false)) := bsl zr7 zhM n parts h
theorem znj (A o : Nat) : zad tab 123 (.pointer (some ⟨A, o, none⟩)) 0 = some (.pointer (some ⟨A, o + 0, none⟩)) := Eq.refl _
theorem zk5 (A o : Nat) : zad tab 123 (.pointer (some ⟨A, o, none⟩)) 1 = some (.pointer (some ⟨A, o + 1, none⟩)) := Eq.refl _
theorem zh2 (A o : Nat) : zad tab 123 (.pointer (some ⟨A, o, none⟩)) 2 = some (.pointer (some ⟨A, o + 2, none⟩)) := Eq.refl _
theorem zyI : zaN tab 141 = some 3 := by kernel_rfl
theorem znt (A o : Nat) : zad tab 147 (.pointer (some ⟨A, o, none⟩)) 0 = some (.pointer (some ⟨A, o + 0, none⟩)) := Eq.refl _
theorem zlb (A o : Nat) : zad tab 147 (.pointer (some ⟨A, o, none⟩)) 1 = some (.pointer (some ⟨A, o + 1, none⟩)) := Eq.refl _
theorem zr8 : tab.desc 183 = some (.slice 23) := by kernel_rfl
theorem zxF (a : Option Addr) (n c : Nat) (h : Heap) : lenA tab 183 (.slice a n c) h = some (.int .i64 n) := zbO zr8
theorem zxM (A o n c : Nat) (ik : IntKind) (i : Int) : zas tab 183 (.slice (some ⟨A, o, none⟩) n c) (.int ik i) = if 0 ≤ i ∧ i < n then some (.pointer (some ⟨A, o + i.toNat * 2, none⟩)) else none := zck zr8 (by kernel_rfl)
theorem zno (A o : Nat) : zad tab 195 (.pointer (some ⟨A, o, none⟩)) 0 = some (.pointer (some ⟨A, o + 0, none⟩)) := Eq.refl _
theorem zkd (A o : Nat) : zad tab 195 (.pointer (some ⟨A, o, none⟩)) 1 = some (.pointer (some ⟨A, o + 1, none⟩)) := Eq.refl _
theorem zhz (A o : Nat) : zad tab 195 (.pointer (some ⟨A, o, none⟩)) 2 = some (.pointer (some ⟨A, o + 2, none⟩)) := Eq.refl _
theorem zry (A o : Nat) : zad tab 197 (.pointer (some ⟨A, o, none⟩)) 0 = some (.pointer (some ⟨A, o + 0, none⟩)) := Eq.refl _
theorem fi5 (K : Value → Heap → Prop) (e : Env) (h : Heap) : finE tab Tryz.f5 K .ret e h = K (e.get 10) h := zap rfl
theorem fi6 (K : Value → Heap → Prop) (e : Env) (h : Heap) : finE tab Tryz.f6 K .ret e h = K (e.get 8) h := zap rfl
theorem fi11 (K : Value → Heap → Prop) (e : Env) (h : Heap) : finE tab Tryz.f11 K .ret e h = K (e.get 4) h := zap rfl
theorem fi12 (K : Value → Heap → Prop) (e : Env) (h : Heap) : finE tab Tryz.f12 K .ret e h = K (e.get 4) h := zap rfl
theorem fi13 (K : Value → Heap → Prop) (e : Env) (h : Heap) : finE tab Tryz.f13 K .ret e h = K (e.get 4) h := zap rfl
theorem fi15 (K : Value → Heap → Prop) (e : Env) (h : Heap) : finE tab Tryz.f15 K .ret e h = K (.tuple #[e.get 6, e.get 7]) h := znk rfl
theorem fi16 (K : Value → Heap → Prop) (e : Env) (h : Heap) : finE tab Tryz.f16 K .ret e h = K (e.get 4) h := zap rfl
theorem fi18 (K : Value → Heap → Prop) (e : Env) (h : Heap) : finE tab Tryz.f18 K .ret e h = valE (zaS tab 26 (e.get 4) h) h K := zg3 rfl
theorem fi19 (K : Value → Heap → Prop) (e : Env) (h : Heap) : finE tab Tryz.f19 K .ret e h = K (e.get 2) h := zap rfl
theorem fi21 (K : Value → Heap → Prop) (e : Env) (h : Heap) : finE tab Tryz.f21 K .ret e h = K (e.get 4) h := zap rfl
theorem fi23 (K : Value → Heap → Prop) (e : Env) (h : Heap) : finE tab Tryz.f23 K .ret e h = K (e.get 2) h := zap rfl
theorem fi24 (K : Value → Heap → Prop) (e : Env) (h : Heap) : finE tab Tryz.f24 K .ret e h = K (e.get 2) h := zap rfl
theorem fi25 (K : Value → Heap → Prop) (e : Env) (h : Heap) : finE tab Tryz.f25 K .ret e h = K (e.get 6) h := zap rfl
theorem fi26 (K : Value → Heap → Prop) (e : Env) (h : Heap) : finE tab Tryz.f26 K .ret e h = K (.tuple #[e.get 2, e.get 3]) h := znk rfl
theorem fi27 (K : Value → Heap → Prop) (e : Env) (h : Heap) : finE tab Tryz.f27 K .ret e h = K (e.get 4) h := zap rfl
theorem fi28 (K : Value → Heap → Prop) (e : Env) (h : Heap) : finE tab Tryz.f28 K .ret e h = valE (zaS tab 57 (e.get 2) h) h (fun x h' => K (.tuple #[x, e.get 3]) h') := zhB rfl
theorem fi69 (K : Value → Heap → Prop) (e : Env) (h : Heap) : finE tab Tryz.f69 K .ret e h = K (e.get 6) h := zap rfl
theorem fi70 (K : Value → Heap → Prop) (e : Env) (h : Heap) : finE tab Tryz.f70 K .ret e h = valE (zaS tab 57 (e.get 2) h) h (fun x h' => K (.tuple #[x, e.get 3]) h') := zhB rfl
theorem fi71 (K : Value → Heap → Prop) (e : Env) (h : Heap) : finE tab Tryz.f71 K .ret e h = K (e.get 6) h := zap rfl
theorem fi72 (K : Value → Heap → Prop) (e : Env) (h : Heap) : finE tab Tryz.f72 K .ret e h = K (e.get 2) h := zap rfl
theorem fi73 (K : Value → Heap → Prop) (e : Env) (h : Heap) : finE tab Tryz.f73 K .ret e h = K (.tuple #[e.get 2, e.get 3]) h := znk rfl
theorem fi74 (K : Value → Heap → Prop) (e : Env) (h : Heap) : finE tab Tryz.f74 K .ret e h = K (e.get 4) h := zap rfl
theorem fi75 (K : Value → Heap → Prop) (e : Env) (h : Heap) : finE tab Tryz.f75 K .ret e h = K (e.get 4) h := zap rfl
theorem fi76 (K : Value → Heap → Prop) (e : Env) (h : Heap) : finE tab Tryz.f76 K .ret e h = K (e.get 2) h := zap rfl
theorem fi77 (K : Value → Heap → Prop) (e : Env) (h : Heap) : finE tab Tryz.f77 K .ret e h = valE (zaS tab 26 (e.get 2) h) h K := zg3 rfl
theorem fi90 (K : Value → Heap → Prop) (e : Env) (h : Heap) : finE tab Tryz.f90 K .ret e h = K (e.get 2) h := zap rfl
theorem zyt (K : Value → Heap → Prop) (e : Env) (h : Heap) : finE tab Tryz.f104 K .ret e h = K (e.get 2) h := zap rfl
theorem zyE (K : Value → Heap → Prop) (e : Env) (h : Heap) : finE tab Tryz.f105 K .ret e h = valE (zaS tab 26 (e.get 2) h) h K := zg3 rfl
theorem zyP (K : Value → Heap → Prop) (e : Env) (h : Heap) : finE tab Tryz.f106 K .ret e h = K undef h := zxl rfl
theorem zzh (K : Value → Heap → Prop) (e : Env) (h : Heap) : finE tab Tryz.f106 K .normal e h = K undef h := zwS rfl
theorem zyZ (K : Value → Heap → Prop) (e : Env) (h : Heap) : finE tab Tryz.f107 K .ret e h = K (e.get 2) h := zap rfl
theorem zyB (K : Value → Heap → Prop) (e : Env) (h : Heap) : finE tab Tryz.f108 K .ret e h = K (e.get 4) h := zap rfl
theorem zym (K : Value → Heap → Prop) (e : Env) (h : Heap) : finE tab Tryz.f109 K .ret e h = K (e.get 4) h := zap rfl
theorem zyC (K : Value → Heap → Prop) (e : Env) (h : Heap) : finE tab Tryz.f110 K .ret e h = K (e.get 2) h := zap rfl
theorem zyx (K : Value → Heap → Prop) (e : Env) (h : Heap) : finE tab Tryz.f111 K .ret e h = K (e.get 2) h := zap rfl
theorem zyd (K : Value → Heap → Prop) (e : Env) (h : Heap) : finE tab Tryz.f112 K .ret e h = K (e.get 2) h := zap rfl
theorem zzm (K : Value → Heap → Prop) (e : Env) (h : Heap) : finE tab Tryz.f120 K .ret e h = K (e.get 2) h := zap rfl
theorem zyO (K : Value → Heap → Prop) (e : Env) (h : Heap) : finE tab Tryz.f121 K .ret e h = K (e.get 2) h := zap rfl
theorem zya (K : Value → Heap → Prop) (e : Env) (h : Heap) : finE tab Tryz.f122 K .ret e h = K (e.get 2) h := zap rfl
theorem zy4 (K : Value → Heap → Prop) (e : Env) (h : Heap) : finE tab Tryz.f125 K .ret e h = K (e.get 2) h := zap rfl
theorem zzf (K : Value → Heap → Prop) (e : Env) (h : Heap) : finE tab Tryz.f138 K .ret e h = K (e.get 4) h := zap rfl
theorem zy0 (K : Value → Heap → Prop) (e : Env) (h : Heap) : finE tab Tryz.f140 K .ret e h = K (e.get 4) h := zap rfl
theorem zza (K : Value → Heap → Prop) (e : Env) (h : Heap) : finE tab Tryz.f141 K .ret e h = K (e.get 4) h := zap rfl
theorem zy5 (K : Value → Heap → Prop) (e : Env) (h : Heap) : finE tab Tryz.f142 K .ret e h = K (e.get 4) h := zap rfl
theorem zyS (K : Value → Heap → Prop) (e : Env) (h : Heap) : finE tab Tryz.f143 K .ret e h = K (e.get 3) h := zap rfl
theorem zzg (K : Value → Heap → Prop) (e : Env) (h : Heap) : finE tab Tryz.f146 K .ret e h = K (e.get 2) h := zap rfl
theorem zyk (K : Value → Heap → Prop) (e : Env) (h : Heap) : finE tab Tryz.f147 K .ret e h = K (e.get 2) h := zap rfl
theorem zyz (K : Value → Heap → Prop) (e : Env) (h : Heap) : finE tab Tryz.f148 K .ret e h = K (.tuple #[e.get 2, e.get 3, e.get 4]) h := zl5 rfl
theorem zyy (K : Value → Heap → Prop) (e : Env) (h : Heap) : finE tab Tryz.f155 K .ret e h = K (e.get 2) h := zap rfl
theorem zyY (K : Value → Heap → Prop) (e : Env) (h : Heap) : finE tab Tryz.f156 K .ret e h = K (e.get 2) h := zap rfl
theorem zzl (K : Value → Heap → Prop) (e : Env) (h : Heap) : finE tab Tryz.f157 K .ret e h = K (e.get 2) h := zap rfl
theorem zyb (K : Value → Heap → Prop) (e : Env) (h : Heap) : finE tab Tryz.f159 K .ret e h = K (e.get 2) h := zap rfl
theorem zyL (K : Value → Heap → Prop) (e : Env) (h : Heap) : finE tab Tryz.f160 K .ret e h = K (e.get 2) h := zap rfl
theorem zyJ (K : Value → Heap → Prop) (e : Env) (h : Heap) : finE tab Tryz.f161 K .ret e h = K (e.get 4) h := zap rfl
theorem zyX (K : Value → Heap → Prop) (e : Env) (h : Heap) : finE tab Tryz.f162 K .ret e h = K (e.get 2) h := zap rfl
theorem zyW (K : Value → Heap → Prop) (e : Env) (h : Heap) : finE tab Tryz.f163 K .ret e h = K (e.get 2) h := zap rfl
theorem zyD (K : Value → Heap → Prop) (e : Env) (h : Heap) : finE tab Tryz.f164 K .ret e h = K (e.get 2) h := zap rfl
theorem zy6 (K : Value → Heap → Prop) (e : Env) (h : Heap) : finE tab Tryz.f177 K .ret e h = valE (zaS tab 26 (e.get 2) h) h K := zg3 rfl
theorem zyu (K : Value → Heap → Prop) (e : Env) (h : Heap) : finE tab Tryz.f181 K .ret e h = K (e.get 2) h := zap rfl
theorem zyG (K : Value → Heap → Prop) (e : Env) (h : Heap) : finE tab Tryz.f182 K .ret e h = K (e.get 2) h := zap rfl
theorem zye (K : Value → Heap → Prop) (e : Env) (h : Heap) : finE tab Tryz.f183 K .ret e h = K (e.get 2) h := zap rfl
theorem zy2 (K : Value → Heap → Prop) (e : Env) (h : Heap) : finE tab Tryz.f184 K .ret e h = K (e.get 2) h := zap rfl
theorem zyA (K : Value → Heap → Prop) (e : Env) (h : Heap) : finE tab Tryz.f185 K .ret e h = K (e.get 6) h := zap rfl
theorem zzk (K : Value → Heap → Prop) (e : Env) (h : Heap) : finE tab Tryz.f186 K .ret e h = K (e.get 2) h := zap rfl
theorem zy8 (K : Value → Heap → Prop) (e : Env) (h : Heap) : finE tab Tryz.f187 K .ret e h = K (e.get 2) h := zap rfl
theorem zzn (K : Value → Heap → Prop) (e : Env) (h : Heap) : finE tab Tryz.f188 K .ret e h = K (e.get 2) h := zap rfl
theorem zyF (K : Value → Heap → Prop) (e : Env) (h : Heap) : finE tab Tryz.f189 K .ret e h = K (e.get 4) h := zap rfl
theorem zyj (K : Value → Heap → Prop) (e : Env) (h : Heap) : finE tab Tryz.f190 K .ret e h = K (e.get 2) h := zap rfl
theorem zyR (K : Value → Heap → Prop) (e : Env) (h : Heap) : finE tab Tryz.f191 K .ret e h = K (e.get 2) h := zap rfl
theorem zyl (K : Value → Heap → Prop) (e : Env) (h : Heap) : finE tab Tryz.f199 K .ret e h = K (e.get 2) h := zap rfl
theorem zyU (K : Value → Heap → Prop) (e : Env) (h : Heap) : finE tab Tryz.f200 K .ret e h = K (e.get 2) h := zap rfl
theorem zy3 (K : Value → Heap → Prop) (e : Env) (h : Heap) : finE tab Tryz.f201 K .ret e h = K (e.get 2) h := zap rfl
theorem zyQ (K : Value → Heap → Prop) (e : Env) (h : Heap) : finE tab Tryz.f214 K .ret e h = K (e.get 0) h := zap rfl
theorem zyN (K : Value → Heap → Prop) (e : Env) (h : Heap) : finE tab Tryz.f215 K .ret e h = K (e.get 2) h := zap rfl
theorem zzc (K : Value → Heap → Prop) (e : Env) (h : Heap) : finE tab Tryz.f216 K .ret e h = K (e.get 0) h := zap rfl
theorem zyi (K : Value → Heap → Prop) (e : Env) (h : Heap) : finE tab Tryz.f217 K .ret e h = K (e.get 2) h := zap rfl
theorem zzi (K : Value → Heap → Prop) (e : Env) (h : Heap) : finE tab Tryz.f218 K .ret e h = K (e.get 2) h := zap rfl
theorem zyT (K : Value → Heap → Prop) (e : Env) (h : Heap) : finE tab Tryz.f219 K .ret e h = K (e.get 2) h := zap rfl
theorem zyq (K : Value → Heap → Prop) (e : Env) (h : Heap) : finE tab Tryz.f223 K .ret e h = K (.tuple #[e.get 2, e.get 3, e.get 4]) h := zl5 rfl
end Go.Proofs.YtemapihoobmonaaGreatDoor

/- The code of some functions, node by node, for simp. Written by a program (mkcode.py). No condition. -/
import Derived.Test.YtemapihoobmonaaGreatDoorG17
import Derived.Test.YtemapihoobmonaaGreatDoorG15
import Derived.KernelRfl
import Derived.Test.YtemapihoobmonaaGreatDoorG18
import Derived.Test.YtemapihoobmonaaGreatDoorG26
namespace Go.Proofs.YtemapihoobmonaaGreatDoor
open Go.Am
set_option linter.unusedVariables false
set_option linter.unusedSimpArgs false
set_option maxRecDepth 100000
set_option maxHeartbeats 0
noncomputable def N21 := zaz Tryz.f21
noncomputable def x21 := PLift.up (by have c := zah N21 Tryz.f21; simp only [zao, Tryz.f21, Option.getD_some, zal, opsF, opsX, zag, zaA, dstL, zam, List.append_eq, List.cons_append, List.nil_append, seval] at c; exact nd c <| nd @ix27 <| nd @ld26 <| nd @ln27 <| @fi21)
theorem c21 : type_of% x21.down := x21.down
noncomputable def N156 := zaz Tryz.f156
noncomputable def x156 := PLift.up (by have c := zah N156 Tryz.f156; simp only [zao, Tryz.f156, Option.getD_some, zal, opsF, opsX, zag, zaA, dstL, zam, List.append_eq, List.cons_append, List.nil_append, seval] at c; exact nd c <| @zyP)
theorem c156 : type_of% x156.down := x156.down
noncomputable def N183 := zaz Tryz.f183
noncomputable def x183 := PLift.up (by have c := zah N183 Tryz.f183; simp only [zao, Tryz.f183, Option.getD_some, zal, opsF, opsX, zag, zaA, dstL, zam, List.append_eq, List.cons_append, List.nil_append, seval] at c; exact nd c <| @zze)
theorem c183 : type_of% x183.down := x183.down
noncomputable def N184 := zaz Tryz.f184
noncomputable def x184 := PLift.up (by have c := zah N184 Tryz.f184; simp only [zao, Tryz.f184, Option.getD_some, zal, opsF, opsX, zag, zaA, dstL, zam, List.append_eq, List.cons_append, List.nil_append, seval] at c; exact nd c <| @zzt)
theorem c184 : type_of% x184.down := x184.down
noncomputable def N181 := zaz Tryz.f181
noncomputable def x181 := PLift.up (by have c := zah N181 Tryz.f181; simp only [zao, Tryz.f181, Option.getD_some, zal, opsF, opsX, zag, zaA, dstL, zam, List.append_eq, List.cons_append, List.nil_append, seval] at c; exact nd c <| nd @ln9 <| @zzK)
theorem c181 : type_of% x181.down := x181.down
noncomputable def N157 := zaz Tryz.f157
noncomputable def x157 := PLift.up (by have c := zah N157 Tryz.f157; simp only [zao, Tryz.f157, Option.getD_some, zal, opsF, opsX, zag, zaA, dstL, zam, List.append_eq, List.cons_append, List.nil_append, seval] at c; exact nd c <| nd @ln9 <| @zyy)
theorem c157 : type_of% x157.down := x157.down
noncomputable def N182 := zaz Tryz.f182
noncomputable def x182 := PLift.up (by have c := zah N182 Tryz.f182; simp only [zao, Tryz.f182, Option.getD_some, zal, opsF, opsX, zag, zaA, dstL, zam, List.append_eq, List.cons_append, List.nil_append, seval] at c; exact nd c <| nd @ix49 <| nd @ld9 <| nd @ln49 <| @zy8)
theorem c182 : type_of% x182.down := x182.down
noncomputable def N214 := zaz Tryz.f214
noncomputable def x214 := PLift.up (by have c := zah N214 Tryz.f214; simp only [zao, Tryz.f214, Option.getD_some, zal, opsF, opsX, zag, zaA, dstL, zam, List.append_eq, List.cons_append, List.nil_append, seval] at c; exact nd c <| nd @bs49 <| @zyA)
theorem c214 : type_of% x214.down := x214.down
noncomputable def N155 := zaz Tryz.f155
noncomputable def x155 := PLift.up (by have c := zah N155 Tryz.f155; simp only [zao, Tryz.f155, Option.getD_some, zal, opsF, opsX, zag, zaA, dstL, zam, List.append_eq, List.cons_append, List.nil_append, seval] at c; exact nd c <| @zzJ)
theorem c155 : type_of% x155.down := x155.down
noncomputable def N120 := zaz Tryz.f120
noncomputable def x120 := PLift.up (by have c := zah N120 Tryz.f120; simp only [zao, Tryz.f120, Option.getD_some, zal, opsF, opsX, zag, zaA, dstL, zam, List.append_eq, List.cons_append, List.nil_append, seval] at c; exact nd c <| @zyB)
theorem c120 : type_of% x120.down := x120.down
noncomputable def N121 := zaz Tryz.f121
noncomputable def x121 := PLift.up (by have c := zah N121 Tryz.f121; simp only [zao, Tryz.f121, Option.getD_some, zal, opsF, opsX, zag, zaA, dstL, zam, List.append_eq, List.cons_append, List.nil_append, seval] at c; exact nd c <| @zzd)
theorem c121 : type_of% x121.down := x121.down
noncomputable def N122 := zaz Tryz.f122
noncomputable def x122 := PLift.up (by have c := zah N122 Tryz.f122; simp only [zao, Tryz.f122, Option.getD_some, zal, opsF, opsX, zag, zaA, dstL, zam, List.append_eq, List.cons_append, List.nil_append, seval] at c; exact nd c <| nd @zem <| nd @zdr <| nd @ld4 <| nd @ld9 <| @zzq)
theorem c122 : type_of% x122.down := x122.down
noncomputable def N90 := zaz Tryz.f90
noncomputable def x90 := PLift.up (by have c := zah N90 Tryz.f90; simp only [zao, Tryz.f90, Option.getD_some, zal, opsF, opsX, zag, zaA, dstL, zam, List.append_eq, List.cons_append, List.nil_append, seval] at c; exact nd c <| nd @zjf <| nd @zju <| nd @zgV <| nd @zee <| nd @ix24 <| nd @ld23 <| nd @ld3 <| nd @ld9 <| @fi90)
theorem c90 : type_of% x90.down := x90.down
end Go.Proofs.YtemapihoobmonaaGreatDoor
namespace Go.Proofs.YtemapihoobmonaaGreatDoor
open Go.Am
set_option linter.unusedSimpArgs false
set_option linter.unusedVariables false
set_option maxRecDepth 100000
set_option maxHeartbeats 0
theorem zkx (c : Int) (h : Heap) (K : Value → Heap → Prop) (h1 : (97 ≤ c ∧ c ≤ 122) → K (.bool true) h) (h2 : ¬ (97 ≤ c ∧ c ≤ 122) → K (.bool false) h) : Ok Tryz.prog tab ov 156 [.int .u8 c] h K := by
  refine Ok.into rfl zsQ (zaB N156) rfl (m := 8) rfl ?_
  simp -implicitDefEqProofs only [syms, symx, seval, c156]
  repeat' (refine zaw (fun c => ?_) (fun c => ?_) <;> simp -implicitDefEqProofs only [syms, symx, seval, c156])
  all_goals first | exact h1 (by omega) | exact h2 (by omega)
theorem zoO (c : Int) (h : Heap) (K : Value → Heap → Prop) (h1 : (65 ≤ c ∧ c ≤ 90) → K (.bool true) h) (h2 : ¬ (65 ≤ c ∧ c ≤ 90) → K (.bool false) h) : Ok Tryz.prog tab ov 183 [.int .u8 c] h K := by
  refine Ok.into rfl zth (zaB N183) rfl (m := 8) rfl ?_
  simp -implicitDefEqProofs only [syms, symx, seval, c183]
  repeat' (refine zaw (fun c => ?_) (fun c => ?_) <;> simp -implicitDefEqProofs only [syms, symx, seval, c183])
  all_goals first | exact h1 (by omega) | exact h2 (by omega)
theorem zop (c : Int) (h : Heap) (K : Value → Heap → Prop) (h1 : (48 ≤ c ∧ c ≤ 57) → K (.bool true) h) (h2 : ¬ (48 ≤ c ∧ c ≤ 57) → K (.bool false) h) : Ok Tryz.prog tab ov 184 [.int .u8 c] h K := by
  refine Ok.into rfl zsL (zaB N184) rfl (m := 8) rfl ?_
  simp -implicitDefEqProofs only [syms, symx, seval, c184]
  repeat' (refine zaw (fun c => ?_) (fun c => ?_) <;> simp -implicitDefEqProofs only [syms, symx, seval, c184])
  all_goals first | exact h1 (by omega) | exact h2 (by omega)
theorem zwt : zdk tab 23 [] = some noTermD.val := by kernel_rfl
theorem zhg (a : AtomD) (k : Nat) (hk : k < 4) : cut a.cells (3 + k * 2) 2 = some (a.arg k).cells := by
  have : k = 0 ∨ k = 1 ∨ k = 2 ∨ k = 3 := by omega
  rcases this with rfl | rfl | rfl | rfl <;> rfl
theorem zfS (a : TermD) : Value.agg a.cells.toArray = a.val := rfl
theorem znR (a : AtomD) : a.cells[0]? = some (.string a.says) := rfl
theorem zn4 (a : AtomD) : a.cells[1]? = some (.string a.pred) := rfl
theorem zhu (a : AtomD) : a.cells[2]? = some (.int .i64 a.n) := rfl
end Go.Proofs.YtemapihoobmonaaGreatDoor

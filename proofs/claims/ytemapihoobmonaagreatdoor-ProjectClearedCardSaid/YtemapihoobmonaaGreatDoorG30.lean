/- The code of some functions, node by node, for simp. Written by a program (mkcode.py). No condition. -/
import Derived.Test.YtemapihoobmonaaGreatDoorG23
import Derived.Test.YtemapihoobmonaaGreatDoorG27
import Derived.KernelRfl
import Derived.Test.YtemapihoobmonaaGreatDoorG29
import Derived.Test.YtemapihoobmonaaGreatDoorG20
namespace Go.Proofs.YtemapihoobmonaaGreatDoor
open Go.Am
set_option linter.unusedVariables false
set_option linter.unusedSimpArgs false
set_option maxRecDepth 100000
set_option maxHeartbeats 0
noncomputable def N223 := zaz Tryz.f223
noncomputable def x223 := PLift.up (by have c := zaj N223 Tryz.f223; simp only [zap, Tryz.f223, Option.getD_some, zao, opsF, opsX, zag, zay, dstL, zan, List.append_eq, List.cons_append, List.nil_append, seval] at c; exact nd c <| nd @ln9 <| @zz8)
theorem c223 : type_of% x223.down := x223.down
noncomputable def N200 := zaz Tryz.f200
noncomputable def x200 := PLift.up (by have c := zaj N200 Tryz.f200; simp only [zap, Tryz.f200, Option.getD_some, zao, opsF, opsX, zag, zay, dstL, zan, List.append_eq, List.cons_append, List.nil_append, seval] at c; exact nd c <| nd @zoY <| nd @zkk <| nd @zh2 <| nd @ld3 <| nd @ld4 <| nd @ld9 <| @zz4)
theorem c200 : type_of% x200.down := x200.down
noncomputable def N199 := zaz Tryz.f199
noncomputable def x199 := PLift.up (by have c := zaj N199 Tryz.f199; simp only [zap, Tryz.f199, Option.getD_some, zao, opsF, opsX, zag, zay, dstL, zan, List.append_eq, List.cons_append, List.nil_append, seval] at c; exact nd c <| nd @zoY <| nd @zkk <| nd @zh2 <| nd @ld3 <| nd @ld4 <| nd @ld9 <| nd @ln9 <| @zzQ)
theorem c199 : type_of% x199.down := x199.down
noncomputable def N201 := zaz Tryz.f201
noncomputable def x201 := PLift.up (by have c := zaj N201 Tryz.f201; simp only [zap, Tryz.f201, Option.getD_some, zao, opsF, opsX, zag, zay, dstL, zan, List.append_eq, List.cons_append, List.nil_append, seval] at c; exact nd c <| nd @zoY <| nd @zkk <| nd @zh2 <| nd @ld3 <| nd @ld4 <| nd @ld9 <| nd @ln9 <| @zAb)
theorem c201 : type_of% x201.down := x201.down
noncomputable def N177 := zaz Tryz.f177
noncomputable def x177 := PLift.up (by have c := zaj N177 Tryz.f177; simp only [zap, Tryz.f177, Option.getD_some, zao, opsF, opsX, zag, zay, dstL, zan, List.append_eq, List.cons_append, List.nil_append, seval] at c; exact nd c <| nd @al26 <| nd @zh2 <| nd @zsI <| nd @zo3 <| nd @zmp <| nd @zo4 <| nd @zpj <| nd @zj7 <| nd @zhD <| nd @ix24 <| nd @ld26 <| nd @ld4 <| @zAa)
theorem c177 : type_of% x177.down := x177.down
noncomputable def N139 := zaz Tryz.f139
noncomputable def x139 := PLift.up (by have c := zaj N139 Tryz.f139; simp only [zap, Tryz.f139, Option.getD_some, zao, opsF, opsX, zag, zay, dstL, zan, List.append_eq, List.cons_append, List.nil_append, seval] at c; exact nd c <| nd @al26 <| nd @zkk <| nd @zh2 <| nd @zsI <| nd @ld26 <| nd @ld3 <| @ld4)
theorem c139 : type_of% x139.down := x139.down
noncomputable def N138 := zaz Tryz.f138
noncomputable def x138 := PLift.up (by have c := zaj N138 Tryz.f138; simp only [zap, Tryz.f138, Option.getD_some, zao, opsF, opsX, zag, zay, dstL, zan, List.append_eq, List.cons_append, List.nil_append, seval] at c; exact nd c <| nd @zn8 <| nd @zk4 <| nd @ld44 <| nd @ld9 <| nd @ln9 <| @zzU)
theorem c138 : type_of% x138.down := x138.down
noncomputable def N104 := zaz Tryz.f104
noncomputable def x104 := PLift.up (by have c := zaj N104 Tryz.f104; simp only [zap, Tryz.f104, Option.getD_some, zao, opsF, opsX, zag, zay, dstL, zan, List.append_eq, List.cons_append, List.nil_append, seval] at c; exact nd c <| @zzN)
theorem c104 : type_of% x104.down := x104.down
noncomputable def N105 := zaz Tryz.f105
noncomputable def x105 := PLift.up (by have c := zaj N105 Tryz.f105; simp only [zap, Tryz.f105, Option.getD_some, zao, opsF, opsX, zag, zay, dstL, zan, List.append_eq, List.cons_append, List.nil_append, seval] at c; exact nd c <| nd @al26 <| nd @zn8 <| nd @zk4 <| nd @ld26 <| nd @ld44 <| nd @ld9 <| @zzz)
theorem c105 : type_of% x105.down := x105.down
noncomputable def N106 := zaz Tryz.f106
noncomputable def x106 := PLift.up (by have c := zaj N106 Tryz.f106; simp only [zap, Tryz.f106, Option.getD_some, zao, opsF, opsX, zag, zay, dstL, zan, List.append_eq, List.cons_append, List.nil_append, seval] at c; exact nd c <| nd @zn8 <| nd @zk4 <| nd @ld44 <| nd @ld9 <| nd @zz9 <| @zzM)
theorem c106 : type_of% x106.down := x106.down
noncomputable def N107 := zaz Tryz.f107
noncomputable def x107 := PLift.up (by have c := zaj N107 Tryz.f107; simp only [zap, Tryz.f107, Option.getD_some, zao, opsF, opsX, zag, zay, dstL, zan, List.append_eq, List.cons_append, List.nil_append, seval] at c; exact nd c <| nd @zj1 <| nd @ztN <| nd @ld26 <| nd @ld3 <| @zyZ)
theorem c107 : type_of% x107.down := x107.down
noncomputable def N70 := zaz Tryz.f70
noncomputable def x70 := PLift.up (by have c := zaj N70 Tryz.f70; simp only [zap, Tryz.f70, Option.getD_some, zao, opsF, opsX, zag, zay, dstL, zan, List.append_eq, List.cons_append, List.nil_append, seval] at c; exact nd c <| nd @al57 <| nd @zk4 <| nd @ld44 <| nd @ld57 <| nd @ln9 <| @fi70)
theorem c70 : type_of% x70.down := x70.down
end Go.Proofs.YtemapihoobmonaaGreatDoor
namespace Go.Proofs.YtemapihoobmonaaGreatDoor
open Go.Am
set_option linter.unusedSimpArgs false
set_option linter.unusedVariables false
set_option maxRecDepth 100000
set_option maxHeartbeats 0
theorem zm7 (a : Int) : zax Tryz.prog (Next.value <$> convert 5 201 (.int .u8 a)) = some (Next.value (.int .u64 (IntKind.u64.wrap a))) := by rfl
theorem zeR (a : Int) : zax Tryz.prog (Next.value <$> convert 201 151 (.int .u64 a)) = some (Next.value (.int .u32 (IntKind.u32.wrap a))) := by rfl
theorem zdy (s : ByteArray) (i : Nat) : zbi s ((i : Int).toNat) = (zaL s i : Int) := by rw [Int.toNat_natCast]; rfl
theorem zoc (s : ByteArray) (h : Heap) (hs : s.size ≤ 100000) (K : Value → Heap → Prop) (h1k : numD s = none → ∀ h', Ext h h' → K (.tuple #[.int .u32 0, .int .i64 0, .int .i64 15]) h') (h2k : ∀ n k : Nat, numD s = some (n, k) → ∀ h', Ext h h' → K (.tuple #[.int .u32 n, .int .i64 k, .int .i64 0]) h') : Ok Tryz.prog tab ov 223 [.string s] h K := by
  rw [zaa h]
  have z := Ext.refl h
  have hva : ∀ (h : Heap) (K : Value → Heap → Prop), valE (some (.string s)) h K = K (.string s) h := fun _ _ => rfl
  refine Ok.into rfl zrD (zaD N223) rfl (m := 44) rfl ?_
  simp -implicitDefEqProofs only [syms, symx, seval, c223, hva]
  refine ztI rfl rfl ?_
  have hmn : (if (5 : Int) < (s.size : Int) then (5 : Int) else (s.size : Int)) = ((min s.size 5 : Nat) : Int) := by split <;> omega
  rw [hmn]
  simp -implicitDefEqProofs only [syms, symx, seval, c223, hva]
  obtain ⟨I1, hI1⟩ : ∃ I : Nat → Env → Heap → Prop, I = (fun n e h' => ∃ (i : Nat) (h1 : Heap), h' = h1.lay [] h1.low ∧ Ext h h1 ∧ (n = min s.size 5 - i ∧ i ≤ min s.size 5 ∧ (∀ j, j < i → 128 ≤ zaL s j)) ∧ ∃ J : Nat → Value, e = (.string s :: jr J 1 4 (.int .u64 (accN s i) :: jr J 6 3 (.int .i64 (min s.size 5 : Nat) :: .int .i64 i :: jr J 11 34 ([]))))) := ⟨_, rfl⟩
  refine zaJ I1 _ (by rw [hI1]; exact ⟨0, _, rfl, z, ⟨rfl, by omega, by simp⟩, junk (by kernel_rfl)⟩) ?_
  intro n e h' hin
  rw [hI1] at hin
  obtain ⟨i, h1', rfl, z, hinv, J, rfl⟩ := hin
  obtain ⟨rfl, hi, hb⟩ := hinv
  have hwi : IntKind.i64.wrap ((i : Int) + 1) = ((i + 1 : Nat) : Int) := by rw [zai (by omega) (by omega)]; omega
  have hw7 : IntKind.i64.wrap (7 * (i : Int)) = ((7 * i : Nat) : Int) := by rw [zai (by omega) (by omega)]; omega
  have hbl := zdt s i
  simp -implicitDefEqProofs only [syms, symx, seval, c223]
  refine zau (fun hlt => ?_) (fun hlt => ?_)
  rotate_left
  · repeat' ( simp -implicitDefEqProofs only [syms, symx, seval, c223])
    exact h1k (by unfold numD; rw [zif (fun j hj => hb j (by omega))]) _ (z.upW _ _ (by omega))
  have hp28 : 2 ^ (7 * i) ≤ 2 ^ 28 := Nat.pow_le_pow_right (by decide) (by omega)
  rw [show (2 : Nat) ^ 28 = 268435456 by decide] at hp28
  have hpr : zaL s i % 128 * 2 ^ (7 * i) ≤ 127 * 268435456 := Nat.mul_le_mul (by omega) hp28
  have hac := zhb s i
  have hac1 := zhb s (i + 1)
  have hshl := zly (P := Tryz.prog) (T := tab) (t := 201) (k2 := .i64) (a := zaL s i % 128) (n := 7 * i) (by omega) (by omega)
  have hor : binA Tryz.prog tab .or 201 (.int .u64 (accN s i : Nat)) (.int .u64 (zaL s i % 128 * 2 ^ (7 * i) : Nat)) = some (.int .u64 ((accN s (i + 1) : Nat) : Int)) := zo7 (by omega) (by omega)
  have hand := zps (P := Tryz.prog) (T := tab) (t := 5) (a := zaL s i) (b := 128) hbl (by decide)
  rw [zwV hbl] at hand
  have hnz : (((128 : Nat) : Int) != 0) = true := rfl
  simp -implicitDefEqProofs only [syms, symx, seval, c223]
  refine zbd Tryz.underlying9 rfl rfl (by omega) (by omega) ?_
  rw [zdy]
  simp -implicitDefEqProofs only [syms, symx, seval, c223, znI hbl]
  rw [zbr rfl rfl rfl (zm7 _) rfl, zfY (by omega) (by omega)]
  simp -implicitDefEqProofs only [syms, symx, seval, c223, zsT, hw7, hshl, hor]
  refine zbd Tryz.underlying9 rfl rfl (by omega) (by omega) ?_
  rw [zdy]
  by_cases hb1 : zaL s i < 128
  · rw [if_pos hb1] at hand
    replace hand : binA Tryz.prog tab .and 5 (.int .u8 (zaL s i : Nat)) (.int .u8 128) = some (.int .u8 0) := hand
    have hb10 : ∀ (Q : Ex → Env → Heap → Prop) (e : Env) (h : Heap), zew 1 Q (.exit 0) e h = Q (.exit 0) e h := fun Q e h => rfl
    have hend := zlN (s := s) (i := i) (by omega) hb hb1
    have hw1 : IntKind.i64.wrap ((i : Int) + 1) = ((i + 1 : Nat) : Int) := hwi
    simp -implicitDefEqProofs only [syms, symx, seval, c223, hand, bne_self_eq_false]
    refine zau (fun hgt => ?_) (fun hgt => ?_)
    · repeat' ( simp -implicitDefEqProofs only [syms, symx, seval, c223, hb10])
      exact h1k (by unfold numD; rw [hend]; exact if_pos (.inl (by omega))) _ (z.upW _ _ (by omega))
    simp -implicitDefEqProofs only [syms, symx, seval, c223]
    refine zau (fun hi0 => ?_) (fun hi0 => ?_)
    · simp -implicitDefEqProofs only [syms, symx, seval, c223]
      refine zbd Tryz.underlying9 rfl rfl (by omega) (by omega) ?_
      rw [zdy]
      simp -implicitDefEqProofs only [syms, symx, seval, c223]
      refine ze4 (fun hz => ?_) (fun hz => ?_)
      · repeat' ( simp -implicitDefEqProofs only [syms, symx, seval, c223, hb10])
        exact h1k (by unfold numD; rw [hend]; exact if_pos (.inr ⟨by omega, by omega⟩)) _ (z.upW _ _ (by omega))
      · simp -implicitDefEqProofs only [syms, symx, seval, c223]
        rw [zbr rfl rfl rfl (zeR _) rfl, zgA (by omega) (by omega)]
        repeat' ( simp -implicitDefEqProofs only [syms, symx, seval, c223, hw1])
        exact h2k _ _ (by unfold numD; rw [hend]; exact if_neg (by omega)) _ (z.upW _ _ (by omega))
    · simp -implicitDefEqProofs only [syms, symx, seval, c223]
      rw [zbr rfl rfl rfl (zeR _) rfl, zgA (by omega) (by omega)]
      repeat' ( simp -implicitDefEqProofs only [syms, symx, seval, c223, hw1])
      exact h2k _ _ (by unfold numD; rw [hend]; exact if_neg (by omega)) _ (z.upW _ _ (by omega))
  · rw [if_neg hb1] at hand
    replace hand : binA Tryz.prog tab .and 5 (.int .u8 (zaL s i : Nat)) (.int .u8 128) = some (.int .u8 128) := hand
    simp -implicitDefEqProofs only [syms, symx, seval, c223, hand, show ((128 : Int) != 0) = true from rfl]
    rw [hwi]
    (rw [hI1]; with_reducible refine zah (m := _) ?_ ⟨i + 1, _, rfl, z, ⟨rfl, by omega, fun j hj => by
      by_cases e : j = i
      · subst e; omega
      · exact hb j (by omega)⟩, junk (by kernel_rfl)⟩; omega)
end Go.Proofs.YtemapihoobmonaaGreatDoor
namespace Go.Proofs.YtemapihoobmonaaGreatDoor
open Go.Am
set_option linter.unusedVariables false
set_option linter.unusedSimpArgs false
set_option maxRecDepth 100000
set_option maxHeartbeats 0
noncomputable def N147 := zaz Tryz.f147
noncomputable def x147 := PLift.up (by have c := zaj N147 Tryz.f147; simp only [zap, Tryz.f147, Option.getD_some, zao, opsF, opsX, zag, zay, dstL, zan, List.append_eq, List.cons_append, List.nil_append, seval] at c; exact nd c <| nd @zy9 <| @zzh)
theorem c147 : type_of% x147.down := x147.down
noncomputable def N148 := zaz Tryz.f148
noncomputable def x148 := PLift.up (by have c := zaj N148 Tryz.f148; simp only [zap, Tryz.f148, Option.getD_some, zao, opsF, opsX, zag, zay, dstL, zan, List.append_eq, List.cons_append, List.nil_append, seval] at c; exact nd c <| nd @ln9 <| @zz0)
theorem c148 : type_of% x148.down := x148.down
noncomputable def N76 := zaz Tryz.f76
noncomputable def x76 := PLift.up (by have c := zaj N76 Tryz.f76; simp only [zap, Tryz.f76, Option.getD_some, zao, opsF, opsX, zag, zay, dstL, zan, List.append_eq, List.cons_append, List.nil_append, seval] at c; exact nd c <| nd @znX <| nd @zkl <| nd @zi1 <| nd @ld3 <| nd @ld44 <| nd @ld9 <| nd @ln9 <| @fi76)
theorem c76 : type_of% x76.down := x76.down
noncomputable def N112 := zaz Tryz.f112
noncomputable def x112 := PLift.up (by have c := zaj N112 Tryz.f112; simp only [zap, Tryz.f112, Option.getD_some, zao, opsF, opsX, zag, zay, dstL, zan, List.append_eq, List.cons_append, List.nil_append, seval] at c; exact nd c <| nd @znX <| nd @zkl <| nd @zi1 <| nd @ld3 <| nd @ld44 <| nd @ld9 <| @zzD)
theorem c112 : type_of% x112.down := x112.down
noncomputable def N111 := zaz Tryz.f111
noncomputable def x111 := PLift.up (by have c := zaj N111 Tryz.f111; simp only [zap, Tryz.f111, Option.getD_some, zao, opsF, opsX, zag, zay, dstL, zan, List.append_eq, List.cons_append, List.nil_append, seval] at c; exact nd c <| nd @znX <| nd @zkl <| nd @zi1 <| nd @ld3 <| nd @ld44 <| nd @ld9 <| nd @ln9 <| @zzm)
theorem c111 : type_of% x111.down := x111.down
noncomputable def N77 := zaz Tryz.f77
noncomputable def x77 := PLift.up (by have c := zaj N77 Tryz.f77; simp only [zap, Tryz.f77, Option.getD_some, zao, opsF, opsX, zag, zay, dstL, zan, List.append_eq, List.cons_append, List.nil_append, seval] at c; exact nd c <| nd @al26 <| nd @zi1 <| nd @zj7 <| nd @zhD <| nd @ix24 <| nd @ld26 <| nd @ld44 <| @fi77)
theorem c77 : type_of% x77.down := x77.down
noncomputable def N72 := zaz Tryz.f72
noncomputable def x72 := PLift.up (by have c := zaj N72 Tryz.f72; simp only [zap, Tryz.f72, Option.getD_some, zao, opsF, opsX, zag, zay, dstL, zan, List.append_eq, List.cons_append, List.nil_append, seval] at c; exact nd c <| nd @zj1 <| nd @ztN <| nd @ld26 <| nd @ld3 <| @fi72)
theorem c72 : type_of% x72.down := x72.down
noncomputable def N28 := zaz Tryz.f28
noncomputable def x28 := PLift.up (by have c := zaj N28 Tryz.f28; simp only [zap, Tryz.f28, Option.getD_some, zao, opsF, opsX, zag, zay, dstL, zan, List.append_eq, List.cons_append, List.nil_append, seval] at c; exact nd c <| nd @al57 <| nd @zkl <| nd @zi1 <| nd @ld3 <| nd @ld44 <| nd @ld57 <| nd @ln9 <| @fi28)
theorem c28 : type_of% x28.down := x28.down
end Go.Proofs.YtemapihoobmonaaGreatDoor

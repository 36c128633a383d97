/- The code of some functions, node by node, for simp. Written by a program (mkcode.py). No condition. -/
import Derived.Test.YtemapihoobmonaaGreatDoorG24
import Derived.Test.YtemapihoobmonaaGreatDoorG28
import Derived.KernelRfl
import Derived.Test.YtemapihoobmonaaGreatDoorG30
import Derived.Test.YtemapihoobmonaaGreatDoorG20
import Derived.Test.YtemapihoobmonaaGreatDoorGCodec3
import Derived.Test.YtemapihoobmonaaGreatDoorG18
import Derived.Test.YtemapihoobmonaaGreatDoorG23
namespace Go.Proofs.YtemapihoobmonaaGreatDoor
open Go.Am
set_option linter.unusedVariables false
set_option linter.unusedSimpArgs false
set_option maxRecDepth 100000
set_option maxHeartbeats 0
noncomputable def N223 := zaB Tryz.f223
noncomputable def x223 := PLift.up (by have c := zak N223 Tryz.f223; simp only [zap, Tryz.f223, Option.getD_some, zao, opsF, opsX, zah, zaA, dstL, zam, List.append_eq, List.cons_append, List.nil_append, seval] at c; exact nd c <| nd @ln9 <| @zzH)
theorem c223 : type_of% x223.down := x223.down
noncomputable def N200 := zaB Tryz.f200
noncomputable def x200 := PLift.up (by have c := zak N200 Tryz.f200; simp only [zap, Tryz.f200, Option.getD_some, zao, opsF, opsX, zah, zaA, dstL, zam, List.append_eq, List.cons_append, List.nil_append, seval] at c; exact nd c <| nd @znJ <| nd @zkb <| nd @zik <| nd @ld3 <| nd @ld4 <| nd @ld9 <| @zzF)
theorem c200 : type_of% x200.down := x200.down
noncomputable def N199 := zaB Tryz.f199
noncomputable def x199 := PLift.up (by have c := zak N199 Tryz.f199; simp only [zap, Tryz.f199, Option.getD_some, zao, opsF, opsX, zah, zaA, dstL, zam, List.append_eq, List.cons_append, List.nil_append, seval] at c; exact nd c <| nd @znJ <| nd @zkb <| nd @zik <| nd @ld3 <| nd @ld4 <| nd @ld9 <| nd @ln9 <| @zAj)
theorem c199 : type_of% x199.down := x199.down
noncomputable def N201 := zaB Tryz.f201
noncomputable def x201 := PLift.up (by have c := zak N201 Tryz.f201; simp only [zap, Tryz.f201, Option.getD_some, zao, opsF, opsX, zah, zaA, dstL, zam, List.append_eq, List.cons_append, List.nil_append, seval] at c; exact nd c <| nd @znJ <| nd @zkb <| nd @zik <| nd @ld3 <| nd @ld4 <| nd @ld9 <| nd @ln9 <| @zAh)
theorem c201 : type_of% x201.down := x201.down
noncomputable def N177 := zaB Tryz.f177
noncomputable def x177 := PLift.up (by have c := zak N177 Tryz.f177; simp only [zap, Tryz.f177, Option.getD_some, zao, opsF, opsX, zah, zaA, dstL, zam, List.append_eq, List.cons_append, List.nil_append, seval] at c; exact nd c <| nd @al26 <| nd @zik <| nd @ztl <| nd @ztH <| nd @zoW <| nd @zsf <| nd @zsj <| nd @zpr <| nd @zj2 <| nd @ix24 <| nd @ld26 <| nd @ld4 <| @zzv)
theorem c177 : type_of% x177.down := x177.down
noncomputable def N139 := zaB Tryz.f139
noncomputable def x139 := PLift.up (by have c := zak N139 Tryz.f139; simp only [zap, Tryz.f139, Option.getD_some, zao, opsF, opsX, zah, zaA, dstL, zam, List.append_eq, List.cons_append, List.nil_append, seval] at c; exact nd c <| nd @al26 <| nd @zkb <| nd @zik <| nd @ztl <| nd @ld26 <| nd @ld3 <| @ld4)
theorem c139 : type_of% x139.down := x139.down
noncomputable def N138 := zaB Tryz.f138
noncomputable def x138 := PLift.up (by have c := zak N138 Tryz.f138; simp only [zap, Tryz.f138, Option.getD_some, zao, opsF, opsX, zah, zaA, dstL, zam, List.append_eq, List.cons_append, List.nil_append, seval] at c; exact nd c <| nd @zoM <| nd @zk9 <| nd @ld44 <| nd @ld9 <| nd @ln9 <| @zAo)
theorem c138 : type_of% x138.down := x138.down
noncomputable def N104 := zaB Tryz.f104
noncomputable def x104 := PLift.up (by have c := zak N104 Tryz.f104; simp only [zap, Tryz.f104, Option.getD_some, zao, opsF, opsX, zah, zaA, dstL, zam, List.append_eq, List.cons_append, List.nil_append, seval] at c; exact nd c <| @zzs)
theorem c104 : type_of% x104.down := x104.down
noncomputable def N105 := zaB Tryz.f105
noncomputable def x105 := PLift.up (by have c := zak N105 Tryz.f105; simp only [zap, Tryz.f105, Option.getD_some, zao, opsF, opsX, zah, zaA, dstL, zam, List.append_eq, List.cons_append, List.nil_append, seval] at c; exact nd c <| nd @al26 <| nd @zoM <| nd @zk9 <| nd @ld26 <| nd @ld44 <| nd @ld9 <| @zz6)
theorem c105 : type_of% x105.down := x105.down
noncomputable def N106 := zaB Tryz.f106
noncomputable def x106 := PLift.up (by have c := zak N106 Tryz.f106; simp only [zap, Tryz.f106, Option.getD_some, zao, opsF, opsX, zah, zaA, dstL, zam, List.append_eq, List.cons_append, List.nil_append, seval] at c; exact nd c <| nd @zoM <| nd @zk9 <| nd @ld44 <| nd @ld9 <| nd @zAe <| @zAi)
theorem c106 : type_of% x106.down := x106.down
noncomputable def N107 := zaB Tryz.f107
noncomputable def x107 := PLift.up (by have c := zak N107 Tryz.f107; simp only [zap, Tryz.f107, Option.getD_some, zao, opsF, opsX, zah, zaA, dstL, zam, List.append_eq, List.cons_append, List.nil_append, seval] at c; exact nd c <| nd @zoX <| nd @zwF <| nd @ld26 <| nd @ld3 <| @zAb)
theorem c107 : type_of% x107.down := x107.down
noncomputable def N70 := zaB Tryz.f70
noncomputable def x70 := PLift.up (by have c := zak N70 Tryz.f70; simp only [zap, Tryz.f70, Option.getD_some, zao, opsF, opsX, zah, zaA, dstL, zam, List.append_eq, List.cons_append, List.nil_append, seval] at c; exact nd c <| nd @al57 <| nd @zk9 <| nd @ld44 <| nd @ld57 <| nd @ln9 <| @fi70)
theorem c70 : type_of% x70.down := x70.down
end Go.Proofs.YtemapihoobmonaaGreatDoor
namespace Go.Proofs.YtemapihoobmonaaGreatDoor
open Go.Am
set_option linter.unusedSimpArgs false
set_option linter.unusedVariables false
set_option maxRecDepth 100000
set_option maxHeartbeats 0
theorem zrR (a : Int) : zaw Tryz.prog (Next.value <$> convert 5 201 (.int .u8 a)) = some (Next.value (.int .u64 (IntKind.u64.wrap a))) := by rfl
theorem zjA (a : Int) : zaw Tryz.prog (Next.value <$> convert 201 151 (.int .u64 a)) = some (Next.value (.int .u32 (IntKind.u32.wrap a))) := by rfl
theorem zfG (s : ByteArray) (i : Nat) : zbp s ((i : Int).toNat) = (zbG s i : Int) := by rw [Int.toNat_natCast]; rfl
theorem zoC (s : ByteArray) (h : Heap) (hs : s.size ≤ 100000) (K : Value → Heap → Prop) (h1k : numD s = none → ∀ h', Ext h h' → K (.tuple #[.int .u32 0, .int .i64 0, .int .i64 15]) h') (h2k : ∀ n k : Nat, numD s = some (n, k) → ∀ h', Ext h h' → K (.tuple #[.int .u32 n, .int .i64 k, .int .i64 0]) h') : Ok Tryz.prog tab ov 223 [.string s] h K := by
  rw [zab h]
  have z := Ext.refl h
  have hva : ∀ (h : Heap) (K : Value → Heap → Prop), valE (some (.string s)) h K = K (.string s) h := fun _ _ => rfl
  refine Ok.into rfl zsc (zaD N223) rfl (m := 44) rfl ?_
  simp -implicitDefEqProofs only [syms, symx, seval, c223, hva]
  refine zta rfl rfl ?_
  have hmn : (if (5 : Int) < (s.size : Int) then (5 : Int) else (s.size : Int)) = ((min s.size 5 : Nat) : Int) := by split <;> omega
  rw [hmn]
  simp -implicitDefEqProofs only [syms, symx, seval, c223, hva]
  obtain ⟨I1, hI1⟩ : ∃ I : Nat → Env → Heap → Prop, I = (fun n e h' => ∃ (i : Nat) (h1 : Heap), h' = h1.lay [] h1.low ∧ Ext h h1 ∧ (n = min s.size 5 - i ∧ i ≤ min s.size 5 ∧ (∀ j, j < i → 128 ≤ zbG s j)) ∧ ∃ J : Nat → Value, e = (.string s :: jr J 1 4 (.int .u64 (accN s i) :: jr J 6 3 (.int .i64 (min s.size 5 : Nat) :: .int .i64 i :: jr J 11 34 ([]))))) := ⟨_, rfl⟩
  refine zaI I1 _ (by rw [hI1]; exact ⟨0, _, rfl, z, ⟨rfl, by omega, by simp⟩, junk (by kernel_rfl)⟩) ?_
  intro n e h' hin
  rw [hI1] at hin
  obtain ⟨i, h1', rfl, z, hinv, J, rfl⟩ := hin
  obtain ⟨rfl, hi, hb⟩ := hinv
  have hwi : IntKind.i64.wrap ((i : Int) + 1) = ((i + 1 : Nat) : Int) := by rw [zae (by omega) (by omega)]; omega
  have hw7 : IntKind.i64.wrap (7 * (i : Int)) = ((7 * i : Nat) : Int) := by rw [zae (by omega) (by omega)]; omega
  have hbl := zkT s i
  simp -implicitDefEqProofs only [syms, symx, seval, c223]
  refine zay (fun hlt => ?_) (fun hlt => ?_)
  rotate_left
  · repeat' ( simp -implicitDefEqProofs only [syms, symx, seval, c223])
    exact h1k (by unfold numD; rw [zts (fun j hj => hb j (by omega))]) _ (z.upW _ _ (by omega))
  have hp28 : 2 ^ (7 * i) ≤ 2 ^ 28 := Nat.pow_le_pow_right (by decide) (by omega)
  rw [show (2 : Nat) ^ 28 = 268435456 by decide] at hp28
  have hpr : zbG s i % 128 * 2 ^ (7 * i) ≤ 127 * 268435456 := Nat.mul_le_mul (by omega) hp28
  have hac := znS s i
  have hac1 := znS s (i + 1)
  have hshl := ztf (P := Tryz.prog) (T := tab) (t := 201) (k2 := .i64) (a := zbG s i % 128) (n := 7 * i) (by omega) (by omega)
  have hor : binA Tryz.prog tab .or 201 (.int .u64 (accN s i : Nat)) (.int .u64 (zbG s i % 128 * 2 ^ (7 * i) : Nat)) = some (.int .u64 ((accN s (i + 1) : Nat) : Int)) := zvr (by omega) (by omega)
  have hand := zvK (P := Tryz.prog) (T := tab) (t := 5) (a := zbG s i) (b := 128) hbl (by decide)
  rw [zxE hbl] at hand
  have hnz : (((128 : Nat) : Int) != 0) = true := rfl
  simp -implicitDefEqProofs only [syms, symx, seval, c223]
  refine zcH Tryz.underlying9 rfl rfl (by omega) (by omega) ?_
  rw [zfG]
  simp -implicitDefEqProofs only [syms, symx, seval, c223, zoR hbl]
  rw [zb1 rfl rfl rfl (zrR _) rfl, zle (by omega) (by omega)]
  simp -implicitDefEqProofs only [syms, symx, seval, c223, ziU, hw7, hshl, hor]
  refine zcH Tryz.underlying9 rfl rfl (by omega) (by omega) ?_
  rw [zfG]
  by_cases hb1 : zbG s i < 128
  · rw [if_pos hb1] at hand
    replace hand : binA Tryz.prog tab .and 5 (.int .u8 (zbG s i : Nat)) (.int .u8 128) = some (.int .u8 0) := hand
    have hb10 : ∀ (Q : Ex → Env → Heap → Prop) (e : Env) (h : Heap), zg2 1 Q (.exit 0) e h = Q (.exit 0) e h := fun Q e h => rfl
    have hend := ztj (s := s) (i := i) (by omega) hb hb1
    have hw1 : IntKind.i64.wrap ((i : Int) + 1) = ((i + 1 : Nat) : Int) := hwi
    simp -implicitDefEqProofs only [syms, symx, seval, c223, hand, bne_self_eq_false]
    refine zay (fun hgt => ?_) (fun hgt => ?_)
    · repeat' ( simp -implicitDefEqProofs only [syms, symx, seval, c223, hb10])
      exact h1k (by unfold numD; rw [hend]; exact if_pos (.inl (by omega))) _ (z.upW _ _ (by omega))
    simp -implicitDefEqProofs only [syms, symx, seval, c223]
    refine zay (fun hi0 => ?_) (fun hi0 => ?_)
    · simp -implicitDefEqProofs only [syms, symx, seval, c223]
      refine zcH Tryz.underlying9 rfl rfl (by omega) (by omega) ?_
      rw [zfG]
      simp -implicitDefEqProofs only [syms, symx, seval, c223]
      refine zjg (fun hz => ?_) (fun hz => ?_)
      · repeat' ( simp -implicitDefEqProofs only [syms, symx, seval, c223, hb10])
        exact h1k (by unfold numD; rw [hend]; exact if_pos (.inr ⟨by omega, by omega⟩)) _ (z.upW _ _ (by omega))
      · simp -implicitDefEqProofs only [syms, symx, seval, c223]
        rw [zb1 rfl rfl rfl (zjA _) rfl, zpt (by omega) (by omega)]
        repeat' ( simp -implicitDefEqProofs only [syms, symx, seval, c223, hw1])
        exact h2k _ _ (by unfold numD; rw [hend]; exact if_neg (by omega)) _ (z.upW _ _ (by omega))
    · simp -implicitDefEqProofs only [syms, symx, seval, c223]
      rw [zb1 rfl rfl rfl (zjA _) rfl, zpt (by omega) (by omega)]
      repeat' ( simp -implicitDefEqProofs only [syms, symx, seval, c223, hw1])
      exact h2k _ _ (by unfold numD; rw [hend]; exact if_neg (by omega)) _ (z.upW _ _ (by omega))
  · rw [if_neg hb1] at hand
    replace hand : binA Tryz.prog tab .and 5 (.int .u8 (zbG s i : Nat)) (.int .u8 128) = some (.int .u8 128) := hand
    simp -implicitDefEqProofs only [syms, symx, seval, c223, hand, show ((128 : Int) != 0) = true from rfl]
    rw [hwi]
    (rw [hI1]; with_reducible refine zaf (m := _) ?_ ⟨i + 1, _, rfl, z, ⟨rfl, by omega, fun j hj => by
      by_cases e : j = i
      · subst e; omega
      · exact hb j (by omega)⟩, junk (by kernel_rfl)⟩; omega)
end Go.Proofs.YtemapihoobmonaaGreatDoor
namespace Go.Am
set_option linter.unusedVariables false
set_option linter.unusedSimpArgs false
section
variable {P : Program} {T : Tab} {ov : Ov} {d : Option Tmp} {ty : TypeId} {pos : String} {af : Array Edge} {g : Option (Nat × Bool)} {e : Env} {K : Value → Heap → Prop}
end
/-! ### The bytes of a number, and of a part of a string -/
def CurR (u : TypeId) (h : Heap) (C : Nat) (s : ByteArray) (st : Option Nat) : Prop := ∃ (o : Nat) (e : Int), o ≤ s.size ∧ (∀ p, st = some p → p = o ∧ e = 0) ∧ (st = none → e ≠ 0) ∧ Holds h C (.row [.string s, .int .i64 o, .int .i64 e] u false)
section
variable {u : TypeId} {h h2 : Heap} {C A : Nat} {s : ByteArray} {st : Option Nat} {bs : List Blk} {w : Nat}
theorem CurR.lay (q : CurR u h C s st) (bs : List Blk) (w : Nat) : CurR u (h.lay bs w) C s st := q.elim fun o x => x.elim fun e x => ⟨o, e, x.1, x.2.1, x.2.2.1, x.2.2.2.on bs w⟩
theorem CurR.over (q : CurR u h C s st) (x : Ext (h.lay bs w) h2) : CurR u h2 C s st := q.elim fun o y => y.elim fun e y => ⟨o, e, y.1, y.2.1, y.2.2.1, y.2.2.2.over x⟩
theorem CurR.sm (q : CurR u h C s st) (x : Sm A h h2) (hne : C ≠ A) : CurR u h2 C s st := q.elim fun o y => y.elim fun e y => ⟨o, e, y.1, y.2.1, y.2.2.1, y.2.2.2.sm x hne⟩
theorem CurR.stepL (q : CurR u h C s st) (c : Chg A (h.lay bs w) h2) (hne : C ≠ A) : CurR u h2 C s st := (q.lay bs w).sm c.sm hne
theorem CurR.lt (q : CurR u h C s st) : C < h.size := q.elim fun o y => y.elim fun e y => y.2.2.2.lt
theorem CurR.at {o : Nat} (ho : o ≤ s.size) (q : Holds h C (.row [.string s, .int .i64 o, .int .i64 0] u false)) : CurR u h C s (some o) := ⟨o, 0, ho, fun p e => ⟨(Option.some.inj e).symm, rfl⟩, nofun, q⟩
theorem CurR.bad {o : Nat} {e : Int} (ho : o ≤ s.size) (he : e ≠ 0) (q : Holds h C (.row [.string s, .int .i64 o, .int .i64 e] u false)) : CurR u h C s none := ⟨o, e, ho, nofun, fun _ => he, q⟩
end
end Go.Am

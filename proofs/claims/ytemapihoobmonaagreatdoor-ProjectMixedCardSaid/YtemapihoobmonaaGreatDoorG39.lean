/- Walks: requests read, by the document. Written out by fill2.py. No condition. -/
import Derived.Test.YtemapihoobmonaaGreatDoorZN12
import Derived.Test.YtemapihoobmonaaGreatDoorG38
import Derived.Test.YtemapihoobmonaaGreatDoorG24
import Derived.Test.YtemapihoobmonaaGreatDoorG28
import Derived.KernelRfl
import Derived.Test.YtemapihoobmonaaGreatDoorG29
namespace Go.Proofs.YtemapihoobmonaaGreatDoor
open Go.Am
set_option linter.unusedVariables false
set_option linter.unusedSimpArgs false
set_option maxRecDepth 100000
set_option maxHeartbeats 0
noncomputable def N24 := zaB Tryz.f24
noncomputable def x24 := PLift.up (by have c := zak N24 Tryz.f24; simp only [zap, Tryz.f24, Option.getD_some, zao, opsF, opsX, zah, zaA, dstL, zam, List.append_eq, List.cons_append, List.nil_append, seval] at c; exact nd c <| nd @zoW <| nd @zsf <| nd @zsj <| nd @zj2 <| nd @ix24 <| nd @ld9 <| nd @ln9 <| @fi24)
theorem c24 : type_of% x24.down := x24.down
noncomputable def N12 := zaB Tryz.f12
noncomputable def x12 := PLift.up (by have c := zak N12 Tryz.f12; simp only [zap, Tryz.f12, Option.getD_some, zao, opsF, opsX, zah, zaA, dstL, zam, List.append_eq, List.cons_append, List.nil_append, seval] at c; exact nd c <| nd @ix27 <| nd @ld26 <| nd @ln27 <| @fi12)
theorem c12 : type_of% x12.down := x12.down
noncomputable def N11 := zaB Tryz.f11
noncomputable def x11 := PLift.up (by have c := zak N11 Tryz.f11; simp only [zap, Tryz.f11, Option.getD_some, zao, opsF, opsX, zah, zaA, dstL, zam, List.append_eq, List.cons_append, List.nil_append, seval] at c; exact nd c <| nd @zwL <| nd @zwA <| nd @ix32 <| nd @ld26 <| nd @ld27 <| nd @ln32 <| @fi11)
noncomputable def N16 := zaB Tryz.f16
noncomputable def x16 := PLift.up (by have c := zak N16 Tryz.f16; simp only [zap, Tryz.f16, Option.getD_some, zao, opsF, opsX, zah, zaA, dstL, zam, List.append_eq, List.cons_append, List.nil_append, seval] at c; exact nd c <| @fi16)
noncomputable def N19 := zaB Tryz.f19
noncomputable def x19 := PLift.up (by have c := zak N19 Tryz.f19; simp only [zap, Tryz.f19, Option.getD_some, zao, opsF, opsX, zah, zaA, dstL, zam, List.append_eq, List.cons_append, List.nil_append, seval] at c; exact nd c <| nd @bs32 <| nd @zwL <| nd @zwA <| nd @ix32 <| nd @ld26 <| nd @ld27 <| nd @ln32 <| @fi19)
end Go.Proofs.YtemapihoobmonaaGreatDoor
namespace Go.Proofs.YtemapihoobmonaaGreatDoor
open Go.Am
set_option linter.unusedSimpArgs false
set_option linter.unusedVariables false
set_option maxRecDepth 100000
set_option maxHeartbeats 0
/-! ### Light -/
theorem zlb (a : AtomD) (h : Heap) (K : Value → Heap → Prop) (h1 : a.light = true → ∀ h', Ext h h' → K (.bool true) h') (h2 : a.light = false → ∀ h', Ext h h' → K (.bool false) h') : Ok Tryz.prog tab ov 24 [a.val] h K := by
  rw [zab h]
  have z := Ext.refl h
  unfold AtomD.val AtomD.cells
  refine Ok.into rfl zwn (zaD N24) rfl (m := 29) rfl ?_
  simp -implicitDefEqProofs only [syms, symx, seval, c24]
  repeat' ((first | ((with_reducible  apply zay ) <;> intro _) | with_reducible_and_instances refine zeJ ?_) <;> simp -implicitDefEqProofs only [syms, symx, seval, c24])
  all_goals first
    | with_reducible exact h2 (by simp [AtomD.light]; omega) _ (z.upW _ _ (by omega))
    | with_reducible exact h1 (by simp [AtomD.light]; omega) _ (z.upW _ _ (by omega))
theorem zna (l : List AtomD) (v : Value) (m : Int) (h : Heap) (hl : Sl Rep.atom h v l) (K : Value → Heap → Prop) (h1 : (l.length : Int) ≤ m → (∀ a ∈ l, a.light = true) → ∀ h', Ext h h' → K (.bool true) h') (h2 : ∀ h', Ext h h' → K (.bool false) h') : Ok Tryz.prog tab ov 12 [v, .int .i64 m] h K := by
  rw [zab h]
  have z := Ext.refl h
  have hle := hl.le
  refine Ok.into rfl zwf (zaD N12) rfl (m := 20) rfl ?_
  simp -implicitDefEqProofs only [syms, symx, seval, c12]
  repeat' ((first | ((with_reducible  apply zay ) <;> intro _) | with_reducible_and_instances refine zgC hl ds27 ?_) <;> simp -implicitDefEqProofs only [syms, symx, seval, c12])
  · exact h2 _ (z.upW _ _ (by omega))
  refine zyx (fun e h' => ∃ (i : Nat) (h1 : Heap) (x1 x2 x3 x4 x6 x7 x8 x9 x10 x11 x12 x13 x14 x15 x16 x17 x18 x19 x20 x21 : Value), h' = h1.lay [] h1.low ∧ Ext h h1 ∧ i ≤ l.length ∧ (∀ a ∈ l.take i, a.light = true) ∧ e = [v, x1, x2, x3, x4, .int .i64 i, x6, x7, x8, x9, x10, x11, x12, x13, x14, x15, x16, x17, x18, x19, x20, x21]) (fun e _ => match e.get 5 with | .int _ i => l.length - i.toNat | _ => 0) ?_ ?_
  · exact ⟨0, h, _, _, _, _, _, _, _, _, _, _, _, _, _, _, _, _, _, _, _, _, rfl, z, by omega, by simp, rfl⟩
  rintro e h' ⟨i, h1', x1, x2, x3, x4, x6, x7, x8, x9, x10, x11, x12, x13, x14, x15, x16, x17, x18, x19, x20, x21, rfl, z, hi, hall, rfl⟩
  have hw : i < l.length → IntKind.i64.wrap ((i : Int) + 1) = ((i + 1 : Nat) : Int) := fun hh => by unfold maxLen at hle; rw [zae (by omega) (by omega)]; omega
  simp -implicitDefEqProofs only [syms, symx, seval, c12]
  repeat' ((first | ((with_reducible  apply zay ) <;> intro _) | with_reducible_and_instances refine zgC hl ds27 ?_ | with_reducible_and_instances refine ixa (hl.mono z.inc) ds27 sz26 (by omega) (by omega) (fun a p ha hp => ?_) | with_reducible_and_instances refine lda hp ag26 sz26 ?_ | ((with_reducible_and_instances refine zlb _ _ _ (fun hlx h' x => ?_) (fun hlx h' x => ?_)) <;> ((skip); replace z := z.overW x (by (try simp only [lsz]); omega); rw [zab h'])) | ((with_reducible_and_instances apply zan); (· rfl))) <;> simp -implicitDefEqProofs only [syms, symx, seval, c12])
  all_goals first
    | with_reducible exact h2 _ (z.upW _ _ (by omega))
    | with_reducible exact h1 (by omega) (by rw [List.take_of_length_le (by omega)] at hall; exact hall) _ (z.upW _ _ (by omega))
    | (rw [hw (by omega)]
       with_reducible refine zm0 ?_ ?_
       · exact ⟨i + 1, h', _, _, _, _, _, _, _, _, _, _, _, _, _, _, _, _, _, _, _, _, rfl, z, by omega, zcU ha hall hlx, rfl⟩
       · show l.length - ((i + 1 : Nat) : Int).toNat < l.length - (i : Int).toNat
         omega)
end Go.Proofs.YtemapihoobmonaaGreatDoor

/- The code of some functions, node by node, for simp. Written by a program (mkcode.py). No condition. -/
import Derived.Test.YtemapihoobmonaaGreatDoorG23
import Derived.Test.YtemapihoobmonaaGreatDoorG27
import Derived.KernelRfl
import Derived.Test.YtemapihoobmonaaGreatDoorG28
import Derived.Test.YtemapihoobmonaaGreatDoorG18
namespace Go.Proofs.YtemapihoobmonaaGreatDoor
open Go.Am
set_option linter.unusedVariables false
set_option linter.unusedSimpArgs false
set_option maxRecDepth 100000
set_option maxHeartbeats 0
noncomputable def N24 := zaz Tryz.f24
noncomputable def x24 := PLift.up (by have c := zaj N24 Tryz.f24; simp only [zap, Tryz.f24, Option.getD_some, zao, opsF, opsX, zag, zay, dstL, zan, List.append_eq, List.cons_append, List.nil_append, seval] at c; exact nd c <| nd @zmp <| nd @zo4 <| nd @zpj <| nd @zhD <| nd @ix24 <| nd @ld9 <| nd @ln9 <| @fi24)
theorem c24 : type_of% x24.down := x24.down
noncomputable def N12 := zaz Tryz.f12
noncomputable def x12 := PLift.up (by have c := zaj N12 Tryz.f12; simp only [zap, Tryz.f12, Option.getD_some, zao, opsF, opsX, zag, zay, dstL, zan, List.append_eq, List.cons_append, List.nil_append, seval] at c; exact nd c <| nd @ix27 <| nd @ld26 <| nd @ln27 <| @fi12)
theorem c12 : type_of% x12.down := x12.down
noncomputable def N11 := zaz Tryz.f11
noncomputable def x11 := PLift.up (by have c := zaj N11 Tryz.f11; simp only [zap, Tryz.f11, Option.getD_some, zao, opsF, opsX, zag, zay, dstL, zan, List.append_eq, List.cons_append, List.nil_append, seval] at c; exact nd c <| nd @zwk <| nd @zv2 <| nd @ix32 <| nd @ld26 <| nd @ld27 <| nd @ln32 <| @fi11)
noncomputable def N16 := zaz Tryz.f16
noncomputable def x16 := PLift.up (by have c := zaj N16 Tryz.f16; simp only [zap, Tryz.f16, Option.getD_some, zao, opsF, opsX, zag, zay, dstL, zan, List.append_eq, List.cons_append, List.nil_append, seval] at c; exact nd c <| @fi16)
noncomputable def N37 := zaz Tryz.f37
noncomputable def x37 := PLift.up (by have c := zaj N37 Tryz.f37; simp only [zap, Tryz.f37, Option.getD_some, zao, opsF, opsX, zag, zay, dstL, zan, List.append_eq, List.cons_append, List.nil_append, seval] at c; exact nd c <| nd @bs27 <| @fi37)
theorem c37 : type_of% x37.down := x37.down
noncomputable def N19 := zaz Tryz.f19
noncomputable def x19 := PLift.up (by have c := zaj N19 Tryz.f19; simp only [zap, Tryz.f19, Option.getD_some, zao, opsF, opsX, zag, zay, dstL, zan, List.append_eq, List.cons_append, List.nil_append, seval] at c; exact nd c <| nd @bs32 <| nd @zwk <| nd @zv2 <| nd @ix32 <| nd @ld26 <| nd @ld27 <| nd @ln32 <| @fi19)
end Go.Proofs.YtemapihoobmonaaGreatDoor
namespace Go.Proofs.YtemapihoobmonaaGreatDoor
open Go.Am
set_option linter.unusedSimpArgs false
set_option linter.unusedVariables false
set_option maxRecDepth 100000
set_option maxHeartbeats 0
/-! ### Light -/
theorem zk1 (a : AtomD) (h : Heap) (K : Value → Heap → Prop) (h1 : a.light = true → ∀ h', Ext h h' → K (.bool true) h') (h2 : a.light = false → ∀ h', Ext h h' → K (.bool false) h') : Ok Tryz.prog tab ov 24 [a.val] h K := by
  rw [zaa h]
  have z := Ext.refl h
  unfold AtomD.val AtomD.cells
  refine Ok.into rfl zuk (zaD N24) rfl (m := 29) rfl ?_
  simp -implicitDefEqProofs only [syms, symx, seval, c24]
  repeat' ((first | ((with_reducible  apply zau ) <;> intro _) | with_reducible_and_instances refine zeV ?_) <;> simp -implicitDefEqProofs only [syms, symx, seval, c24])
  all_goals first
    | with_reducible exact h2 (by simp [AtomD.light]; omega) _ (z.upW _ _ (by omega))
    | with_reducible exact h1 (by simp [AtomD.light]; omega) _ (z.upW _ _ (by omega))
theorem zmM (l : List AtomD) (v : Value) (m : Int) (h : Heap) (hl : Sl Rep.atom h v l) (K : Value → Heap → Prop) (h1 : (l.length : Int) ≤ m → (∀ a ∈ l, a.light = true) → ∀ h', Ext h h' → K (.bool true) h') (h2 : ∀ h', Ext h h' → K (.bool false) h') : Ok Tryz.prog tab ov 12 [v, .int .i64 m] h K := by
  rw [zaa h]
  have z := Ext.refl h
  have hle := hl.le
  refine Ok.into rfl zvp (zaD N12) rfl (m := 20) rfl ?_
  simp -implicitDefEqProofs only [syms, symx, seval, c12]
  repeat' ((first | ((with_reducible  apply zau ) <;> intro _) | with_reducible_and_instances refine zgO hl ds27 ?_) <;> simp -implicitDefEqProofs only [syms, symx, seval, c12])
  · exact h2 _ (z.upW _ _ (by omega))
  refine zyr (fun e h' => ∃ (i : Nat) (h1 : Heap) (x1 x2 x3 x4 x6 x7 x8 x9 x10 x11 x12 x13 x14 x15 x16 x17 x18 x19 x20 x21 : Value), h' = h1.lay [] h1.low ∧ Ext h h1 ∧ i ≤ l.length ∧ (∀ a ∈ l.take i, a.light = true) ∧ e = [v, x1, x2, x3, x4, .int .i64 i, x6, x7, x8, x9, x10, x11, x12, x13, x14, x15, x16, x17, x18, x19, x20, x21]) (fun e _ => match e.get 5 with | .int _ i => l.length - i.toNat | _ => 0) ?_ ?_
  · exact ⟨0, h, _, _, _, _, _, _, _, _, _, _, _, _, _, _, _, _, _, _, _, _, rfl, z, by omega, by simp, rfl⟩
  rintro e h' ⟨i, h1', x1, x2, x3, x4, x6, x7, x8, x9, x10, x11, x12, x13, x14, x15, x16, x17, x18, x19, x20, x21, rfl, z, hi, hall, rfl⟩
  have hw : i < l.length → IntKind.i64.wrap ((i : Int) + 1) = ((i + 1 : Nat) : Int) := fun hh => by unfold maxLen at hle; rw [zai (by omega) (by omega)]; omega
  simp -implicitDefEqProofs only [syms, symx, seval, c12]
  repeat' ((first | ((with_reducible  apply zau ) <;> intro _) | with_reducible_and_instances refine zgO hl ds27 ?_ | with_reducible_and_instances refine ixa (hl.mono z.inc) ds27 sz26 (by omega) (by omega) (fun a p ha hp => ?_) | with_reducible_and_instances refine lda hp ag26 sz26 ?_ | ((with_reducible_and_instances refine zk1 _ _ _ (fun hlx h' x => ?_) (fun hlx h' x => ?_)) <;> ((skip); replace z := z.overW x (by (try simp only [lsz]); omega); rw [zaa h'])) | ((with_reducible_and_instances apply zal); (· rfl))) <;> simp -implicitDefEqProofs only [syms, symx, seval, c12])
  all_goals first
    | with_reducible exact h2 _ (z.upW _ _ (by omega))
    | with_reducible exact h1 (by omega) (by rw [List.take_of_length_le (by omega)] at hall; exact hall) _ (z.upW _ _ (by omega))
    | (rw [hw (by omega)]
       with_reducible refine zmU ?_ ?_
       · exact ⟨i + 1, h', _, _, _, _, _, _, _, _, _, _, _, _, _, _, _, _, _, _, _, _, rfl, z, by omega, zbK ha hall hlx, rfl⟩
       · show l.length - ((i + 1 : Nat) : Int).toNat < l.length - (i : Int).toNat
         omega)
end Go.Proofs.YtemapihoobmonaaGreatDoor
namespace Go.Proofs.YtemapihoobmonaaGreatDoor
open Go.Am
set_option linter.unusedVariables false
set_option linter.unusedSimpArgs false
set_option maxRecDepth 100000
set_option maxHeartbeats 0
noncomputable def N69 := zaz Tryz.f69
noncomputable def x69 := PLift.up (by have c := zaj N69 Tryz.f69; simp only [zap, Tryz.f69, Option.getD_some, zao, opsF, opsX, zag, zay, dstL, zan, List.append_eq, List.cons_append, List.nil_append, seval] at c; exact nd c <| nd @ix49 <| nd @ld9 <| nd @ln49 <| nd @ln9 <| @fi69)
theorem c69 : type_of% x69.down := x69.down
noncomputable def N23 := zaz Tryz.f23
noncomputable def x23 := PLift.up (by have c := zaj N23 Tryz.f23; simp only [zap, Tryz.f23, Option.getD_some, zao, opsF, opsX, zag, zay, dstL, zan, List.append_eq, List.cons_append, List.nil_append, seval] at c; exact nd c <| nd @zr4 <| nd @zfN <| nd @zec <| nd @zlw <| nd @zkT <| nd @zk7 <| nd @zkB <| nd @zkz <| nd @zpH <| nd @zv8 <| nd @znn <| nd @zwf <| nd @zv3 <| nd @ix50 <| nd @ix51 <| nd @ix52 <| nd @ix53 <| nd @ld26 <| nd @ld27 <| nd @ld49 <| nd @ld50 <| nd @ld51 <| nd @ld52 <| nd @ld53 <| nd @ld9 <| nd @ln50 <| nd @ln51 <| nd @ln52 <| nd @ln53 <| nd @ln9 <| @fi23)
theorem c23 : type_of% x23.down := x23.down
noncomputable def N74 := zaz Tryz.f74
noncomputable def x74 := PLift.up (by have c := zaj N74 Tryz.f74; simp only [zap, Tryz.f74, Option.getD_some, zao, opsF, opsX, zag, zay, dstL, zan, List.append_eq, List.cons_append, List.nil_append, seval] at c; exact nd c <| nd @zpH <| nd @ix49 <| nd @ld49 <| nd @ld9 <| nd @ln49 <| @fi74)
theorem c74 : type_of% x74.down := x74.down
noncomputable def N75 := zaz Tryz.f75
noncomputable def x75 := PLift.up (by have c := zaj N75 Tryz.f75; simp only [zap, Tryz.f75, Option.getD_some, zao, opsF, opsX, zag, zay, dstL, zan, List.append_eq, List.cons_append, List.nil_append, seval] at c; exact nd c <| nd @bs49 <| nd @ix49 <| nd @ld9 <| nd @ln49 <| @fi75)
theorem c75 : type_of% x75.down := x75.down
noncomputable def N27 := zaz Tryz.f27
noncomputable def x27 := PLift.up (by have c := zaj N27 Tryz.f27; simp only [zap, Tryz.f27, Option.getD_some, zao, opsF, opsX, zag, zay, dstL, zan, List.append_eq, List.cons_append, List.nil_append, seval] at c; exact nd c <| nd @bs49 <| nd @zfN <| nd @zec <| nd @znn <| nd @ix49 <| nd @ix51 <| nd @ld49 <| nd @ld51 <| nd @ld55 <| nd @ld9 <| nd @ln49 <| nd @ln51 <| @fi27)
theorem c27 : type_of% x27.down := x27.down
noncomputable def N32 := zaz Tryz.f32
noncomputable def x32 := PLift.up (by have c := zaj N32 Tryz.f32; simp only [zap, Tryz.f32, Option.getD_some, zao, opsF, opsX, zag, zay, dstL, zan, List.append_eq, List.cons_append, List.nil_append, seval] at c; exact nd c <| nd @ix49 <| nd @ld55 <| nd @ld9 <| nd @ln49 <| @fi32)
theorem c32 : type_of% x32.down := x32.down
end Go.Proofs.YtemapihoobmonaaGreatDoor
namespace Go.Proofs.YtemapihoobmonaaGreatDoor
open Go.Am
set_option linter.unusedSimpArgs false
set_option linter.unusedVariables false
set_option maxRecDepth 100000
set_option maxHeartbeats 0
theorem zgj (l : List ByteArray) (v : Value) (n0 m : Int) (h : Heap) (hl : Sl Rep.str h v l) (K : Value → Heap → Prop) (h1k : (l.length : Int) ≤ n0 → ∀ h', Ext h h' → K (.bool true) h') (h2k : ∀ h', Ext h h' → K (.bool false) h') : Ok Tryz.prog tab ov 69 [v, .int .i64 n0, .int .i64 m] h K := by
  rw [zaa h]
  have z := Ext.refl h
  have hle := hl.le
  have hva := zbg v
  have hlv := fun (hh : Heap) => hl.lenA ds49 hh
  refine Ok.into rfl zuA (zaD N69) rfl (m := 26) rfl ?_
  repeat' (first | simp -implicitDefEqProofs only [syms, symx, seval, c69, hva, hlv] | ((with_reducible  apply zau ) <;> intro _))
  · exact h2k _ (z.upW _ _ (by omega))
  obtain ⟨I1, hI1⟩ : ∃ I : Nat → Env → Heap → Prop, I = (fun n e h' => ∃ (i : Nat) (s : Int) (h1 : Heap), h' = h1.lay [] h1.low ∧ Ext h h1 ∧ (n = l.length - i ∧ i ≤ l.length) ∧ ∃ J : Nat → Value, e = (v :: .int .i64 n0 :: .int .i64 m :: jr J 3 4 (.int .i64 s :: .int .i64 i :: jr J 9 20 ([])))) := ⟨_, rfl⟩
  refine zaJ I1 _ (by rw [hI1]; exact ⟨0, 0, _, rfl, z, ⟨rfl, by omega⟩, junk (by kernel_rfl)⟩) ?_
  intro n e h' hin
  rw [hI1] at hin
  obtain ⟨i, s, h1', rfl, z, hinv, J, rfl⟩ := hin
  obtain ⟨rfl, hi⟩ := hinv
  have hw : i < l.length → IntKind.i64.wrap ((i : Int) + 1) = ((i + 1 : Nat) : Int) := fun hh => by unfold maxLen at hle; rw [zai (by omega) (by omega)]; omega
  simp -implicitDefEqProofs only [syms, symx, seval, c69, hva, hlv]
  refine zau (fun hlt => ?_) (fun hlt => ?_)
  rotate_left
  · repeat' ( simp -implicitDefEqProofs only [syms, symx, seval, c69])
    exact h1k (by omega) _ (z.upW _ _ (by omega))
  obtain ⟨r, hr, hr'⟩ := zby (l := l) (i := i) (by omega)
  repeat' (first | simp -implicitDefEqProofs only [syms, symx, seval, c69, hva] | ((with_reducible  apply zau ) <;> intro _) | with_reducible_and_instances refine zgs (hl.mono z.inc) ds49 sz9 (by omega) hr (fun p hp => ?_) | with_reducible_and_instances refine zbn hp ag9 ?_)
  · exact h2k _ (z.upW _ _ (by omega))
  · rw [hw (by omega)]
    (rw [hI1]; with_reducible refine zah (m := _) ?_ ⟨i + 1, IntKind.i64.wrap (s + r.size), _, rfl, z, ⟨rfl, by omega⟩, junk (by kernel_rfl)⟩; omega)
def hasS (l : List ByteArray) (x : ByteArray) : Bool := l.any (fun y => decide (y = x))
theorem hasS_iff {l : List ByteArray} {x : ByteArray} : hasS l x = true ↔ x ∈ l := by
  unfold hasS
  rw [List.any_eq_true]
  exact ⟨fun ⟨y, h1, h2⟩ => of_decide_eq_true h2 ▸ h1, fun h => ⟨x, h, decide_eq_true rfl⟩⟩
theorem zwz (l : List ByteArray) (who : ByteArray) (p0 p1 p2 p5 p6 : Value) (q b : Int) (h : Heap) (hl : Sl Rep.str h p0 l) (K : Value → Heap → Prop) (hk : ∀ h', Ext h h' → K (.bool (hasS l who)) h') : Ok Tryz.prog tab ov 74 [zb1 p0 p1 p2 p5 p6 q b, .string who] h K := by
  rw [zaa h]
  have z := Ext.refl h
  have hle := hl.le
  have hva := zbg p0
  have hlv := fun (hh : Heap) => hl.lenA ds49 hh
  refine Ok.into rfl zuI (zaD N74) rfl (m := 18) rfl ?_
  repeat' ( simp -implicitDefEqProofs only [syms, symx, seval, c74, zav, pol0, hva, hlv])
  refine zih (fun h' x hq => ?_)
  have q0 := hq 0 _ rfl
  clear hq
  (replace z := z.overW x (by (try simp only [lsz]); omega); rw [zaa h'])
  obtain ⟨A0, hA0⟩ : ∃ A0, A0 = h.size + 0 := ⟨_, rfl⟩
  rw [← hA0] at q0
  rw [← hA0]
  obtain ⟨I1, hI1⟩ : ∃ I : Nat → Env → Heap → Prop, I = (fun n e h' => ∃ (i : Nat) (h1 : Heap), h' = h1.lay [] h1.low ∧ Ext h h1 ∧ (n = l.length - i ∧ i ≤ l.length ∧ (∀ x ∈ l.take i, decide (x = who) = false) ∧ Holds h1 A0 (.row (zar p0 p1 p2 p5 p6 q b) 55 false)) ∧ ∃ J : Nat → Value, e = (J 0 :: .string who :: .pointer (some ⟨A0, 0, none⟩) :: jr J 3 2 (.int .i64 i :: jr J 6 14 ([])))) := ⟨_, rfl⟩
  refine zaJ I1 _ (by rw [hI1]; exact ⟨0, _, rfl, z, ⟨rfl, by omega, by simp, q0⟩, junk (by kernel_rfl)⟩) ?_
  intro n e h' hin
  rw [hI1] at hin
  obtain ⟨i, h1', rfl, z, hinv, J, rfl⟩ := hin
  clear q0
  obtain ⟨rfl, hi, hall, q0⟩ := hinv
  have hw : i < l.length → IntKind.i64.wrap ((i : Int) + 1) = ((i + 1 : Nat) : Int) := fun hh => by unfold maxLen at hle; rw [zai (by omega) (by omega)]; omega
  simp -implicitDefEqProofs only [syms, symx, seval, c74, q0.lay, pol0, hva, hlv]
  refine zau (fun hlt => ?_) (fun hlt => ?_)
  rotate_left
  · rw [List.take_of_length_le (by omega)] at hall
    have hf : hasS l who = false := by unfold hasS; rw [List.any_eq_false]; intro x hx; rw [hall x hx]; decide
    rw [hf] at hk
    repeat' ( simp -implicitDefEqProofs only [syms, symx, seval, c74])
    exact hk _ (z.upW _ _ (by omega))
  obtain ⟨r, hr, hr'⟩ := zby (l := l) (i := i) (by omega)
  repeat' (first | simp -implicitDefEqProofs only [syms, symx, seval, c74, q0.lay, pol0, hva] | ((with_reducible  apply zau ) <;> intro _) | with_reducible_and_instances refine zgs (hl.mono z.inc) ds49 sz9 (by omega) hr (fun p hp => ?_) | with_reducible_and_instances refine zbn hp ag9 ?_)
  · have he : r = who := by assumption
    rw [show hasS l who = true from hasS_iff.2 (he ▸ List.mem_of_getElem? hr')] at hk
    exact hk _ (z.upW _ _ (by omega))
  · have hne : ¬ r = who := by assumption
    rw [hw (by omega)]
    (rw [hI1]; with_reducible refine zah (m := _) ?_ ⟨i + 1, _, rfl, z, ⟨rfl, by omega, zbK (i := i) (P := fun x : ByteArray => decide (x = who) = false) hr' hall (decide_eq_false hne), q0⟩, junk (by kernel_rfl)⟩; omega)
end Go.Proofs.YtemapihoobmonaaGreatDoor

/- Walks: is a list sorted? A list made sorted Written out by fill2.py. No condition. -/
import Derived.Test.YtemapihoobmonaaGreatDoorG38
import Derived.Test.YtemapihoobmonaaGreatDoorG44
import Derived.Test.YtemapihoobmonaaGreatDoorG31
import Derived.Test.YtemapihoobmonaaGreatDoorG17
import Derived.Test.YtemapihoobmonaaGreatDoorG15
import Derived.KernelRfl
import Derived.Test.YtemapihoobmonaaGreatDoorG16
import Derived.Test.YtemapihoobmonaaGreatDoorG18
namespace Go.Proofs.YtemapihoobmonaaGreatDoor
open Go.Am
set_option linter.unusedSimpArgs false
set_option linter.unusedVariables false
set_option maxRecDepth 100000
set_option maxHeartbeats 0
theorem zwZ (l : List AtomD) (a : AtomD) (v : Value) (h : Heap) (hl : Sl Rep.atom h v l) (hn : l.length ≤ 100000) (hlt : ∀ x ∈ l, x.light = true) (ha : a.light = true) (K : Value → Heap → Prop)
    (hk : ∀ h', Ext h h' → K (.bool (hasA l a)) h') : Ok Tryz.prog tab ov 17 [v, a.val] h K := by
  rw [zaa h]
  have z := Ext.refl h
  have hva := zaI v
  have hln := fun (hh : Heap) => hl.lenA ds27 hh
  refine Ok.into rfl zwC (zaB N17) rfl (m := 17) rfl ?_
  simp -implicitDefEqProofs only [syms, symx, seval, c17, zay, hva]
  refine zeg (fun h' x hq => ?_)
  have q0 := hq 0 _ rfl
  clear hq
  (replace z := z.overW x (by (try simp only [lsz]); omega); rw [zaa h'])
  obtain ⟨I1, hI1⟩ : ∃ I : Nat → Env → Heap → Prop, I = (fun n e h' => ∃ (i : Nat) (h1 : Heap), h' = h1.lay [] h1.low ∧ Ext h h1 ∧ (n = l.length - i ∧ i ≤ l.length ∧ (∀ x ∈ l.take i, ¬ zaR x = zaR a) ∧ Holds h1 (h.size + 0) (.row a.cells 26 false)) ∧ ∃ J : Nat → Value, e = (v :: jr J 1 2 (.pointer (some ⟨h.size + 0, 0, none⟩) :: J 4 :: .int .i64 i :: jr J 6 13 ([])))) := ⟨_, rfl⟩
  refine zat I1 _ (by rw [hI1]; exact ⟨0, _, rfl, z, ⟨rfl, by omega, by simp, q0⟩, junk (by kernel_rfl)⟩) ?_
  intro n e h' hin
  rw [hI1] at hin
  obtain ⟨i, h1', rfl, z, hinv, J, rfl⟩ := hin
  clear q0
  obtain ⟨rfl, hi, hno, q0⟩ := hinv
  have hwi : IntKind.i64.wrap ((i : Int) + 1) = ((i + 1 : Nat) : Int) := by rw [zae (by omega) (by omega)]; omega
  simp -implicitDefEqProofs only [syms, symx, seval, c17, hva, hln]
  refine zaw (fun hlt1 => ?_) (fun hlt1 => ?_)
  rotate_left
  · rw [List.take_of_length_le (by omega)] at hno
    have e : hasA l a = false := by
      cases e : hasA l a
      · rfl
      · obtain ⟨x, hx, e2⟩ := hasA_iff.1 e
        exact absurd e2 (hno x hx)
    rw [e] at hk
    repeat' ( simp -implicitDefEqProofs only [syms, symx, seval, c17, hva])
    exact hk _ (z.upW _ _ (by omega))
  have hr : l[(i : Int).toNat]? = some (l.getD i noAtomD) := zaV (by omega)
  have hmem : l.getD i noAtomD ∈ l := List.mem_of_getElem? hr
  simp -implicitDefEqProofs only [syms, symx, seval, c17, hva]
  with_reducible first | refine zb2 (by simp only [c17]) (z.upW _ _ (by omega)) ?_
  simp -implicitDefEqProofs only [syms, symx, seval, c17, hva]
  repeat' ((first | with_reducible_and_instances refine zee (hl.mono z.inc) ds27 sz26 (by omega) hr (fun p hp => ?_) | with_reducible_and_instances refine lda hp ag26 sz26 ?_) <;> simp -implicitDefEqProofs only [syms, symx, seval, c17, hva, q0.lay, zay, ↓zau, zar, zai])
  refine zxk _ a (hlt _ hmem) ha _ _ (fun h' x => ?_)
  (( ((with_reducible refine zaH ?_ ?_ ?_); (· exact (by (try simp only [lsz]); have := z.size; omega)); (·  exact x )) ); replace z := z.overW x (by (try simp only [lsz]); omega); (try replace q0 := q0.over x); rw [zaa h'])
  simp -implicitDefEqProofs only [syms, symx, seval, c17]
  refine zdI (fun hc => ?_) (fun hc => ?_)
  · have e : hasA l a = true := hasA_iff.2 ⟨_, hmem, cmpD_zero.1 hc⟩
    rw [e] at hk
    repeat' (first | simp -implicitDefEqProofs only [syms, symx, seval, c17] | ((with_reducible refine ⟨z.grw.lay _ _, ?_⟩); (intro _ h' zz x _); (try simp only [zas, List.append_nil] at x); (try replace q0 := q0.over x); (replace z := zz); (clear zz); rw [zaa h']))
    exact hk _ (z.upW _ _ (by omega))
  · have hc2 : ¬ zaR (l.getD i noAtomD) = zaR a := fun e => absurd (cmpD_zero.2 e) hc
    have hno2 := za7 (i := i) (P := fun x : AtomD => ¬ zaR x = zaR a) (zaV (l := l) (i := i) (by omega)) hno hc2
    repeat' (first | simp -implicitDefEqProofs only [syms, symx, seval, c17] | ((with_reducible refine ⟨z.grw.lay _ _, ?_⟩); (intro _ h' zz x _); (try simp only [zas, List.append_nil] at x); (try replace q0 := q0.over x); (replace z := zz); (clear zz); rw [zaa h']))
    rw [hwi]
    (rw [hI1]; with_reducible refine zac (m := _) ?_ ⟨i + 1, _, rfl, z, ⟨rfl, by omega, hno2, q0⟩, junk (by kernel_rfl)⟩; omega)
end Go.Proofs.YtemapihoobmonaaGreatDoor
namespace Go.Proofs.YtemapihoobmonaaGreatDoor
open Go.Am
set_option linter.unusedVariables false
set_option linter.unusedSimpArgs false
set_option maxRecDepth 100000
set_option maxHeartbeats 0
noncomputable def N24 := zaA Tryz.f24
noncomputable def x24 := PLift.up (by have c := zah N24 Tryz.f24; simp only [zao, Tryz.f24, Option.getD_some, zan, opsF, opsX, zag, zaz, dstL, zak, List.append_eq, List.cons_append, List.nil_append, seval] at c; exact nd c <| nd @zcr <| nd @zhG <| nd @zhU <| nd @zeO <| nd @ix24 <| nd @ld9 <| nd @ln9 <| @fi24)
theorem c24 : type_of% x24.down := x24.down
noncomputable def N12 := zaA Tryz.f12
noncomputable def x12 := PLift.up (by have c := zah N12 Tryz.f12; simp only [zao, Tryz.f12, Option.getD_some, zan, opsF, opsX, zag, zaz, dstL, zak, List.append_eq, List.cons_append, List.nil_append, seval] at c; exact nd c <| nd @ix27 <| nd @ld26 <| nd @ln27 <| @fi12)
theorem c12 : type_of% x12.down := x12.down
noncomputable def N11 := zaA Tryz.f11
noncomputable def x11 := PLift.up (by have c := zah N11 Tryz.f11; simp only [zao, Tryz.f11, Option.getD_some, zan, opsF, opsX, zag, zaz, dstL, zak, List.append_eq, List.cons_append, List.nil_append, seval] at c; exact nd c <| nd @zfb <| nd @zff <| nd @ix32 <| nd @ld26 <| nd @ld27 <| nd @ln32 <| @fi11)
theorem c11 : type_of% x11.down := x11.down
noncomputable def N16 := zaA Tryz.f16
noncomputable def x16 := PLift.up (by have c := zah N16 Tryz.f16; simp only [zao, Tryz.f16, Option.getD_some, zan, opsF, opsX, zag, zaz, dstL, zak, List.append_eq, List.cons_append, List.nil_append, seval] at c; exact nd c <| @fi16)
theorem c16 : type_of% x16.down := x16.down
noncomputable def N19 := zaA Tryz.f19
noncomputable def x19 := PLift.up (by have c := zah N19 Tryz.f19; simp only [zao, Tryz.f19, Option.getD_some, zan, opsF, opsX, zag, zaz, dstL, zak, List.append_eq, List.cons_append, List.nil_append, seval] at c; exact nd c <| nd @bs32 <| nd @zfb <| nd @zff <| nd @ix32 <| nd @ld26 <| nd @ld27 <| nd @ln32 <| @fi19)
end Go.Proofs.YtemapihoobmonaaGreatDoor
namespace Go.Proofs.YtemapihoobmonaaGreatDoor
open Go.Am
set_option linter.unusedSimpArgs false
set_option linter.unusedVariables false
set_option maxRecDepth 100000
set_option maxHeartbeats 0
/-! ### Light -/
theorem zpD (a : AtomD) (h : Heap) (K : Value → Heap → Prop) (h1 : a.light = true → ∀ h', Ext h h' → K (.bool true) h') (h2 : a.light = false → ∀ h', Ext h h' → K (.bool false) h') : Ok Tryz.prog tab ov 24 [a.val] h K := by
  rw [zaa h]
  have z := Ext.refl h
  unfold AtomD.val AtomD.cells
  refine Ok.into rfl zuO (zaB N24) rfl (m := 29) rfl ?_
  simp -implicitDefEqProofs only [syms, symx, seval, c24]
  repeat' ((first | ((with_reducible  apply zaw ) <;> intro _) | with_reducible_and_instances refine zf5 ?_) <;> simp -implicitDefEqProofs only [syms, symx, seval, c24])
  all_goals first
    | with_reducible exact h2 (by simp [AtomD.light]; omega) _ (z.upW _ _ (by omega))
    | with_reducible exact h1 (by simp [AtomD.light]; omega) _ (z.upW _ _ (by omega))
theorem zis (l : List AtomD) (v : Value) (m : Int) (h : Heap) (hl : Sl Rep.atom h v l) (K : Value → Heap → Prop) (h1 : (l.length : Int) ≤ m → (∀ a ∈ l, a.light = true) → ∀ h', Ext h h' → K (.bool true) h') (h2 : ∀ h', Ext h h' → K (.bool false) h') : Ok Tryz.prog tab ov 12 [v, .int .i64 m] h K := by
  rw [zaa h]
  have z := Ext.refl h
  have hle := hl.le
  refine Ok.into rfl zv2 (zaB N12) rfl (m := 20) rfl ?_
  simp -implicitDefEqProofs only [syms, symx, seval, c12]
  repeat' ((first | ((with_reducible  apply zaw ) <;> intro _) | with_reducible_and_instances refine zcs hl ds27 ?_) <;> simp -implicitDefEqProofs only [syms, symx, seval, c12])
  · exact h2 _ (z.upW _ _ (by omega))
  refine zyI (fun e h' => ∃ (i : Nat) (h1 : Heap) (x1 x2 x3 x4 x6 x7 x8 x9 x10 x11 x12 x13 x14 x15 x16 x17 x18 x19 x20 x21 : Value), h' = h1.lay [] h1.low ∧ Ext h h1 ∧ i ≤ l.length ∧ (∀ a ∈ l.take i, a.light = true) ∧ e = [v, x1, x2, x3, x4, .int .i64 i, x6, x7, x8, x9, x10, x11, x12, x13, x14, x15, x16, x17, x18, x19, x20, x21]) (fun e _ => match e.get 5 with | .int _ i => l.length - i.toNat | _ => 0) ?_ ?_
  · exact ⟨0, h, _, _, _, _, _, _, _, _, _, _, _, _, _, _, _, _, _, _, _, _, rfl, z, by omega, by simp, rfl⟩
  rintro e h' ⟨i, h1', x1, x2, x3, x4, x6, x7, x8, x9, x10, x11, x12, x13, x14, x15, x16, x17, x18, x19, x20, x21, rfl, z, hi, hall, rfl⟩
  have hw : i < l.length → IntKind.i64.wrap ((i : Int) + 1) = ((i + 1 : Nat) : Int) := fun hh => by unfold maxLen at hle; rw [zae (by omega) (by omega)]; omega
  simp -implicitDefEqProofs only [syms, symx, seval, c12]
  repeat' ((first | ((with_reducible  apply zaw ) <;> intro _) | with_reducible_and_instances refine zcs hl ds27 ?_ | with_reducible_and_instances refine ixa (hl.mono z.inc) ds27 sz26 (by omega) (by omega) (fun a p ha hp => ?_) | with_reducible_and_instances refine lda hp ag26 sz26 ?_ | ((with_reducible_and_instances refine zpD _ _ _ (fun hlx h' x => ?_) (fun hlx h' x => ?_)) <;> ((skip); replace z := z.overW x (by (try simp only [lsz]); omega); rw [zaa h'])) | ((with_reducible_and_instances apply zaf); (· rfl))) <;> simp -implicitDefEqProofs only [syms, symx, seval, c12])
  all_goals first
    | with_reducible exact h2 _ (z.upW _ _ (by omega))
    | with_reducible exact h1 (by omega) (by rw [List.take_of_length_le (by omega)] at hall; exact hall) _ (z.upW _ _ (by omega))
    | (rw [hw (by omega)]
       with_reducible refine zl5 ?_ ?_
       · exact ⟨i + 1, h', _, _, _, _, _, _, _, _, _, _, _, _, _, _, _, _, _, _, _, _, rfl, z, by omega, za7 ha hall hlx, rfl⟩
       · show l.length - ((i + 1 : Nat) : Int).toNat < l.length - (i : Int).toNat
         omega)
def zmB (n m : Int) : Int := if m < 1 then 0 else if n.tmod m < 0 then n.tmod m + m else n.tmod m
theorem zpH (n m : Int) (hm : 1 ≤ m) : 0 ≤ zmB n m ∧ zmB n m < m := by
  unfold zmB
  rw [if_neg (by omega)]
  have h1 := Int.tmod_lt_of_pos n (show 0 < m by omega)
  have h2 := Int.lt_tmod_of_pos n (show 0 < m by omega)
  split <;> omega
theorem zxe (n m : Int) (h : Heap) (K : Value → Heap → Prop) (hm : m ≤ 4611686018427387904) (hk : K (.int .i64 (zmB n m)) h) : Ok Tryz.prog tab ov 16 [.int .i64 n, .int .i64 m] h K := by
  refine Ok.into rfl zvH (zaB N16) rfl (m := 15) rfl ?_
  simp -implicitDefEqProofs only [syms, symx, seval, c16]
  refine zaw (fun c => ?_) (fun c => ?_)
  · simp -implicitDefEqProofs only [syms, symx, seval, c16]
    have : zmB n m = 0 := by unfold zmB; rw [if_pos c]
    rw [this] at hk
    exact hk
  have hb := zpH n m (by omega)
  have hd : zmB n m = if n.tmod m < 0 then n.tmod m + m else n.tmod m := by unfold zmB; rw [if_neg c]
  simp -implicitDefEqProofs only [syms, symx, seval, c16]
  rw [zxA (by omega)]
  simp -implicitDefEqProofs only [syms, symx, seval, c16]
  refine zaw (fun c2 => ?_) (fun c2 => ?_)
  · rw [if_pos c2] at hd
    rw [hd] at hk hb
    simp -implicitDefEqProofs only [syms, symx, seval, c16]
    rw [zae (by omega) (by omega)]
    exact hk
  · rw [if_neg c2] at hd
    rw [hd] at hk
    simp -implicitDefEqProofs only [syms, symx, seval, c16]
    exact hk
theorem ziW (l : List ClauseD) (facts : List AtomD) (v w : Value) (h : Heap) (hl : Sl Rep.clause h v l) (hf : Sl Rep.atom h w facts) (K : Value → Heap → Prop)
    (h1 : l.length ≤ 6 → facts.length ≤ 12 → (∀ r ∈ l, r.body.length ≤ 3) → ∀ h', Ext h h' → K (.bool true) h') (h2 : ∀ h', Ext h h' → K (.bool false) h') : Ok Tryz.prog tab ov 11 [v, w] h K := by
  rw [zaa h]
  have z := Ext.refl h
  refine Ok.into rfl zv1 (zaB N11) rfl (m := 34) rfl ?_
  simp -implicitDefEqProofs only [syms, symx, seval, c11]
  repeat' ((first | ((with_reducible  apply zaw ) <;> intro _) | with_reducible_and_instances refine zcs hl ds32 ?_ | ((with_reducible_and_instances refine zis _ _ _ _ ((hf.mono z.inc).lay _ _) _ (fun hlf hfl h' x => ?_) (fun h' x => ?_)) <;> ((skip); replace z := z.overW x (by (try simp only [lsz]); omega); rw [zaa h'])) | ((with_reducible_and_instances apply zaf); (· rfl))) <;> simp -implicitDefEqProofs only [syms, symx, seval, c11])
  all_goals try exact h2 _ (z.upW _ _ (by omega))
  obtain ⟨I1, hI1⟩ : ∃ I : Nat → Env → Heap → Prop, I = (fun n e h' => ∃ (i : Nat) (h1 : Heap), h' = h1.lay [] h1.low ∧ Ext h h1 ∧ (n = l.length - i ∧ i ≤ l.length ∧ ∀ r ∈ l.take i, r.body.length ≤ 3) ∧ ∃ J : Nat → Value, e = (v :: jr J 1 4 (.int .i64 i :: jr J 6 30 ([])))) := ⟨_, rfl⟩
  refine zat I1 _ (by rw [hI1]; exact ⟨0, _, rfl, z, ⟨rfl, by omega, by simp⟩, junk (by kernel_rfl)⟩) ?_
  intro n e h' hin
  rw [hI1] at hin
  obtain ⟨i, h1', rfl, z, hinv, J, rfl⟩ := hin
  obtain ⟨rfl, hi, hall⟩ := hinv
  have hw : IntKind.i64.wrap ((i : Int) + 1) = ((i + 1 : Nat) : Int) := by rw [zae (by omega) (by omega)]; omega
  repeat' (first | simp -implicitDefEqProofs only [syms, symx, seval, c11] | ((with_reducible  apply zaw ) <;> intro _) | with_reducible_and_instances refine zcs hl ds32 ?_)
  rotate_left
  · exact h1 (by omega) (by omega) (by rw [List.take_of_length_le (by omega)] at hall; exact hall) _ (z.upW _ _ (by omega))
  obtain ⟨r, hr, hr'⟩ := za6 (l := l) (i := i) (by assumption)
  repeat' ((first | with_reducible_and_instances refine ztA (hl.mono z.inc) ds32 sz29 (by omega) hr (fun p bd hbd hp => ?_) | with_reducible_and_instances refine fdc0 hp zfb (fun p hp => ?_) | with_reducible_and_instances refine fdc1 hp zff (fun q hq => ?_) | with_reducible_and_instances refine lda hp ag26 sz26 ?_ | with_reducible_and_instances refine zcU hq ag27 ?_ | ((with_reducible_and_instances refine zpD _ _ _ (fun hla h' x => ?_) (fun hla h' x => ?_)) <;> ((skip); replace z := z.overW x (by (try simp only [lsz]); omega); rw [zaa h'])) | ((with_reducible_and_instances refine zis _ _ _ _ (hbd.mono (Inc.lay _ _ _)) _ (fun hlen hlb h' x => ?_) (fun h' x => ?_)) <;> ((skip); replace z := z.overW x (by (try simp only [lsz]); omega); rw [zaa h'])) | ((with_reducible_and_instances apply zaf); (· rfl))) <;> simp -implicitDefEqProofs only [syms, symx, seval, c11])
  all_goals first
    | with_reducible exact h2 _ (z.upW _ _ (by omega))
    | (rw [hw]; (rw [hI1]; with_reducible refine zac (m := _) ?_ ⟨i + 1, _, rfl, z, ⟨rfl, by omega, za7 (i := i) (P := fun r : ClauseD => r.body.length ≤ 3) hr' hall (by show r.body.length ≤ 3; omega)⟩, junk (by kernel_rfl)⟩; omega))
end Go.Proofs.YtemapihoobmonaaGreatDoor
namespace Go.Proofs.YtemapihoobmonaaGreatDoor
open Go.Am
set_option linter.unusedVariables false
set_option linter.unusedSimpArgs false
set_option maxRecDepth 100000
set_option maxHeartbeats 0
noncomputable def N3 := zaA Tryz.f3
noncomputable def x3 := PLift.up (by have c := zah N3 Tryz.f3; simp only [zao, Tryz.f3, Option.getD_some, zan, opsF, opsX, zag, zaz, dstL, zak, List.append_eq, List.cons_append, List.nil_append, seval] at c; exact nd c <| nd @bs32 <| nd @zfb <| nd @zff <| nd @ix27 <| nd @ix30 <| nd @ld26 <| nd @ld27 <| nd @ld29 <| nd @ld3 <| nd @ln27 <| nd @ln30 <| @fi3)
theorem c3 : type_of% x3.down := x3.down
noncomputable def N4 := zaA Tryz.f4
noncomputable def x4 := PLift.up (by have c := zah N4 Tryz.f4; simp only [zao, Tryz.f4, Option.getD_some, zan, opsF, opsX, zag, zaz, dstL, zak, List.append_eq, List.cons_append, List.nil_append, seval] at c; exact nd c <| nd @al29 <| nd @bs27 <| nd @bs32 <| nd @zfb <| nd @zff <| nd @ix27 <| nd @ix32 <| nd @ld26 <| nd @ld27 <| nd @ld29 <| nd @ln27 <| nd @ln32 <| @fi4)
theorem c4 : type_of% x4.down := x4.down
noncomputable def N7 := zaA Tryz.f7
noncomputable def x7 := PLift.up (by have c := zah N7 Tryz.f7; simp only [zao, Tryz.f7, Option.getD_some, zan, opsF, opsX, zag, zaz, dstL, zak, List.append_eq, List.cons_append, List.nil_append, seval] at c; exact nd c <| nd @ix27 <| nd @ld26 <| nd @ln27 <| @fi7)
end Go.Proofs.YtemapihoobmonaaGreatDoor

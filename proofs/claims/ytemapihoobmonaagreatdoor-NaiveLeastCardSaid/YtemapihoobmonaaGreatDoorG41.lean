/- Walks: is a list sorted? A list made sorted Written out by fill2.py. No condition. -/
import Derived.Test.YtemapihoobmonaaGreatDoorG38
import Derived.Test.YtemapihoobmonaaGreatDoorG17
import Derived.Test.YtemapihoobmonaaGreatDoorG15
import Derived.KernelRfl
namespace Go.Proofs.YtemapihoobmonaaGreatDoor
open Go.Am
set_option linter.unusedSimpArgs false
set_option linter.unusedVariables false
set_option maxRecDepth 100000
set_option maxHeartbeats 0
theorem zy5 (l : List AtomD) (v : Value) (h : Heap) (hl : Sl Rep.atom h v l) (hn : l.length ≤ 1000) (hlt : ∀ x ∈ l, x.light = true) (K : Value → Heap → Prop)
    (hk : ∀ h', Ext h h' → K (.bool (isA l)) h') : Ok Tryz.prog tab ov 150 [v] h K := by
  rw [zaa h]
  have z := Ext.refl h
  have hln := fun (hh : Heap) => hl.lenA ds27 hh
  refine Ok.into rfl zr5 (zay N150) rfl (m := 24) rfl ?_
  simp -implicitDefEqProofs only [syms, symx, seval, c150, hln]
  obtain ⟨I1, hI1⟩ : ∃ I : Nat → Env → Heap → Prop, I = (fun n e h' => ∃ (i : Nat) (h1 : Heap), h' = h1.lay [] h1.low ∧ Ext h h1 ∧ (n = l.length - i ∧ i ≤ l.length ∧ (∀ k, 0 < k → k < i → cmpD (l.getD (k - 1) noAtomD) (l.getD k noAtomD) < 0)) ∧ ∃ J : Nat → Value, e = (v :: jr J 1 4 (.int .i64 l.length :: .int .i64 i :: jr J 7 18 ([])))) := ⟨_, rfl⟩
  refine zas I1 _ (by rw [hI1]; exact ⟨0, _, rfl, z, ⟨rfl, by omega, fun k _ g => by omega⟩, junk (by kernel_rfl)⟩) ?_
  intro n e h' hin
  rw [hI1] at hin
  obtain ⟨i, h1', rfl, z, hinv, J, rfl⟩ := hin
  obtain ⟨rfl, hin, hup⟩ := hinv
  have hwi : IntKind.i64.wrap ((i : Int) + 1) = ((i + 1 : Nat) : Int) := by rw [zae (by omega) (by omega)]; omega
  have hwi1 : 0 < i → IntKind.i64.wrap ((i : Int) - 1) = ((i - 1 : Nat) : Int) := fun _ => by rw [zae (by omega) (by omega)]; omega
  simp -implicitDefEqProofs only [syms, symx, seval, c150]
  refine zax (fun hlt1 => ?_) (fun hlt1 => ?_)
  rotate_left
  · have hi : i = l.length := by omega
    subst hi
    rw [isA_iff.2 (asc_iff.2 hup)] at hk
    repeat' ( simp -implicitDefEqProofs only [syms, symx, seval, c150])
    exact hk _ (z.upW _ _ (by omega))
  have hr : l[(i : Int).toNat]? = some (l.getD i noAtomD) := zaH (by omega)
  have hr1 : l[((i - 1 : Nat) : Int).toNat]? = some (l.getD (i - 1) noAtomD) := zaH (by omega)
  simp -implicitDefEqProofs only [syms, symx, seval, c150]
  refine (zbU (by simp only [c150])) (z.upW _ _ (by omega)) ?_
  simp -implicitDefEqProofs only [syms, symx, seval, c150]
  refine zax (fun hpos => ?_) (fun hpos => ?_)
  rotate_left
  · have hi0 : i = 0 := by omega
    subst hi0
    repeat' (first | simp -implicitDefEqProofs only [syms, symx, seval, c150] | ((with_reducible refine ⟨z.grw.lay _ _, ?_⟩); (intro _ h' zz x _); (try simp only [zaq, List.append_nil] at x); (replace z := zz); (clear zz); rw [zaa h']))
    (rw [hI1]; with_reducible refine zac (m := _) ?_ ⟨1, _, rfl, z, ⟨rfl, by omega, fun k _ g => by omega⟩, junk (by kernel_rfl)⟩; omega)
  have hwi1 := hwi1 (by omega)
  simp -implicitDefEqProofs only [syms, symx, seval, c150, hwi1]
  repeat' ((first | with_reducible_and_instances refine zb5 (hl.mono z.inc) ds27 sz26 (by omega) hr1 (fun p hp => ?_) | with_reducible_and_instances refine zb5 (hl.mono z.inc) ds27 sz26 (by omega) hr (fun p hp => ?_) | with_reducible_and_instances refine lda hp ag26 sz26 ?_) <;> simp -implicitDefEqProofs only [syms, symx, seval, c150, hwi1])
  refine zgZ _ _ (zaP hlt (by omega)) (zaP hlt (by omega)) _ _ (fun h' x => ?_)
  (( ((with_reducible refine zaD ?_ ?_ ?_); (· exact (by (try simp only [lsz]); have := z.size; omega)); (·  exact x )) ); replace z := z.overW x (by (try simp only [lsz]); omega); rw [zaa h'])
  simp -implicitDefEqProofs only [syms, symx, seval, c150]
  refine zax (fun hc => ?_) (fun hc => ?_)
  · rw [zwn (fun g => by have := asc_iff.1 g i (by omega) (by omega); omega)] at hk
    repeat' (first | simp -implicitDefEqProofs only [syms, symx, seval, c150] | ((with_reducible refine ⟨z.grw.lay _ _, ?_⟩); (intro _ h' zz x _); (try simp only [zaq, List.append_nil] at x); (replace z := zz); (clear zz); rw [zaa h']))
    exact hk _ (z.upW _ _ (by omega))
  · repeat' (first | simp -implicitDefEqProofs only [syms, symx, seval, c150] | ((with_reducible refine ⟨z.grw.lay _ _, ?_⟩); (intro _ h' zz x _); (try simp only [zaq, List.append_nil] at x); (replace z := zz); (clear zz); rw [zaa h']))
    rw [hwi]
    (rw [hI1]; with_reducible refine zac (m := _) ?_ ⟨i + 1, _, rfl, z, ⟨rfl, by omega, fun k g1 g2 => by
      rcases Nat.lt_or_ge k i with e | e
      · exact hup k g1 e
      · have e : k = i := by omega
        subst e
        omega⟩, junk (by kernel_rfl)⟩; omega)
theorem zrY (l : List AtomD) (v : Value) (h : Heap) (hl : Sl Rep.atom h v l) (hn : l.length ≤ 900) (hlt : ∀ x ∈ l, x.light = true) (K : Value → Heap → Prop)
    (hk : ∀ h' w, Ext h h' → OwnA h h' 26 w (zbR l) → K w h') : Ok Tryz.prog tab ov 115 [v] h K := by
  rw [zaa h]
  have z := Ext.refl h
  refine Ok.into rfl zs0 (zay N115) rfl (m := 8) rfl ?_
  repeat' ( simp -implicitDefEqProofs only [syms, symx, seval, c115])
  refine zy5 l v _ (hl.lay _ _) (by omega) hlt _ (fun h' x => ?_)
  ((skip); replace z := z.overW x (by (try simp only [lsz]); omega); rw [zaa h'])
  cases hi : isA l
  · repeat' ( simp -implicitDefEqProofs only [syms, symx, seval, c115])
    refine zh8 l v _ ((hl.mono z.inc).lay _ _) (by omega) hlt _ (fun h' w x ho => ?_)
    have hsz := z.size
    replace ho := ho.down (h0 := h) (by rw [zad]; omega)
    ((skip); replace z := z.overW x (by (try simp only [lsz]); omega); rw [zaa h'])
    have hva := zaF w
    repeat' ( simp -implicitDefEqProofs only [syms, symx, seval, c115, hva])
    exact hk _ _ (z.upW _ _ (by omega)) (ho.lay _ _)
  · repeat' ( simp -implicitDefEqProofs only [syms, symx, seval, c115])
    refine zlT l v _ ((hl.mono z.inc).lay _ _) (by omega) _ (fun h' w x ho => ?_)
    have hsz := z.size
    replace ho := (ho.own (by omega)).down (h0 := h) (by rw [zad]; omega)
    rw [← zdt (isA_iff.1 hi)] at ho
    ((skip); replace z := z.overW x (by (try simp only [lsz]); omega); rw [zaa h'])
    have hva := zaF w
    repeat' ( simp -implicitDefEqProofs only [syms, symx, seval, c115, hva])
    exact hk _ _ (z.upW _ _ (by omega)) (ho.lay _ _)
theorem zkY (l : List AtomD) (a : AtomD) (v : Value) (h : Heap) (hl : Sl Rep.atom h v l) (hs : AscD l) (hn : l.length ≤ 1000) (hlt : ∀ x ∈ l, x.light = true) (ha : a.light = true) (K : Value → Heap → Prop)
    (hk : ∀ h' i, Ext h h' → AmPlace l a i → K (.tuple #[.int .i64 (i : Nat), .bool (hasA l a)]) h') : Ok Tryz.prog tab ov 152 [v, a.val, .func (.func 98) ⟨[]⟩ ⟨[]⟩] h K := by
  rw [zaa h]
  have z := Ext.refl h
  have hln := fun (hh : Heap) => hl.lenA ds27 hh
  refine Ok.into rfl zr1 (zay N152) rfl (m := 46) rfl ?_
  simp -implicitDefEqProofs only [syms, symx, seval, c152, hln, zat]
  refine zfu (fun h' x hq => ?_)
  have q0 := hq 0 _ rfl
  clear hq
  (replace z := z.overW x (by (try simp only [lsz]); omega); rw [zaa h'])
  obtain ⟨I1, hI1⟩ : ∃ I : Nat → Env → Heap → Prop, I = (fun n e h' => ∃ (i j : Nat) (h1 : Heap), h' = h1.lay [] h1.low ∧ Ext h h1 ∧ (n = j - i ∧ i ≤ j ∧ j ≤ l.length ∧ (∀ k, k < i → cmpD (l.getD k noAtomD) a < 0) ∧ (∀ k, j ≤ k → k < l.length → ¬ cmpD (l.getD k noAtomD) a < 0) ∧ Holds h1 (h.size + 0) (.row a.cells 26 false)) ∧ ∃ J : Nat → Value, e = (v :: J 1 :: .func (.func 98) ⟨[]⟩ ⟨[]⟩ :: J 3 :: .pointer (some ⟨h.size + 0, 0, none⟩) :: jr J 5 3 (.int .i64 l.length :: .int .i64 i :: .int .i64 j :: jr J 11 38 ([])))) := ⟨_, rfl⟩
  refine zas I1 _ (by rw [hI1]; exact ⟨0, l.length, _, rfl, z, ⟨rfl, by omega, by omega, fun k g => by omega, fun k g1 g2 => by omega, q0⟩, junk (by kernel_rfl)⟩) ?_
  intro n e h' hin
  rw [hI1] at hin
  obtain ⟨i, j, h1', rfl, z, hinv, J, rfl⟩ := hin
  clear q0
  obtain ⟨rfl, hij, hjl, hlo, hhi, q0⟩ := hinv
  simp -implicitDefEqProofs only [syms, symx, seval, c152]
  refine zax (fun hlt1 => ?_) (fun hlt1 => ?_)
  rotate_left
  · have e : i = j := by omega
    subst e
    have hpl : AmPlace l a i := ⟨hjl, hlo, hhi⟩
    have hhas := hpl.has hs
    simp -implicitDefEqProofs only [syms, symx, seval, c152]
    refine (zbU (by simp only [c152])) (z.upW _ _ (by omega)) ?_
    simp -implicitDefEqProofs only [syms, symx, seval, c152]
    refine zax (fun hin => ?_) (fun hin => ?_)
    rotate_left
    · have e : hasA l a = false := by
        cases e : hasA l a
        · rfl
        · exact absurd (hhas.1 e).1 (by omega)
      rw [e] at hk
      repeat' (first | simp -implicitDefEqProofs only [syms, symx, seval, c152] | ((with_reducible refine ⟨z.grw.lay _ _, ?_⟩); (intro _ h' zz x _); (try simp only [zaq, List.append_nil] at x); (try replace q0 := q0.over x); (replace z := zz); (clear zz); rw [zaa h']))
      exact hk _ _ (z.upW _ _ (by omega)) hpl
    have hr : l[(i : Int).toNat]? = some (l.getD i noAtomD) := zaH (by omega)
    simp -implicitDefEqProofs only [syms, symx, seval, c152]
    repeat' ((first | with_reducible_and_instances refine zb5 (hl.mono z.inc) ds27 sz26 (by omega) hr (fun p hp => ?_) | with_reducible_and_instances refine lda hp ag26 sz26 ?_) <;> simp -implicitDefEqProofs only [syms, symx, seval, c152, q0.lay, zat, ↓zar, zap, zai])
    refine zgZ _ _ (zaP hlt (by omega)) ha _ _ (fun h' x => ?_)
    (( ((with_reducible refine zaD ?_ ?_ ?_); (· exact (by (try simp only [lsz]); have := z.size; omega)); (·  exact x )) ); replace z := z.overW x (by (try simp only [lsz]); omega); (try replace q0 := q0.over x); rw [zaa h'])
    simp -implicitDefEqProofs only [syms, symx, seval, c152]
    refine zda (fun hc => ?_) (fun hc => ?_)
    · rw [hhas.2 ⟨by omega, hc⟩] at hk
      repeat' (first | simp -implicitDefEqProofs only [syms, symx, seval, c152] | ((with_reducible refine ⟨z.grw.lay _ _, ?_⟩); (intro _ h' zz x _); (try simp only [zaq, List.append_nil] at x); (try replace q0 := q0.over x); (replace z := zz); (clear zz); rw [zaa h']))
      exact hk _ _ (z.upW _ _ (by omega)) hpl
    · have e : hasA l a = false := by
        cases e : hasA l a
        · rfl
        · exact absurd (hhas.1 e).2 hc
      rw [e] at hk
      repeat' (first | simp -implicitDefEqProofs only [syms, symx, seval, c152] | ((with_reducible refine ⟨z.grw.lay _ _, ?_⟩); (intro _ h' zz x _); (try simp only [zaq, List.append_nil] at x); (try replace q0 := q0.over x); (replace z := zz); (clear zz); rw [zaa h']))
      exact hk _ _ (z.upW _ _ (by omega)) hpl
  obtain ⟨e1, e2, e3, e4⟩ := zfY i j (by omega)
  repeat' ( simp -implicitDefEqProofs only [syms, symx, seval, c152, e1])
  rw [zd1 rfl rfl rfl (zgC _) rfl, e2]
  simp -implicitDefEqProofs only [syms, symx, seval, c152, e1]
  rw [zgB (by decide), e4]
  simp -implicitDefEqProofs only [syms, symx, seval, c152, e1]
  rw [zd1 rfl rfl rfl (zgh _) rfl, e3]
  repeat' ( simp -implicitDefEqProofs only [syms, symx, seval, c152, e1])
  have hhm : i ≤ (i + j) / 2 ∧ (i + j) / 2 < j := by omega
  have hwh : IntKind.i64.wrap ((((i + j) / 2 : Nat) : Int) + 1) = (((i + j) / 2 + 1 : Nat) : Int) := by rw [zae (by omega) (by omega)]; omega
  generalize (i + j) / 2 = y at hhm hwh ⊢
  have hr : l[(y : Int).toNat]? = some (l.getD y noAtomD) := zaH (by omega)
  refine (zbU (by simp only [c152])) (z.upW _ _ (by omega)) ?_
  simp -implicitDefEqProofs only [syms, symx, seval, c152]
  repeat' ((first | with_reducible_and_instances refine zb5 (hl.mono z.inc) ds27 sz26 (by omega) hr (fun p hp => ?_) | with_reducible_and_instances refine lda hp ag26 sz26 ?_) <;> simp -implicitDefEqProofs only [syms, symx, seval, c152, q0.lay, zat, ↓zar, zap, zai])
  refine zgZ _ _ (zaP hlt (by omega)) ha _ _ (fun h' x => ?_)
  (( ((with_reducible refine zaD ?_ ?_ ?_); (· exact (by (try simp only [lsz]); have := z.size; omega)); (·  exact x )) ); replace z := z.overW x (by (try simp only [lsz]); omega); (try replace q0 := q0.over x); rw [zaa h'])
  simp -implicitDefEqProofs only [syms, symx, seval, c152]
  refine zax (fun hc => ?_) (fun hc => ?_)
  · repeat' (first | simp -implicitDefEqProofs only [syms, symx, seval, c152] | ((with_reducible refine ⟨z.grw.lay _ _, ?_⟩); (intro _ h' zz x _); (try simp only [zaq, List.append_nil] at x); (try replace q0 := q0.over x); (replace z := zz); (clear zz); rw [zaa h']))
    rw [hwh]
    (rw [hI1]; with_reducible refine zac (m := _) ?_ ⟨y + 1, j, _, rfl, z, ⟨rfl, by omega, by omega, fun k g => by
      rcases Nat.lt_or_ge k y with e | e
      · exact zcj (zo1 (asc_iff.1 hs) e (by omega)) hc
      · have e : k = y := by omega
        subst e
        exact hc, hhi, q0⟩, junk (by kernel_rfl)⟩; omega)
  · have hhi2 : ∀ k, y ≤ k → k < l.length → ¬ cmpD (l.getD k noAtomD) a < 0 := by
      intro k g1 g2
      rcases Nat.eq_or_lt_of_le g1 with e | e
      · subst e
        exact hc
      · intro g
        exact hc (zcj (zo1 (asc_iff.1 hs) e g2) g)
    repeat' (first | simp -implicitDefEqProofs only [syms, symx, seval, c152] | ((with_reducible refine ⟨z.grw.lay _ _, ?_⟩); (intro _ h' zz x _); (try simp only [zaq, List.append_nil] at x); (try replace q0 := q0.over x); (replace z := zz); (clear zz); rw [zaa h']))
    (rw [hI1]; with_reducible refine zac (m := _) ?_ ⟨i, y, _, rfl, z, ⟨rfl, by omega, by omega, hlo, hhi2, q0⟩, junk (by kernel_rfl)⟩; omega)
theorem zv0 (l : List AtomD) (a : AtomD) (v : Value) (h : Heap) (hl : Sl Rep.atom h v l) (hs : AscD l) (hn : l.length ≤ 1000) (hlt : ∀ x ∈ l, x.light = true) (ha : a.light = true) (K : Value → Heap → Prop)
    (hk : ∀ h' i, Ext h h' → AmPlace l a i → K (.tuple #[.int .i64 (i : Nat), .bool (hasA l a)]) h') : Ok Tryz.prog tab ov 118 [v, a.val] h K := by
  rw [zaa h]
  have z := Ext.refl h
  refine Ok.into rfl zsM (zay N118) rfl (m := 9) rfl ?_
  repeat' ( simp -implicitDefEqProofs only [syms, symx, seval, c118, zat, ↓zar, zap, zai])
  refine zkY l a v _ (hl.lay _ _) hs hn hlt ha _ (fun h' i x hp => ?_)
  ((skip); replace z := z.overW x (by (try simp only [lsz]); omega); (try replace q0 := q0.over x); rw [zaa h'])
  generalize hasA l a = b at hk ⊢
  cases b
  all_goals
    repeat' ( simp -implicitDefEqProofs only [syms, symx, seval, c118])
    exact hk _ _ (z.upW _ _ (by omega)) hp
end Go.Proofs.YtemapihoobmonaaGreatDoor
namespace Go.Proofs.YtemapihoobmonaaGreatDoor
open Go.Am
set_option linter.unusedVariables false
set_option linter.unusedSimpArgs false
set_option maxRecDepth 100000
set_option maxHeartbeats 0
noncomputable def N21 := zaz Tryz.f21
noncomputable def x21 := PLift.up (by have c := zah N21 Tryz.f21; simp only [zao, Tryz.f21, Option.getD_some, zak, opsF, opsX, zag, zaA, dstL, zal, List.append_eq, List.cons_append, List.nil_append, seval] at c; exact nd c <| nd @ix27 <| nd @ld26 <| nd @ln27 <| @fi21)
theorem c21 : type_of% x21.down := x21.down
noncomputable def N116 := zaz Tryz.f116
noncomputable def x116 := PLift.up (by have c := zah N116 Tryz.f116; simp only [zao, Tryz.f116, Option.getD_some, zak, opsF, opsX, zag, zaA, dstL, zal, List.append_eq, List.cons_append, List.nil_append, seval] at c; exact nd c <| nd @al26 <| nd @ix27 <| nd @ld26 <| nd @ln27 <| @zzA)
theorem c116 : type_of% x116.down := x116.down
noncomputable def N82 := zaz Tryz.f82
noncomputable def x82 := PLift.up (by have c := zah N82 Tryz.f82; simp only [zao, Tryz.f82, Option.getD_some, zak, opsF, opsX, zag, zaA, dstL, zal, List.append_eq, List.cons_append, List.nil_append, seval] at c; exact nd c <| nd @al27 <| @fi82)
theorem c82 : type_of% x82.down := x82.down
noncomputable def N117 := zaz Tryz.f117
noncomputable def x117 := PLift.up (by have c := zah N117 Tryz.f117; simp only [zao, Tryz.f117, Option.getD_some, zak, opsF, opsX, zag, zaA, dstL, zal, List.append_eq, List.cons_append, List.nil_append, seval] at c; exact nd c <| nd @ld26 <| nd @ld27 <| @zz1)
theorem c117 : type_of% x117.down := x117.down
noncomputable def N156 := zaz Tryz.f156
noncomputable def x156 := PLift.up (by have c := zah N156 Tryz.f156; simp only [zao, Tryz.f156, Option.getD_some, zak, opsF, opsX, zag, zaA, dstL, zal, List.append_eq, List.cons_append, List.nil_append, seval] at c; exact nd c <| @zzD)
theorem c156 : type_of% x156.down := x156.down
noncomputable def N183 := zaz Tryz.f183
noncomputable def x183 := PLift.up (by have c := zah N183 Tryz.f183; simp only [zao, Tryz.f183, Option.getD_some, zak, opsF, opsX, zag, zaA, dstL, zal, List.append_eq, List.cons_append, List.nil_append, seval] at c; exact nd c <| @zzK)
theorem c183 : type_of% x183.down := x183.down
noncomputable def N184 := zaz Tryz.f184
noncomputable def x184 := PLift.up (by have c := zah N184 Tryz.f184; simp only [zao, Tryz.f184, Option.getD_some, zak, opsF, opsX, zag, zaA, dstL, zal, List.append_eq, List.cons_append, List.nil_append, seval] at c; exact nd c <| @zy0)
theorem c184 : type_of% x184.down := x184.down
noncomputable def N181 := zaz Tryz.f181
noncomputable def x181 := PLift.up (by have c := zah N181 Tryz.f181; simp only [zao, Tryz.f181, Option.getD_some, zak, opsF, opsX, zag, zaA, dstL, zal, List.append_eq, List.cons_append, List.nil_append, seval] at c; exact nd c <| nd @ln9 <| @zzB)
theorem c181 : type_of% x181.down := x181.down
noncomputable def N157 := zaz Tryz.f157
noncomputable def x157 := PLift.up (by have c := zah N157 Tryz.f157; simp only [zao, Tryz.f157, Option.getD_some, zak, opsF, opsX, zag, zaA, dstL, zal, List.append_eq, List.cons_append, List.nil_append, seval] at c; exact nd c <| nd @ln9 <| @zzT)
theorem c157 : type_of% x157.down := x157.down
noncomputable def N182 := zaz Tryz.f182
noncomputable def x182 := PLift.up (by have c := zah N182 Tryz.f182; simp only [zao, Tryz.f182, Option.getD_some, zak, opsF, opsX, zag, zaA, dstL, zal, List.append_eq, List.cons_append, List.nil_append, seval] at c; exact nd c <| nd @ix49 <| nd @ld9 <| nd @ln49 <| @zza)
theorem c182 : type_of% x182.down := x182.down
noncomputable def N214 := zaz Tryz.f214
noncomputable def x214 := PLift.up (by have c := zah N214 Tryz.f214; simp only [zao, Tryz.f214, Option.getD_some, zak, opsF, opsX, zag, zaA, dstL, zal, List.append_eq, List.cons_append, List.nil_append, seval] at c; exact nd c <| nd @bs49 <| @zz7)
theorem c214 : type_of% x214.down := x214.down
noncomputable def N155 := zaz Tryz.f155
noncomputable def x155 := PLift.up (by have c := zah N155 Tryz.f155; simp only [zao, Tryz.f155, Option.getD_some, zak, opsF, opsX, zag, zaA, dstL, zal, List.append_eq, List.cons_append, List.nil_append, seval] at c; exact nd c <| @zyO)
theorem c155 : type_of% x155.down := x155.down
noncomputable def N120 := zaz Tryz.f120
noncomputable def x120 := PLift.up (by have c := zah N120 Tryz.f120; simp only [zao, Tryz.f120, Option.getD_some, zak, opsF, opsX, zag, zaA, dstL, zal, List.append_eq, List.cons_append, List.nil_append, seval] at c; exact nd c <| @zz0)
theorem c120 : type_of% x120.down := x120.down
noncomputable def N121 := zaz Tryz.f121
noncomputable def x121 := PLift.up (by have c := zah N121 Tryz.f121; simp only [zao, Tryz.f121, Option.getD_some, zak, opsF, opsX, zag, zaA, dstL, zal, List.append_eq, List.cons_append, List.nil_append, seval] at c; exact nd c <| @zy4)
theorem c121 : type_of% x121.down := x121.down
noncomputable def N122 := zaz Tryz.f122
noncomputable def x122 := PLift.up (by have c := zah N122 Tryz.f122; simp only [zao, Tryz.f122, Option.getD_some, zak, opsF, opsX, zag, zaA, dstL, zal, List.append_eq, List.cons_append, List.nil_append, seval] at c; exact nd c <| nd @zeB <| nd @zdJ <| nd @ld4 <| nd @ld9 <| @zyN)
theorem c122 : type_of% x122.down := x122.down
noncomputable def N90 := zaz Tryz.f90
noncomputable def x90 := PLift.up (by have c := zah N90 Tryz.f90; simp only [zao, Tryz.f90, Option.getD_some, zak, opsF, opsX, zag, zaA, dstL, zal, List.append_eq, List.cons_append, List.nil_append, seval] at c; exact nd c <| nd @zjm <| nd @zjL <| nd @zgJ <| nd @zd9 <| nd @ix24 <| nd @ld23 <| nd @ld3 <| nd @ld9 <| @fi90)
theorem c90 : type_of% x90.down := x90.down
end Go.Proofs.YtemapihoobmonaaGreatDoor

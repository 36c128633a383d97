/- Walks: numbers in bytes, by the document. Written out by fill2.py. No condition. -/
import Derived.Test.YtemapihoobmonaaGreatDoorG28
import Derived.Test.YtemapihoobmonaaGreatDoorG29
import Derived.Test.YtemapihoobmonaaGreatDoorG22
namespace Go.Proofs.YtemapihoobmonaaGreatDoor
open Go.Am
set_option linter.unusedSimpArgs false
set_option linter.unusedVariables false
set_option maxRecDepth 100000
set_option maxHeartbeats 0
theorem zm4 (a : Int) : zat Tryz.prog (Next.value <$> convert 151 5 (.int .u32 a)) = some (Next.value (.int .u8 (IntKind.u8.wrap a))) := by rfl
theorem zxh : zfq tab 118 118 = true := by kernel_rfl
theorem zf2 (k : Nat) (hk4 : k ≤ 4294967295) (h : Heap) (K : Value → Heap → Prop) (hk : ∀ h', Ext h h' → K (.string (zbj (numB k))) h') : Ok Tryz.prog tab ov 147 [.int .u32 k] h K := by
  rw [zaa h]
  have z := Ext.refl h
  refine Ok.into rfl zru (zaG N147) rfl (m := 20) rfl ?_
  simp -implicitDefEqProofs only [syms, symx, seval, c147]
  obtain ⟨I1, hI1⟩ : ∃ I : Nat → Env → Heap → Prop, I = (fun n e h' => ∃ (m : Nat) (l : List Nat) (A : Nat) (wv : Value) (h1 : Heap), h' = h1.lay [] h1.low ∧ Ext h h1 ∧ (n = m ∧ m ≤ k ∧ numB k = l ++ numB m ∧ Ow Rep.byte h h1 5 A wv l ∧ l.length + m ≤ k) ∧ ∃ J : Nat → Value, e = (.int .u32 m :: jr J 1 2 (wv :: jr J 4 17 ([])))) := ⟨_, rfl⟩
  refine za3 I1 _ (by rw [hI1]; exact ⟨k, [], h.size, .slice none 0 0, _, rfl, z, ⟨rfl, by omega, rfl, Ow.nil (Nat.le_refl _), by simp⟩, junk (by kernel_rfl)⟩) ?_
  intro n e h' hin
  rw [hI1] at hin
  obtain ⟨m, l, A, wv, h1', rfl, z, hinv, J, rfl⟩ := hin
  obtain ⟨hnm, hmk, hnb, ow, hll⟩ := hinv
  obtain rfl : m = n := hnm.symm
  have hvw := zcg wv
  have hz := z.size
  simp -implicitDefEqProofs only [syms, symx, seval, c147]
  refine zav (fun hge => ?_) (fun hge => ?_)
  · have hm1 := ztn (P := Tryz.prog) (T := tab) (t := 151) (a := m) (b := 127) (by omega) (by decide)
    rw [zsX] at hm1
    replace hm1 : binA Tryz.prog tab .and 151 (.int .u32 (m : Nat)) (.int .u32 127) = some (.int .u32 ((m % 128 : Nat) : Int)) := hm1
    have hm2 := zwE (P := Tryz.prog) (T := tab) (t := 5) (a := m % 128) (b := 128) (by omega) (by decide)
    rw [zxq (by omega)] at hm2
    replace hm2 : binA Tryz.prog tab .or 5 (.int .u8 (m % 128 : Nat)) (.int .u8 128) = some (.int .u8 ((m % 128 + 128 : Nat) : Int)) := hm2
    have hm3 := ztq (P := Tryz.prog) (T := tab) (t := 151) (k2 := .u64) (a := m)
    simp -implicitDefEqProofs only [syms, symx, seval, c147, hvw, hm1]
    rw [zbf rfl rfl rfl (zm4 _) rfl, zgd (by omega) (by omega)]
    repeat' ( simp -implicitDefEqProofs only [syms, symx, seval, c147, hm2])
    simp -implicitDefEqProofs only [syms, symx, seval, c147, zc5, zxh]
    refine zoG (i := 0) (cs := [.int .u8 ((m % 128 + 128 : Nat) : Int)]) (x := m % 128 + 128) zr7 zhM rfl (by decide) (by rfl) hz ow rfl (by omega) (by omega) (fun w3 h3 A3 ow3 cg3 hA3 => ?_)
    have hfA := ow.fresh
    replace z := z.stepW cg3 hfA (by omega)
    rw [zaa h3]
    repeat' ( simp -implicitDefEqProofs only [syms, symx, seval, c147, hm3])
    (rw [hI1]; with_reducible refine zam (m := _) ?_ ⟨m / 128, l ++ [m % 128 + 128], A3, w3, _, rfl, z, ⟨rfl, by omega, by rw [hnb, zbL (by omega), List.append_assoc, List.singleton_append], ow3, by rw [List.length_append, List.length_singleton]; omega⟩, junk (by kernel_rfl)⟩; omega)
  · have hms := za5 (n := m) (by omega)
    rw [hms] at hnb
    simp -implicitDefEqProofs only [syms, symx, seval, c147, hvw]
    rw [zbf rfl rfl rfl (zm4 _) rfl, zgd (by omega) (by omega)]
    repeat' ( simp -implicitDefEqProofs only [syms, symx, seval, c147])
    simp -implicitDefEqProofs only [syms, symx, seval, c147, zc5, zxh, hvw]
    refine zoG (i := 0) (cs := [.int .u8 ((m : Nat) : Int)]) (x := m) zr7 zhM rfl (by decide) (by rfl) hz ow rfl (by omega) (by omega) (fun w3 h3 A3 ow3 cg3 hA3 => ?_)
    have hfA := ow.fresh
    replace z := z.stepW cg3 hfA (by omega)
    rw [← hnb] at ow3
    rw [zaa h3]
    simp -implicitDefEqProofs only [syms, symx, seval, c147]
    refine zwp (h0 := h) (u := 5) zr7 ds5 ds9 rfl (ow3.mono (Inc.lay _ _ _)) (zv6 _) rfl ?_
    simp -implicitDefEqProofs only [syms, symx, seval, c147]
    exact hk _ (z.upW _ _ (by omega))
theorem zj4 (a : Int) : zat Tryz.prog (Next.value <$> convert 3 200 (.int .i64 a)) = some (Next.value (.int .u64 (IntKind.u64.wrap a))) := by rfl
theorem zw3 (s : ByteArray) (o : Nat) (ho : o ≤ s.size) : za9 tab 9 (.string s) none (some (.int .i64 o)) none = some (.string (s.extract 0 o)) := by
  unfold za9
  rw [ds9]
  simp only [Option.isSome_none, Bool.false_eq_true, if_false, zbt, zfd, Option.bind_some]
  rw [if_pos (by omega)]
  simp
theorem zor (s : ByteArray) (h : Heap) (hs : s.size ≤ 100000) (K : Value → Heap → Prop) (h1k : numD s = none → ∀ h', Ext h h' → K (.tuple #[.int .u32 0, .int .i64 0, .int .i64 15]) h') (h2k : ∀ n k : Nat, numD s = some (n, k) → ∀ h', Ext h h' → K (.tuple #[.int .u32 n, .int .i64 k, .int .i64 0]) h') : Ok Tryz.prog tab ov 148 [.string s] h K := by
  rw [zaa h]
  have z := Ext.refl h
  have hva : ∀ (s : ByteArray) (h : Heap) (K : Value → Heap → Prop), valE (some (.string s)) h K = K (.string s) h := fun _ _ _ => rfl
  refine Ok.into rfl ztm (zaG N148) rfl (m := 47) rfl ?_
  simp -implicitDefEqProofs only [syms, symx, seval, c148, hva]
  obtain ⟨I1, hI1⟩ : ∃ I : Nat → Env → Heap → Prop, I = (fun n e h' => ∃ (i : Nat) (h1 : Heap), h' = h1.lay [] h1.low ∧ Ext h h1 ∧ (n = min s.size 5 - i ∧ i ≤ min s.size 5 ∧ (∀ j, j < i → 128 ≤ zay s j)) ∧ ∃ J : Nat → Value, e = (.string s :: jr J 1 4 (.int .u64 (accN s i) :: .int .i64 i :: jr J 7 41 ([])))) := ⟨_, rfl⟩
  refine za3 I1 _ (by rw [hI1]; exact ⟨0, _, rfl, z, ⟨rfl, by omega, by simp⟩, junk (by kernel_rfl)⟩) ?_
  intro n e h' hin
  rw [hI1] at hin
  obtain ⟨i, h1', rfl, z, hinv, J, rfl⟩ := hin
  obtain ⟨rfl, hi, hb⟩ := hinv
  have hwi : IntKind.i64.wrap ((i : Int) + 1) = ((i + 1 : Nat) : Int) := by rw [zal (by omega) (by omega)]; omega
  have hw7 : IntKind.i64.wrap (7 * (i : Int)) = ((7 * i : Nat) : Int) := by rw [zal (by omega) (by omega)]; omega
  have hbl := zdp s i
  simp -implicitDefEqProofs only [syms, symx, seval, c148, hva]
  refine zav (fun hlt => ?_) (fun hlt => ?_)
  rotate_left
  · repeat' ( simp -implicitDefEqProofs only [syms, symx, seval, c148])
    exact h1k (by unfold numD; rw [ziI (fun j hj => hb j (by omega))]) _ (z.upW _ _ (by omega))
  simp -implicitDefEqProofs only [syms, symx, seval, c148]
  refine zav (fun hlt5 => ?_) (fun hlt5 => ?_)
  rotate_left
  · repeat' ( simp -implicitDefEqProofs only [syms, symx, seval, c148])
    exact h1k (by unfold numD; rw [ziI (fun j hj => hb j (by omega))]) _ (z.upW _ _ (by omega))
  have hp28 : 2 ^ (7 * i) ≤ 2 ^ 28 := Nat.pow_le_pow_right (by decide) (by omega)
  rw [show (2 : Nat) ^ 28 = 268435456 by decide] at hp28
  have hpr : zay s i % 128 * 2 ^ (7 * i) ≤ 127 * 268435456 := Nat.mul_le_mul (by omega) hp28
  have hac := zf5 s i
  have hac1 := zf5 s (i + 1)
  have hshl := zmc (P := Tryz.prog) (T := tab) (t := 201) (k2 := .u64) (a := zay s i % 128) (n := 7 * i) (by omega) (by omega)
  have hor : binA Tryz.prog tab .or 201 (.int .u64 (accN s i : Nat)) (.int .u64 (zay s i % 128 * 2 ^ (7 * i) : Nat)) = some (.int .u64 ((accN s (i + 1) : Nat) : Int)) := zoY (by omega) (by omega)
  have hand := zpj (P := Tryz.prog) (T := tab) (t := 5) (a := zay s i) (b := 127) hbl (by decide)
  rw [zsX] at hand
  replace hand : binA Tryz.prog tab .and 5 (.int .u8 (zay s i : Nat)) (.int .u8 127) = some (.int .u8 ((zay s i % 128 : Nat) : Int)) := hand
  simp -implicitDefEqProofs only [syms, symx, seval, c148, hva]
  refine za8 Tryz.underlying9 rfl rfl (by omega) (by omega) ?_
  rw [zdq]
  simp -implicitDefEqProofs only [syms, symx, seval, c148, hand]
  rw [zbf rfl rfl rfl (zlv _) rfl, zfT (by omega) (by omega)]
  simp -implicitDefEqProofs only [syms, symx, seval, c148, zrj, hw7]
  rw [zbf rfl rfl rfl (zj4 _) rfl, zfT (by omega) (by omega)]
  simp -implicitDefEqProofs only [syms, symx, seval, c148, hshl, hor]
  refine za8 Tryz.underlying9 rfl rfl (by omega) (by omega) ?_
  rw [zdq]
  simp -implicitDefEqProofs only [syms, symx, seval, c148]
  refine zav (fun hb1 => ?_) (fun hb1 => ?_)
  · have hsl := zw3 s (i + 1) (by omega)
    have hnd := zu3 (s := s) (i := i) (by omega) hb (by omega)
    have hb10 : ∀ (Q : Ex → Env → Heap → Prop) (e : Env) (h : Heap), zen 1 Q (.exit 0) e h = Q (.exit 0) e h := fun Q e h => rfl
    simp -implicitDefEqProofs only [syms, symx, seval, c148]
    with_reducible first | refine zez (by simp only [c148]) (z.upW _ _ (by omega)) ?_
    repeat' (first | simp -implicitDefEqProofs only [syms, symx, seval, c148, hva] | ((with_reducible  apply zav ) <;> intro _) | ((with_reducible refine ⟨z.grw.lay _ _, ?_⟩); (intro _ h' zz x _); (try simp only [zaH, List.append_nil] at x); (replace z := zz); (clear zz); rw [zaa h']))
    · have hgt : (accN s (i + 1) : Int) > 4294967295 := by assumption
      exact h1k (by rw [hnd, if_pos (.inl (by omega))]) _ (z.upW _ _ (by omega))
    · have hgt : ¬ (accN s (i + 1) : Int) > 4294967295 := by assumption
      rw [zbf rfl rfl rfl (zeL _) rfl, zd2 (by omega) (by omega)]
      refine zdW (by have := z.size; omega) (by omega) ?_
      repeat' ( simp -implicitDefEqProofs only [syms, symx, seval, c148, hva])
      refine zf2 (accN s (i + 1)) (by omega) _ _ (fun h' x => ?_)
      (( ((with_reducible refine zb2 ?_ ?_ ?_); (· exact (by (try simp only [lsz]); have := z.size; omega)); (·  exact x )) ); replace z := z.overW x (by (try simp only [lsz]); omega); rw [zaa h'])
      repeat' (first | simp -implicitDefEqProofs only [syms, symx, seval, c148, hva, hwi, hsl] | ((with_reducible  apply zav ) <;> intro _) | ((with_reducible refine ⟨z.grw.lay _ _, ?_⟩); (intro _ h' zz x _); (try simp only [zaH, List.append_nil] at x); (replace z := zz); (clear zz); rw [zaa h']))
      · have hne : zbj (numB (accN s (i + 1))) ≠ s.extract 0 (i + 1) := by assumption
        exact h1k (by rw [hnd, if_pos (.inr hne)]) _ (z.upW _ _ (by omega))
      · have hne : ¬ zbj (numB (accN s (i + 1))) ≠ s.extract 0 (i + 1) := by assumption
        rw [zbf rfl rfl rfl (zeL _) rfl, zd2 (by omega) (by omega)]
        repeat' ( simp -implicitDefEqProofs only [syms, symx, seval, c148, hwi])
        exact h2k _ _ (by rw [hnd, if_neg (fun g => g.elim (fun g => hgt (by omega)) hne)]) _ (z.upW _ _ (by omega))
  · simp -implicitDefEqProofs only [syms, symx, seval, c148]
    rw [hwi]
    (rw [hI1]; with_reducible refine zam (m := _) ?_ ⟨i + 1, _, rfl, z, ⟨rfl, by omega, fun j hj => by
      by_cases e : j = i
      · subst e; omega
      · exact hb j (by omega)⟩, junk (by kernel_rfl)⟩; omega)
end Go.Proofs.YtemapihoobmonaaGreatDoor

/- The code of some functions, node by node, for simp. Written by a program (mkcode.py). No condition. -/
import Derived.Test.YtemapihoobmonaaGreatDoorG17
import Derived.Test.YtemapihoobmonaaGreatDoorG15
import Derived.KernelRfl
import Derived.Test.YtemapihoobmonaaGreatDoorG25
import Derived.Test.YtemapihoobmonaaGreatDoorG29
namespace Go.Proofs.YtemapihoobmonaaGreatDoor
open Go.Am
set_option linter.unusedVariables false
set_option linter.unusedSimpArgs false
set_option maxRecDepth 100000
set_option maxHeartbeats 0
noncomputable def N66 := zaz Tryz.f66
noncomputable def x66 := PLift.up (by have c := zah N66 Tryz.f66; simp only [zao, Tryz.f66, Option.getD_some, zal, opsF, opsX, zag, zaA, dstL, zam, List.append_eq, List.cons_append, List.nil_append, seval] at c; exact nd c <| nd @zgV <| nd @ld3 <| @fi66)
theorem c66 : type_of% x66.down := x66.down
noncomputable def N137 := zaz Tryz.f137
noncomputable def x137 := PLift.up (by have c := zah N137 Tryz.f137; simp only [zao, Tryz.f137, Option.getD_some, zal, opsF, opsX, zag, zaA, dstL, zam, List.append_eq, List.cons_append, List.nil_append, seval] at c; exact nd c <| nd @zdr <| nd @zju <| nd @zee <| nd @ix24 <| nd @ld26 <| nd @ld9 <| @zyO)
theorem c137 : type_of% x137.down := x137.down
noncomputable def N102 := zaz Tryz.f102
noncomputable def x102 := PLift.up (by have c := zah N102 Tryz.f102; simp only [zao, Tryz.f102, Option.getD_some, zal, opsF, opsX, zag, zaA, dstL, zam, List.append_eq, List.cons_append, List.nil_append, seval] at c; exact nd c <| nd @zjf <| nd @ld26 <| nd @ld9 <| @zyE)
theorem c102 : type_of% x102.down := x102.down
noncomputable def N65 := zaz Tryz.f65
noncomputable def x65 := PLift.up (by have c := zah N65 Tryz.f65; simp only [zao, Tryz.f65, Option.getD_some, zal, opsF, opsX, zag, zaA, dstL, zam, List.append_eq, List.cons_append, List.nil_append, seval] at c; exact nd c <| nd @ld26 <| @fi65)
theorem c65 : type_of% x65.down := x65.down
noncomputable def N17 := zaz Tryz.f17
noncomputable def x17 := PLift.up (by have c := zah N17 Tryz.f17; simp only [zao, Tryz.f17, Option.getD_some, zal, opsF, opsX, zag, zaA, dstL, zam, List.append_eq, List.cons_append, List.nil_append, seval] at c; exact nd c <| nd @ix27 <| nd @ld26 <| nd @ln27 <| @fi17)
theorem c17 : type_of% x17.down := x17.down
end Go.Proofs.YtemapihoobmonaaGreatDoor
namespace Go.Am
open Go.Lib
set_option linter.unusedVariables false
set_option linter.unusedSimpArgs false
theorem zkN (n m : List UInt8) (ns : List (List UInt8)) : join (n :: m :: ns) commaB = n ++ (commaB ++ join (m :: ns) commaB) := by
  simp [join, List.intercalate]
theorem zsN (n : List UInt8) : join [n] commaB = n := by simp [join, List.intercalate]
theorem zkR : ∀ (l : List (List UInt8)) (x : List UInt8), l ≠ [] → join (l ++ [x]) commaB = join l commaB ++ commaB ++ x
  | [], x, h => absurd rfl h
  | [a], x, _ => by
    rw [List.cons_append, List.nil_append, zkN, zsN, zsN, List.append_assoc]
  | a :: b :: l, x, _ => by
    rw [List.cons_append, List.cons_append, zkN, zkN, ← List.cons_append, zkR (b :: l) x (by simp)]
    simp only [List.append_assoc]
def zgw (ns : List (List UInt8)) : List UInt8 := if ns = [] then [] else 40 :: join ns commaB
theorem zrZ (x : List UInt8) : zgw [x] = [40] ++ x := by unfold zgw; rw [if_neg (by simp), zsN]; rfl
theorem zpX {l : List (List UInt8)} (x : List UInt8) (h : l ≠ []) : zgw (l ++ [x]) = zgw l ++ commaB ++ x := by
  unfold zgw
  rw [if_neg (by simp), if_neg h, zkR l x h]
  rfl
theorem ztj (a : AtomD) : zaK a = a.says.data.toList ++ zpH ++ (a.pred.data.toList ++ zgw (za3 a) ++ (if a.cnt = 0 then [] else [41])) := by
  have h1 : (za3 a = []) ↔ a.args = [] := by unfold za3; rw [List.map_eq_nil_iff]
  have h2 : a.args = [] ↔ a.cnt = 0 := by rw [← List.length_eq_zero_iff, zbe]
  unfold zaK zgw
  by_cases h : a.cnt = 0
  · rw [if_pos (h2.2 h), if_pos (h1.2 (h2.2 h)), if_pos h]
    simp only [List.append_assoc, List.append_nil]
  · have h3 : ¬ a.args = [] := fun e => h (h2.1 e)
    rw [if_neg h3, if_neg (fun e => h3 (h1.1 e)), if_neg h]
    simp only [List.append_assoc, List.cons_append, List.nil_append]
theorem zt4 {a : AtomD} {i : Nat} (h : i < a.cnt) : (za3 a).take (i + 1) = (za3 a).take i ++ [(a.arg i).s.data.toList] := by
  have hc : a.cnt ≤ 4 := Nat.min_le_right _ _
  have e : a.args[i]? = some (a.arg i) := by
    unfold AtomD.args
    rw [List.getElem?_take, if_pos h]
    have : i = 0 ∨ i = 1 ∨ i = 2 ∨ i = 3 := by omega
    rcases this with rfl | rfl | rfl | rfl <;> rfl
  rw [List.take_add_one]
  congr 1
  unfold za3
  rw [List.getElem?_map, e]
  rfl
theorem zk8 (a : AtomD) : (za3 a).length = a.cnt := by unfold za3; rw [List.length_map, zbe]
theorem zjW : ∀ a b : List UInt8, Op.bytesLess a b = decide (compareBytes a b < 0)
  | [], [] => by simp [Op.bytesLess, compareBytes]
  | [], _ :: _ => by simp [Op.bytesLess, compareBytes]
  | _ :: _, [] => by simp [Op.bytesLess, compareBytes]
  | a :: xs, b :: ys => by
    rw [compareBytes]
    unfold Op.bytesLess
    rw [zjW xs ys]
    by_cases h1 : a < b
    · simp [h1]
    · by_cases h2 : b < a
      · have h3 : a ≠ b := fun e => by subst e; exact zeC a h2
        simp [h1, h2, h3]
      · have h3 := zoP h1 h2
        simp [h1, h2, h3]
theorem zun (a b : List UInt8) : (Op.bytesLess a b = true ∧ compareBytes a b = -1) ∨ (Op.bytesLess a b = false ∧ Op.bytesLess b a = true ∧ compareBytes a b = 1) ∨ (Op.bytesLess a b = false ∧ Op.bytesLess b a = false ∧ compareBytes a b = 0) := by
  have h1 := zjW a b
  have h2 := zjW b a
  have h3 := zkw a b
  rcases zk3 a b with h | h | h
  · exact .inl ⟨by rw [h1, h]; rfl, h⟩
  · refine .inr (.inr ⟨by rw [h1, h]; rfl, ?_, h⟩)
    rw [h2, decide_eq_false_iff_not]
    omega
  · refine .inr (.inl ⟨by rw [h1, h]; rfl, ?_, h⟩)
    rw [h2, decide_eq_true_iff]
    omega
end Go.Am
namespace Go.Proofs.YtemapihoobmonaaGreatDoor
open Go.Am
set_option linter.unusedSimpArgs false
set_option linter.unusedVariables false
set_option maxRecDepth 100000
set_option maxHeartbeats 0
theorem zkr {P : Program} {T : Tab} {t : TypeId} {a b : ByteArray} : binA P T .lss t (.string a) (.string b) = some (.bool (Op.bytesLess a.data.toList b.data.toList)) := by
  refine zfc rfl ?_ rfl
  unfold Op.stringOp
  simp only [zbk]
  rfl
theorem zoN {P : Program} {T : Tab} {t : TypeId} {a b : ByteArray} : binA P T .gtr t (.string a) (.string b) = some (.bool (!(Op.bytesLess a.data.toList b.data.toList || a.data.toList == b.data.toList))) := by
  refine zfc rfl ?_ rfl
  unfold Op.stringOp
  simp only [zbk]
  rfl
theorem zwL (a : AtomD) : a.cells[2]? = some (.int .i64 a.n) := rfl
theorem zhh (a : AtomD) (h : Heap) (K : Value → Heap → Prop) (hk : ∀ h', Ext h h' → K (.int .i64 (a.cnt : Nat)) h') : Ok Tryz.prog tab ov 66 [a.val] h K := by
  rw [zaa h]
  have z := Ext.refl h
  have e : ((a.cnt : Nat) : Int) = if 4 < (if a.n < 0 then 0 else a.n) then 4 else if a.n < 0 then 0 else a.n := by
    unfold AtomD.cnt
    split <;> split <;> (try split) <;> omega
  rw [e] at hk
  refine Ok.into rfl zuK (zaB N66) rfl (m := 6) rfl ?_
  repeat' (first | simp -implicitDefEqProofs only [syms, symx, seval, c66, zay, zwL] | ((with_reducible_and_instances apply zkh); (· rfl); (· rfl)) | ((with_reducible_and_instances apply zoe); (· rfl); (· rfl)))
  exact hk _ (z.upW _ _ (by omega))
theorem zu8 (a : AtomD) (k : Nat) (hk : k < 4) : a.cells[3 + k * 2 + 1]? = some (.string (a.arg k).s) := by
  have : k = 0 ∨ k = 1 ∨ k = 2 ∨ k = 3 := by omega
  rcases this with rfl | rfl | rfl | rfl <;> rfl
theorem zxu (a : AtomD) (ha : a.light = true) (h : Heap) (K : Value → Heap → Prop)
    (hk : ∀ h' (S : ByteArray), Ext h h' → S.data.toList = a.pred.data.toList ++ zgw (za3 a) ++ (if a.cnt = 0 then [] else [41]) → S.size ≤ 2000 → K (.string S) h') : Ok Tryz.prog tab ov 137 [a.val] h K := by
  rw [zaa h]
  have z := Ext.refl h
  obtain ⟨hs1, hs2⟩ := zgB ha
  have hc4 : a.cnt ≤ 4 := Nat.min_le_right _ _
  refine Ok.into rfl zrq (zaB N137) rfl (m := 31) rfl ?_
  simp -implicitDefEqProofs only [syms, symx, seval, c137, zay, zm9]
  refine zf8 (fun h' x hq => ?_)
  have q0 := hq 0 _ rfl
  clear hq
  (replace z := z.overW x (by (try simp only [lsz]); omega); rw [zaa h'])
  obtain ⟨I1, hI1⟩ : ∃ I : Nat → Env → Heap → Prop, I = (fun n e h' => ∃ (i : Nat) (S : ByteArray) (h1 : Heap), h' = h1.lay [] h1.low ∧ Ext h h1 ∧ (n = a.cnt - i ∧ i ≤ a.cnt ∧ S.data.toList = a.pred.data.toList ++ zgw ((za3 a).take i) ∧ S.size ≤ 300 + i * 310 ∧ Holds h1 (h.size + 0) (.row a.cells 26 false)) ∧ ∃ J : Nat → Value, e = (J 0 :: .pointer (some ⟨h.size + 0, 0, none⟩) :: J 2 :: .string S :: .int .i64 i :: jr J 5 27 ([]))) := ⟨_, rfl⟩
  refine zas I1 _ (by rw [hI1]; exact ⟨0, a.pred, _, rfl, z, ⟨rfl, by omega, by simp [zgw], by omega, q0⟩, junk (by kernel_rfl)⟩) ?_
  intro n e h' hin
  rw [hI1] at hin
  obtain ⟨i, S, h1', rfl, z, hinv, J, rfl⟩ := hin
  clear q0
  obtain ⟨rfl, hi, hS, hSz, q0⟩ := hinv
  have hwi : IntKind.i64.wrap ((i : Int) + 1) = ((i + 1 : Nat) : Int) := by rw [zae (by omega) (by omega)]; omega
  repeat' ( simp -implicitDefEqProofs only [syms, symx, seval, c137, q0.lay, ↓zax, zau, zaj])
  refine zhh a _ _ (fun h' x => ?_)
  ((skip); replace z := z.overW x (by (try simp only [lsz]); omega); (try replace q0 := q0.over x); rw [zaa h'])
  simp -implicitDefEqProofs only [syms, symx, seval, c137, q0.lay, ↓zax, zau, zaj]
  refine zaw (fun hlt => ?_) (fun hlt => ?_)
  · have hin4 : (0 : Int) ≤ (i : Int) ∧ (i : Int) < 4 := by omega
    have hcell := zu8 a i (by omega)
    have hnm := zt4 (a := a) (i := i) (by omega)
    have hla := zez ha i
    simp -implicitDefEqProofs only [syms, symx, seval, c137]
    refine zdA (fun h0 => ?_) (fun h0 => ?_)
    · have h0 : i = 0 := by omega
      simp -implicitDefEqProofs only [syms, symx, seval, c137]
      refine zbw ?_ (fun S1 hS1 hz1 => ?_)
      · show S.size + 1 ≤ _
        omega
      repeat' ( simp -implicitDefEqProofs only [syms, symx, seval, c137, q0.lay, hin4, hcell, and_self, if_true])
      refine zbw ?_ (fun S2 hS2 hz2 => ?_)
      · rw [hz1]
        show S.size + 1 + _ ≤ _
        omega
      have hz3 : S2.size ≤ 300 + (i + 1) * 310 := by
        rw [hz2, hz1]
        show S.size + 1 + _ ≤ _
        omega
      have hS3 : S2.data.toList = a.pred.data.toList ++ zgw ((za3 a).take (i + 1)) := by
        rw [hS2, zd7, hS1, zd7, hS, hnm, h0, List.take_zero, List.nil_append, zrZ]
        simp [zgw]
      repeat' ( simp -implicitDefEqProofs only [syms, symx, seval, c137])
      rw [hwi]
      (rw [hI1]; with_reducible refine zac (m := _) ?_ ⟨i + 1, S2, _, rfl, z, ⟨rfl, by omega, hS3, hz3, q0⟩, junk (by kernel_rfl)⟩; omega)
    · have h0 : i ≠ 0 := by omega
      simp -implicitDefEqProofs only [syms, symx, seval, c137]
      refine zbw ?_ (fun S1 hS1 hz1 => ?_)
      · show S.size + 2 ≤ _
        omega
      repeat' ( simp -implicitDefEqProofs only [syms, symx, seval, c137, q0.lay, hin4, hcell, and_self, if_true])
      refine zbw ?_ (fun S2 hS2 hz2 => ?_)
      · rw [hz1]
        show S.size + 2 + _ ≤ _
        omega
      have hz3 : S2.size ≤ 300 + (i + 1) * 310 := by
        rw [hz2, hz1]
        show S.size + 2 + _ ≤ _
        omega
      have hS3 : S2.data.toList = a.pred.data.toList ++ zgw ((za3 a).take (i + 1)) := by
        have hne : (za3 a).take i ≠ [] := fun e => by
          have := congrArg List.length e
          rw [List.length_take, zk8, List.length_nil] at this
          omega
        rw [hS2, zd7, hS1, zd7, hS, hnm, zpX _ hne]
        simp only [List.append_assoc]
        rfl
      repeat' ( simp -implicitDefEqProofs only [syms, symx, seval, c137])
      rw [hwi]
      (rw [hI1]; with_reducible refine zac (m := _) ?_ ⟨i + 1, S2, _, rfl, z, ⟨rfl, by omega, hS3, hz3, q0⟩, junk (by kernel_rfl)⟩; omega)
  have hin : i = a.cnt := by omega
  rw [List.take_of_length_le (by rw [zk8]; omega)] at hS
  repeat' ( simp -implicitDefEqProofs only [syms, symx, seval, c137, q0.lay, ↓zax, zau, zaj])
  refine zhh a _ _ (fun h' x => ?_)
  ((skip); replace z := z.overW x (by (try simp only [lsz]); omega); (try replace q0 := q0.over x); rw [zaa h'])
  simp -implicitDefEqProofs only [syms, symx, seval, c137]
  refine zaw (fun hpos => ?_) (fun hpos => ?_)
  · repeat' ( simp -implicitDefEqProofs only [syms, symx, seval, c137])
    refine zbw ?_ (fun S1 hS1 hz1 => ?_)
    · show S.size + 1 ≤ _
      omega
    repeat' ( simp -implicitDefEqProofs only [syms, symx, seval, c137])
    refine hk _ S1 (z.upW _ _ (by omega)) ?_ (by rw [hz1]; show S.size + 1 ≤ _; omega)
    rw [hS1, zd7, hS, if_neg (by omega)]
  · repeat' ( simp -implicitDefEqProofs only [syms, symx, seval, c137])
    refine hk _ S (z.upW _ _ (by omega)) ?_ (by omega)
    rw [hS, if_pos (by omega), List.append_nil]
theorem zoi (a : AtomD) (ha : a.light = true) (h : Heap) (K : Value → Heap → Prop)
    (hk : ∀ h', Ext h h' → K (.string ⟨(zaK a).toArray⟩) h') : Ok Tryz.prog tab ov 102 [a.val] h K := by
  rw [zaa h]
  have z := Ext.refl h
  obtain ⟨hs1, hs2⟩ := zgB ha
  refine Ok.into rfl ztN (zaB N102) rfl (m := 8) rfl ?_
  repeat' ( simp -implicitDefEqProofs only [syms, symx, seval, c102, zay, zkj])
  refine (zbP (by simp only [c102])) (z.upW _ _ (by omega)) ?_
  simp -implicitDefEqProofs only [syms, symx, seval, c102, zkj, ↓zax, zau, zaj]
  refine zbw ?_ (fun S1 hS1 hz1 => ?_)
  · show a.says.size + 6 ≤ _
    omega
  simp -implicitDefEqProofs only [syms, symx, seval, c102, ↓zax, zau, zaj]
  refine zxu a ha _ _ (fun h' S x hS hSz => ?_)
  (( ((with_reducible refine zar ?_ ?_ ?_); (· exact (by (try simp only [lsz]); have := z.size; omega)); (·  exact x )) ); replace z := z.overW x (by (try simp only [lsz]); omega); rw [zaa h'])
  simp -implicitDefEqProofs only [syms, symx, seval, c102]
  refine zbw ?_ (fun S2 hS2 hz2 => ?_)
  · rw [hz1]
    show a.says.size + 6 + _ ≤ _
    omega
  have hS3 : S2 = ⟨(zaK a).toArray⟩ := zwx (by rw [hS2, zd7, hS1, zd7, hS, ztj]; rfl)
  repeat' (first | simp -implicitDefEqProofs only [syms, symx, seval, c102] | ((with_reducible refine ⟨z.grw.lay _ _, ?_⟩); (intro _ h' zz x _); (try simp only [zap, List.append_nil] at x); (replace z := zz); (clear zz); rw [zaa h']))
  rw [hS3]
  exact hk _ (z.upW _ _ (by omega))
theorem zxF (a b : AtomD) (ha : a.light = true) (hb : b.light = true) (h : Heap) (K : Value → Heap → Prop)
    (hk : ∀ h', Ext h h' → K (.int .i64 (cmpD a b)) h') : Ok Tryz.prog tab ov 65 [a.val, b.val] h K := by
  rw [zaa h]
  have z := Ext.refl h
  refine Ok.into rfl zvl (zaB N65) rfl (m := 17) rfl ?_
  repeat' ( simp -implicitDefEqProofs only [syms, symx, seval, c65, zay])
  refine (zbP (by simp only [c65])) (z.upW _ _ (by omega)) ?_
  simp -implicitDefEqProofs only [syms, symx, seval, c65, ↓zax, zau, zaj]
  refine zoi a ha _ _ (fun h' x => ?_)
  have q1 := Holds.top (i := 1) x rfl
  (( ((with_reducible refine zar ?_ ?_ ?_); (· exact (by (try simp only [lsz]); have := z.size; omega)); (·  exact x )) ); replace z := z.overW x (by (try simp only [lsz]); omega); rw [zaa h'])
  repeat' ( simp -implicitDefEqProofs only [syms, symx, seval, c65, q1.lay, ↓zax, zau, zaj])
  refine zoi b hb _ _ (fun h' x => ?_)
  (( ((with_reducible refine zar ?_ ?_ ?_); (· exact (by (try simp only [lsz]); have := z.size; omega)); (·  exact x )) ); replace z := z.overW x (by (try simp only [lsz]); omega); rw [zaa h'])
  repeat' (first | simp -implicitDefEqProofs only [syms, symx, seval, c65] | ((with_reducible refine ⟨z.grw.lay _ _, ?_⟩); (intro _ h' zz x _); (try simp only [zap, List.append_nil] at x); (replace z := zz); (clear zz); rw [zaa h']))
  have hc : cmpD a b = Lib.compareBytes (zaK a) (zaK b) := rfl
  rw [hc] at hk
  rcases zun (zaK a) (zaK b) with ⟨h1, h2⟩ | ⟨h1, h3, h2⟩ | ⟨h1, h3, h2⟩
  · rw [h2] at hk
    repeat' ( simp -implicitDefEqProofs only [syms, symx, seval, c65, zkr, h1])
    exact hk _ (z.upW _ _ (by omega))
  · rw [h2] at hk
    have h4 : (zaK a == zaK b) = false := by
      cases e : zaK a == zaK b
      · rfl
      · have e2 : zaK a = zaK b := by simpa using e
        rw [e2, zfz] at h2
        cases h2
    repeat' ( simp -implicitDefEqProofs only [syms, symx, seval, c65, zkr, zoN, h1, h4, Bool.or_false, Bool.not_false])
    exact hk _ (z.upW _ _ (by omega))
  · rw [h2] at hk
    have h4 : (zaK a == zaK b) = true := by
      rw [zfO h2]
      simp
    repeat' ( simp -implicitDefEqProofs only [syms, symx, seval, c65, zkr, zoN, h1, h4, Bool.or_true, Bool.not_true])
    exact hk _ (z.upW _ _ (by omega))
end Go.Proofs.YtemapihoobmonaaGreatDoor

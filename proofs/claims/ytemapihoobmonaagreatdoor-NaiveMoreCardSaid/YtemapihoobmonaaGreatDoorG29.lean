/- The code of some functions, node by node, for simp. Written by a program (mkcode.py). No condition. -/
import Derived.Test.YtemapihoobmonaaGreatDoorG17
import Derived.Test.YtemapihoobmonaaGreatDoorG15
import Derived.KernelRfl
import Derived.Test.YtemapihoobmonaaGreatDoorG18
import Derived.Test.YtemapihoobmonaaGreatDoorG22
import Derived.Test.YtemapihoobmonaaGreatDoorG20
namespace Go.Proofs.YtemapihoobmonaaGreatDoor
open Go.Am
set_option linter.unusedVariables false
set_option linter.unusedSimpArgs false
set_option maxRecDepth 100000
set_option maxHeartbeats 0
noncomputable def N136 := zaz Tryz.f136
noncomputable def x136 := PLift.up (by have c := zah N136 Tryz.f136; simp only [zao, Tryz.f136, Option.getD_some, zal, opsF, opsX, zag, zaA, dstL, zam, List.append_eq, List.cons_append, List.nil_append, seval] at c; exact nd c <| nd @al23 <| nd @bs49 <| nd @zdr <| nd @zjf <| nd @zju <| nd @zuu <| nd @ld23 <| nd @ld26 <| nd @ld9 <| nd @zu0 <| @zzy)
theorem c136 : type_of% x136.down := x136.down
noncomputable def N98 := zaz Tryz.f98
noncomputable def x98 := PLift.up (by have c := zah N98 Tryz.f98; simp only [zao, Tryz.f98, Option.getD_some, zal, opsF, opsX, zag, zaA, dstL, zam, List.append_eq, List.cons_append, List.nil_append, seval] at c; exact nd c <| nd @ld26 <| @fi98)
theorem c98 : type_of% x98.down := x98.down
noncomputable def N173 := zaz Tryz.f173
noncomputable def x173 := PLift.up (by have c := zah N173 Tryz.f173; simp only [zao, Tryz.f173, Option.getD_some, zal, opsF, opsX, zag, zaA, dstL, zam, List.append_eq, List.cons_append, List.nil_append, seval] at c; exact nd c <| nd @ix27 <| nd @ld26 <| nd @zzb <| @zyd)
theorem c173 : type_of% x173.down := x173.down
noncomputable def N220 := zaz Tryz.f220
noncomputable def x220 := PLift.up (by have c := zah N220 Tryz.f220; simp only [zao, Tryz.f220, Option.getD_some, zal, opsF, opsX, zag, zaA, dstL, zam, List.append_eq, List.cons_append, List.nil_append, seval] at c; exact nd c <| nd @ix27 <| nd @ld26 <| nd @zzi <| @zzv)
theorem c220 : type_of% x220.down := x220.down
noncomputable def N194 := zaz Tryz.f194
noncomputable def x194 := PLift.up (by have c := zah N194 Tryz.f194; simp only [zao, Tryz.f194, Option.getD_some, zal, opsF, opsX, zag, zaA, dstL, zam, List.append_eq, List.cons_append, List.nil_append, seval] at c; exact nd c <| nd @zzA <| @zzG)
theorem c194 : type_of% x194.down := x194.down
noncomputable def N174 := zaz Tryz.f174
noncomputable def x174 := PLift.up (by have c := zah N174 Tryz.f174; simp only [zao, Tryz.f174, Option.getD_some, zal, opsF, opsX, zag, zaA, dstL, zam, List.append_eq, List.cons_append, List.nil_append, seval] at c; exact nd c <| nd @ix27 <| nd @ld26 <| nd @zzF <| @zyR)
theorem c174 : type_of% x174.down := x174.down
noncomputable def N134 := zaz Tryz.f134
noncomputable def x134 := PLift.up (by have c := zah N134 Tryz.f134; simp only [zao, Tryz.f134, Option.getD_some, zal, opsF, opsX, zag, zaA, dstL, zam, List.append_eq, List.cons_append, List.nil_append, seval] at c; exact nd c <| nd @zyV <| @zzV)
theorem c134 : type_of% x134.down := x134.down
noncomputable def N97 := zaz Tryz.f97
noncomputable def x97 := PLift.up (by have c := zah N97 Tryz.f97; simp only [zao, Tryz.f97, Option.getD_some, zal, opsF, opsX, zag, zaA, dstL, zam, List.append_eq, List.cons_append, List.nil_append, seval] at c; exact nd c <| nd @ln27 <| nd @fi97 <| @fj97)
theorem c97 : type_of% x97.down := x97.down
noncomputable def N56 := zaz Tryz.f56
noncomputable def x56 := PLift.up (by have c := zah N56 Tryz.f56; simp only [zao, Tryz.f56, Option.getD_some, zal, opsF, opsX, zag, zaA, dstL, zam, List.append_eq, List.cons_append, List.nil_append, seval] at c; exact nd c <| nd @bs27 <| @fi56)
theorem c56 : type_of% x56.down := x56.down
noncomputable def N99 := zaz Tryz.f99
noncomputable def x99 := PLift.up (by have c := zah N99 Tryz.f99; simp only [zao, Tryz.f99, Option.getD_some, zal, opsF, opsX, zag, zaA, dstL, zam, List.append_eq, List.cons_append, List.nil_append, seval] at c; exact nd c <| nd @ix27 <| nd @ld26 <| nd @ln27 <| @fi99)
theorem c99 : type_of% x99.down := x99.down
noncomputable def N100 := zaz Tryz.f100
noncomputable def x100 := PLift.up (by have c := zah N100 Tryz.f100; simp only [zao, Tryz.f100, Option.getD_some, zal, opsF, opsX, zag, zaA, dstL, zam, List.append_eq, List.cons_append, List.nil_append, seval] at c; exact nd c <| nd @ld26 <| @zy6)
theorem c100 : type_of% x100.down := x100.down
noncomputable def N59 := zaz Tryz.f59
noncomputable def x59 := PLift.up (by have c := zah N59 Tryz.f59; simp only [zao, Tryz.f59, Option.getD_some, zal, opsF, opsX, zag, zaA, dstL, zam, List.append_eq, List.cons_append, List.nil_append, seval] at c; exact nd c <| @fi59)
theorem c59 : type_of% x59.down := x59.down
end Go.Proofs.YtemapihoobmonaaGreatDoor
namespace Go.Proofs.YtemapihoobmonaaGreatDoor
open Go.Am
set_option linter.unusedSimpArgs false
set_option linter.unusedVariables false
set_option maxRecDepth 100000
set_option maxHeartbeats 0
theorem zw2 : ze6 tab 49 49 = true := by kernel_rfl
theorem zkj (a : AtomD) : a.cells[0]? = some (.string a.says) := rfl
theorem zm9 (a : AtomD) : a.cells[1]? = some (.string a.pred) := rfl
theorem ztv (a : AtomD) (ha : a.light = true) (h : Heap) (K : Value → Heap → Prop)
    (hk : ∀ h', Ext h h' → K (.string ⟨(zaK a).toArray⟩) h') : Ok Tryz.prog tab ov 136 [a.val] h K := by
  rw [zaa h]
  have z := Ext.refl h
  obtain ⟨hs1, hs2⟩ := zgB ha
  refine Ok.into rfl ztL (zaB N136) rfl (m := 37) rfl ?_
  simp -implicitDefEqProofs only [syms, symx, seval, c136, zay, zkj, zm9, ↓zax, zau, zaj]
  refine zbw ?_ (fun S1 hS1 hz1 => ?_)
  · show a.says.size + 6 ≤ _
    omega
  simp -implicitDefEqProofs only [syms, symx, seval, c136, zkj, zm9, ↓zax, zau, zaj]
  refine zbw ?_ (fun S hS hz2 => ?_)
  · rw [hz1]
    show a.says.size + 6 + _ ≤ _
    omega
  have hSl : S.data.toList = a.says.data.toList ++ zpH ++ a.pred.data.toList := by rw [hS, hS1, zd7, zd7]; rfl
  have hSz : S.size ≤ 700 := by
    rw [hz2, hz1]
    show a.says.size + 6 + _ ≤ _
    omega
  clear hS hS1 hz1 hz2
  simp -implicitDefEqProofs only [syms, symx, seval, c136, ↓zax, zau, zaj]
  refine zjz a _ _ (fun v H0 x hv => ?_)
  (replace z := z.overW x (by (try simp only [zad, List.length_cons, List.length_nil]); omega); rw [zaa H0])
  have hz0 := z.size
  have hva := zaH v
  simp -implicitDefEqProofs only [syms, symx, seval, c136, hva]
  repeat' ((first | ((with_reducible  apply zdA ) <;> intro _) | with_reducible_and_instances refine zcc hv zjQ ?_) <;> simp -implicitDefEqProofs only [syms, symx, seval, c136, hva])
  · have hS2 : S = ⟨(zaK a).toArray⟩ := zwx (by rw [hSl, zsI (by omega)])
    rw [hS2]
    exact hk _ (z.upW _ _ (by omega))
  obtain ⟨I1, hI1⟩ : ∃ I : Nat → Env → Heap → Prop, I = (fun n e h' => ∃ (i : Nat) (w : Value) (A : Nat) (h1 : Heap), h' = h1.lay [] h1.low ∧ Ext h h1 ∧ (n = a.args.length - i ∧ i ≤ a.args.length ∧ Ow Rep.str H0 h1 9 A w ((a.args.take i).map (·.s)) ∧ Inc H0 h1) ∧ ∃ J : Nat → Value, e = (jr J 0 3 (.string S :: J 4 :: w :: jr J 6 14 (v :: .int .i64 a.args.length :: .int .i64 i :: jr J 23 15 ([]))))) := ⟨_, rfl⟩
  refine zas I1 _ (by rw [hI1]; exact ⟨0, .slice none 0 0, H0.size, _, rfl, z, ⟨rfl, by omega, Ow.nil (Nat.le_refl _), Inc.refl _⟩, junk (by kernel_rfl)⟩) ?_
  intro n e h' hin
  rw [hI1] at hin
  obtain ⟨i, w, A, h1', rfl, z, hinv, J, rfl⟩ := hin
  obtain ⟨rfl, hi, ho, i1⟩ := hinv
  have hal : a.args.length ≤ 4 := by rw [zbe]; unfold AtomD.cnt; omega
  have hw : IntKind.i64.wrap ((i : Int) + 1) = ((i + 1 : Nat) : Int) := by rw [zae (by omega) (by omega)]; omega
  have hz := z.size
  simp -implicitDefEqProofs only [syms, symx, seval, c136]
  refine zaw (fun hlt => ?_) (fun hlt => ?_)
  rotate_left
  · simp -implicitDefEqProofs only [syms, symx, seval, c136]
    rw [List.take_of_length_le (by omega)] at ho
    have hJ := zq0 ha
    have hnm : (a.args.map (·.s)).map (·.data.toList) = za3 a := by rw [List.map_map]; rfl
    have hva2 := zaH w
    refine zbw ?_ (fun S3 hS3 hz3 => ?_)
    · show S.size + 1 ≤ _
      omega
    have hz3' : S3.size ≤ 701 := by
      rw [hz3]
      show S.size + 1 ≤ _
      omega
    have hS3l : S3.data.toList = S.data.toList ++ [40] := by rw [hS3, zd7]
    simp -implicitDefEqProofs only [syms, symx, seval, c136, hva2]
    refine Ok.over (g := znr) rfl (zwJ ((ho.sl (by decide)).lay _ _) (fun e => by have := congrArg List.length e; rw [List.length_map, List.length_nil] at this; omega) (by rw [List.length_map]; omega) (by rw [hnm]; exact Nat.le_trans hJ (by decide))) ?_
    rw [hnm]
    obtain ⟨J2, hJ2⟩ : ∃ J2 : ByteArray, J2 = ⟨(Lib.join (za3 a) (ByteArray.mk #[44, 32]).data.toList).toArray⟩ := ⟨_, rfl⟩
    rw [← hJ2]
    have hJl : J2.data.toList = Lib.join (za3 a) commaB := by rw [hJ2]; rfl
    have hJz : J2.size ≤ 1300 := by rw [← bsz2, hJl]; exact hJ
    simp -implicitDefEqProofs only [syms, symx, seval, c136]
    refine zbw ?_ (fun S4 hS4 hz4 => ?_)
    · omega
    simp -implicitDefEqProofs only [syms, symx, seval, c136]
    refine zbw ?_ (fun S5 hS5 hz5 => ?_)
    · rw [hz4]
      show S3.size + J2.size + 1 ≤ _
      omega
    repeat' ( simp -implicitDefEqProofs only [syms, symx, seval, c136])
    have hS6 : S5 = ⟨(zaK a).toArray⟩ := zwx (by rw [hS5, zd7, hS4, zd7, hS3l, hSl, hJl, zrl (by omega)])
    rw [hS6]
    exact hk _ (z.upW _ _ (by omega))
  obtain ⟨r, hr, hr'⟩ := za5 (l := a.args) (i := i) hlt
  simp -implicitDefEqProofs only [syms, symx, seval, c136]
  repeat' ((first | with_reducible_and_instances refine zoW (hv.mono i1) zjQ sz23 (by omega) hr (fun p hp => ?_) | with_reducible_and_instances refine ldt hp ag23 sz23 ?_) <;> simp -implicitDefEqProofs only [syms, symx, seval, c136, zaP, zaC, List.all_cons, List.all_nil, Am.one, Bool.and_true, Bool.true_and, Bool.and_self, List.set_cons_zero, List.set_cons_succ, st4, st3, st9, st23, st26, st29, zcj, TermD.val, TermD.cells])
  simp -implicitDefEqProofs only [syms, symx, seval, c136, za2, zw2]
  obtain ⟨hs1', hsr1⟩ := zdn (A := A) (B := h1'.size + 1) (r := Rep.str) (c := 1) (y := r.s) (by decide) (show (h1'.lay [Blk.row [Value.bool r.v, Value.string r.s] 23 false, Blk.row [Value.string r.s] 9 false] (min h1'.low (h1'.size + 0))).get (h1'.size + 1) = some (.row [Value.string r.s] 9 false) by rw [zaR]; rfl) rfl
  have hfr := ho.fresh
  have hln : ((a.args.take i).map (·.s)).length ≤ 4 := by rw [List.length_map, List.length_take]; omega
  refine zrT (r := Rep.str) ds49 zf0 rfl (by decide) i1.size ho hs1' hsr1 (by omega) (by omega) (fun w' h2 A' o2 c2 hA2 => ?_)
  replace z := (z.upW _ _ (by omega)).step c2 (by omega)
  have i2 := zxj (i1.trans (Inc.lay _ _ _)) c2 hfr
  have htk : (a.args.take (i + 1)).map (·.s) = (a.args.take i).map (·.s) ++ [r.s] := by rw [List.take_add_one, hr', List.map_append]; rfl
  rw [← htk] at o2
  rw [zaa h2]
  have hva2 : ∀ (h : Heap) (K : Value → Heap → Prop), valE (some w') h K = K w' h := fun _ _ => rfl
  repeat' ( simp -implicitDefEqProofs only [syms, symx, seval, c136, hva2])
  rw [hw]
  (rw [hI1]; with_reducible refine zac (m := _) ?_ ⟨i + 1, w', A', _, rfl, z, ⟨rfl, by omega, o2, i2⟩, junk (by kernel_rfl)⟩; omega)
  trace_state
theorem zld (a b : AtomD) (ha : a.light = true) (hb : b.light = true) (h : Heap) (K : Value → Heap → Prop)
    (hk : ∀ h', Ext h h' → K (.int .i64 (cmpD a b)) h') : Ok Tryz.prog tab ov 98 [a.val, b.val] h K := by
  rw [zaa h]
  have z := Ext.refl h
  refine Ok.into rfl zvJ (zaB N98) rfl (m := 8) rfl ?_
  repeat' ( simp -implicitDefEqProofs only [syms, symx, seval, c98, zay])
  refine (zbP (by simp only [c98])) (z.upW _ _ (by omega)) ?_
  simp -implicitDefEqProofs only [syms, symx, seval, c98, ↓zax, zau, zaj]
  refine ztv a ha _ _ (fun h' x => ?_)
  have q1 := Holds.top (i := 1) x rfl
  (( ((with_reducible refine zar ?_ ?_ ?_); (· exact (by (try simp only [lsz]); have := z.size; omega)); (·  exact x )) ); replace z := z.overW x (by (try simp only [lsz]); omega); rw [zaa h'])
  repeat' ( simp -implicitDefEqProofs only [syms, symx, seval, c98, q1.lay, ↓zax, zau, zaj])
  refine ztv b hb _ _ (fun h' x => ?_)
  (( ((with_reducible refine zar ?_ ?_ ?_); (· exact (by (try simp only [lsz]); have := z.size; omega)); (·  exact x )) ); replace z := z.overW x (by (try simp only [lsz]); omega); rw [zaa h'])
  repeat' ( simp -implicitDefEqProofs only [syms, symx, seval, c98])
  refine Ok.over (g := zfW) rfl rfl ?_
  refine zar (by have := z.size; rw [zad]; omega) (by simpa only [zap, zad, List.append_nil, List.length_nil, Nat.add_zero] using Ext.refl (h'.lay [] h'.size)) ?_
  repeat' (first | simp -implicitDefEqProofs only [syms, symx, seval, c98] | ((with_reducible refine ⟨z.grw.lay _ _, ?_⟩); (intro _ h' zz x _); (try simp only [zap, List.append_nil] at x); (replace z := zz); (clear zz); rw [zaa h']))
  exact hk _ (z.upW _ _ (by omega))
end Go.Proofs.YtemapihoobmonaaGreatDoor
namespace Go.Am
set_option linter.unusedVariables false
def atR (l : List ReasonD) (a : AtomD) : Int := idxP (fun x => decide (x.atom = a)) l
end Go.Am

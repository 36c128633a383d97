/- The code of some functions, node by node, for simp. Written by a program (mkcode.py). No condition. -/
import Derived.Test.YtemapihoobmonaaGreatDoorG17
import Derived.Test.YtemapihoobmonaaGreatDoorG15
import Derived.KernelRfl
import Derived.Test.YtemapihoobmonaaGreatDoorG43
import Derived.Test.YtemapihoobmonaaGreatDoorG47
import Derived.Test.YtemapihoobmonaaGreatDoorG48
import Derived.Test.YtemapihoobmonaaGreatDoorG10
import Derived.Test.YtemapihoobmonaaGreatDoorRows
import Derived.JoinedOf
import Derived.ProofKit
import Derived.Test.YtemapihoobmonaaGreatDoorG14
import Derived.Test.YtemapihoobmonaaGreatDoorCards
import Derived.Test.YtemapihoobmonaaGreatDoorTie
import Derived.SevenTiedAt
import Derived.Lay
import Derived.LaidHandle
namespace Go.Proofs.YtemapihoobmonaaGreatDoor
open Go.Am
set_option linter.unusedVariables false
set_option linter.unusedSimpArgs false
set_option maxRecDepth 100000
set_option maxHeartbeats 0
noncomputable def N3 := zaz Tryz.f3
noncomputable def x3 := PLift.up (by have c := zah N3 Tryz.f3; simp only [zao, Tryz.f3, Option.getD_some, zak, opsF, opsX, zag, zaA, dstL, zal, List.append_eq, List.cons_append, List.nil_append, seval] at c; exact nd c <| nd @bs32 <| nd @zeT <| nd @zeW <| nd @ix27 <| nd @ix30 <| nd @ld26 <| nd @ld27 <| nd @ld29 <| nd @ld3 <| nd @ln27 <| nd @ln30 <| @fi3)
theorem c3 : type_of% x3.down := x3.down
noncomputable def N4 := zaz Tryz.f4
noncomputable def x4 := PLift.up (by have c := zah N4 Tryz.f4; simp only [zao, Tryz.f4, Option.getD_some, zak, opsF, opsX, zag, zaA, dstL, zal, List.append_eq, List.cons_append, List.nil_append, seval] at c; exact nd c <| nd @al29 <| nd @bs27 <| nd @bs32 <| nd @zeT <| nd @zeW <| nd @ix27 <| nd @ix32 <| nd @ld26 <| nd @ld27 <| nd @ld29 <| nd @ln27 <| nd @ln32 <| @fi4)
theorem c4 : type_of% x4.down := x4.down
noncomputable def N7 := zaz Tryz.f7
noncomputable def x7 := PLift.up (by have c := zah N7 Tryz.f7; simp only [zao, Tryz.f7, Option.getD_some, zak, opsF, opsX, zag, zaA, dstL, zal, List.append_eq, List.cons_append, List.nil_append, seval] at c; exact nd c <| nd @ix27 <| nd @ld26 <| nd @ln27 <| @fi7)
theorem c7 : type_of% x7.down := x7.down
end Go.Proofs.YtemapihoobmonaaGreatDoor
namespace Go.Proofs.YtemapihoobmonaaGreatDoor
open Go.Am
set_option linter.unusedSimpArgs false
set_option linter.unusedVariables false
set_option maxRecDepth 100000
set_option maxHeartbeats 0
theorem zjV (cl : List ClauseD) (facts more : List AtomD) (v u w : Value) (h : Heap) (hsp : SpaceAt 1 h) (hl : Sl Rep.clause h v cl) (hf : Sl Rep.atom h u facts) (hmo : Sl Rep.atom h w more) (K : Value → Heap → Prop)
    (hk : ∀ h', Ext h h' → K (.bool true) h') : Ok Tryz.prog tab ov 7 [v, u, w] h K := by
  rw [zaa h]
  have z := Ext.refl h
  have hvc := zaF v
  have hvf := zaF u
  have hvm := zaF w
  refine Ok.into rfl zxp (zay N7) rfl (m := 99) rfl ?_
  simp -implicitDefEqProofs only [syms, symx, seval, c7]
  refine Ok.over (g := zqQ 1) rfl (zuC (hsp.lay _ _)) ?_
  repeat' (first | simp -implicitDefEqProofs only [syms, symx, seval, c7, hvc, hvf] | ((with_reducible_and_instances apply zaf); (· rfl)))
  refine zis cl facts _ _ _ ((hl.mono z.inc).lay _ _) ((hf.mono z.inc).lay _ _) _ (fun e1 e2 e3 h' x => ?_) (fun h' x => ?_)
  rotate_left
  · ((skip); replace z := z.overW x (by (try simp only [lsz]); omega); rw [zaa h'])
    repeat' (first | simp -implicitDefEqProofs only [syms, symx, seval, c7, Bool.not_false] | ((with_reducible_and_instances apply zaf); (· rfl)))
    exact hk _ (z.upW _ _ (by omega))
  ((skip); replace z := z.overW x (by (try simp only [lsz]); omega); rw [zaa h'])
  repeat' (first | simp -implicitDefEqProofs only [syms, symx, seval, c7, hvm, Bool.not_true] | ((with_reducible_and_instances apply zaf); (· rfl)))
  refine zhr more w 8 _ ((hmo.mono z.inc).lay _ _) _ (fun e4 e5 h' x => ?_) (fun h' x => ?_)
  rotate_left
  · ((skip); replace z := z.overW x (by (try simp only [lsz]); omega); rw [zaa h'])
    repeat' (first | simp -implicitDefEqProofs only [syms, symx, seval, c7, Bool.not_false] | ((with_reducible_and_instances apply zaf); (· rfl)))
    exact hk _ (z.upW _ _ (by omega))
  ((skip); replace z := z.overW x (by (try simp only [lsz]); omega); rw [zaa h'])
  repeat' (first | simp -implicitDefEqProofs only [syms, symx, seval, c7, hvc, hvf, Bool.not_true] | ((with_reducible_and_instances apply zaf); (· rfl)))
  refine zsX cl facts v u _ ((hl.mono z.inc).lay _ _) ((hf.mono z.inc).lay _ _) (by omega) (fun d hd => by have := e3 d hd; omega) (by omega) _ (fun hm h' x => ?_) (fun hm h' x => ?_)
  rotate_left
  · ((skip); replace z := z.overW x (by (try simp only [lsz]); omega); rw [zaa h'])
    repeat' (first | simp -implicitDefEqProofs only [syms, symx, seval, c7, Bool.not_false] | ((with_reducible_and_instances apply zaf); (· rfl)))
    exact hk _ (z.upW _ _ (by omega))
  ((skip); replace z := z.overW x (by (try simp only [lsz]); omega); rw [zaa h'])
  repeat' (first | simp -implicitDefEqProofs only [syms, symx, seval, c7, hvm, Bool.not_true] | ((with_reducible_and_instances apply zaf); (· rfl)))
  refine zsX [] more (.slice none 0 0) w _ Sl.nil ((hmo.mono z.inc).lay _ _) (by simp) (fun d hd => by simp at hd) (by omega) _ (fun hm2 h' x => ?_) (fun hm2 h' x => ?_)
  rotate_left
  · ((skip); replace z := z.overW x (by (try simp only [lsz]); omega); rw [zaa h'])
    repeat' (first | simp -implicitDefEqProofs only [syms, symx, seval, c7, Bool.not_false] | ((with_reducible_and_instances apply zaf); (· rfl)))
    exact hk _ (z.upW _ _ (by omega))
  ((skip); replace z := z.overW x (by (try simp only [lsz]); omega); rw [zaa h'])
  repeat' (first | simp -implicitDefEqProofs only [syms, symx, seval, c7, hvc, hvf, Bool.not_true] | ((with_reducible_and_instances apply zaf); (· rfl)))
  refine zoz cl facts v u _ ((hsp.ext z).lay _ _) ((hl.mono z.inc).lay _ _) ((hf.mono z.inc).lay _ _) e1 e3 (by omega) _ (fun h' w1 L1 k1 f1 x s1 hL1 => ?_)
  ((skip); replace z := z.overW x (by (try simp only [lsz]); omega); rw [zaa h'])
  have hvw1 := zaF w1
  have hlw1 := fun (hh : Heap) => s1.lenA ds27 hh
  rcases hL1.e hm with rfl | ⟨rfl, rfl⟩
  rotate_left
  · repeat' ( simp -implicitDefEqProofs only [syms, symx, seval, c7, hvw1, hlw1, List.length_nil])
    all_goals first
      | exact hk _ (z.upW _ _ (by omega))
      | omega
  have hn1 := hL1.len
  obtain ⟨_, ha1, hfix⟩ := hL1.fix
  repeat' ( simp -implicitDefEqProofs only [syms, symx, seval, c7, hvc, hvf, hvw1])
  refine zjF cl facts L1 v u w1 _ ((hsp.ext z).lay _ _) ((hl.mono z.inc).lay _ _) ((hf.mono z.inc).lay _ _) (s1.lay _ _) e1 e3 (by omega) hn1 hm hL1.fact ha1 (fun a ha => by rwa [hfix] at ha) _ (fun h' x => ?_)
  ((skip); replace z := z.overW x (by (try simp only [lsz]); omega); (try replace s1 := s1.over x); rw [zaa h'])
  repeat' (first | simp -implicitDefEqProofs only [syms, symx, seval, c7, hvc, hvf, hvw1, Bool.not_true] | ((with_reducible_and_instances apply zaf); (· rfl)))
  refine ziq cl facts L1 v u w1 _ ((hsp.ext z).lay _ _) ((hl.mono z.inc).lay _ _) ((hf.mono z.inc).lay _ _) (s1.lay _ _) e1 e3 (by omega) hn1 hm hL1.fact _ (fun h' w2 x s2 => ?_)
  rw [zdt ha1, hfix] at s2
  ((skip); replace z := z.overW x (by (try simp only [lsz]); omega); (try replace s1 := s1.over x); rw [zaa h'])
  have hvw2 := zaF w2
  repeat' ( simp -implicitDefEqProofs only [syms, symx, seval, c7, hvw1, hvw2])
  refine zmb L1 L1 w2 w1 _ (s2.lay _ _) (s1.lay _ _) (by omega) (by omega) _ (fun h' x => ?_)
  rw [decide_eq_true rfl]
  clear s2
  ((skip); replace z := z.overW x (by (try simp only [lsz]); omega); (try replace s1 := s1.over x); rw [zaa h'])
  repeat' (first | simp -implicitDefEqProofs only [syms, symx, seval, c7, hvw1, Bool.not_true] | ((with_reducible_and_instances apply zaf); (· rfl)))
  refine zx0 L1 w1 _ (s1.lay _ _) (by omega) (fun a ha => (hL1.fact a ha).valid.light) _ (fun h' x => ?_)
  rw [isA_iff.2 ha1]
  ((skip); replace z := z.overW x (by (try simp only [lsz]); omega); (try replace s1 := s1.over x); rw [zaa h'])
  repeat' (first | simp -implicitDefEqProofs only [syms, symx, seval, c7, hvf, Bool.not_true] | ((with_reducible_and_instances apply zaf); (· rfl)))
  refine zyh facts u _ ((hf.mono z.inc).lay _ _) (by omega) _ (fun wf Af h' x of hfAf => ?_)
  have hfA2 := of.fresh
  have i4 := (Inc.lay _ _ _).trans x.inc
  have hxs4 := x.size
  have hzz := z.size
  have s14 := s1
  rw [zad] at hfA2 hxs4
  ((skip); replace z := z.overW x (by (try simp only [lsz]); omega); (try replace s1 := s1.over x); rw [zaa h'])
  have hvwf := zaF wf
  repeat' ( simp -implicitDefEqProofs only [syms, symx, seval, c7, hvm, hvwf, zbM, zp1])
  have hz5 := z.size
  obtain ⟨news5, hs5, hsr5⟩ := zvo (A := Af) (h := h'.lay [] h'.low) (r := Rep.atom) (by decide) hmo (z.inc.trans (Inc.lay _ _ _)) (zsj (z.inc.trans (Inc.lay _ _ _)) (by omega))
  obtain ⟨w5, h5, A5, g6, o5, cg5, g7, g8⟩ := zfW (t := 27) ds27 zbw rfl (by decide) (by rw [zad, zad]; omega) (of.mono (Inc.lay _ _ _)) hs5 hsr5 (by omega) (by omega)
  rw [g6]
  simp -implicitDefEqProofs only [syms, symx, seval, c7]
  have s15 := s14.mono ((i4.trans (Inc.lay _ _ _)).chg cg5 (by omega))
  replace z := (z.upW [] h'.low (by omega)).step cg5 (by omega)
  have s5 := o5.sl (by decide)
  have hvw5 := zaF w5
  clear s1 s14 of o5 hs5 hsr5
  rw [zaa h5]
  skip
  have hm3 : MayX cl (facts ++ more) := ⟨hm.clauses, fun a ha => (List.mem_append.1 ha).elim (hm.facts a) (hm2.facts a)⟩
  have hsub : ∀ a ∈ facts, a ∈ facts ++ more := fun a ha => List.mem_append_left _ ha
  refine zoz cl (facts ++ more) v w5 _ ((hsp.ext z).lay _ _) ((hl.mono z.inc).lay _ _) (s5.lay _ _) e1 e3 (by rw [List.length_append]; omega) _ (fun h' w6 L2 k2 f2 x s2 hL2 => ?_)
  ((skip); replace z := z.overW x (by (try simp only [lsz]); omega); (try replace s15 := s15.over x); rw [zaa h'])
  have hvw6 := zaF w6
  rcases hL2.e hm3 with rfl | ⟨rfl, rfl⟩
  rotate_left
  · repeat' ( simp -implicitDefEqProofs only [syms, symx, seval, c7, hvw6])
    all_goals first
      | exact hk _ (z.upW _ _ (by omega))
      | omega
  have hn2 := hL2.len
  have hL12 := (LfpX.more (fun _ h => h) hsub hL2 hL1).2
  obtain ⟨_, ha2, hfix2⟩ := LfpX.fixLess hsub hL2
  repeat' ( simp -implicitDefEqProofs only [syms, symx, seval, c7, hvw6])
  obtain ⟨I1, hI1⟩ : ∃ I : Nat → Env → Heap → Prop, I = (fun n e h' => ∃ (i : Nat) (h1 : Heap), h' = h1.lay [] h1.low ∧ Ext h h1 ∧ (n = L1.length - i ∧ i ≤ L1.length ∧ Sl Rep.atom h1 w1 L1 ∧ Sl Rep.atom h1 w6 L2) ∧ ∃ J : Nat → Value, e = (v :: u :: jr J 2 5 (w1 :: jr J 8 2 (w6 :: jr J 11 2 (.int .i64 i :: jr J 14 88 ([])))))) := ⟨_, rfl⟩
  refine zas I1 _ (by rw [hI1]; exact ⟨0, _, rfl, z, ⟨rfl, by omega, s15, s2⟩, junk (by kernel_rfl)⟩) ?_
  intro n e h' hin
  rw [hI1] at hin
  obtain ⟨i, h1', rfl, z, hinv, J, rfl⟩ := hin
  clear s15 s2
  obtain ⟨rfl, hi, s1, s2⟩ := hinv
  have hwi : IntKind.i64.wrap ((i : Int) + 1) = ((i + 1 : Nat) : Int) := by rw [zae (by omega) (by omega)]; omega
  simp -implicitDefEqProofs only [syms, symx, seval, c7, hvw1, hlw1]
  refine zax (fun hlt => ?_) (fun hlt => ?_)
  · obtain ⟨a, ha, ha'⟩ := zbc (l := L1) (i := i) (by omega)
    have ham := List.mem_of_getElem? ha'
    have ham2 := hL12 a ham
    repeat' (first | simp -implicitDefEqProofs only [syms, symx, seval, c7, hvw1, hvw6] | with_reducible_and_instances refine zb5 s1 ds27 sz26 (by omega) ha (fun p hp => ?_) | with_reducible_and_instances refine lda hp ag26 sz26 ?_)
    refine zxe L2 a w6 _ (s2.lay _ _) (by omega) (fun y hy => (hL2.fact y hy).valid.light) (hL2.fact a ham2).valid.light _ (fun h' x => ?_)
    rw [(zpe (zdo hL2.fact) (hL2.fact a ham2).plain).2 ham2]
    ((skip); replace z := z.overW x (by (try simp only [lsz]); omega); (try replace s1 := s1.over x); (try replace s2 := s2.over x); rw [zaa h'])
    repeat' (first | simp -implicitDefEqProofs only [syms, symx, seval, c7, Bool.not_true] | ((with_reducible_and_instances apply zaf); (· rfl)))
    rw [hwi]
    (rw [hI1]; with_reducible refine zac (m := _) ?_ ⟨i + 1, _, rfl, z, ⟨rfl, by omega, s1, s2⟩, junk (by kernel_rfl)⟩; omega)
  clear s1
  repeat' ( simp -implicitDefEqProofs only [syms, symx, seval, c7, hvc, hvf, hvw6])
  refine zjF cl facts L2 v u w6 _ ((hsp.ext z).lay _ _) ((hl.mono z.inc).lay _ _) ((hf.mono z.inc).lay _ _) (s2.lay _ _) e1 e3 (by omega) hn2 hm hL2.fact ha2 hfix2 _ (fun h' x => ?_)
  ((skip); replace z := z.overW x (by (try simp only [lsz]); omega); (try replace s2 := s2.over x); rw [zaa h'])
  repeat' ( simp -implicitDefEqProofs only [syms, symx, seval, c7])
  exact hk _ (z.upW _ _ (by omega))
end Go.Proofs.YtemapihoobmonaaGreatDoor
namespace Go.Proofs.YtemapihoobmonaaGreatDoor
open Go.ChangeShapes Go.WideShapes Go.ChangeAt Go.RowKit
theorem zan {a b : Bool} (h1 : a = true) (h2 : b = true) : (a && b) = true := by rw [h1, h2]; rfl
theorem zjd : (Rows.naiveLeastRow.wf (OpenSpec.ofChange Rows.naiveLeastSpec)) = true := by kernel_rfl
theorem zja : (laidOutB Tryz.prog) = true := by kernel_rfl
theorem zjc : (mapsRowed Tryz.prog) = true := by kernel_rfl
theorem zi5 : (Tryz.f7.params.all (Tryz.prog.readableRec ·)) = true := by kernel_rfl
theorem zi6 : (namedTie Tryz.prog Rows.naiveLeastRow.named Rows.naiveLeastSpec.vars) = true := by kernel_rfl
theorem zi4 : ((Rows.naiveLeastRow.stops == [])) = true := by kernel_rfl
theorem ziT : ((Tryz.prog.stops == [])) = true := by kernel_rfl
theorem ziX : ((Rows.naiveLeastRow.knobs == [])) = true := by kernel_rfl
theorem zi1 : ((Tryz.prog.stopKnobs == [])) = true := by kernel_rfl
theorem ziY : ((Rows.naiveLeastRow.inPlace == Tryz.prog.inPlace 7)) = true := by kernel_rfl
theorem zik : ((Rows.naiveLeastRow.unfollowed == Tryz.prog.unfollowed 7)) = true := by kernel_rfl
theorem zif : ((Rows.naiveLeastRow.recurses == Tryz.prog.recurses 7)) = true := by kernel_rfl
theorem zhw : ((Rows.naiveLeastRow.named == Tryz.prog.varsNamed 7)) = true := by kernel_rfl
theorem ziE : ((Rows.naiveLeastRow.maps == (Tryz.f7.params.toList ++ Rows.naiveLeastSpec.plain.varTypes Tryz.prog).any (Tryz.prog.mapsRec ·))) = true := by kernel_rfl
theorem zhU : ((Rows.naiveLeastRow.ifaces == (Tryz.f7.params.toList ++ Rows.naiveLeastSpec.plain.varTypes Tryz.prog).any (Tryz.prog.ifacesRec ·))) = true := by kernel_rfl
theorem zh9 : ((Rows.naiveLeastRow.mapsOut == Tryz.prog.mapsAmong Tryz.f7.resultTypes.toList)) = true := by kernel_rfl
theorem zii : ((Rows.naiveLeastRow.loops == (Tryz.f7.params.toList ++ Rows.naiveLeastSpec.plain.varTypes Tryz.prog).any (Tryz.prog.loopsFrom ·))) = true := by kernel_rfl
theorem zhx : ((Rows.naiveLeastRow.wideKeys == (Tryz.f7.params.toList ++ Rows.naiveLeastSpec.plain.varTypes Tryz.prog ++ Tryz.f7.resultTypes.toList).any (Tryz.prog.wideKeysFrom ·))) = true := by kernel_rfl
theorem zhJ : (Rows.naiveLeastSpec.vars.all (Tryz.prog.varReadable ·)) = true := by kernel_rfl
theorem zic : (Tryz.f7.resultTypes.all (fun t => Tryz.prog.readableRec t && decide (t < Tryz.prog.types.size))) = true := by kernel_rfl
theorem zh1 : ((Rows.naiveLeastRow.ifacesOut == Tryz.f7.resultTypes.toList.any (Tryz.prog.ifacesRec ·))) = true := by kernel_rfl
theorem zie : ((Rows.naiveLeastRow.loopsOut == Tryz.f7.resultTypes.toList.any (Tryz.prog.loopsFrom ·))) = true := by kernel_rfl
theorem zhH : ((Rows.naiveLeastRow.plainKeys == Tryz.prog.plainKeys)) = true := by kernel_rfl
theorem ziK : (Rows.naiveLeastRow.shortTexts.isNone) = true := by kernel_rfl
theorem zhN : (Tryz.prog.stopsHeard) = true := by kernel_rfl
theorem zhO : (Tryz.prog.mayEnter) = true := by kernel_rfl
theorem zia : ((Rows.naiveLeastRow.lifted == Tryz.prog.liftsFinal)) = true := by kernel_rfl
theorem zhY : ((Tryz.prog.make == some Rows.naiveLeastRow.make)) = true := by kernel_rfl
theorem ziO : ((Rows.naiveLeastRow.kinds == (if Rows.naiveLeastRow.domain.isEmpty then [] else Tryz.f7.params.toList.map fun t => match Tryz.prog.underlying t with | some (.int k) => some k | _ => none))) = true := by kernel_rfl
theorem zhv : ((Rows.naiveLeastRow.pinned == Rows.naiveLeastRow.pinnedBy)) = true := by kernel_rfl
theorem zhV : ((Rows.naiveLeastRow.veiled == (Tryz.f7.params.toList ++ Rows.naiveLeastSpec.plain.varTypes Tryz.prog ++ Tryz.f7.resultTypes.toList).any (Tryz.prog.veiledRec ·))) = true := by kernel_rfl
theorem zhQ : (Rows.naiveLeastRow.veiledFits Tryz.prog Tryz.f7.params.toList (Tryz.f7.params.toList ++ Rows.naiveLeastSpec.plain.varTypes Tryz.prog ++ Tryz.f7.resultTypes.toList)) = true := by kernel_rfl
set_option maxRecDepth 100000 in
theorem zkQ : joinedFacts Tryz.prog 7 Tryz.f7 Rows.naiveLeastSpec Rows.naiveLeastRow = true := by
  unfold joinedFacts
  exact (zan (zan (zan (zan (zan (zan (zan (zan (zan (zan (zan (zan (zan (zan (zan (zan (zan (zan (zan (zan (zan (zan (zan (zan (zan (zan (zan (zan (zan (zan (zan zjd zja) zjc) zi5) zi6) zi4) ziT) ziX) zi1) ziY) zik) zif) zhw) ziE) zhU) zh9) zii) zhx) zhJ) zic) zh1) zie) zhH) ziK) zhN) zhO) zia) zhY) ziO) zhv) zhV) zhQ)
end Go.Proofs.YtemapihoobmonaaGreatDoor
namespace Go.Proofs.YtemapihoobmonaaGreatDoor
open Go.ChangeShapes Go.WideShapes Go.ChangeAt Go.RowKit Go.Am
theorem zi8 : ownKnob Tryz.prog.godebug = none := by kernel_rfl
theorem zfP : laidOutB Tryz.prog = true := by kernel_rfl
theorem zje {W : World} (hL : laidMetH Tryz.prog Rows.naiveLeastRow.laid W) : ∀ c, c < 256 → W.cell? ⟨1, c, none⟩ = some (.int .u8 (Lib.asciiSpaceTab.getD c 0)) :=
  zj5 hL (by kernel_rfl) (d := Rows.laid_strings_asciiSpace) (by simp [Rows.naiveLeastRow]) (by kernel_rfl) (by kernel_rfl) (by kernel_rfl) (t := 237) (by kernel_rfl) (e := 5) (by kernel_rfl) (by kernel_rfl) (by kernel_rfl)
noncomputable def zd3 (os : Os) : World := World.laidAll Tryz.prog os Rows.naiveLeastRow.laid
theorem ziZ (os : Os) (args : Array Value) : laidMetH Tryz.prog Rows.naiveLeastRow.laid ((zd3 os).forCall (fun _ _ => 0) ⟨#[], args, []⟩).memory := by
  rw [MakeChecks.laidMetH_plain _ _ _ (by kernel_rfl)]
  exact laidMet_laidAll args (by kernel_rfl) (by kernel_rfl)
set_option maxRecDepth 100000 in
theorem zj3 (h : Heap) (args : List Value) (_ : h.low = h.size) (hsp : Holds h 1 (.row zbf zbt true)) (hs : zdn Tryz.prog h 8 Tryz.f7.params.toList args) : Ok Tryz.prog tab ov 7 args h fun v h' => v = .bool true ∧ Ext h h' := by
  have hp : Tryz.f7.params.toList = [32, 27, 27] := by kernel_rfl
  have hs2 : zdn Tryz.prog h 8 [32, 27, 27] args := zqs hp hs
  clear hs
  obtain ⟨x0, r0, rfl, h0, hs2⟩ := zeh hs2
  obtain ⟨x1, r1, rfl, h1, hs2⟩ := zeh hs2
  obtain ⟨x2, r2, rfl, h2, hs2⟩ := zeh hs2
  obtain rfl := znU hs2
  obtain ⟨d0, f0⟩ := zn6 h0
  obtain ⟨d1, f1⟩ := zl2 h1
  obtain ⟨d2, f2⟩ := zl2 h2
  exact zjV d0 d1 d2 x0 x1 x2 h hsp f0 f1 f2 _ (fun h' x => ⟨rfl, x⟩)
set_option maxRecDepth 100000 in
theorem zgi (os : Os) (started : os.Started) (H : Type) (enc : TypeId × Value → H) :
    ReturnsInHanded {} Tryz.checked os 7 .any (fun w args => (Rows.naiveLeastSpec.pre enc Tryz.prog Tryz.f7 Rows.naiveLeastRow.domain false w args ∧ laidMetH Tryz.prog Rows.naiveLeastRow.laid w) ∧ sizedMet enc Tryz.prog Tryz.f7 (OpenSpec.ofChange Rows.naiveLeastSpec) false w args)
      (Rows.naiveLeastSpec.post enc Tryz.prog Tryz.f7 Rows.naiveLeastRow.apart Rows.naiveLeastRow.fresh Rows.naiveLeastRow.handsOn Rows.naiveLeastRow.again) := by
  refine returnsInHanded_of_change_and (C := Tryz.checked) (X := fun w _ => laidMetH Tryz.prog Rows.naiveLeastRow.laid w) (fun _ _ _ hh h => h.of_heap hh) zi8 started (by kernel_rfl) Tryz.func7
    (znJ (enc := enc) (C := Tryz.checked) (os := os) (X := fun w _ => laidMetH Tryz.prog Rows.naiveLeastRow.laid w) (zd3 os) #[.slice none 0 0, .slice none 0 0, .slice none 0 0] 12 (World.laidAll_os _ _ _) (by kernel_rfl) (by kernel_rfl) (by kernel_rfl) (by kernel_rfl) (by kernel_rfl) (ziZ os _)) ?_
  intro W base args ds gs before hval hW hcnd _ hL _
  exact zj0 (n := 8) (boolT := 4) mixed zcK rfl zzq rfl (zje hL) zfP rfl (by kernel_rfl) (by kernel_rfl) Tryz.underlying4 (by kernel_rfl) (by kernel_rfl)
    (fun ds hd => by
      have hp : Tryz.f7.params.size = 3 := by kernel_rfl
      rw [hp] at hd
      match ds, hd with
      | [_, _, _], _ => rfl)
    zj3 hval hW
theorem zi9 : Rows.NaiveLeastSaid :=
  OpenClaim.holds_of_wide 7 Tryz.f7 rfl rfl rfl rfl rfl rfl rfl ⟨rfl, rfl, rfl, rfl, rfl⟩ rfl rfl rfl rfl rfl (by kernel_rfl) Tryz.func7 zkQ
    (of_decide_eq_true (by kernel_rfl)) (by unfold Func.isWrapper; first | (rw [if_pos (by decide +kernel)]; kernel_rfl) | (rw [if_neg (by decide +kernel)]; exact ⟨rfl, rfl⟩))
    (fun os started H enc _ => zgi os started H enc)
theorem zg9 : Tryz.f7.params.toList.all (fun t => !Tryz.prog.wantsStandIn t) = true := by kernel_rfl
theorem naiveLeast_holds : Rows.NaiveLeastCardSaid :=
  Claim7.holds_tied_plain_at .later [] [.listed, .data] true (true, "0bcedb163bd3680f2d43ed751055ec6a6419c3781179eca05f463f44977e4117") false
    zi9 (fun _ h => by cases h) (by kernel_rfl) (fun _ h => by cases h) naiveLeast_row_tie rfl ⟨rfl, rfl⟩ (by kernel_rfl) rfl
    (fun f fn hf hfn => by
      obtain rfl : f = 7 := Option.some.inj ((show Tryz.prog.funcNamed "vouchsafe/vouchsafelaw16.NaiveLeast" = some 7 by kernel_rfl).symm.trans hf) |>.symm
      obtain rfl : fn = Tryz.f7 := (Option.some.inj (Tryz.func7.symm.trans hfn)).symm
      refine ⟨by kernel_rfl, fun j t ht => ?_⟩
      have h1 := List.all_eq_true.1 zg9 t (List.mem_of_getElem? (i := j) (by simpa using ht))
      have h2 : Tryz.prog.wantsStandIn t = false := by
        cases hh : Tryz.prog.wantsStandIn t with
        | false => rfl
        | true =>
          have h3 : (!Tryz.prog.wantsStandIn t) = true := h1
          rw [hh] at h3
          exact absurd h3 (by decide)
      exact h2)
    (by kernel_rfl)
#print axioms naiveLeast_holds
end Go.Proofs.YtemapihoobmonaaGreatDoor

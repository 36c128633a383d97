/- Walks: the names of the document Written out by fill2.py. No condition. -/
import Derived.Test.YtompindebndddaaG32
import Derived.Test.YtompindebndddaaZK6
import Derived.Test.YtompindebndddaaGValid
import Derived.Test.YtompindebndddaaG47
import Derived.Test.YtompindebndddaaG48
import Derived.Test.YtompindebndddaaZK7
import Derived.Test.YtompindebndddaaGLaid
import Derived.Test.YtompindebndddaaG43
import Derived.Test.YtompindebndddaaZH3
import Derived.Test.YtompindebndddaaG12
import Derived.Test.YtompindebndddaaRows
namespace Go.Proofs.Ytompindebndddaa
open Go.Am
set_option linter.unusedSimpArgs false
set_option linter.unusedVariables false
set_option maxRecDepth 100000
set_option maxHeartbeats 0
theorem asc_sub_len {l m : List AtomD} (hl : AscD l) (hm : AscD m) (h : ∀ x ∈ l, x ∈ m) : l.length ≤ m.length := by
  have e : l = m.filter (fun x => decide (x ∈ l)) := asc_eq hl (asc_filter _ hm) (fun y => by
    rw [List.mem_filter, decide_eq_true_iff]
    exact ⟨fun hy => ⟨h y hy, hy⟩, fun hy => hy.2⟩)
  rw [e]
  exact List.length_filter_le _ _
theorem bodies_in {l : List ReasonD} {goals out : List AtomD} (f : NeedsOf l goals out) : ∀ x ∈ out.flatMap (bodyOf l), x ∈ out := fun x hx => by
  obtain ⟨y, hy, hb⟩ := List.mem_flatMap.1 hx
  exact f.closed y hy x hb
theorem needs_all {l : List ReasonD} {goals out : List AtomD} (f : NeedsOf l goals out) (hp : AllP goals) : sortA [sortA goals, sortA (out.flatMap (bodyOf l))].flatten = out := by
  have hb := bodies_in f
  have hpb : AllP (out.flatMap (bodyOf l)) := fun x hx => f.plain x (hb x hx)
  have hpa : AllP [sortA goals, sortA (out.flatMap (bodyOf l))].flatten := by
    intro x hx
    simp only [List.flatten_cons, List.flatten_nil, List.append_nil] at hx
    rcases List.mem_append.1 hx with h | h
    · exact hp.sort x h
    · exact hpb.sort x h
  refine asc_eq (sortA_of _).asc f.asc (fun x => ?_)
  rw [mem_sortA hpa]
  simp only [List.flatten_cons, List.flatten_nil, List.append_nil, List.mem_append, mem_sortA hp, mem_sortA hpb]
  constructor
  · rintro (h | h)
    · exact f.hgoals x h
    · exact hb x h
  · intro h
    rcases f.why x h with h | ⟨y, hy, h⟩
    · exact .inl h
    · exact .inr (List.mem_flatMap.2 ⟨y, hy, h⟩)
theorem flat_len {f : AtomD → List AtomD} {n : Nat} (h : ∀ x, (f x).length ≤ n) : ∀ l : List AtomD, (l.flatMap f).length ≤ n * l.length
  | [] => by simp
  | x :: l => by
    have := flat_len h l
    have := h x
    rw [List.flatMap_cons, List.length_append, List.length_cons, Nat.mul_succ]
    omega
theorem ok_reasonNeeds (l : List ReasonD) (goals : List AtomD) (v u : Value) (h : Heap) (hl : Sl Rep.reason h v l) (hg : Sl Rep.atom h u goals) (K : Value → Heap → Prop)
    (hk : ∀ h', Ext h h' → K (.bool true) h') : Ok Try.prog tab ov 8 [v, u] h K := by
  rw [lay_nil h]
  have z := Ext.refl h
  have hva := vSelf v
  have hvu := vSelf u
  have hlg := fun (hh : Heap) => hg.lenA ds23 hh
  refine Ok.into rfl tab_fn8 (bodyF N8) rfl (m := 145) rfl ?_
  simp -implicitDefEqProofs only [syms, symx, seval, c8, hva, hvu]
  refine Ok.over (g := trueA) rfl rfl ?_
  simp -implicitDefEqProofs only [syms, symx, seval, c8, hva, hvu]
  repeat' ((first | ((with_reducible first | apply forkD | apply forkB | apply forkN | apply forkNP | apply forkNot) <;> intro _) | ((with_reducible_and_instances apply unop_not); (· rfl))) <;> simp -implicitDefEqProofs only [syms, symx, seval, c8, hva, hvu])
  refine ok_lightReasonsS l v _ (hl.lay _ _) _ (fun hn hr h' x => ?_) (fun h' x => ?_)
  rotate_left
  · ((skip); replace z := z.overW x (by (try simp only [lsz]); omega); rw [lay_nil h'])
    repeat' (first | simp -implicitDefEqProofs only [syms, symx, seval, c8] | ((with_reducible first | apply forkD | apply forkB | apply forkN | apply forkNP | apply forkNot) <;> intro _) | ((with_reducible_and_instances apply unop_not); (· rfl)))
    exact hk _ (z.upW _ _ (by omega))
  ((skip); replace z := z.overW x (by (try simp only [lsz]); omega); rw [lay_nil h'])
  repeat' (first | simp -implicitDefEqProofs only [syms, symx, seval, c8, hvu] | ((with_reducible first | apply forkD | apply forkB | apply forkN | apply forkNP | apply forkNot) <;> intro _) | ((with_reducible_and_instances apply unop_not); (· rfl)))
  refine ok_lights goals u 6 _ ((hg.mono z.inc).lay _ _) _ (fun e3 e4 h' x => ?_) (fun h' x => ?_)
  rotate_left
  · ((skip); replace z := z.overW x (by (try simp only [lsz]); omega); rw [lay_nil h'])
    repeat' (first | simp -implicitDefEqProofs only [syms, symx, seval, c8] | ((with_reducible first | apply forkD | apply forkB | apply forkN | apply forkNP | apply forkNot) <;> intro _) | ((with_reducible_and_instances apply unop_not); (· rfl)))
    exact hk _ (z.upW _ _ (by omega))
  ((skip); replace z := z.overW x (by (try simp only [lsz]); omega); rw [lay_nil h'])
  repeat' (first | simp -implicitDefEqProofs only [syms, symx, seval, c8, hvu] | ((with_reducible first | apply forkD | apply forkB | apply forkN | apply forkNP | apply forkNot) <;> intro _) | ((with_reducible_and_instances apply unop_not); (· rfl)))
  refine ok_plainS goals u _ ((hg.mono z.inc).lay _ _) (by omega) e4 _ (fun hp h' x => ?_) (fun h' x => ?_)
  rotate_left
  · ((skip); replace z := z.overW x (by (try simp only [lsz]); omega); rw [lay_nil h'])
    repeat' (first | simp -implicitDefEqProofs only [syms, symx, seval, c8] | ((with_reducible first | apply forkD | apply forkB | apply forkN | apply forkNP | apply forkNot) <;> intro _) | ((with_reducible_and_instances apply unop_not); (· rfl)))
    exact hk _ (z.upW _ _ (by omega))
  ((skip); replace z := z.overW x (by (try simp only [lsz]); omega); rw [lay_nil h'])
  repeat' (first | simp -implicitDefEqProofs only [syms, symx, seval, c8, hva, hvu] | ((with_reducible first | apply forkD | apply forkB | apply forkN | apply forkNP | apply forkNot) <;> intro _) | ((with_reducible_and_instances apply unop_not); (· rfl)))
  refine ok_needs l goals v u _ ((hl.mono z.inc).lay _ _) ((hg.mono z.inc).lay _ _) hn hr (by omega) e4 hp _ (fun hfd h' w out x so hN hlo hol => ?_) (fun hfd h' x => ?_)
  rotate_left
  · ((skip); replace z := z.overW x (by (try simp only [lsz]); omega); rw [lay_nil h'])
    simp -implicitDefEqProofs only [syms, symx, seval, c8]
    exact hk _ (z.upW _ _ (by omega))
  ((skip); replace z := z.overW x (by (try simp only [lsz]); omega); rw [lay_nil h'])
  obtain ⟨hb, ehb⟩ : ∃ hb, hb = h' := ⟨_, rfl⟩
  subst ehb
  have i0 := Inc.refl hb
  have hvw := vSelf w
  have hlo1 := fun (hh : Heap) => so.lenA ds23 hh
  have hzb := z.size
  simp -implicitDefEqProofs only [syms, symx, seval, c8, hvw]
  try refine forkN (fun hh => absurd rfl hh) (fun _ => ?_)
  repeat' (first | simp -implicitDefEqProofs only [syms, symx, seval, c8, hvw] | ((with_reducible first | apply forkD | apply forkB | apply forkN | apply forkNP | apply forkNot) <;> intro _) | ((with_reducible_and_instances apply unop_not); (· rfl)))
  refine ok_isR out w _ ((so.mono i0).lay _ _) (by omega) hlo _ (fun h' x => ?_)
  rw [isA_iff.2 hN.asc]
  ((skip); replace z := z.overW x (by (try simp only [lsz]); omega); (try replace i0 := i0.over x); rw [lay_nil h'])
  repeat' (first | simp -implicitDefEqProofs only [syms, symx, seval, c8, hvw] | ((with_reducible first | apply forkD | apply forkB | apply forkN | apply forkNP | apply forkNot) <;> intro _) | ((with_reducible_and_instances apply unop_not); (· rfl)))
  obtain ⟨I1, hI1⟩ : ∃ I : Nat → Env → Heap → Prop, I = (fun n e h' => ∃ (i : Nat) (wf : Value) (A : Nat) (h1 : Heap), h' = h1.lay [] h1.low ∧ Ext h h1 ∧ (n = out.length - i ∧ i ≤ out.length ∧ Inc hb h1 ∧ Ow Rep.atom hb h1 39 A wf ((out.take i).flatMap (bodyOf l))) ∧ ∃ J : Nat → Value, e = (v :: u :: jr J 2 3 (w :: J 6 :: wf :: .int .i64 i :: jr J 9 138 ([])))) := ⟨_, rfl⟩
  refine W_loopN I1 _ (by rw [hI1]; exact ⟨0, .slice none 0 0, hb.size, _, rfl, z, ⟨rfl, by omega, i0, Ow.nil (Nat.le_refl _)⟩, junk (by kernel_rfl)⟩) ?_
  intro n e h' hin
  rw [hI1] at hin
  obtain ⟨i, wf, A, h1', rfl, z, hinv, J, rfl⟩ := hin
  clear i0
  obtain ⟨rfl, hi, i0, ho⟩ := hinv
  have hwi : IntKind.i64.wrap ((i : Int) + 1) = ((i + 1 : Nat) : Int) := by rw [wrap_i64 (by omega) (by omega)]; omega
  have hvf := vSelf wf
  simp -implicitDefEqProofs only [syms, symx, seval, c8, hvw, hlo1]
  refine forkD (fun hlt1 => ?_) (fun hlt1 => ?_)
  rotate_left
  · rw [List.take_of_length_le (by omega)] at ho
    have sf := ho.sl (by decide)
    have hll := sortA_length goals
    have hall := needs_all hN hp
    have hbi := bodies_in hN
    have hacl := flat_len (f := bodyOf l) (n := 6) (fun x => bodyOf_len (fun r hr' => (hr r hr').len)) out
    have hasl := asc_sub_len (sortA_of (out.flatMap (bodyOf l))).asc hN.asc (fun x hx => hbi x ((sortA_of _).mem hx))
    generalize out.flatMap (bodyOf l) = acc at *
    clear hI1 ho
    repeat' (first | simp -implicitDefEqProofs only [syms, symx, seval, c8, hvu, hvf] | ((with_reducible first | apply forkD | apply forkB | apply forkN | apply forkNP | apply forkNot) <;> intro _) | ((with_reducible_and_instances apply unop_not); (· rfl)))
    refine ok_sortedR goals.length goals u _ (Nat.le_refl _) ((hg.mono z.inc).lay _ _) (by omega) e4 _ (fun h' wg x og => ?_)
    replace og := (og.own (by omega)).sl
    ((skip); replace z := z.overW x (by (try simp only [lsz]); omega); (try replace i0 := i0.over x); (try replace sf := sf.over x); rw [lay_nil h'])
    have hvg := vSelf wg
    repeat' (first | simp -implicitDefEqProofs only [syms, symx, seval, c8, hvg, hvf] | ((with_reducible first | apply forkD | apply forkB | apply forkN | apply forkNP | apply forkNot) <;> intro _) | ((with_reducible_and_instances apply unop_not); (· rfl)))
    refine ok_sortedR acc.length acc wf _ (Nat.le_refl _) (sf.lay _ _) (by omega) (fun x hx => hlo x (hbi x hx)) _ (fun h' wc x oc => ?_)
    replace oc := (oc.own (by omega)).sl
    ((skip); replace z := z.overW x (by (try simp only [lsz]); omega); (try replace i0 := i0.over x); (try replace sf := sf.over x); (try replace og := og.over x); rw [lay_nil h'])
    have hvc := vSelf wc
    have cg := sl_cells og
    have cc := sl_cells oc
    repeat' (first | simp -implicitDefEqProofs only [syms, symx, seval, c8, hvg, hvc, fill_sl2 cg cc] | ((with_reducible first | apply forkD | apply forkB | apply forkN | apply forkNP | apply forkNot) <;> intro _) | ((with_reducible_and_instances apply unop_not); (· rfl)))
    have hfl : [sortA goals, sortA acc].flatten = sortA goals ++ sortA acc := by simp
    refine ok_mergeR [sortA goals, sortA acc] _ _ (sl_laid2 og oc) (by simp) (by rw [hfl, List.length_append]; omega) (by rw [hfl]; intro x hx; exact (List.mem_append.1 hx).elim (fun hx => sortA_light e4 x hx) (fun hx => hlo x (hbi x ((sortA_of _).mem hx)))) _ (fun h' wm x om => ?_)
    rw [hall] at om
    replace om := (om.own (by omega)).sl
    ((skip); replace z := z.overW x (by (try simp only [lsz]); omega); (try replace i0 := i0.over x); rw [lay_nil h'])
    have hvm := vSelf wm
    have hlm := fun (hh : Heap) => om.lenA ds23 hh
    simp -implicitDefEqProofs only [syms, symx, seval, c8, hvm, hvw, hvu, hlm, hlo1, hlg]
    have hzg : goals.length ≠ 0 ∨ out.length = 0 := by
      by_cases e : goals.length = 0
      · rw [List.length_eq_zero_iff.1 e] at hN
        rw [hN.none]
        exact .inr rfl
      · exact .inl e
    repeat' ((first | ((with_reducible first | apply forkD | apply forkB | apply forkN | apply forkNP | apply forkNot) <;> intro _) | ((with_reducible_and_instances apply unop_not); (· rfl))) <;> simp -implicitDefEqProofs only [syms, symx, seval, c8, hvm, hvw, hvu, hlm, hlo1, hlg])
    iterate 4
      first
        | exact hk _ (z.upW _ _ (by omega))
        | (exfalso; omega)
        | skip
    obtain ⟨u1, gu, su⟩ : ∃ u1, sliceA tab 23 u (some (.int .i64 1)) none none = some u1 ∧ Sl Rep.atom h u1 (goals.drop 1) := by
      obtain ⟨u1, g1, g2⟩ := hg.sub (a := 1) (b := goals.length) (by decide) ds23 sz39 (.inr ⟨.i64, rfl⟩) (.inl ⟨rfl, rfl⟩) (by omega) (Nat.le_refl _)
      exact ⟨u1, by simpa using g1, by simpa using g2⟩
    have hvu1 := vSelf u1
    repeat' (first | simp -implicitDefEqProofs only [syms, symx, seval, c8, gu, hvu1, hva] | ((with_reducible first | apply forkD | apply forkB | apply forkN | apply forkNP | apply forkNot) <;> intro _) | ((with_reducible_and_instances apply unop_not); (· rfl)))
    refine ok_needs l (goals.drop 1) v u1 _ ((hl.mono z.inc).lay _ _) ((su.mono z.inc).lay _ _) hn hr (by rw [List.length_drop]; omega) (fun x hx => e4 x (List.mem_of_mem_drop hx)) (fun x hx => hp x (List.mem_of_mem_drop hx)) _ (fun hfd2 h' w2 out2 x so2 hN2 hlo2 hol2 => ?_) (fun hfd2 h' x => ?_)
    rotate_left
    · obtain ⟨g, hg1, hg2⟩ := hfd2
      rw [hfd g (List.mem_of_mem_drop hg1)] at hg2
      cases hg2
    ((skip); replace z := z.overW x (by (try simp only [lsz]); omega); (try replace i0 := i0.over x); rw [lay_nil h'])
    have hsub := hN2.fewer hN (fun x hx => List.mem_of_mem_drop hx)
    have hvw2 := vSelf w2
    have hln2 := fun (hh : Heap) => so2.lenA ds23 hh
    repeat' (first | simp -implicitDefEqProofs only [syms, symx, seval, c8, hvw2, hvw] | ((with_reducible first | apply forkD | apply forkB | apply forkN | apply forkNP | apply forkNot) <;> intro _) | ((with_reducible_and_instances apply unop_not); (· rfl)))
    obtain ⟨I2, hI2⟩ : ∃ I : Nat → Env → Heap → Prop, I = (fun n e h' => ∃ (k : Nat) (h1 : Heap), h' = h1.lay [] h1.low ∧ Ext h h1 ∧ (n = out2.length - k ∧ k ≤ out2.length ∧ Inc hb h1 ∧ Sl Rep.atom h1 w2 out2) ∧ ∃ J : Nat → Value, e = (jr J 0 5 (w :: jr J 6 7 (w2 :: .int .i64 0 :: .int .i64 k :: jr J 16 131 ([]))))) := ⟨_, rfl⟩
    refine W_loopN I2 _ (by rw [hI2]; exact ⟨0, _, rfl, z, ⟨rfl, by omega, i0, so2⟩, junk (by kernel_rfl)⟩) ?_
    intro n e h' hin
    rw [hI2] at hin
    obtain ⟨k, h1', rfl, z, hinv, J, rfl⟩ := hin
    clear i0 so2
    obtain ⟨rfl, hk2, i0, so2⟩ := hinv
    have hwk : IntKind.i64.wrap ((k : Int) + 1) = ((k + 1 : Nat) : Int) := by rw [wrap_i64 (by omega) (by omega)]; omega
    simp -implicitDefEqProofs only [syms, symx, seval, c8, hvw2, hln2]
    refine forkD (fun hlt4 => ?_) (fun hlt4 => ?_)
    rotate_left
    · repeat' (first | simp -implicitDefEqProofs only [syms, symx, seval, c8] | ((with_reducible first | apply forkD | apply forkB | apply forkN | apply forkNP | apply forkNot) <;> intro _) | ((with_reducible_and_instances apply unop_not); (· rfl)))
      exact hk _ (z.upW _ _ (by omega))
    obtain ⟨y0, hy, hy'⟩ := amElem (l := out2) (i := k) (by omega)
    have hyin := hsub y0 (List.mem_of_getElem? hy')
    repeat' (first | simp -implicitDefEqProofs only [syms, symx, seval, c8, hvw, hvw2] | ((with_reducible first | apply forkD | apply forkB | apply forkN | apply forkNP | apply forkNot) <;> intro _) | with_reducible_and_instances refine ixa_at so2 ds23 sz39 (by omega) hy (fun p hp => ?_) | with_reducible_and_instances refine lda hp ag39 sz39 ?_ | ((with_reducible_and_instances apply unop_not); (· rfl)))
    refine ok_hasR out y0 w _ ((so.mono i0).lay _ _) (by omega) hlo (hlo y0 hyin) _ (fun h' x => ?_)
    rw [(hasA_mem hN.plain (hN.plain y0 hyin)).2 hyin]
    ((skip); replace z := z.overW x (by (try simp only [lsz]); omega); (try replace i0 := i0.over x); (try replace so2 := so2.over x); rw [lay_nil h'])
    repeat' (first | simp -implicitDefEqProofs only [syms, symx, seval, c8] | ((with_reducible first | apply forkD | apply forkB | apply forkN | apply forkNP | apply forkNot) <;> intro _) | with_reducible_and_instances refine ixa_at so2 ds23 sz39 (by omega) hy (fun p hp => ?_) | with_reducible_and_instances refine lda hp ag39 sz39 ?_ | ((with_reducible_and_instances apply unop_not); (· rfl)))
    rw [hwk]
    (rw [hI2]; with_reducible refine loopN_normal (m := _) ?_ ⟨k + 1, _, rfl, z, ⟨rfl, by omega, i0, so2⟩, junk (by kernel_rfl)⟩; omega)
  obtain ⟨x0, hx, hx'⟩ := amElem (l := out) (i := i) (by omega)
  repeat' (first | simp -implicitDefEqProofs only [syms, symx, seval, c8, hva, hvw] | ((with_reducible first | apply forkD | apply forkB | apply forkN | apply forkNP | apply forkNot) <;> intro _) | with_reducible_and_instances refine ixa_at (so.mono i0) ds23 sz39 (by omega) hx (fun p hp => ?_) | with_reducible_and_instances refine lda hp ag39 sz39 ?_ | ((with_reducible_and_instances apply unop_not); (· rfl)))
  refine ok_find l v x0 _ ((hl.mono z.inc).lay _ _) (by omega) _ (fun h' v' x hv' => ?_)
  replace hv' : v' = if hasR l x0 then .tuple #[.int .i64 (idxP (fun x => decide (x.atom = x0)) l), .bool true] else .tuple #[.int .i64 0, .bool false] := hv'
  ((skip); replace z := z.overW x (by (try simp only [lsz]); omega); (try replace i0 := i0.over x); (try replace ho := ho.over x); rw [lay_nil h'])
  have hmem0 : x0 ∈ out := List.mem_of_getElem? hx'
  have htk : (out.take (i + 1)).flatMap (bodyOf l) = (out.take i).flatMap (bodyOf l) ++ bodyOf l x0 := by
    rw [List.take_add_one, hx', List.flatMap_append]
    simp
  obtain ⟨b, kk, hv2, hbb, hkk⟩ : ∃ (b : Bool) (kk : Int), v' = .tuple #[.int .i64 kk, .bool b] ∧ (b = false → bodyOf l x0 = []) ∧ (b = true → ∃ (i0 : Nat) (r : ReasonD), kk = i0 ∧ i0 < l.length ∧ l[i0]? = some r ∧ bodyOf l x0 = r.body) := by
    cases hb : hasR l x0
    · rw [hb, if_neg (by decide)] at hv'
      exact ⟨false, 0, hv', fun _ => findR_no hb, (fun e => by cases e)⟩
    · rw [hb, if_pos rfl] at hv'
      obtain ⟨i0, h1, h2, r, h3, h4, h5⟩ := findR hb
      exact ⟨true, _, hv', (fun e => by cases e), fun _ => ⟨i0, r, h1, h2, h3, h5⟩⟩
  subst hv2
  have fb := fork_var b
  have hb6 : (bodyOf l x0).length ≤ 6 := bodyOf_len (fun r hr' => (hr r hr').len)
  repeat' (first | simp -implicitDefEqProofs only [syms, symx, seval, c8, fb] | ((with_reducible first | apply forkD | apply forkB | apply forkN | apply forkNP | apply forkNot) <;> intro _) | with_reducible_and_instances refine ixa_at (so.mono i0) ds23 sz39 (by omega) hx (fun p hp => ?_) | with_reducible_and_instances refine lda hp ag39 sz39 ?_ | ((with_reducible_and_instances apply unop_not); (· rfl)))
  obtain ⟨I3, hI3⟩ : ∃ I : Nat → Env → Heap → Prop, I = (fun n e h' => ∃ (j : Nat) (wf : Value) (A : Nat) (h1 : Heap), h' = h1.lay [] h1.low ∧ Ext h h1 ∧ (n = (bodyOf l x0).length - j ∧ j ≤ (bodyOf l x0).length ∧ Inc hb h1 ∧ Ow Rep.atom hb h1 39 A wf ((out.take i).flatMap (bodyOf l) ++ (bodyOf l x0).take j)) ∧ ∃ J : Nat → Value, e = (v :: u :: jr J 2 3 (w :: J 6 :: wf :: .int .i64 i :: .int .i64 kk :: .bool b :: .int .i64 j :: jr J 12 135 ([])))) := ⟨_, rfl⟩
  refine W_loopN I3 _ (by rw [hI3]; exact ⟨0, wf, A, _, rfl, z, ⟨rfl, by omega, i0, by simpa using ho⟩, junk (by kernel_rfl)⟩) ?_
  intro n e h' hin
  rw [hI3] at hin
  obtain ⟨j, wf, A, h1', rfl, z, hinv, J, rfl⟩ := hin
  clear i0 ho
  obtain ⟨rfl, hj, i0, ho⟩ := hinv
  have hwj : IntKind.i64.wrap ((j : Int) + 1) = ((j + 1 : Nat) : Int) := by rw [wrap_i64 (by omega) (by omega)]; omega
  have hvf := vSelf wf
  cases b
  · have hbn := hbb rfl
    rw [hbn, List.take_nil] at ho
    rw [hbn] at htk
    repeat' (first | simp -implicitDefEqProofs only [syms, symx, seval, c8] | ((with_reducible first | apply forkD | apply forkB | apply forkN | apply forkNP | apply forkNot) <;> intro _) | with_reducible_and_instances refine ixa_at (so.mono i0) ds23 sz39 (by omega) hx (fun p hp => ?_) | with_reducible_and_instances refine lda hp ag39 sz39 ?_ | ((with_reducible_and_instances apply unop_not); (· rfl)))
    rw [hwi]
    (rw [hI1]; with_reducible refine loopN_normal (m := _) ?_ ⟨i + 1, wf, A, _, rfl, z, ⟨rfl, by omega, i0, by rw [htk]; exact ho⟩, junk (by kernel_rfl)⟩; omega)
  obtain ⟨k0, r, rfl, hil, hr1, hr3⟩ := hkk rfl
  have hrR : l[(k0 : Int).toNat]? = some r := by simpa using hr1
  have hbe : (bodyOf l x0).length = r.body.length := by rw [hr3]
  repeat' (first | simp -implicitDefEqProofs only [syms, symx, seval, c8, hva, hvw] | ((with_reducible first | apply forkD | apply forkB | apply forkN | apply forkNP | apply forkNot) <;> intro _) | with_reducible_and_instances refine ixr_base hl z.inc ds24 sz41 (by omega) hrR (fun p bd hbd hp => ?_) | with_reducible_and_instances refine fdr2 hp fa41_2 (fun q hq => ?_) | with_reducible_and_instances refine ld_one hq ag23 ?_ | with_reducible_and_instances refine ln_rule hbd ds23 ?_ | ((with_reducible_and_instances apply unop_not); (· rfl)))
  rotate_left
  · rw [List.take_of_length_le (l := bodyOf l x0) (by omega)] at ho
    repeat' (first | simp -implicitDefEqProofs only [syms, symx, seval, c8] | ((with_reducible first | apply forkD | apply forkB | apply forkN | apply forkNP | apply forkNot) <;> intro _) | with_reducible_and_instances refine ixr_base hl z.inc ds24 sz41 (by omega) hrR (fun p bd hbd hp => ?_) | with_reducible_and_instances refine fdr2 hp fa41_2 (fun q hq => ?_) | with_reducible_and_instances refine ld_one hq ag23 ?_ | with_reducible_and_instances refine ln_rule hbd ds23 ?_ | ((with_reducible_and_instances apply unop_not); (· rfl)))
    rw [hwi]
    (rw [hI1]; with_reducible refine loopN_normal (m := _) ?_ ⟨i + 1, wf, A, _, rfl, z, ⟨rfl, by omega, i0, by rw [htk]; exact ho⟩, junk (by kernel_rfl)⟩; omega)
  obtain ⟨b0, hbr, hbr'⟩ := amElem (l := r.body) (i := j) (by omega)
  have hmem : b0 ∈ bodyOf l x0 := by rw [hr3]; exact List.mem_of_getElem? hbr'
  have hin := hN.closed x0 hmem0 b0 hmem
  have htj : (bodyOf l x0).take (j + 1) = (bodyOf l x0).take j ++ [b0] := by rw [List.take_add_one, hr3, hbr']; rfl
  repeat' (first | simp -implicitDefEqProofs only [syms, symx, seval, c8, hva, hvw] | ((with_reducible first | apply forkD | apply forkB | apply forkN | apply forkNP | apply forkNot) <;> intro _) | with_reducible_and_instances refine ixr_base hl z.inc ds24 sz41 (by omega) hrR (fun p bd hbd hp => ?_) | with_reducible_and_instances refine fdr2 hp fa41_2 (fun q hq => ?_) | with_reducible_and_instances refine ld_one hq ag23 ?_ | with_reducible_and_instances refine ixa_at (hbd.mono z.inc) ds23 sz39 (by omega) hbr (fun p hp => ?_) | with_reducible_and_instances refine lda hp ag39 sz39 ?_ | ((with_reducible_and_instances apply unop_not); (· rfl)))
  refine ok_hasR out b0 w _ ((so.mono i0).lay _ _) (by omega) hlo (hlo b0 hin) _ (fun h' x => ?_)
  rw [(hasA_mem hN.plain (hN.plain b0 hin)).2 hin]
  ((skip); replace z := z.overW x (by (try simp only [lsz]); omega); (try replace i0 := i0.over x); (try replace ho := ho.over x); rw [lay_nil h'])
  repeat' (first | simp -implicitDefEqProofs only [syms, symx, seval, c8, hva, hvf, fill_atom] | ((with_reducible first | apply forkD | apply forkB | apply forkN | apply forkNP | apply forkNot) <;> intro _) | with_reducible_and_instances refine ixr_base hl z.inc ds24 sz41 (by omega) hrR (fun p bd hbd hp => ?_) | with_reducible_and_instances refine fdr2 hp fa41_2 (fun q hq => ?_) | with_reducible_and_instances refine ld_one hq ag23 ?_ | with_reducible_and_instances refine ixa_at (hbd.mono z.inc) ds23 sz39 (by omega) hbr (fun p hp => ?_) | with_reducible_and_instances refine lda hp ag39 sz39 ?_ | ((with_reducible_and_instances apply unop_not); (· rfl)))
  simp -implicitDefEqProofs only [syms, symx, seval, c8, w_append, sty23]
  have hz2 := i0.size
  have hfr := ho.fresh
  have hac : ((out.take i).flatMap (bodyOf l) ++ (bodyOf l x0).take j).length ≤ 1900 := by
    have := flat_len (f := bodyOf l) (n := 6) (fun x => bodyOf_len (fun r hr' => (hr r hr').len)) (out.take i)
    rw [List.length_take] at this
    rw [List.length_append, List.length_take]
    omega
  obtain ⟨news, hs, hsr⟩ := src_sl (A := A) (r := Rep.atom) (by decide) (sl_laid1 (h := h') (a := b0) (u := 39) (ro := false) (w := h'.low)) (fun cs y hr => hr)
  refine ap_rule (r := Rep.atom) ds23 tab_info39 rfl (by decide) hz2 ho hs hsr (by simp only [List.length_cons, List.length_nil]; omega) (by simp only [List.length_cons, List.length_nil]; omega) (fun w' h2 A' o2 c2 hA2 => ?_)
  replace i0 := inc_chg (i0.trans (Inc.lay _ _ _)) c2 hfr
  replace z := z.stepW c2 (by omega) (by omega)
  rw [lay_nil h2]
  have hvf2 : ∀ (h : Heap) (K : Value → Heap → Prop), valE (some w') h K = K w' h := fun _ _ => rfl
  repeat' (first | simp -implicitDefEqProofs only [syms, symx, seval, c8, hvf2] | ((with_reducible first | apply forkD | apply forkB | apply forkN | apply forkNP | apply forkNot) <;> intro _) | with_reducible_and_instances refine ixr_base hl z.inc ds24 sz41 (by omega) hrR (fun p bd hbd hp => ?_) | with_reducible_and_instances refine fdr2 hp fa41_2 (fun q hq => ?_) | with_reducible_and_instances refine ld_one hq ag23 ?_ | with_reducible_and_instances refine ixa_at (hbd.mono z.inc) ds23 sz39 (by omega) hbr (fun p hp => ?_) | with_reducible_and_instances refine lda hp ag39 sz39 ?_ | ((with_reducible_and_instances apply unop_not); (· rfl)))
  rw [hwj]
  (rw [hI3]; with_reducible refine loopN_normal (m := _) ?_ ⟨j + 1, w', A', _, rfl, z, ⟨rfl, by omega, i0, by rw [htj, ← List.append_assoc]; exact o2⟩, junk (by kernel_rfl)⟩; omega)
end Go.Proofs.Ytompindebndddaa
namespace Go.Proofs.Ytompindebndddaa
open Go.ChangeShapes Go.WideShapes Go.ChangeAt Go.RowKit Go.Am
theorem reasonNeeds_own : ownKnob Try.prog.godebug = none := by kernel_rfl
theorem reasonNeeds_laidOut : laidOutB Try.prog = true := by kernel_rfl
set_option maxRecDepth 100000 in
theorem reasonNeeds_ok (h : Heap) (args : List Value) (_ : h.low = h.size) (hs : ArgsShp Try.prog h 8 Try.f8.params.toList args) : Ok Try.prog tab ov 8 args h fun v h' => v = .bool true ∧ Ext h h' := by
  have hp : Try.f8.params.toList = [24, 23] := by kernel_rfl
  have hs2 : ArgsShp Try.prog h 8 [24, 23] args := argsShp_eq hp hs
  clear hs
  obtain ⟨x0, r0, rfl, h0, hs2⟩ := argsShp_cons hs2
  obtain ⟨x1, r1, rfl, h1, hs2⟩ := argsShp_cons hs2
  obtain rfl := argsShp_nil hs2
  obtain ⟨d0, f0⟩ := arg_reasons h0
  obtain ⟨d1, f1⟩ := arg_atoms h1
  exact ok_reasonNeeds d0 d1 x0 x1 h f0 f1 _ (fun h' x => ⟨rfl, x⟩)
set_option maxRecDepth 100000 in
theorem reasonNeeds_lifted (os : Os) (started : os.Started) (H : Type) (enc : TypeId × Value → H) :
    ReturnsInHanded {} Try.checked os 8 .any (Rows.reasonNeedsSpec.pre6 enc Try.prog Try.f8 Rows.reasonNeedsRow.domain false) (Rows.reasonNeedsSpec.post enc Try.prog Try.f8 Rows.reasonNeedsRow.apart Rows.reasonNeedsRow.fresh Rows.reasonNeedsRow.handsOn Rows.reasonNeedsRow.again) := by
  refine returnsInHanded_of_change_shaped (C := Try.checked) reasonNeeds_own started (by kernel_rfl) Try.func8
    (ChangeSpec.witness6 (enc := enc) (C := Try.checked) false ⟨#[], #[.slice none 0 0, .slice none 0 0], []⟩ 12 (by kernel_rfl) (by kernel_rfl) (by kernel_rfl) (by kernel_rfl)) ?_
  intro W base args ds gs before hval hW _ _ hsh _
  exact law_contract (n := 8) (boolT := 4) mixed tab_fits rfl ov_ok rfl (of_decide_eq_true (by kernel_rfl)) reasonNeeds_laidOut rfl (by kernel_rfl) (by kernel_rfl) Try.underlying4 (by kernel_rfl) (by kernel_rfl)
    (fun ds hd => by
      have hp : Try.f8.params.size = 2 := by kernel_rfl
      rw [hp] at hd
      match ds, hd with
      | [_, _], _ => rfl)
    reasonNeeds_ok hval hW hsh
theorem reasonNeeds_holds : Rows.ReasonNeedsSaid :=
  OpenClaim.holds_of_wide 8 Try.f8 rfl rfl rfl rfl rfl rfl rfl ⟨rfl, rfl, rfl, rfl, rfl⟩ rfl rfl rfl rfl rfl (by kernel_rfl) Try.func8 (by kernel_rfl)
    (of_decide_eq_true (by kernel_rfl)) (by unfold Func.isWrapper; first | (rw [if_pos (by decide +kernel)]; kernel_rfl) | (rw [if_neg (by decide +kernel)]; exact ⟨rfl, rfl⟩))
    (fun os started H enc _ => reasonNeeds_lifted os started H enc)
#print axioms reasonNeeds_holds
end Go.Proofs.Ytompindebndddaa

/- The code of some functions, node by node, for simp. Written by a program (mkcode.py). No condition. -/
import Derived.Test.YtompindebndddaaG30
import Derived.Test.YtompindebndddaaG27
import Derived.KernelRfl
import Derived.Test.YtompindebndddaaG38
import Derived.Test.YtompindebndddaaG43
import Derived.Test.YtompindebndddaaG31
import Derived.Test.YtompindebndddaaG24
import Derived.Test.YtompindebndddaaGTodo
import Derived.Test.YtompindebndddaaZK10
import Derived.Test.YtompindebndddaaG35
import Derived.Test.YtompindebndddaaG25
namespace Go.Proofs.Ytompindebndddaa
open Go.Am
set_option linter.unusedVariables false
set_option linter.unusedSimpArgs false
set_option maxRecDepth 100000
set_option maxHeartbeats 0
noncomputable def N47 := nodeF Try.f47
noncomputable def x47 := PLift.up (by have c := factsOf N47 Try.f47; simp only [codeOf, Try.f47, Option.getD_some, factsF, opsF, opsX, ncount, wantG, dstL, quietS, List.append_eq, List.cons_append, List.nil_append, seval] at c; exact nd c <| nd @al39 <| nd @bs23 <| nd @fa41_2 <| nd @ix23 <| nd @ix24 <| nd @ld23 <| nd @ld39 <| nd @ln23 <| @fi47)
theorem c47 : type_of% x47.down := x47.down
noncomputable def N8 := nodeF Try.f8
noncomputable def x8 := PLift.up (by have c := factsOf N8 Try.f8; simp only [codeOf, Try.f8, Option.getD_some, factsF, opsF, opsX, ncount, wantG, dstL, quietS, List.append_eq, List.cons_append, List.nil_append, seval] at c; exact nd c <| nd @bs23 <| nd @bs81 <| nd @fa41_2 <| nd @ix23 <| nd @ix24 <| nd @ld23 <| nd @ld39 <| nd @ln23 <| @fi8)
end Go.Proofs.Ytompindebndddaa
namespace Go.Proofs.Ytompindebndddaa
open Go.Am
set_option linter.unusedSimpArgs false
set_option linter.unusedVariables false
set_option maxRecDepth 100000
set_option maxHeartbeats 0
def hasR (l : List ReasonD) (a : AtomD) : Bool := l.any (fun x => decide (x.atom = a))
theorem findR {l : List ReasonD} {a : AtomD} (h : hasR l a = true) : ∃ i : Nat, idxP (fun x => decide (x.atom = a)) l = i ∧ i < l.length ∧ ∃ r, l[i]? = some r ∧ r.atom = a ∧ bodyOf l a = r.body := by
  induction l with
  | nil => simp [hasR] at h
  | cons r l ih =>
    by_cases e : r.atom = a
    · refine ⟨0, ?_, by simp, r, rfl, e, ?_⟩
      · unfold idxP
        simp [List.findIdx?_cons, e]
      · unfold bodyOf
        simp [e]
    · have h2 : hasR l a = true := by
        unfold hasR at h ⊢
        simpa [e] using h
      obtain ⟨i, h3, h4, r2, h5, h6, h7⟩ := ih h2
      refine ⟨i + 1, ?_, by simp; omega, r2, by simpa using h5, h6, ?_⟩
      · unfold idxP at h3 ⊢
        rw [List.findIdx?_cons]
        simp only [e, decide_false]
        cases hf : l.findIdx? (fun x => decide (x.atom = a)) with
        | none => rw [hf] at h3; simp at h3
        | some j => rw [hf] at h3; simp at h3 ⊢; omega
      · unfold bodyOf at h7 ⊢
        have : (r.atom == a) = false := by simpa using e
        rw [List.find?_cons, this]
        exact h7
theorem findR_no {l : List ReasonD} {a : AtomD} (h : hasR l a = false) : bodyOf l a = [] := by
  unfold bodyOf
  have : l.find? (fun r => r.atom == a) = none := by
    rw [List.find?_eq_none]
    intro r hr e
    unfold hasR at h
    rw [List.any_eq_false] at h
    have := h r hr
    simp at this e
    exact this e
  rw [this]
theorem ok_needs (l : List ReasonD) (goals : List AtomD) (v u : Value) (h : Heap) (hl : Sl Rep.reason h v l) (hg : Sl Rep.atom h u goals) (hn : l.length ≤ 40) (hr : ∀ r ∈ l, PlainR r) (hgl : goals.length ≤ 10) (hgi : ∀ x ∈ goals, x.light = true) (hgp : AllP goals) (K : Value → Heap → Prop)
    (h1k : (∀ g ∈ goals, hasR l g = true) → ∀ h' w out, Ext h h' → Sl Rep.atom h' w out → NeedsOf l goals out → (∀ x ∈ out, x.light = true) → out.length ≤ 900 → K (.tuple #[w, .int .i64 0]) h')
    (h2k : (∃ g ∈ goals, hasR l g = false) → ∀ h', Ext h h' → K (.tuple #[.slice none 0 0, .int .i64 13]) h') : Ok Try.prog tab ov 47 [v, u] h K := by
  rw [lay_nil h]
  have z := Ext.refl h
  have hva := vSelf v
  have hvu := vSelf u
  have hlg := fun (hh : Heap) => hg.lenA ds23 hh
  refine Ok.into rfl tab_fn47 (bodyF N47) rfl (m := 74) rfl ?_
  repeat' ( simp -implicitDefEqProofs only [syms, symx, seval, c47, hva, hvu, hlg])
  obtain ⟨I1, hI1⟩ : ∃ I : Nat → Env → Heap → Prop, I = (fun n e h' => ∃ (i : Nat) (h1 : Heap), h' = h1.lay [] h1.low ∧ Ext h h1 ∧ (n = goals.length - i ∧ i ≤ goals.length ∧ ∀ x ∈ goals.take i, hasR l x = true) ∧ ∃ J : Nat → Value, e = (v :: u :: jr J 2 16 (u :: .int .i64 goals.length :: .int .i64 i :: jr J 21 55 ([])))) := ⟨_, rfl⟩
  refine W_loopN I1 _ (by rw [hI1]; exact ⟨0, _, rfl, z, ⟨rfl, by omega, by simp⟩, junk (by kernel_rfl)⟩) ?_
  intro n e h' hin
  rw [hI1] at hin
  obtain ⟨i, h1', rfl, z, hinv, J, rfl⟩ := hin
  obtain ⟨rfl, hi, hall⟩ := hinv
  have hwi : IntKind.i64.wrap ((i : Int) + 1) = ((i + 1 : Nat) : Int) := by rw [wrap_i64 (by omega) (by omega)]; omega
  simp -implicitDefEqProofs only [syms, symx, seval, c47, hvu]
  refine forkD (fun hlt1 => ?_) (fun hlt1 => ?_)
  · obtain ⟨g, hgr, hgr'⟩ := amElem (l := goals) (i := i) (by omega)
    repeat' (first | simp -implicitDefEqProofs only [syms, symx, seval, c47, hvu, hva] | with_reducible_and_instances refine ixa_at (hg.mono z.inc) ds23 sz39 (by omega) hgr (fun p hp => ?_) | with_reducible_and_instances refine lda hp ag39 sz39 ?_)
    refine store_laid sz39 rfl ?_
    repeat' ( simp -implicitDefEqProofs only [syms, symx, seval, c47, hva, ↓cut_atom, agg_atom, valE_atom])
    refine ok_find l v g _ ((hl.mono z.inc).lay _ _) (by omega) _ (fun h' v' x hv' => ?_)
    replace hv' : v' = if hasR l g then .tuple #[.int .i64 (idxP (fun x => decide (x.atom = g)) l), .bool true] else .tuple #[.int .i64 0, .bool false] := hv'
    ((skip); replace z := z.overW x (by (try simp only [lsz]); omega); rw [lay_nil h'])
    cases hb : hasR l g
    · rw [hb, if_neg (by decide)] at hv'
      subst hv'
      repeat' (first | simp -implicitDefEqProofs only [syms, symx, seval, c47] | ((with_reducible_and_instances apply unop_not); (· rfl)))
      exact h2k ⟨g, List.mem_of_getElem? hgr', hb⟩ _ (z.upW _ _ (by omega))
    · rw [hb, if_pos rfl] at hv'
      subst hv'
      repeat' (first | simp -implicitDefEqProofs only [syms, symx, seval, c47] | ((with_reducible_and_instances apply unop_not); (· rfl)))
      rw [hwi]
      (rw [hI1]; with_reducible refine loopN_normal (m := _) ?_ ⟨i + 1, _, rfl, z, ⟨rfl, by omega, take_all (i := i) (P := fun x => hasR l x = true) hgr' hall hb⟩, junk (by kernel_rfl)⟩; omega)
  rw [List.take_of_length_le (by omega)] at hall
  repeat' ( simp -implicitDefEqProofs only [syms, symx, seval, c47, hvu])
  refine ok_sorted goals u _ ((hg.mono z.inc).lay _ _) (by omega) hgi _ (fun h' w x ho => ?_)
  have hll := sortA_length goals
  have hlgt := sortA_light hgi
  have hst := NeedsTo.start (l := l) hgp
  replace ho := ho.sl
  ((skip); replace z := z.overW x (by (try simp only [lsz]); omega); rw [lay_nil h'])
  have hvw := vSelf w
  simp -implicitDefEqProofs only [syms, symx, seval, c47, hvw]
  repeat' ((first | ((with_reducible first | apply forkD | apply forkB | apply forkN | apply forkNP | apply forkNot) <;> intro _) | with_reducible_and_instances refine ixa_at (hg.mono z.inc) ds23 sz39 (by omega) hgr (fun p hp => ?_) | with_reducible_and_instances refine lda hp ag39 sz39 ?_ | ((with_reducible_and_instances apply unop_not); (· rfl))) <;> simp -implicitDefEqProofs only [syms, symx, seval, c47, hvw])
  have hz0 := z.size
  refine ok_cloneA (sortA goals) w _ (ho.lay _ _) (by omega) _ (fun h' wt x ot => ?_)
  replace ot := (ot.todo (by omega)).down (h0 := h) (by rw [lay_size]; omega)
  ((skip); replace z := z.overW x (by (try simp only [lsz]); omega); (try replace ho := ho.over x); rw [lay_nil h'])
  have hvt := vSelf wt
  repeat' ( simp -implicitDefEqProofs only [syms, symx, seval, c47, hvw, hvt])
  obtain ⟨M, hM⟩ : ∃ M, M = goals.length + (bodies l).length := ⟨_, rfl⟩
  have hM2 : M ≤ 810 := by
    have := bodies_len (n := 20) (fun r hr' => (hr r hr').len)
    omega
  have hpb : AllP (goals ++ bodies l) := hgp.app (fun x hx => by
    obtain ⟨r, hr1, hr2⟩ := List.mem_flatMap.1 hx
    exact (hr r hr1).plains x hr2)
  have hlb : ∀ x ∈ bodies l, x.light = true := fun x hx => by
    obtain ⟨r, hr1, hr2⟩ := List.mem_flatMap.1 hx
    exact (hr r hr1).lights x hr2
  have hs0 : (sortA goals).length ≤ M := by omega
  generalize sortA goals = s0 at *
  clear hI1
  obtain ⟨I2, hI2⟩ : ∃ I : Nat → Env → Heap → Prop, I = (fun n e h' => ∃ (out todo : List AtomD) (wo wt : Value) (h1 : Heap), h' = h1.lay [] h1.low ∧ Ext h h1 ∧ (n = 2 * (M - out.length) + todo.length ∧ out.length ≤ M ∧ NeedsTo l goals out todo ∧ (∀ x ∈ out, x.light = true) ∧ Sl Rep.atom h1 wo out ∧ OwnT h h1 39 wt todo ∧ 2 * (M - out.length) + todo.length ≤ 2 * M) ∧ ∃ J : Nat → Value, e = (v :: u :: jr J 2 8 (wo :: wt :: jr J 12 64 ([])))) := ⟨_, rfl⟩
  refine W_loopN I2 _ (by rw [hI2]; exact ⟨s0, s0, w, wt, _, rfl, z, ⟨rfl, hs0, hst, hlgt, ho, ot, by omega⟩, junk (by kernel_rfl)⟩) ?_
  intro n e h' hin
  rw [hI2] at hin
  obtain ⟨out, todo, wo, wt, h1', rfl, z, hinv, J, rfl⟩ := hin
  clear ho ot
  obtain ⟨rfl, hoM, hN, hlo, so, ot, hbd2⟩ := hinv
  have hvo := vSelf wo
  have hvt := vSelf wt
  have hlt2 := fun (hh : Heap) => ot.sl.lenA ds23 hh
  simp -implicitDefEqProofs only [syms, symx, seval, c47, hvo, hvt, hlt2]
  refine forkD (fun hpos => ?_) (fun hpos => ?_)
  rotate_left
  · have htn : todo = [] := List.length_eq_zero_iff.1 (by omega)
    rw [htn] at hN
    repeat' ( simp -implicitDefEqProofs only [syms, symx, seval, c47, hvo])
    exact h1k hall _ _ out (z.upW _ _ (by omega)) (so.lay _ _) hN.finish hlo (by omega)
  obtain ⟨x0, td, htd⟩ : ∃ x0 td, todo = x0 :: td := by
    cases todo with
    | nil => simp at hpos
    | cons a b => exact ⟨a, b, rfl⟩
  subst htd
  have hr0 : (x0 :: td)[(0 : Int).toNat]? = some x0 := rfl
  obtain ⟨wt', gt, ot'⟩ := ot.tail (T := tab) (t := 23) (kd := .i64) ds23 sz39
  have hvt' : ∀ (h : Heap) (K : Value → Heap → Prop), valE (some wt') h K = K wt' h := fun _ _ => rfl
  repeat' (first | simp -implicitDefEqProofs only [syms, symx, seval, c47, hvt, hva] | with_reducible_and_instances refine ixa_at ot.sl ds23 sz39 (by omega) hr0 (fun p hp => ?_) | with_reducible_and_instances refine lda hp ag39 sz39 ?_)
  refine ok_find l v x0 _ ((hl.mono z.inc).lay _ _) (by omega) _ (fun h' v' x hv' => ?_)
  replace hv' : v' = if hasR l x0 then .tuple #[.int .i64 (idxP (fun x => decide (x.atom = x0)) l), .bool true] else .tuple #[.int .i64 0, .bool false] := hv'
  ((skip); replace z := z.overW x (by (try simp only [lsz]); omega); (try replace so := so.over x); (try replace ot := ot.over x); (try replace ot' := ot'.over x); rw [lay_nil h'])
  simp only [List.length_cons] at hbd2
  cases hb : hasR l x0
  · rw [hb, if_neg (by decide)] at hv'
    subst hv'
    repeat' (first | simp -implicitDefEqProofs only [syms, symx, seval, c47, hvt, hvt', gt] | ((with_reducible_and_instances apply unop_not); (· rfl)))
    (rw [hI2]; with_reducible refine loopN_normal (m := _) ?_ ⟨out, td, wo, wt', _, rfl, z, ⟨rfl, hoM, hN.enter.leave (by rw [findR_no hb]; simp), hlo, so, ot', by omega⟩, junk (by kernel_rfl)⟩; ((try simp only [List.length_cons]); omega))
  · rw [hb, if_pos rfl] at hv'
    subst hv'
    obtain ⟨i0, hi0, hil, r0, hr1, hr2, hr3⟩ := findR hb
    rw [hi0]
    have hrR : l[(i0 : Int).toNat]? = some r0 := by simpa using hr1
    have hp0 := hr r0 (List.mem_of_getElem? hr1)
    repeat' (first | simp -implicitDefEqProofs only [syms, symx, seval, c47, hvt, hvt', gt, hva] | with_reducible_and_instances refine ixr_base hl z.inc ds24 sz41 (by omega) hrR (fun p bd hbd hp => ?_) | with_reducible_and_instances refine fdr2 hp fa41_2 (fun q hq => ?_) | with_reducible_and_instances refine ld_one hq ag23 ?_ | ((with_reducible_and_instances apply unop_not); (· rfl)))
    have hlb0 := fun (hh : Heap) => hbd.lenA ds23 hh
    have hvb := vSelf bd
    repeat' ( simp -implicitDefEqProofs only [syms, symx, seval, c47, hlb0, hvb])
    obtain ⟨n0, hn0⟩ : ∃ n0, n0 = 2 * (M - out.length) + (td.length + 1) := ⟨_, rfl⟩
    have hE := hN.enter
    have hlen0 := hp0.len
    obtain ⟨I3, hI3⟩ : ∃ I : Nat → Env → Heap → Prop, I = (fun n e h' => ∃ (j : Nat) (out2 td2 : List AtomD) (wo2 wt2 : Value) (h1 : Heap), h' = h1.lay [] h1.low ∧ Ext h h1 ∧ (n = r0.body.length - j ∧ j ≤ r0.body.length ∧ out2.length ≤ M ∧ NeedsIn l goals out2 td2 x0 j ∧ (∀ x ∈ out2, x.light = true) ∧ Sl Rep.atom h1 wo2 out2 ∧ OwnT h h1 39 wt2 td2 ∧ 2 * (M - out2.length) + td2.length + 1 ≤ n0) ∧ ∃ J : Nat → Value, e = (v :: u :: jr J 2 8 (wo2 :: wt2 :: jr J 12 44 (bd :: .int .i64 r0.body.length :: .int .i64 j :: jr J 59 17 ([]))))) := ⟨_, rfl⟩
    refine W_loopN I3 _ (by rw [hI3]; exact ⟨0, out, td, wo, wt', _, rfl, z, ⟨rfl, by omega, hoM, hE, hlo, so, ot', by omega⟩, junk (by kernel_rfl)⟩) ?_
    intro n e h' hin
    rw [hI3] at hin
    obtain ⟨j, out2, td2, wo2, wt2, h1', rfl, z, hinv, J, rfl⟩ := hin
    clear so ot ot'
    obtain ⟨rfl, hj, hoM2, hI, hlo2, so, ot, hms⟩ := hinv
    have hwj : IntKind.i64.wrap ((j : Int) + 1) = ((j + 1 : Nat) : Int) := by rw [wrap_i64 (by omega) (by omega)]; omega
    have hvo := vSelf wo2
    have hvt2 := vSelf wt2
    simp -implicitDefEqProofs only [syms, symx, seval, c47, hvb]
    refine forkD (fun hlt3 => ?_) (fun hlt3 => ?_)
    rotate_left
    · have hT := hI.leave (by rw [hr3]; omega)
      repeat' ( simp -implicitDefEqProofs only [syms, symx, seval, c47])
      (rw [hI2]; with_reducible refine loopN_normal (m := _) ?_ ⟨out2, td2, wo2, wt2, _, rfl, z, ⟨rfl, hoM2, hT, hlo2, so, ot, by omega⟩, junk (by kernel_rfl)⟩; ((try simp only [List.length_cons]); omega))
    obtain ⟨b0, hbr, hbr'⟩ := amElem (l := r0.body) (i := j) (by omega)
    have hbo : (bodyOf l x0)[j]? = some b0 := by rw [hr3]; exact hbr'
    have hbl := hp0.lights b0 (List.mem_of_getElem? hbr')
    have hbp := hp0.plains b0 (List.mem_of_getElem? hbr')
    repeat' (first | simp -implicitDefEqProofs only [syms, symx, seval, c47, hvb] | with_reducible_and_instances refine ixa_at (hbd.mono z.inc) ds23 sz39 (by omega) hbr (fun p hp => ?_) | with_reducible_and_instances refine lda hp ag39 sz39 ?_)
    refine store_laid sz39 rfl ?_
    repeat' ( simp -implicitDefEqProofs only [syms, symx, seval, c47, hvo, ↓cut_atom, agg_atom, valE_atom])
    have hzz := z.size
    refine ok_add out2 b0 wo2 _ (so.lay _ _) (by omega) hlo2 hbl _ (fun h' w3 x o3 => ?_)
    rw [sortA_asc hI.asc] at o3
    have q1 := Holds.top (i := 0) x rfl
    have ot0 := ot
    replace ot := ot.over x
    replace so := so.over x
    ((skip); replace z := z.overW x (by (try simp only [lsz]); omega); rw [lay_nil h'])
    have hv3 := vSelf w3
    cases hbb : hasA out2 b0
    · have hN3 := hI.add hbo hbp
      have hl3 := hN3.len hpb
      have hf3 := del_length (asc_putA (a := b0) hI.asc) (has_put (a := b0) hI.asc)
      rw [del_put hI.asc hbb] at hf3
      have hg3 := put_light hlo2 hbl hI.asc
      repeat' ( simp -implicitDefEqProofs only [syms, symx, seval, c47, Bool.not_false, hv3, hvt2, q1.lay, cells_atom, ↓cut_atom, agg_atom, valE_atom, fill_atom])
      simp -implicitDefEqProofs only [syms, symx, seval, c47, w_append, sty23]
      have hz := z.size
      obtain ⟨w4, h2, e2, o4, A2, hA2, _, c2, hA3⟩ := OwnT.app (a := b0) (lw := h'.low) ds23 ins_info (by decide) hz ot (by omega)
      rw [e2]
      have so5 := (o3.stayL (by intro e; rw [e] at hf3; simp at hf3) c2 (by
        rcases hA3 with e | e
        · exact .inr e
        · have := e _ ot0
          left
          rw [lay_size]
          omega)).sl
      replace z := z.stepW c2 hA2 (by omega)
      have hv4 := vSelf w4
      rw [lay_nil h2]
      clear ot so o3 ot0 q1
      repeat' ( simp -implicitDefEqProofs only [syms, symx, seval, c47, hv4])
      rw [hwj]
      (rw [hI3]; with_reducible refine loopN_normal (m := _) ?_ ⟨j + 1, putA b0 out2, td2 ++ [b0], w3, w4, _, rfl, z, ⟨rfl, by omega, by omega, hN3, hg3, so5, o4, by simp only [List.length_append, List.length_cons, List.length_nil]; omega⟩, junk (by kernel_rfl)⟩; omega)
    · rw [put_has hI.asc hbb] at o3
      have hN3 := hI.pass hbo ((hasA_mem hI.plain hbp).1 hbb)
      repeat' ( simp -implicitDefEqProofs only [syms, symx, seval, c47, Bool.not_true, hv3])
      rw [hwj]
      (rw [hI3]; with_reducible refine loopN_normal (m := _) ?_ ⟨j + 1, out2, td2, wo2, wt2, _, rfl, z, ⟨rfl, by omega, hoM2, hN3, hlo2, so, ot, by omega⟩, junk (by kernel_rfl)⟩; omega)
def atomsR (l : List ReasonD) : List AtomD := l.map (·.atom)
def PlacedD (l : List ReasonD) : Prop := ∀ i r, l[i]? = some r → r.atom ∉ atomsR (l.take i) ∧ ∀ b ∈ r.body, b ∈ atomsR (l.take i)
theorem lookI_none {kv : List (AtomD × Int)} {a : AtomD} : lookI kv a = none ↔ a ∉ kv.map (·.1) := by
  unfold lookI
  rw [Option.map_eq_none_iff, List.find?_eq_none]
  simp only [decide_eq_true_eq, List.mem_map, not_exists, not_and]
  exact ⟨fun h x hx e => h x hx e.symm, fun h x hx e => h x hx e.symm⟩
theorem eq_atomsM (a b : AtomD) : eqIn tab 20 39 a.val b.val = some (decide (a = b)) := by
  have h : eqIn tab 20 39 a.val b.val = eqA a b := by kernel_rfl
  rw [h, eqA_some]
theorem loop_heapJ {I : Nat → Env → Heap → Prop} {m : Nat} {Q : Ex → Env → Heap → Prop} {x : Ex} {e : Env} {h0 h1 : Heap} {bs : List Blk} {w : Nat} (z : Ext h0 (h1.lay bs w)) (hk : ∀ H, Ext h0 H → (∀ A b, Holds h1 A b → Holds H A b) → Inc h1 H → loopN I m Q x e (H.lay [] H.low)) : loopN I m Q x e (h1.lay bs w) := by
  have := hk _ z (fun A b q => q.on bs w) (Inc.lay _ _ _)
  rwa [← lay_nil] at this
theorem mapI_all {h1 H : Heap} {A : Nat} {kv : List (AtomD × Int)} (m : MapI h1 A kv) (hO : ∀ A b, Holds h1 A b → Holds H A b) : MapI H A kv := by
  obtain ⟨es, cl, m1, m2⟩ := m
  exact ⟨es, cl, hO _ _ m1, m2⟩
theorem zero_int : tab.zero 3 = some (.int .i64 0) := by kernel_rfl
theorem len_reM (a : AtomD) (u w : Value) : (a.cells ++ [u, w]).length = 13 := rfl
theorem dec13M : decide (13 ≤ 13) = true := rfl
theorem one_reM {a : AtomD} {n : Int} {w : Value} (h : Am.one w = true) : (a.cells ++ [.int .i64 n, w]).all Am.one = true := by
  have h1 : a.cells.all Am.one = true := rfl
  rw [List.all_append, h1, Bool.true_and]
  simp only [List.all_cons, List.all_nil, h, Bool.and_true]
  rfl
theorem cut_re0M (a : AtomD) (u w : Value) : cut (a.cells ++ [u, w]) 0 11 = some a.cells := rfl
theorem cell_re2M (a : AtomD) (u w : Value) : (a.cells ++ [u, w])[12]? = some w := rfl
theorem cut_re13M (a : AtomD) (u w : Value) : cut (a.cells ++ [u, w]) 0 13 = some (a.cells ++ [u, w]) := rfl
theorem ok_places (l : List ReasonD) (v : Value) (h : Heap) (hl : Sl Rep.reason h v l) (hn : l.length ≤ 40) (hb : ∀ r ∈ l, r.body.length ≤ 20) (K : Value → Heap → Prop)
    (h1k : PlacedD l → ∀ h' m, Ext h h' → K (.tuple #[m, .bool true]) h') (h2k : ¬ PlacedD l → ∀ h' m, Ext h h' → K (.tuple #[m, .bool false]) h') : Ok Try.prog tab ov 118 [v] h K := by
  rw [lay_nil h]
  have z := Ext.refl h
  have hva := vSelf v
  have hln := fun (hh : Heap) => hl.lenA ds24 hh
  refine Ok.into rfl tab_fn118 (bodyF N118) rfl (m := 50) rfl ?_
  repeat' ( simp -implicitDefEqProofs only [syms, symx, seval, c118, w_makeMap, hva, hln])
  refine W_fold (fun h' x hq => ?_)
  have q0 := hq 0 _ rfl
  clear hq
  (replace z := z.overW x (by (try simp only [lsz]); omega); rw [lay_nil h'])
  have m0 : MapI h' (h.size + 0) [] := ⟨[], 0, q0, rfl⟩
  clear q0
  obtain ⟨I1, hI1⟩ : ∃ I : Nat → Env → Heap → Prop, I = (fun n e h' => ∃ (i : Nat) (kv : List (AtomD × Int)) (h1 : Heap), h' = h1.lay [] h1.low ∧ Ext h h1 ∧ (n = l.length - i ∧ i ≤ l.length ∧ MapI h1 (h.size + 0) kv ∧ kv.map (·.1) = atomsR (l.take i) ∧ PlacedD (l.take i)) ∧ ∃ J : Nat → Value, e = (v :: jr J 1 3 (.map (some (h.size + 0)) :: jr J 5 9 (v :: .int .i64 l.length :: .int .i64 i :: jr J 17 34 ([]))))) := ⟨_, rfl⟩
  refine W_loopN I1 _ (by rw [hI1]; exact ⟨0, [], _, rfl, z, ⟨rfl, by omega, m0, rfl, fun i r hr => by simp at hr⟩, junk (by kernel_rfl)⟩) ?_
  intro n e h' hin
  rw [hI1] at hin
  obtain ⟨i, kv, h1', rfl, z, hinv, J, rfl⟩ := hin
  clear m0
  obtain ⟨rfl, hi, m0, hkv, hpd⟩ := hinv
  have hwi : IntKind.i64.wrap ((i : Int) + 1) = ((i + 1 : Nat) : Int) := by rw [wrap_i64 (by omega) (by omega)]; omega
  have hvm : ∀ (h2 : Heap) (K : Value → Heap → Prop), valE (some (.map (some (h.size + 0)))) h2 K = K (.map (some (h.size + 0))) h2 := fun _ _ => rfl
  simp -implicitDefEqProofs only [syms, symx, seval, c118, hva]
  refine forkD (fun hlt1 => ?_) (fun hlt1 => ?_)
  rotate_left
  · rw [List.take_of_length_le (by omega)] at hpd
    repeat' ( simp -implicitDefEqProofs only [syms, symx, seval, c118, hvm])
    exact h1k hpd _ _ (z.upW _ _ (by omega))
  obtain ⟨r, hr, hr'⟩ := amElem (l := l) (i := i) (by omega)
  have hrb := hb r (List.mem_of_getElem? hr')
  repeat' (first | simp -implicitDefEqProofs only [syms, symx, seval, c118, hva] | with_reducible_and_instances refine ixr_at (hl.mono z.inc) ds24 sz41 (by omega) hr (fun p bd hbd hp => ?_) | with_reducible_and_instances refine ldr hp ag41 sz41 ?_)
  have hall := one_reM (a := r.atom) (n := r.clause) hbd.one
  have hvb := vSelf bd
  repeat' ( simp -implicitDefEqProofs only [syms, symx, seval, c118, lay_set, storeO_row, List.all_cons, List.all_nil, Am.one, Bool.and_true, Bool.true_and, Bool.and_self, List.set_cons_zero, List.set_cons_succ, st4, st3, st9, st36, st39, st47, st41, st192, len_reM, hall, dec13M, if_true, ↓cut_re13M, hvm, ↓cut_re0M, cell_re2M, agg_atom, valE_atom, w_lookup])
  refine lookI_rule m0 ds140 eq_atomsM zero_int ?_
  cases hlk : lookI kv r.atom with
  | some n0 =>
    have hbad : ¬ PlacedD l := fun hp => by
      have h1 := (hp i r hr').1
      rw [← hkv, ← lookI_none, hlk] at h1
      cases h1
    simp only [Option.getD_some, Option.isSome_some, if_true]
    repeat' ( simp -implicitDefEqProofs only [syms, symx, seval, c118])
    exact h2k hbad _ _ (z.upW _ _ (by omega))
  | none =>
    have hnew := lookI_none.1 hlk
    simp only [Option.getD_none, Option.isSome_none, if_true]
    have hlb := fun (hh : Heap) => hbd.lenA ds23 hh
    repeat' ( simp -implicitDefEqProofs only [syms, symx, seval, c118, cell_re2M, hvb, hlb])
    refine W_fold (fun h' x hq => ?_)
    have q2 := hq 0 _ rfl
    clear hq
    (replace z := z.overW x (by (try simp only [lsz]); omega); (try replace m0 := m0.over x); (try replace hbd := hbd.over x); rw [lay_nil h'])
    obtain ⟨B, hB⟩ : ∃ B, B = h1'.size + 0 := ⟨_, rfl⟩
    rw [← hB]
    rw [← hB] at q2
    have hcs : ∀ b ∈ r.body, b ∈ atomsR (l.take i) ∨ b ∉ atomsR (l.take i) := fun b _ => Classical.em _
    obtain ⟨I2, hI2⟩ : ∃ I : Nat → Env → Heap → Prop, I = (fun n e h' => ∃ (j : Nat) (h1 : Heap), h' = h1.lay [] h1.low ∧ Ext h h1 ∧ (n = r.body.length - j ∧ j ≤ r.body.length ∧ MapI h1 (h.size + 0) kv ∧ Holds h1 B (.row (r.atom.cells ++ [.int .i64 r.clause, bd]) 41 false) ∧ Sl Rep.atom h1 bd r.body ∧ ∀ b ∈ r.body.take j, b ∈ atomsR (l.take i)) ∧ ∃ J : Nat → Value, e = (v :: jr J 1 3 (.map (some (h.size + 0)) :: .int .i64 i :: .pointer (some ⟨B, 0, none⟩) :: jr J 7 7 (v :: .int .i64 l.length :: .int .i64 i :: jr J 17 13 (bd :: .int .i64 r.body.length :: .int .i64 j :: jr J 33 18 ([])))))) := ⟨_, rfl⟩
    refine W_loopN I2 _ (by rw [hI2]; exact ⟨0, _, rfl, z, ⟨rfl, by omega, m0, q2, hbd, by simp⟩, junk (by kernel_rfl)⟩) ?_
    intro n e h' hin
    rw [hI2] at hin
    obtain ⟨j, h1', rfl, z, hinv, J, rfl⟩ := hin
    clear m0 q2 hbd
    obtain ⟨rfl, hj, m0, q2, hbd, hbo⟩ := hinv
    have hwj : IntKind.i64.wrap ((j : Int) + 1) = ((j + 1 : Nat) : Int) := by rw [wrap_i64 (by omega) (by omega)]; omega
    simp -implicitDefEqProofs only [syms, symx, seval, c118, hvb]
    refine forkD (fun hlt2 => ?_) (fun hlt2 => ?_)
    rotate_left
    · rw [List.take_of_length_le (by omega)] at hbo
      repeat' ( simp -implicitDefEqProofs only [syms, symx, seval, c118, hvm, q2.lay, ↓cut_re0M, agg_atom, valE_atom, w_mapUpdate])
      obtain ⟨h3, hu, m3, c3⟩ := updI_rule (h := h1'.lay [] h1'.low) (n := (i : Int)) (m0.over (Ext.refl _)) ds140 eq_atomsM hlk
      rw [hu]
      have hz := z.size
      replace z := (z.upW [] h1'.low (by omega)).step c3 (by omega)
      rw [lay_nil h3]
      have htk : l.take (i + 1) = l.take i ++ [r] := by rw [List.take_add_one, hr']; rfl
      have hln2 : (l.take i).length = i := by rw [List.length_take]; omega
      repeat' ( simp -implicitDefEqProofs only [syms, symx, seval, c118])
      rw [hwi]
      (rw [hI1]; with_reducible refine loopN_normal (m := _) ?_ ⟨i + 1, kv ++ [(r.atom, (i : Int))], _, rfl, z, ⟨rfl, by omega, m3, by rw [List.map_append, hkv, htk]; simp [atomsR], by
        unfold PlacedD at hpd ⊢
        intro k r' hk'
        rw [htk] at hk' ⊢
        rcases Nat.lt_or_ge k i with e | e
        · rw [List.getElem?_append_left (by omega)] at hk'
          rw [List.take_append_of_le_length (by omega)]
          exact hpd k r' hk'
        · rw [List.getElem?_append_right (by omega), hln2] at hk'
          have e2 : k = i := by
            rcases Nat.eq_or_lt_of_le e with e | e
            · exact e.symm
            · obtain ⟨d, hd⟩ : ∃ d, k - i = d + 1 := ⟨k - i - 1, by omega⟩
              rw [hd] at hk'
              simp at hk'
          subst e2
          rw [Nat.sub_self] at hk'
          have e3 : r = r' := by simpa using hk'
          subst e3
          rw [List.take_append_of_le_length (by omega), List.take_of_length_le (by omega)]
          exact ⟨by rw [← hkv]; exact hnew, hbo⟩⟩, junk (by kernel_rfl)⟩; omega)
    obtain ⟨b0, hbr, hbr'⟩ := amElem (l := r.body) (i := j) (by omega)
    repeat' (first | simp -implicitDefEqProofs only [syms, symx, seval, c118, hvb] | with_reducible_and_instances refine ixa_at hbd ds23 sz39 (by omega) hbr (fun p hp => ?_) | with_reducible_and_instances refine lda hp ag39 sz39 ?_)
    refine store_laid sz39 rfl ?_
    repeat' ( simp -implicitDefEqProofs only [syms, symx, seval, c118, hvm, ↓cut_atom, agg_atom, valE_atom, w_lookup])
    refine lookI_rule m0 ds140 eq_atomsM zero_int ?_
    cases hlb0 : lookI kv b0 with
    | none =>
      have hbad : ¬ PlacedD l := fun hp => by
        have h1 := (hp i r hr').2 b0 (List.mem_of_getElem? hbr')
        rw [← hkv] at h1
        exact lookI_none.1 hlb0 h1
      simp only [Option.getD_none, Option.isSome_none, if_true]
      repeat' (first | simp -implicitDefEqProofs only [syms, symx, seval, c118] | ((with_reducible_and_instances apply unop_not); (· rfl)))
      exact h2k hbad _ _ (z.upW _ _ (by omega))
    | some n0 =>
      have hyes : b0 ∈ atomsR (l.take i) := by
        rw [← hkv]
        refine Classical.byContradiction (fun hno => ?_)
        rw [lookI_none.2 hno] at hlb0
        cases hlb0
      simp only [Option.getD_some, Option.isSome_some, if_true]
      repeat' (first | simp -implicitDefEqProofs only [syms, symx, seval, c118] | ((with_reducible_and_instances apply unop_not); (· rfl)))
      rw [hwj]
      refine loop_heapJ (z.upW _ _ (by omega)) (fun H z hO hI => ?_)
      (rw [hI2]; with_reducible refine loopN_normal (m := _) ?_ ⟨j + 1, _, rfl, z, ⟨rfl, by omega, mapI_all m0 hO, hO _ _ q2, hbd.mono hI, take_all (i := j) (P := fun b => b ∈ atomsR (l.take i)) hbr' hbo hyes⟩, junk (by kernel_rfl)⟩; omega)
theorem ok_backF (v : Value) (h : Heap) (hv : v.cells.toList = [v]) (K : Value → Heap → Prop) (hk : ∀ h' B, Ext h h' → h.size ≤ B → Holds h' B (.row [v] 24 false) → K (.func (.func 159) ⟨[]⟩ ⟨[.pointer (some ⟨B, 0, none⟩)]⟩) h') : Ok Try.prog tab ov 119 [v] h K := by
  rw [lay_nil h]
  have z := Ext.refl h
  have hva := vSelf v
  refine Ok.into rfl tab_fn119 (bodyF N119) rfl (m := 3) rfl ?_
  repeat' ( simp -implicitDefEqProofs only [syms, symx, seval, c119, hva])
  exact hk _ _ (z.upW _ _ (by omega)) (by omega) ⟨by rw [lay_size]; simp, by rw [lay_get]; simp [hv]⟩
theorem mk_bools (n : Nat) (hn : n ≤ 1000) (h : Heap) : makeSliceA tab 143 (.int .i64 n) (.int .i64 n) h = some (.slice (some ⟨h.size, 0, none⟩) n n, h.push (.row (bools (List.replicate n false)) 4 false)) := by
  unfold makeSliceA
  simp only [ds143, tab_info4, Option.bind_some]
  rw [if_pos (by omega)]
  rw [zeros_def, Int.toNat_natCast, bools_rep]
theorem st90 (h : Heap) (l : List Blk) (w i o : Nat) (v : Value) (hi : i < l.length) : storeA tab 90 (.pointer (some ⟨h.size + i, o, none⟩)) v (h.lay l w) = if v.cells.size = 13 then storeO l[i]? i o v.cells.toList h l w else none := st_lay sz90 h l w i o v hi
theorem sty84 : srcTyA tab 84 84 = true := by kernel_rfl
theorem sty32 : srcTyA tab 32 32 = true := by kernel_rfl
theorem fill_step (a : AtomD) (u v z0 z1 z2 z3 z4 z5 z6 z7 z8 z9 z10 z11 z12 : Value) : fillA (fun i => some (i * 13, 13)) [z0, z1, z2, z3, z4, z5, z6, z7, z8, z9, z10, z11, z12] [(0, .agg ⟨a.cells ++ [u, v]⟩)] = some (a.cells ++ [u, v]) := rfl
theorem bld_step (a : AtomD) (n : Int) : buildA tab 90 [(0, a.val), (1, .int .i64 n)] = some (.agg ⟨a.cells ++ [.int .i64 n, .slice none 0 0]⟩) := by kernel_rfl
theorem cell_re1M (a : AtomD) (u w : Value) : (a.cells ++ [u, w])[11]? = some u := rfl
theorem derive_loop (l : List ReasonD) (out : List AtomD) (v u : Value) (N0 W0 P0 : Nat) (J : Nat → Value) (h h1' : Heap) (z : Ext h h1') (hN0 : h.size ≤ N0) (hNW : N0 < W0) (hWP : W0 < P0) (hNl : N0 < h1'.size) (hPl : P0 < h1'.size) (b2 : Holds h1' P0 (.row [.slice (some ⟨W0, 0, none⟩) l.length l.length] 143 false)) (b3 : Holds h1' W0 (.row (bools (l.map fun r => hasA out r.atom)) 4 false)) (hl : Sl Rep.reason h v l) (hn : l.length ≤ 40) (hr : ∀ r ∈ l, PlainR r) (hpl : PlacedD l) (K : Value → Heap → Prop)
    (hk : ∀ h' ws, Ext h h' → Sl Rep.step h' ws (derD (keptD l out)) → K (.tuple #[ws, .int .i64 0]) h') : W Try.prog tab ov none (N56 42) (v :: u :: jr J 2 8 (.pointer (some ⟨P0, 0, none⟩) :: jr J 11 87 [])) (h1'.lay [] h1'.low) (finE tab Try.f56 K) := by
  have hva := vSelf v
  have hlv := fun (hh : Heap) => hl.lenA ds24 hh
  have hz0 := z.size
  repeat' ( simp -implicitDefEqProofs only [syms, symx, seval, c56, w_makeMap, hva, hlv])
  refine W_fold (fun h' x hq => ?_)
  have q0 := hq 0 _ rfl
  clear hq
  (replace z := z.overW x (by (try simp only [lsz]); omega); (try replace b2 := b2.over x); (try replace b3 := b3.over x); rw [lay_nil h'])
  obtain ⟨M0, hM0⟩ : ∃ M0, M0 = h1'.size + 0 := ⟨_, rfl⟩
  rw [← hM0] at q0
  rw [← hM0]
  have m0 : MapI h' M0 (kvOf (keptD (l.take 0) out)) := ⟨[], 0, q0, rfl⟩
  have hMl := q0.lt
  clear q0
  obtain ⟨I1, hI1⟩ : ∃ I : Nat → Env → Heap → Prop, I = (fun n e h' => ∃ (i : Nat) (wv : Value) (A : Nat) (h1 : Heap), h' = h1.lay [] h1.low ∧ Ext h h1 ∧ (n = l.length - i ∧ i ≤ l.length ∧ Holds h1 P0 (.row [.slice (some ⟨W0, 0, none⟩) l.length l.length] 143 false) ∧ Holds h1 W0 (.row (bools (l.map fun r => hasA out r.atom)) 4 false) ∧ MapI h1 M0 (kvOf (keptD (l.take i) out)) ∧ Ow Rep.step h h1 90 A wv (derD (keptD (l.take i) out)) ∧ A < h1.size ∧ A ≠ P0 ∧ A ≠ W0 ∧ A ≠ M0 ∧ M0 < h1.size) ∧ ∃ J : Nat → Value, e = (v :: jr J 1 9 (.pointer (some ⟨P0, 0, none⟩) :: jr J 11 2 (wv :: .map (some M0) :: jr J 15 39 (v :: .int .i64 l.length :: .int .i64 i :: jr J 57 41 ([])))))) := ⟨_, rfl⟩
  refine W_loopN I1 _ (by rw [hI1]; exact ⟨0, .slice none 0 0, N0, _, rfl, z, ⟨rfl, by omega, b2, b3, m0, Ow.nil hN0, by have := b2.lt; omega, by omega, by omega, by omega, hMl⟩, junk (by kernel_rfl)⟩) ?_
  intro n e h' hin
  rw [hI1] at hin
  obtain ⟨i, wv, A, h2', rfl, z, hinv, J, rfl⟩ := hin
  clear m0 b2 b3
  obtain ⟨rfl, hi, b2, b3, m0, ow, hAl, hA1, hA2, hA3, hM4⟩ := hinv
  have hz20 := z.size
  have hwi : IntKind.i64.wrap ((i : Int) + 1) = ((i + 1 : Nat) : Int) := by rw [wrap_i64 (by omega) (by omega)]; omega
  have hvm : ∀ (h2 : Heap) (K : Value → Heap → Prop), valE (some (.map (some M0))) h2 K = K (.map (some M0)) h2 := fun _ _ => rfl
  have hvw := vSelf wv
  simp -implicitDefEqProofs only [syms, symx, seval, c56, hva]
  refine forkD (fun hlt1 => ?_) (fun hlt1 => ?_)
  rotate_left
  · rw [List.take_of_length_le (by omega)] at ow
    repeat' ( simp -implicitDefEqProofs only [syms, symx, seval, c56, hvw])
    exact hk _ _ (z.upW _ _ (by omega)) ((ow.sl (by decide)).lay _ _)
  obtain ⟨r, hr0, hr'⟩ := amElem (l := l) (i := i) (by omega)
  have hrp := hr r (List.mem_of_getElem? hr')
  have hin : (0 : Int) ≤ (i : Int) ∧ (i : Int) < (l.length : Int) := by omega
  have hgi : (bools (l.map fun r => hasA out r.atom))[i]? = some (.bool (hasA out r.atom)) := bools_get (by rw [List.getElem?_map, hr']; rfl)
  repeat' (first | simp -implicitDefEqProofs only [syms, symx, seval, c56, hva] | with_reducible_and_instances refine ixr_at (hl.mono z.inc) ds24 sz41 (by omega) hr0 (fun p bd hbd hp => ?_) | with_reducible_and_instances refine ldr hp ag41 sz41 ?_)
  have hall := one_reM (a := r.atom) (n := r.clause) hbd.one
  have hvb := vSelf bd
  repeat' ( simp -implicitDefEqProofs only [syms, symx, seval, c56, lay_set, storeO_row, List.all_cons, List.all_nil, Am.one, Bool.and_true, Bool.true_and, Bool.and_self, List.set_cons_zero, List.set_cons_succ, st4, st3, st9, st36, st39, st47, st41, st192, len_reM, hall, dec13M, if_true, ↓cut_re13M, b2.lay, b3.lay, hin, and_self, Nat.mul_one, hgi])
  have hks := keptD_snoc (out := out) hr'
  cases hb : hasA out r.atom
  · rw [hb, if_neg (by decide), List.append_nil] at hks
    rw [hb] at hgi
    repeat' (first | simp -implicitDefEqProofs only [syms, symx, seval, c56, b3.lay, hgi, Bool.not_false] | ((with_reducible_and_instances apply unop_not); (· rfl)))
    rw [hwi]
    refine loop_heapJ (z.upW _ _ (by omega)) (fun H z hO hI => ?_)
    have hIs := hI.size
    (rw [hI1]; with_reducible refine loopN_normal (m := _) ?_ ⟨i + 1, wv, A, _, rfl, z, ⟨rfl, by omega, hO _ _ b2, hO _ _ b3, by rw [hks]; exact mapI_all m0 hO, by rw [hks]; exact ow.mono hI, by omega, hA1, hA2, hA3, by omega⟩, junk (by kernel_rfl)⟩; omega)
  · rw [hb, if_pos rfl] at hks
    rw [hb] at hgi
    have hall2 := one_reM (a := r.atom) (n := r.clause) (w := .slice none 0 0) rfl
    repeat' (first | simp -implicitDefEqProofs only [syms, symx, seval, c56, lay_set, storeO_row, List.all_cons, List.all_nil, Am.one, Bool.and_true, Bool.true_and, Bool.and_self, List.set_cons_zero, List.set_cons_succ, st4, st3, st9, st36, st39, st47, st41, st192, st90, b3.lay, hgi, Bool.not_true, ↓cut_re0M, agg_atom, valE_atom, cell_re1M, bld_step, len_reM, hall2, dec13M, if_true] | ((with_reducible_and_instances apply unop_not); (· rfl)))
    have hlb := fun (hh : Heap) => hbd.lenA ds23 hh
    repeat' ( simp -implicitDefEqProofs only [syms, symx, seval, c56, hlb, hvb, cell_re2M])
    refine W_fold (fun h' x hq => ?_)
    have e0 := hq 0 _ rfl
    have s0 := hq 1 _ rfl
    clear hq
    (replace z := z.overW x (by (try simp only [lsz]); omega); rw [lay_nil h'])
    have zi : Grw h2' h' := (Ext.refl h2').grw.over x
    obtain ⟨E0, hE0⟩ : ∃ E0, E0 = h2'.size + 0 := ⟨_, rfl⟩
    obtain ⟨S0, hS0⟩ : ∃ S0, S0 = h2'.size + 1 := ⟨_, rfl⟩
    rw [← hE0] at e0
    rw [← hS0] at s0
    rw [← hE0, ← hS0]
    have hz2 := z.size
    have hblen := hrp.len
    obtain ⟨I2, hI2⟩ : ∃ I : Nat → Env → Heap → Prop, I = (fun n e h' => ∃ (j : Nat) (cv : Value) (C : Nat) (h1 : Heap), h' = h1.lay [] h1.low ∧ Ext h h1 ∧ (n = r.body.length - j ∧ j ≤ r.body.length ∧ Grw h2' h1 ∧ Holds h1 E0 (.row (r.atom.cells ++ [.int .i64 r.clause, bd]) 41 false) ∧ Holds h1 S0 (.row (r.atom.cells ++ [.int .i64 r.clause, cv]) 90 false) ∧ Ow Rep.int h2' h1 3 C cv ((r.body.take j).map (citeD (keptD (l.take i) out))) ∧ C ≠ E0 ∧ C ≠ S0) ∧ ∃ J : Nat → Value, e = (v :: jr J 1 9 (.pointer (some ⟨P0, 0, none⟩) :: jr J 11 2 (wv :: .map (some M0) :: .int .i64 i :: .pointer (some ⟨E0, 0, none⟩) :: .pointer (some ⟨S0, 0, none⟩) :: jr J 18 36 (v :: .int .i64 l.length :: .int .i64 i :: jr J 57 15 (bd :: .int .i64 r.body.length :: .int .i64 j :: jr J 75 23 ([]))))))) := ⟨_, rfl⟩
    refine W_loopN I2 _ (by rw [hI2]; exact ⟨0, .slice none 0 0, S0 + 1, _, rfl, z, ⟨rfl, by omega, zi, e0, s0, Ow.nil (by omega), by omega, by omega⟩, junk (by kernel_rfl)⟩) ?_
    intro n e h' hin
    rw [hI2] at hin
    obtain ⟨j, cv, C, h3', rfl, z, hinv, J, rfl⟩ := hin
    clear zi e0 s0
    obtain ⟨rfl, hj, zi, e0, s0, oc, hC1, hC2⟩ := hinv
    have hwj : IntKind.i64.wrap ((j : Int) + 1) = ((j + 1 : Nat) : Int) := by rw [wrap_i64 (by omega) (by omega)]; omega
    have hvc := vSelf cv
    simp -implicitDefEqProofs only [syms, symx, seval, c56, hvb]
    refine forkD (fun hlt2 => ?_) (fun hlt2 => ?_)
    rotate_left
    · rw [List.take_of_length_le (l := r.body) (i := j) (by omega)] at oc
      have mi := m0.grw zi
      repeat' ( simp -implicitDefEqProofs only [syms, symx, seval, c56, hvm, e0.lay, ↓cut_re0M, agg_atom, valE_atom, w_mapUpdate])
      have ow3 := ow.mono zi.inc
      have hlo := fun (hh : Heap) => (ow3.sl (by decide)).lenA ds84 hh
      have hnew : lookI (kvOf (keptD (l.take i) out)) r.atom = none := by
        rw [lookI_none, kvOf_keys]
        intro hx
        obtain ⟨y, hy, ey⟩ := List.mem_map.1 hx
        refine (hpl i r hr').1 ?_
        rw [← ey]
        exact List.mem_map.2 ⟨y, (List.mem_filter.1 hy).1, rfl⟩
      repeat' ( simp -implicitDefEqProofs only [syms, symx, seval, c56, hlo, hvw, w_mapUpdate])
      obtain ⟨h5, hu, m3, c3⟩ := updI_rule (h := h3'.lay [] h3'.low) (n := ((derD (keptD (l.take i) out)).length : Int)) (mi.over (Ext.refl _)) ds140 eq_atomsM hnew
      rw [hu]
      rw [derD_length, ← kvOf_snoc, ← hks] at m3
      have hz3 := z.size
      have hz4 := zi.size
      have hnr := (mi.over (Ext.refl _) : MapI (h3'.lay [] h3'.low) M0 _).norow
      have hrw := chg_rows c3 hnr
      replace ow3 := (ow3.lay [] _).rows flat_step hrw
      replace oc := (oc.lay [] _).rows flat_int hrw
      have s5 := s0.stepL c3 (by omega)
      have b5 := (b2.mono zi.inc).stepL c3 (by omega)
      have b6 := (b3.mono zi.inc).stepL c3 (by omega)
      replace z := (z.upW [] _ (by omega)).step c3 (by omega)
      rw [lay_nil h5]
      repeat' ( simp -implicitDefEqProofs only [syms, symx, seval, c56, hvw, s5.lay, ↓cut_re13M])
      simp -implicitDefEqProofs only [syms, symx, seval, c56, fill_step, w_append, sty84]
      obtain ⟨wa, wn, wc, rfl⟩ := oc.slice
      have hz5 := c3.size
      rw [lay_size] at hz5
      have hHs : (h5.lay [Blk.row (r.atom.cells ++ [.int .i64 r.clause, .slice wa wn wc]) 90 false] h5.low).size = h5.size + 1 := by rw [lay_size]; rfl
      have hR : Rep.step.R (kill A (h5.lay [Blk.row (r.atom.cells ++ [.int .i64 r.clause, .slice wa wn wc]) 90 false] h5.low)) (r.atom.cells ++ [.int .i64 r.clause, .slice wa wn wc]) (stepD (keptD (l.take i) out) r) :=
        ⟨_, rfl, (oc.lay _ _).under (by decide) (fun _ _ _ _ h => h) (.inl hAl)⟩
      have hkl : (keptD (l.take i) out).length ≤ 40 := by have := List.length_filter_le (fun r => hasA out r.atom) (l.take i); unfold keptD; rw [List.length_take] at this; omega
      have hdl := derD_length (keptD (l.take i) out)
      obtain ⟨hs, hsr⟩ := src_row (r := Rep.step) (c := 1) (by decide) (show (h5.lay [Blk.row (r.atom.cells ++ [.int .i64 r.clause, .slice wa wn wc]) 90 false] h5.low).get (h5.size + 0) = some (.row (r.atom.cells ++ [.int .i64 r.clause, .slice wa wn wc]) 90 false) by rw [lay_get]; rfl) hR
      obtain ⟨w', h6, A'', e1, e2, e3, e4, e5⟩ := app_ow (t := 84) ds84 tab_info90 rfl (by decide) (by rw [hHs]; omega) (ow3.lay _ _) hs hsr (by omega) (by omega)
      have hfA := ow3.fresh
      have m0l := m3.lt
      have p5 := b5.lt
      have w5 := b6.lt
      rw [hHs] at e4
      replace z := (z.upW [Blk.row (r.atom.cells ++ [.int .i64 r.clause, .slice wa wn wc]) 90 false] h5.low (by omega)).step e3 hfA
      have b7 := b5.stepL e3 (by omega)
      have b8 := b6.stepL e3 (by omega)
      have m4 := m3.stepL e3 (by omega)
      have hz6 := e3.size
      rw [hHs] at hz6
      rw [e1, lay_nil h6]
      have hA6 := e2.lt.resolve_right (by simp)
      rw [← derD_snoc, ← hks] at e2
      clear ow3 oc s5
      repeat' ( simp -implicitDefEqProofs only [syms, symx, seval, c56])
      rw [hwi]
      (rw [hI1]; with_reducible refine loopN_normal (m := _) ?_ ⟨i + 1, _, A'', _, rfl, z, ⟨rfl, by omega, b7, b8, m4, e2, by omega, by omega, by omega, by omega, by omega⟩, junk (by kernel_rfl)⟩; omega)
    obtain ⟨b0, hbr, hbr'⟩ := amElem (l := r.body) (i := j) (by omega)
    repeat' (first | simp -implicitDefEqProofs only [syms, symx, seval, c56, hvb] | with_reducible_and_instances refine ixa_at (hbd.mono zi.inc) ds23 sz39 (by omega) hbr (fun p hp => ?_) | with_reducible_and_instances refine lda hp ag39 sz39 ?_)
    refine store_laid sz39 rfl ?_
    simp -implicitDefEqProofs only [syms, symx, seval, c56]
    refine W_fold (fun h' x hq => ?_)
    have a0 := hq 0 _ rfl
    clear hq
    (replace z := z.overW x (by (try simp only [lsz]); omega); (try replace zi := zi.over x); (try replace e0 := e0.over x); (try replace s0 := s0.over x); (try replace oc := oc.over x); rw [lay_nil h'])
    have mi := m0.grw zi
    repeat' (first | simp -implicitDefEqProofs only [syms, symx, seval, c56, hvm, hvc, a0.lay, s0.lay, ↓cut_atom, agg_atom, valE_atom, w_lookup, cell_re2M] | with_reducible refine drawN (by simp only [c56]) (z.upW _ _ (by omega)) ?_)
    refine lookI_rule mi ds140 eq_atomsM zero_int ?_
    rw [if_neg Bool.false_ne_true, show (lookI (kvOf (keptD (l.take i) out)) b0).getD 0 = citeD (keptD (l.take i) out) b0 from rfl]
    obtain ⟨c0, hc0⟩ : ∃ c0, c0 = citeD (keptD (l.take i) out) b0 := ⟨_, rfl⟩
    rw [← hc0]
    simp -implicitDefEqProofs only [syms, symx, seval, c56]
    refine KOpsX_alloc (by have := z.size; omega) (by omega) ?_
    simp -implicitDefEqProofs only [syms, symx, seval, c56, w_append, sty32]
    have hHs : (h'.lay [Blk.row [.int .i64 c0] 3 false] (h'.size + 1)).size = h'.size + 1 := by rw [lay_size]; rfl
    have hcl : ((r.body.take j).map (citeD (keptD (l.take i) out))).length ≤ 20 := by rw [List.length_map, List.length_take]; omega
    obtain ⟨hs, hsr⟩ := src_row (r := Rep.int) (A := C) (c := 1) (y := c0) (by decide) (show (h'.lay [Blk.row [.int .i64 c0] 3 false] (h'.size + 1)).get (h'.size + 0) = some (.row [.int .i64 c0] 3 false) by rw [lay_get]; rfl) rfl
    have hzi := zi.1
    obtain ⟨cv', h'', C', e1, e2, e3, e4, e5⟩ := app_ow (t := 32) ds32 tab_info3 rfl (by decide) (by rw [hHs]; omega) (oc.mono (Inc.lay _ _ _)) hs hsr (by omega) (by omega)
    have hfC := oc.fresh
    have e0l := e0.lt
    have s0l := s0.lt
    rw [e1]
    simp -implicitDefEqProofs only [syms, symx, seval, c56]
    refine KOpsX_chg (A := C) (by kernel_rfl) (by rw [lay_size]; omega) (by omega) (by simpa only [lay_lay, lay_size, List.append_nil, List.length_cons, List.length_nil, Nat.zero_add] using e3) ?_
    replace z := (z.upW [Blk.row [.int .i64 c0] 3 false] (h'.size + 1) (by omega)).step e3 (by omega)
    replace zi := zi.stepL e3 hfC
    replace e0 := e0.stepL e3 (by omega)
    replace s0 := s0.stepL e3 (by omega)
    clear oc a0
    rw [lay_nil h'']
    repeat' ( simp -implicitDefEqProofs only [syms, symx, seval, c56])
    obtain ⟨ca, cn, cc, rfl⟩ := e2.slice
    refine store_cell s0 sz32 (by rw [len_reM]; decide) rfl rfl (fun h4 s0' c4 => ?_)
    have hzz := z.size
    have hzh : h'.size + 1 ≤ h''.size := by have := e3.size; rw [hHs] at this; exact this
    refine KOpsX_chg (A := S0) (by kernel_rfl) (by rw [lay_size]; omega) (by omega) (by simpa only [lay_lay, lay_size, List.append_nil, List.length_cons, List.length_nil, Nat.zero_add] using c4) ?_
    replace z := (z.upW [] _ (by omega)).step c4 (by omega)
    replace zi := zi.stepL c4 (by omega)
    replace e0 := e0.stepL c4 (by omega)
    have hC4 : C' ≠ S0 ∧ C' ≠ E0 := by rw [hHs] at e4; omega
    replace e2 := (e2.lay [] _).chg (fun _ _ _ _ h => h) (by simp) c4 (Ne.symm hC4.1)
    rw [lay_nil h4]
    clear s0
    repeat' (first | simp -implicitDefEqProofs only [syms, symx, seval, c56] | ((with_reducible refine ⟨z.grw.lay _ _, ?_⟩); (intro _ h' zz x _); (try simp only [lay_lay, List.append_nil] at x); (try replace zi := zi.over x); (try replace e0 := e0.over x); (try replace s0' := s0'.over x); (try replace e2 := e2.over x); (replace z := zz); (clear zz); rw [lay_nil h']))
    rw [hwj]
    have htk : (r.body.take (j + 1)).map (citeD (keptD (l.take i) out)) = (r.body.take j).map (citeD (keptD (l.take i) out)) ++ [citeD (keptD (l.take i) out) b0] := by rw [List.take_add_one, hbr', List.map_append]; rfl
    rw [hc0, ← htk] at e2
    have s1 : Holds h' S0 (.row (r.atom.cells ++ [.int .i64 r.clause, .slice ca cn cc]) 90 false) := s0'
    (rw [hI2]; with_reducible refine loopN_normal (m := _) ?_ ⟨j + 1, _, C', _, rfl, z, ⟨rfl, by omega, zi, e0, s1, e2, hC4.2, hC4.1⟩, junk (by kernel_rfl)⟩; omega)
theorem derive_rest (l : List ReasonD) (out : List AtomD) (v u w : Value) (N0 : Nat) (J : Nat → Value) (h h1' : Heap) (z : Ext h h1') (hN0 : h.size ≤ N0) (qn : Holds h1' N0 (.row [w] 23 false)) (hl : Sl Rep.reason h v l) (so : Sl Rep.atom h w out) (hn : l.length ≤ 40) (hr : ∀ r ∈ l, PlainR r) (hlo : ∀ x ∈ out, x.light = true) (hol : out.length ≤ 900) (hpl : PlacedD l) (K : Value → Heap → Prop)
    (hk : ∀ h' ws, Ext h h' → Sl Rep.step h' ws (derD (keptD l out)) → K (.tuple #[ws, .int .i64 0]) h') : W Try.prog tab ov none (N56 30) (v :: u :: jr J 2 6 (.pointer (some ⟨N0, 0, none⟩) :: jr J 9 89 [])) (h1'.lay [] h1'.low) (finE tab Try.f56 K) := by
  have hva := vSelf v
  have hvw := vSelf w
  have hlv := fun (hh : Heap) => hl.lenA ds24 hh
  have cvw := so.one
  have mkb := fun hh => mk_bools l.length (by omega) hh
  have hz0 := z.size
  have hnl := qn.lt
  repeat' ( simp -implicitDefEqProofs only [syms, symx, seval, c56, hva, hvw, hlv, mkb])
  refine store_one (i := 1) rfl sz143 rfl rfl ?_
  simp -implicitDefEqProofs only [syms, symx, seval, c56, hva, List.set_cons_zero, List.set_cons_succ]
  repeat' ((first | ((with_reducible first | apply forkD | apply forkB | apply forkN | apply forkNP | apply forkNot) <;> intro _) | with_reducible_and_instances refine ixa_at (hbd.mono zi.inc) ds23 sz39 (by omega) hbr (fun p hp => ?_) | with_reducible_and_instances refine lda hp ag39 sz39 ?_ | ((with_reducible_and_instances apply unop_not); (· rfl)) | ((with_reducible refine ⟨z.grw.lay _ _, ?_⟩); (intro _ h' zz x _); (try simp only [lay_lay, List.append_nil] at x); (try replace qn := qn.over x); (replace z := zz); (clear zz); rw [lay_nil h'])) <;> simp -implicitDefEqProofs only [syms, symx, seval, c56, hva])
  refine ok_backF v _ (sl_cells hl) _ (fun h' B x hB qb => ?_)
  have qw := Holds.top (i := 0) x rfl
  have qp := Holds.top (i := 1) x rfl
  (( skip); replace z := z.overW x (by (try simp only [lsz]); omega); (try replace qn := qn.over x); rw [lay_nil h'])
  rw [lay_size] at hB
  obtain ⟨W0, hW0⟩ : ∃ W0, W0 = h1'.size + 0 := ⟨_, rfl⟩
  obtain ⟨P0, hP0⟩ : ∃ P0, P0 = h1'.size + 1 := ⟨_, rfl⟩
  rw [← hW0] at qw qp
  rw [← hP0] at qp
  rw [← hW0, ← hP0]
  have hBlt := qb.lt
  have hwlt := qw.lt
  have hplt := qp.lt
  simp only [List.length_cons, List.length_nil] at hB
  simp -implicitDefEqProofs only [syms, symx, seval, c56]
  rw [← lay_nil h']
  refine range_back l v B h z qb hl (by omega) (fun i h2 => Holds h2 N0 (.row [w] 23 false) ∧ Holds h2 P0 (.row [.slice (some ⟨W0, 0, none⟩) l.length l.length] 143 false) ∧ Holds h2 W0 (.row (bools (wantR l out i)) 4 false)) (fun _ => False) ?_ (fun _ _ hs _ => hs) ⟨qn, qp, by rw [wantR_all]; exact qw⟩ ?_ ?_ (fun _ _ hs => hs.elim)
  · rintro i h2 h3 ⟨a1, a2, a3⟩ c
    exact ⟨a1.step c (by omega), a2.step c (by omega), a3.step c (by omega)⟩
  · rintro i r b h2 hr' zz qb2 hlt2 ⟨a1, a2, a3⟩ hbd
    have hrp := hr r (List.mem_of_getElem? hr')
    rw [lay_nil h2]
    have hvb := vSelf b
    have hall := one_reM (a := r.atom) (n := r.clause) hbd.one
    repeat' ( simp -implicitDefEqProofs only [syms, symx, seval, c56, lay_set, storeO_row, List.all_cons, List.all_nil, Am.one, Bool.and_true, Bool.true_and, Bool.and_self, List.set_cons_zero, List.set_cons_succ, st4, st3, st9, st36, st39, st47, st41, st192, len_reM, hall, dec13M, if_true, ↓cut_re13M])
    refine ⟨by rw [← lay_nil h2]; exact (Ext.refl h2).upW _ _ (by omega), fun H bk c zH qA => ?_⟩
    have hz2 := zz.size
    have qe := Holds.topC (i := 0) c hlt2 rfl
    have b0 := qb2.stepL c (by omega)
    have b1 := a1.stepL c (by omega)
    have b2 := a2.stepL c (by omega)
    have b3 := a3.stepL c (by omega)
    have hHs := c.size
    rw [lay_size] at hHs
    obtain ⟨E0, hE0⟩ : ∃ E0, E0 = h2.size + 0 := ⟨_, rfl⟩
    rw [← hE0] at qe
    rw [← hE0, lay_nil H]
    clear z qb qw qp
    replace z := zH
    repeat' (first | simp -implicitDefEqProofs only [syms, symx, seval, c56, b1.lay, b2.lay, qe.lay, hvw, ↓cut_re0M, agg_atom, valE_atom] | with_reducible refine drawN (by simp only [c56]) (z.upW _ _ (by omega)) ?_)
    refine ok_has out r.atom w _ ((so.mono z.inc).lay _ _) (by omega) hlo hrp.light _ (fun h3 x => ?_)
    (( ((with_reducible refine KOpsX_call ?_ ?_ ?_); (· exact (by (try simp only [lsz]); have := z.size; omega)); (·  exact x )) ); replace z := z.overW x (by (try simp only [lsz]); omega); (try replace qA := qA.over x); (try replace qe := qe.over x); (try replace b0 := b0.over x); (try replace b1 := b1.over x); (try replace b2 := b2.over x); (try replace b3 := b3.over x); rw [lay_nil h'])
    have hil := (List.getElem?_eq_some_iff.1 hr').1
    have hin : (0 : Int) ≤ (i : Int) ∧ (i : Int) < (l.length : Int) := by omega
    repeat' ( simp -implicitDefEqProofs only [syms, symx, seval, c56, hin, and_self, if_true, Nat.mul_one])
    refine store_bool b3 sz4 (by rw [wantR_length _ _ _ (by omega)]; omega) (fun h4 b4 c4 => ?_)
    rw [wantR_set hr'] at b4
    have hz3 := z.size
    refine KOpsX_chg (A := W0) (by kernel_rfl) (by omega) (by omega) (by simpa only [lay_lay, lay_size, List.append_nil, List.length_cons, List.length_nil, Nat.add_zero] using c4) ?_
    replace z := (z.upW [] _ (by omega)).step c4 (by omega)
    replace qA := qA.stepL c4 (by omega)
    replace b0 := b0.stepL c4 (by omega)
    replace b1 := b1.stepL c4 (by omega)
    replace b2 := b2.stepL c4 (by omega)
    rw [lay_nil h4]
    clear b3 qe
    repeat' (first | simp -implicitDefEqProofs only [syms, symx, seval, c56] | ((with_reducible refine ⟨z.grw.lay _ _, ?_⟩); (intro _ h' zz x _); (try simp only [lay_lay, List.append_nil] at x); (try replace qA := qA.over x); (try replace b0 := b0.over x); (try replace b1 := b1.over x); (try replace b2 := b2.over x); (try replace b4 := b4.over x); (replace z := zz); (clear zz); rw [lay_nil h']))
    rw [← lay_nil]
    exact ⟨z, qA, b0, .inl ⟨b1, b2, b4⟩⟩
  · rintro h2 zz ⟨a1, a2, a3⟩
    rw [wantR_zero] at a3
    generalize hN42 : (N56 42) = n42
    simp -implicitDefEqProofs only [syms, symx, seval, c56]
    subst hN42
    rw [lay_nil h2]
    refine W_junk (shape := fun J => v :: u :: jr J 2 8 (.pointer (some ⟨P0, 0, none⟩) :: jr J 11 87 [])) (by kernel_rfl) (fun J => ?_)
    have hz2 := zz.size
    exact derive_loop l out v u N0 W0 P0 J h h2 zz hN0 (by omega) (by omega) a1.lt a2.lt a2 a3 hl hn hr hpl K hk
theorem ok_derive (l : List ReasonD) (goals : List AtomD) (v u : Value) (h : Heap) (hl : Sl Rep.reason h v l) (hg : Sl Rep.atom h u goals) (hn : l.length ≤ 40) (hr : ∀ r ∈ l, PlainR r) (hgl : goals.length ≤ 10) (hgi : ∀ x ∈ goals, x.light = true) (hgp : AllP goals) (K : Value → Heap → Prop)
    (h1k : ¬ PlacedD l → ∀ h', Ext h h' → K (.tuple #[.slice none 0 0, .int .i64 2]) h')
    (h2k : PlacedD l → (∃ g ∈ goals, hasR l g = false) → ∀ h', Ext h h' → K (.tuple #[.slice none 0 0, .int .i64 13]) h')
    (h3k : PlacedD l → (∀ g ∈ goals, hasR l g = true) → ∀ h' w out, Ext h h' → NeedsOf l goals out → Sl Rep.step h' w (derD (keptD l out)) → K (.tuple #[w, .int .i64 0]) h') : Ok Try.prog tab ov 56 [v, u] h K := by
  rw [lay_nil h]
  have z := Ext.refl h
  have hva := vSelf v
  have hvu := vSelf u
  have hlv := fun (hh : Heap) => hl.lenA ds24 hh
  refine Ok.into rfl tab_fn56 (bodyF N56) rfl (m := 96) rfl ?_
  repeat' ( simp -implicitDefEqProofs only [syms, symx, seval, c56, hva])
  refine ok_places l v _ (hl.lay _ _) hn (fun r hr' => (hr r hr').len) _ (fun hpl h' m x => ?_) (fun hpl h' m x => ?_)
  rotate_left
  · (( skip); replace z := z.overW x (by (try simp only [lsz]); omega); rw [lay_nil h'])
    have hvm := vSelf m
    repeat' (first | simp -implicitDefEqProofs only [syms, symx, seval, c56, Bool.not_false, hvm] | ((with_reducible_and_instances apply unop_not); (· rfl)))
    exact h1k hpl _ (z.upW _ _ (by omega))
  (( skip); replace z := z.overW x (by (try simp only [lsz]); omega); rw [lay_nil h'])
  have hvm := vSelf m
  repeat' (first | simp -implicitDefEqProofs only [syms, symx, seval, c56, hva, hvu, hvm, Bool.not_true] | ((with_reducible_and_instances apply unop_not); (· rfl)))
  refine ok_needs l goals v u _ ((hl.mono z.inc).lay _ _) ((hg.mono z.inc).lay _ _) hn hr hgl hgi hgp _ (fun hfd h' w out x so hN hlo hol => ?_) (fun hfd h' x => ?_)
  rotate_left
  · (( skip); replace z := z.overW x (by (try simp only [lsz]); omega); rw [lay_nil h'])
    repeat' ( simp -implicitDefEqProofs only [syms, symx, seval, c56])
    refine store_laid1 sz23 rfl rfl ?_
    repeat' ( simp -implicitDefEqProofs only [syms, symx, seval, c56])
    exact h2k hpl hfd _ (z.upW _ _ (by omega))
  (( skip); replace z := z.overW x (by (try simp only [lsz]); omega); rw [lay_nil h'])
  have hvw := vSelf w
  have hlo1 := fun (hh : Heap) => so.lenA ds23 hh
  have cvw := so.one
  repeat' ( simp -implicitDefEqProofs only [syms, symx, seval, c56, hva, hvw, hlo1])
  refine store_laid1 sz23 (sl_cells so) cvw ?_
  simp -implicitDefEqProofs only [syms, symx, seval, c56, hva, hvw, hlo1]
  refine forkD (fun hx => absurd hx (by omega)) (fun _ => ?_)
  generalize hN30 : (N56 30) = n30
  simp -implicitDefEqProofs only [syms, symx, seval, c56]
  subst hN30
  obtain ⟨hb, ehb⟩ : ∃ hb, hb = h' := ⟨_, rfl⟩
  subst ehb
  refine W_fold (fun h' x2 hq => ?_)
  have qn := hq 0 _ rfl
  rw [lay_nil h']
  refine W_junk (shape := fun J => v :: u :: jr J 2 6 (.pointer (some ⟨hb.size + 0, 0, none⟩) :: jr J 9 89 [])) (by kernel_rfl) (fun J => ?_)
  exact derive_rest l out v u w _ J hb h' ((Ext.refl hb).overW x2 (by omega)) (by omega) qn (hl.mono z.inc) so hn hr hlo hol hpl K (fun h2 ws x3 s => h3k hpl hfd h2 ws out (z.trans x3) hN s)
end Go.Proofs.Ytompindebndddaa
namespace Go.Proofs.Ytompindebndddaa
open Go.Am
set_option linter.unusedSimpArgs false
set_option linter.unusedVariables false
theorem keptD_at {out : List AtomD} : ∀ (l : List ReasonD) (i : Nat) (r : ReasonD), (keptD l out)[i]? = some r → ∃ p : Nat, l[p]? = some r ∧ (keptD (l.take p) out).length = i ∧ keptD (l.take p) out = (keptD l out).take i ∧ hasA out r.atom = true
  | [], i, r, h => by simp [keptD] at h
  | x :: l, i, r, h => by
    unfold keptD at h ⊢
    rw [List.filter_cons] at h
    by_cases hx : hasA out x.atom = true
    · rw [if_pos hx] at h
      cases i with
      | zero =>
        have e : x = r := by simpa using h
        subst e
        exact ⟨0, rfl, rfl, rfl, hx⟩
      | succ i =>
        obtain ⟨p, h1, h2, h3, h4⟩ := keptD_at l i r (by unfold keptD; simpa using h)
        unfold keptD at h2 h3
        refine ⟨p + 1, by simpa using h1, ?_, ?_, h4⟩
        · rw [List.take_succ_cons, List.filter_cons, if_pos hx, List.length_cons, h2]
        · rw [List.take_succ_cons, List.filter_cons, List.filter_cons, if_pos hx, if_pos hx, List.take_succ_cons, h3]
    · rw [if_neg hx] at h
      obtain ⟨p, h1, h2, h3, h4⟩ := keptD_at l i r h
      unfold keptD at h2 h3
      refine ⟨p + 1, by simpa using h1, ?_, ?_, h4⟩
      · rw [List.take_succ_cons, List.filter_cons, if_neg hx, h2]
      · rw [List.take_succ_cons, List.filter_cons, List.filter_cons, if_neg hx, if_neg hx, h3]
theorem placed_idx {l : List ReasonD} (hp : PlacedD l) {p : Nat} {r : ReasonD} (h : l[p]? = some r) : idxP (fun x => decide (x.atom = r.atom)) l = p ∧ l.any (fun x => decide (x.atom = r.atom)) = true ∧ bodyOf l r.atom = r.body := by
  have hno : ∀ y ∈ l.take p, decide (y.atom = r.atom) = false := fun y hy => decide_eq_false (fun e => (hp p r h).1 (by rw [← e]; exact List.mem_map.2 ⟨y, hy, rfl⟩))
  have h1 := idx_found (p := fun x : ReasonD => decide (x.atom = r.atom)) h hno (decide_eq_true rfl)
  have h2 : l.any (fun x => decide (x.atom = r.atom)) = true := List.any_eq_true.2 ⟨r, List.mem_of_getElem? h, decide_eq_true rfl⟩
  refine ⟨h1, h2, ?_⟩
  obtain ⟨i, h3, h4, r2, h5, h6, h7⟩ := findR (l := l) (a := r.atom) h2
  have e : i = p := by have := h3.symm.trans h1; omega
  subst e
  rw [h5] at h
  cases h
  exact h7
theorem look_kv {ks : List ReasonD} {b : AtomD} (h : b ∈ ks.map (·.atom)) : ∃ (c : Nat) (r : ReasonD), citeD ks b = c ∧ ks[c]? = some r ∧ r.atom = b := by
  have key : ∀ (l : List ReasonD) (k : Nat), b ∈ l.map (·.atom) → ∃ (c : Nat) (r : ReasonD), ((l.zipIdx k).map (fun p => (p.1.atom, (p.2 : Int)))).find? (fun p => decide (b = p.1)) = some (b, ((k + c : Nat) : Int)) ∧ l[c]? = some r ∧ r.atom = b := by
    intro l
    induction l with
    | nil => intro k h; simp at h
    | cons x l ih =>
      intro k h
      rw [List.zipIdx_cons, List.map_cons]
      by_cases e : b = x.atom
      · refine ⟨0, x, ?_, rfl, e.symm⟩
        rw [List.find?_cons_of_pos (by simpa using e), ← e]
        rfl
      · obtain ⟨c, r, h1, h2, h3⟩ := ih (k + 1) (by simpa [e] using h)
        refine ⟨c + 1, r, ?_, by simpa using h2, h3⟩
        rw [List.find?_cons_of_neg (by simpa using e), h1, show k + 1 + c = k + (c + 1) by omega]
  obtain ⟨c, r, h1, h2, h3⟩ := key ks 0 h
  refine ⟨c, r, ?_, h2, h3⟩
  unfold citeD lookI kvOf
  rw [h1]
  simp
theorem der_cites {l : List ReasonD} {out : List AtomD} (hr : ∀ r ∈ l, PlainR r) : ∀ s ∈ derD (keptD l out), s.cites.length ≤ 1000 := by
  intro s hs
  obtain ⟨i, hi⟩ := List.getElem?_of_mem hs
  have hil : i < (keptD l out).length := by
    have := (List.getElem?_eq_some_iff.1 hi).1
    rwa [derD_length] at this
  have h2 := derD_get (List.getElem?_eq_getElem hil)
  rw [hi] at h2
  have es := Option.some.inj h2
  rw [es]
  have hm : (keptD l out)[i] ∈ l := (List.mem_filter.1 (List.getElem_mem hil)).1
  have := (hr _ hm).len
  simp only [stepD, List.length_map]
  omega
theorem kept_small {l : List ReasonD} {out : List AtomD} : (keptD l out).length ≤ l.length := List.length_filter_le _ _
theorem placed_uniq {ks : List ReasonD} (hp : PlacedD ks) {i j : Nat} {r s : ReasonD} (h1 : ks[i]? = some r) (h2 : ks[j]? = some s) (e : r.atom = s.atom) : i = j := by
  have key : ∀ {i j : Nat} {r s : ReasonD}, ks[i]? = some r → ks[j]? = some s → r.atom = s.atom → ¬ i < j := by
    intro i j r s h1 h2 e hij
    refine (hp j s h2).1 (List.mem_map.2 ⟨r, ?_, e⟩)
    exact List.mem_of_getElem? (i := i) (by rw [List.getElem?_take_of_lt hij]; exact h1)
  have a := key h1 h2 e
  have b := key h2 h1 e.symm
  omega
theorem kept_placed {l : List ReasonD} {goals out : List AtomD} (hp : PlacedD l) (hN : NeedsOf l goals out) (hr : ∀ r ∈ l, PlainR r) : PlacedD (keptD l out) := by
  intro i r hk
  obtain ⟨p, h1, h2, h3, h4⟩ := keptD_at l i r hk
  have hpr := hr r (List.mem_of_getElem? h1)
  have hin : r.atom ∈ out := (hasA_mem hN.plain hpr.plain).1 h4
  refine ⟨fun hx => (hp p r h1).1 ?_, fun b hbm => ?_⟩
  · rw [← h3] at hx
    obtain ⟨y, hy, ey⟩ := List.mem_map.1 hx
    exact List.mem_map.2 ⟨y, (List.mem_filter.1 hy).1, ey⟩
  · have hbo : b ∈ out := hN.closed r.atom hin b (by rw [(placed_idx hp h1).2.2]; exact hbm)
    obtain ⟨r2, hr2, e2⟩ := List.mem_map.1 ((hp p r h1).2 b hbm)
    rw [← h3]
    refine List.mem_map.2 ⟨r2, List.mem_filter.2 ⟨hr2, ?_⟩, e2⟩
    rw [e2]
    exact hasA_iff.2 ⟨b, hbo, rfl⟩
theorem der_inv {ks : List ReasonD} {i : Nat} {s : StepD} (h : (derD ks)[i]? = some s) : ∃ r, ks[i]? = some r ∧ s = stepD (ks.take i) r := by
  have hil : i < ks.length := by
    have := (List.getElem?_eq_some_iff.1 h).1
    rwa [derD_length] at this
  have hk : ks[i]? = some ks[i] := List.getElem?_eq_getElem hil
  have hs := derD_get hk
  rw [h] at hs
  exact ⟨_, hk, Option.some.inj hs⟩
theorem der_cite {ks : List ReasonD} (hp : PlacedD ks) {i : Nat} {r : ReasonD} (hk : ks[i]? = some r) {b : AtomD} (hb : b ∈ r.body) : ∃ (j : Nat) (r2 : ReasonD), citeD (ks.take i) b = j ∧ j < i ∧ ks[j]? = some r2 ∧ r2.atom = b := by
  obtain ⟨j, r3, hj1, hj2, hj3⟩ := look_kv ((hp i r hk).2 b hb)
  have hji : j < i := by
    have := (List.getElem?_eq_some_iff.1 hj2).1
    rw [List.length_take] at this
    omega
  exact ⟨j, r3, hj1, hji, by rw [List.getElem?_take_of_lt hji] at hj2; exact hj2, hj3⟩
def backD (s : List StepD) (x : StepD) : ReasonD := ⟨x.atom, x.clause, x.cites.map fun c => (s.getD c.toNat noStepD).atom⟩
def reasonsD (s : List StepD) : List ReasonD := s.map (backD s)
def AheadD (s : List StepD) : Prop := ∀ (i : Nat) (x : StepD), s[i]? = some x → ∀ c ∈ x.cites, 0 ≤ c ∧ c < (i : Int)
theorem lastF_eq {l : List StepD} {a : AtomD} {i : Nat} {s : StepD} (h : l[i]? = some s) (e : s.atom = a) (hu : ∀ j x, l[j]? = some x → x.atom = a → j = i) : ∀ n, i < n → n ≤ l.length → lastF l a n = i := by
  intro n
  induction n with
  | zero => intro h; omega
  | succ n ih =>
    intro hn hl
    have hx : l[n]? = some l[n] := List.getElem?_eq_getElem (by omega)
    have hg : l.getD n noStepD = l[n] := by rw [List.getD_eq_getElem?_getD, hx]; rfl
    unfold lastF
    rw [hg]
    split
    · rename_i he
      have := hu n _ hx he
      omega
    · rename_i hne
      refine ih ?_ (by omega)
      by_cases ej : i = n
      · subst ej
        rw [hx] at h
        cases h
        exact absurd e hne
      · omega
theorem last_der {ks : List ReasonD} (hp : PlacedD ks) {i : Nat} {s : StepD} (h : (derD ks)[i]? = some s) : lastD (derD ks) s.atom = i := by
  refine lastF_eq h rfl (fun j x hx e => ?_) _ (List.getElem?_eq_some_iff.1 h).1 (Nat.le_refl _)
  obtain ⟨r, h1, rfl⟩ := der_inv h
  obtain ⟨r2, h2, rfl⟩ := der_inv hx
  exact placed_uniq hp h2 h1 e
end Go.Proofs.Ytompindebndddaa

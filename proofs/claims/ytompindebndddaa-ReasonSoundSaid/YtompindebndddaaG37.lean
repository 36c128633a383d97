/- The code of some functions, node by node, for simp. Written by a program (mkcode.py). No condition. -/
import Derived.Test.YtompindebndddaaG19
import Derived.Test.YtompindebndddaaG14
import Derived.KernelRfl
import Derived.Test.YtompindebndddaaG36
namespace Go.Proofs.Ytompindebndddaa
open Go.Am
set_option linter.unusedVariables false
set_option linter.unusedSimpArgs false
set_option maxRecDepth 100000
set_option maxHeartbeats 0
noncomputable def N17 := nodeF Try.f17
noncomputable def x17 := PLift.up (by have c := factsOf N17 Try.f17; simp only [codeOf, Try.f17, Option.getD_some, factsF, opsF, opsX, ncount, wantG, dstL, quietS, List.append_eq, List.cons_append, List.nil_append, seval] at c; exact nd c <| nd @al103 <| nd @al41 <| nd @fa41_0 <| nd @fa41_2 <| nd @ix24 <| nd @ld103 <| nd @ld23 <| nd @ld39 <| nd @ld41 <| nd @ln24 <| @fi17)
theorem c17 : type_of% x17.down := x17.down
noncomputable def N19 := nodeF Try.f19
noncomputable def x19 := PLift.up (by have c := factsOf N19 Try.f19; simp only [codeOf, Try.f19, Option.getD_some, factsF, opsF, opsX, ncount, wantG, dstL, quietS, List.append_eq, List.cons_append, List.nil_append, seval] at c; exact nd c <| nd @al39 <| nd @al41 <| nd @fa41_2 <| nd @ix23 <| nd @ix24 <| nd @ix32 <| nd @ld23 <| nd @ld3 <| nd @ld39 <| nd @ld41 <| nd @ln23 <| nd @ln24 <| @fi19)
theorem c19 : type_of% x19.down := x19.down
noncomputable def N4 := nodeF Try.f4
noncomputable def x4 := PLift.up (by have c := factsOf N4 Try.f4; simp only [codeOf, Try.f4, Option.getD_some, factsF, opsF, opsX, ncount, wantG, dstL, quietS, List.append_eq, List.cons_append, List.nil_append, seval] at c; exact nd c <| nd @bs22 <| nd @ld47 <| nd @ln24 <| nd @ln32 <| @fi4)
end Go.Proofs.Ytompindebndddaa
namespace Go.Proofs.Ytompindebndddaa
open Go.Am
set_option linter.unusedSimpArgs false
set_option linter.unusedVariables false
set_option maxRecDepth 100000
set_option maxHeartbeats 0
theorem eq_atoms (a b : AtomD) : eqIn tab 20 39 a.val b.val = some (decide (a = b)) := by
  have h : eqIn tab 20 39 a.val b.val = eqA a b := by kernel_rfl
  rw [h, eqA_some]
theorem st104 (h : Heap) (l : List Blk) (w i o : Nat) (v : Value) (hi : i < l.length) : storeA tab 104 (.pointer (some ⟨h.size + i, o, none⟩)) v (h.lay l w) = if v.cells.size = 0 then storeO l[i]? i o v.cells.toList h l w else none := st_lay sz104 h l w i o v hi
theorem st103 (h : Heap) (l : List Blk) (w i o : Nat) (v : Value) (hi : i < l.length) : storeA tab 103 (.pointer (some ⟨h.size + i, o, none⟩)) v (h.lay l w) = if v.cells.size = 1 then storeO l[i]? i o v.cells.toList h l w else none := st_lay sz103 h l w i o v hi
theorem bld_es : buildA tab 104 [] = some (.agg ⟨[]⟩) := by kernel_rfl
theorem zero_es : tab.zero 104 = some (.agg ⟨[]⟩) := by kernel_rfl
theorem len_re (a : AtomD) (u w : Value) : (a.cells ++ [u, w]).length = 13 := rfl
theorem dec13 : decide (13 ≤ 13) = true := rfl
theorem drop13 (z0 z1 z2 z3 z4 z5 z6 z7 z8 z9 z10 z11 z12 : Value) : List.drop 13 [z0, z1, z2, z3, z4, z5, z6, z7, z8, z9, z10, z11, z12] = [] := rfl
theorem one_re {a : AtomD} {n : Int} {w : Value} (h : Am.one w = true) : (a.cells ++ [.int .i64 n, w]).all Am.one = true := by
  rw [List.all_append, one_atom, Bool.true_and]
  simp only [List.all_cons, List.all_nil, h, Bool.and_true]
  rfl
theorem cut_re13 (a : AtomD) (u w : Value) : cut (a.cells ++ [u, w]) 0 13 = some (a.cells ++ [u, w]) := rfl
theorem ok_lacks (a : AtomD) (met : List AtomD) (A B : Nat) (h : Heap) (m : MapA h B met) (q : Holds h A (.row [.map (some B)] 103 false)) (K : Value → Heap → Prop)
    (hk : ∀ h', Ext h h' → K (.bool (!decide (a ∈ met))) h') : Ok Try.prog tab ov 77 [a.val, .pointer (some ⟨A, 0, none⟩)] h K := by
  rw [lay_nil h]
  have z := Ext.refl h
  have hvm : ∀ (h : Heap) (K : Value → Heap → Prop), valE (some (.map (some B))) h K = K (.map (some B)) h := fun _ _ => rfl
  refine Ok.into rfl tab_fn77 (bodyF N77) rfl (m := 12) rfl ?_
  simp -implicitDefEqProofs only [syms, symx, seval, c77, cells_atom, q.lay, hvm, ↓cut_atom, agg_atom, valE_atom, w_lookup]
  refine lookup_rule m ds103 eq_atoms zero_es ?_
  cases hd : decide (a ∈ met)
  all_goals
    rw [hd] at hk
    repeat' (first | simp -implicitDefEqProofs only [syms, symx, seval, c77, lay_set, storeO_row, List.all_cons, List.all_nil, Am.one, Bool.and_true, Bool.true_and, Bool.and_self, List.set_cons_zero, List.set_cons_succ, st4, st3, st9, st36, st39, st47, st41, st192, st104] | ((with_reducible_and_instances apply unop_not); (· rfl)))
    exact hk _ (z.upW _ _ (by omega))
theorem ok_founded (cl : List ClauseD) (facts : List AtomD) (l : List ReasonD) (cv fv v : Value) (h : Heap) (hc : Sl Rep.clause h cv cl) (hf : Sl Rep.atom h fv facts) (hl : Sl Rep.reason h v l) (hcs : cl.length ≤ 1000) (hfs : facts.length ≤ 1000) (hs : l.length ≤ 1000) (hbs : ∀ r ∈ l, r.body.length ≤ 100) (K : Value → Heap → Prop)
    (hk : ∀ h', Ext h h' → K (.int .i64 (foundD cl facts [] l 0)) h') : Ok Try.prog tab ov 17 [cv, fv, v] h K := by
  rw [lay_nil h]
  have z := Ext.refl h
  refine Ok.into rfl tab_fn17 (bodyF N17) rfl (m := 41) rfl ?_
  simp -implicitDefEqProofs only [syms, symx, seval, c17, w_makeMap, lay_set, storeO_row, List.all_cons, List.all_nil, Am.one, Bool.and_true, Bool.true_and, Bool.and_self, List.set_cons_zero, List.set_cons_succ, st4, st3, st9, st36, st39, st47, st41, st192, st103]
  repeat' (( with_reducible_and_instances refine ln_rule (hl.mono z.inc) ds24 ?_) <;> simp -implicitDefEqProofs only [syms, symx, seval, c17, w_makeMap, lay_set, storeO_row, List.all_cons, List.all_nil, Am.one, Bool.and_true, Bool.true_and, Bool.and_self, List.set_cons_zero, List.set_cons_succ, st4, st3, st9, st36, st39, st47, st41, st192, st103])
  refine W_fold (fun h' x hq => ?_)
  have q0 := hq 0 _ rfl
  have q1 := hq 1 _ rfl
  clear hq
  (replace z := z.overW x (by (try simp only [lsz]); omega); rw [lay_nil h'])
  have m0 : MapA h' (h.size + 0) [] := ⟨[], 0, [], q0, rfl, fun _ => Iff.rfl, fun _ hx => by simp at hx⟩
  clear q0
  obtain ⟨I1, hI1⟩ : ∃ I : Nat → Env → Heap → Prop, I = (fun n e h' => ∃ (i : Nat) (met : List AtomD) (h1 : Heap), h' = h1.lay [] h1.low ∧ Ext h h1 ∧ (n = l.length - i ∧ i ≤ l.length ∧ foundD cl facts [] l 0 = foundD cl facts met (l.drop i) i ∧ MapA h1 (h.size + 0) met ∧ Holds h1 (h.size + 1) (.row [.map (some (h.size + 0))] 103 false)) ∧ ∃ J : Nat → Value, e = (cv :: fv :: jr J 2 5 (.pointer (some ⟨h.size + 1, 0, none⟩) :: .func (.func 77) ⟨[]⟩ ⟨[.pointer (some ⟨h.size + 1, 0, none⟩)]⟩ :: jr J 9 4 (v :: .int .i64 l.length :: .int .i64 i :: jr J 16 28 ([]))))) := ⟨_, rfl⟩
  refine W_loopN I1 _ (by rw [hI1]; exact ⟨0, [], _, rfl, z, ⟨rfl, by omega, rfl, m0, q1⟩, junk (by kernel_rfl)⟩) ?_
  intro n e h' hin
  rw [hI1] at hin
  obtain ⟨i, met, h1', rfl, z, hinv, J, rfl⟩ := hin
  clear q1 m0
  obtain ⟨rfl, hi, hfd, m0, q1⟩ := hinv
  have hw : IntKind.i64.wrap ((i : Int) + 1) = ((i + 1 : Nat) : Int) := by rw [wrap_i64 (by omega) (by omega)]; omega
  simp -implicitDefEqProofs only [syms, symx, seval, c17]
  refine forkD (fun hlt => ?_) (fun hlt => ?_)
  rotate_left
  · repeat' ( simp -implicitDefEqProofs only [syms, symx, seval, c17])
    rw [hfd, List.drop_of_length_le (by omega)] at hk
    exact hk _ (z.upW _ _ (by omega))
  obtain ⟨r, hr, hr'⟩ := amElem (l := l) (i := i) hlt
  have hrb := hbs r (List.mem_of_getElem? hr')
  have hstep : foundD cl facts [] l 0 = if badD cl facts met r = true then (i : Int) else foundD cl facts (r.atom :: met) (l.drop (i + 1)) (i + 1) := by
    rw [hfd]
    obtain ⟨hh, he⟩ := List.getElem?_eq_some_iff.1 hr'
    have d2 : l.drop i = r :: l.drop (i + 1) := by
      rw [← he]
      exact List.drop_eq_getElem_cons hh
    rw [d2]
    rfl
  simp -implicitDefEqProofs only [syms, symx, seval, c17]
  repeat' ((first | with_reducible_and_instances refine ixr_at (hl.mono z.inc) ds24 sz41 (by omega) hr (fun p bd hbd hp => ?_) | with_reducible_and_instances refine ldr hp ag41 sz41 ?_) <;> simp -implicitDefEqProofs only [syms, symx, seval, c17])
  have hall := one_re (a := r.atom) (n := r.clause) hbd.one
  repeat' ( simp -implicitDefEqProofs only [syms, symx, seval, c17, lay_set, storeO_row, List.all_cons, List.all_nil, Am.one, Bool.and_true, Bool.true_and, Bool.and_self, List.set_cons_zero, List.set_cons_succ, st4, st3, st9, st36, st39, st47, st41, st192, len_re, hall, dec13, drop13, if_true, ↓cut_re13])
  have hfun : ∀ (a : AtomD) (hc' : Heap) (K' : Value → Heap → Prop), MapA hc' (h.size + 0) met → Holds hc' (h.size + 1) (.row [.map (some (h.size + 0))] 103 false) → (∀ h2, Ext hc' h2 → K' (.bool (!decide (a ∈ met))) h2) → callE Try.prog tab ov [a.val] hc' K' (.func (.func 77) ⟨[]⟩ ⟨[.pointer (some ⟨h.size + 1, 0, none⟩)]⟩) := by
    intro a hc' K' g1 g2 g3
    rw [callE_clos]
    exact ok_lacks a met _ _ hc' g1 g2 K' g3
  refine ok_right cl facts r cv fv bd _ (hc.mono (z.upW _ _ (by omega)).inc) (hf.mono (z.upW _ _ (by omega)).inc) (hbd.lay _ _) hcs hfs hrb _ (fun h' x => ?_)
  have q2 := Holds.top (i := 0) x rfl
  replace hbd := hbd.over x
  ((skip); replace z := z.overW x (by (try simp only [lsz]); omega); (try replace q1 := q1.over x); (try replace m0 := m0.over x); rw [lay_nil h'])
  cases hrt : rightD cl facts r
  · repeat' (first | simp -implicitDefEqProofs only [syms, symx, seval, c17] | ((with_reducible_and_instances apply unop_not); (· rfl)))
    have hbad : badD cl facts met r = true := by unfold badD; rw [hrt]; rfl
    rw [hstep, if_pos hbad] at hk
    exact hk _ (z.upW _ _ (by omega))
  have valE_slbd := vSelf bd
  repeat' (first | simp -implicitDefEqProofs only [syms, symx, seval, c17, q2.lay, ↓cut_re0, cell_re2, agg_atom, valE_atom] | ((with_reducible_and_instances apply unop_not); (· rfl)))
  refine hfun r.atom _ _ (m0.over (Ext.refl _)) (q1.on _ _) (fun h' x => ?_)
  ((skip); replace z := z.overW x (by (try simp only [lsz]); omega); (try replace q1 := q1.over x); (try replace m0 := m0.over x); (try replace q2 := q2.over x); (try replace hbd := hbd.over x); rw [lay_nil h'])
  cases hm : decide (r.atom ∈ met)
  rotate_left
  · repeat' (first | simp -implicitDefEqProofs only [syms, symx, seval, c17] | ((with_reducible_and_instances apply unop_not); (· rfl)))
    have hbad : badD cl facts met r = true := by unfold badD; rw [hrt, hm]; rfl
    rw [hstep, if_pos hbad] at hk
    exact hk _ (z.upW _ _ (by omega))
  repeat' (first | simp -implicitDefEqProofs only [syms, symx, seval, c17, q2.lay, cell_re2, valE_slbd] | ((with_reducible_and_instances apply unop_not); (· rfl)))
  refine ok_containsAtomF r.body bd _ (fun a => !decide (a ∈ met)) _ (hbd.lay _ _) (by omega) (fun y hc' K' xe hk' => ?_) _ (fun h' x => ?_)
  · exact hfun y hc' K' (m0.over xe) (q1.over xe) hk'
  ((skip); replace z := z.overW x (by (try simp only [lsz]); omega); (try replace q1 := q1.over x); (try replace m0 := m0.over x); (try replace q2 := q2.over x); (try replace hbd := hbd.over x); rw [lay_nil h'])
  cases hany : r.body.any fun a => !decide (a ∈ met)
  rotate_left
  · repeat' ( simp -implicitDefEqProofs only [syms, symx, seval, c17])
    have hbad : badD cl facts met r = true := by unfold badD; rw [hrt, hm, hany]; rfl
    rw [hstep, if_pos hbad] at hk
    exact hk _ (z.upW _ _ (by omega))
  have hbad : badD cl facts met r = false := by unfold badD; rw [hrt, hm, hany]; rfl
  rw [hbad, if_neg (by decide)] at hstep
  have hvm : ∀ (h2 : Heap) (K : Value → Heap → Prop), valE (some (.map (some (h.size + 0)))) h2 K = K (.map (some (h.size + 0))) h2 := fun _ _ => rfl
  repeat' ( simp -implicitDefEqProofs only [syms, symx, seval, c17, q1.lay, q2.lay, ↓cut_re0, agg_atom, valE_atom, hvm, bld_es, w_mapUpdate])
  obtain ⟨h3, hu, m3, c3⟩ := update_rule (h := h'.lay [] h'.low) (a := r.atom) (m0.over (Ext.refl _)) ds103 eq_atoms (by simpa using hm)
  rw [hu]
  have hz := z.size
  replace z := (z.upW [] h'.low (by omega)).step c3 (by omega)
  replace q1 := q1.stepL c3 (by omega)
  rw [lay_nil h3]
  repeat' ( simp -implicitDefEqProofs only [syms, symx, seval, c17])
  rw [hw]
  (rw [hI1]; with_reducible refine loopN_normal (m := _) ?_ ⟨i + 1, r.atom :: met, _, rfl, z, ⟨rfl, by omega, hstep, m3, q1⟩, junk (by kernel_rfl)⟩; omega)
end Go.Proofs.Ytompindebndddaa

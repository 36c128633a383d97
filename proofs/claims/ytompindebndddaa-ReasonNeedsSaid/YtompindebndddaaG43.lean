/- A list of one's own from which the first is taken, to which one is appended. No condition. -/
import Derived.Test.YtompindebndddaaGMergeR
import Derived.Test.YtompindebndddaaGNeed
import Derived.Test.YtompindebndddaaG31
import Derived.Test.YtompindebndddaaZF4
import Derived.Test.YtompindebndddaaG32
import Derived.Test.YtompindebndddaaZK9
namespace Go.Am
set_option linter.unusedVariables false
set_option linter.unusedSimpArgs false
def OwnT (h0 h : Heap) (u : TypeId) (v : Value) (s : List AtomD) : Prop :=
  (s = [] ∧ Emp h v) ∨ ∃ A o full, v = .slice (some ⟨A, o * 11, none⟩) s.length (G * 11 + s.length) ∧ Holds h A (.row (rowA full) u false) ∧ h0.size ≤ A ∧ full.drop o = s ∧ o ≤ full.length ∧ full.length ≤ 100000
theorem OwnX.todo {h0 h : Heap} {u : TypeId} {v : Value} {s : List AtomD} (f : OwnX h0 h u v s) (hn : s.length ≤ 100000) : OwnT h0 h u v s := by
  rcases f with f | ⟨A, e1, e2, e3, e4⟩
  · exact .inl f
  · exact .inr ⟨A, 0, s, by rw [Nat.zero_mul]; exact e1, e2, e3, rfl, Nat.zero_le _, hn⟩
theorem OwnT.mono {h0 h h' : Heap} {u : TypeId} {v : Value} {s : List AtomD} (f : OwnT h0 h u v s) (i : Inc h h') : OwnT h0 h' u v s := by
  rcases f with ⟨e, f⟩ | ⟨A, o, full, e1, e2, e3⟩
  · exact .inl ⟨e, f.mono i⟩
  · exact .inr ⟨A, o, full, e1, e2.mono i, e3⟩
theorem OwnT.over {h0 h1 h2 : Heap} {u : TypeId} {v : Value} {s : List AtomD} {bs : List Blk} {w : Nat} (f : OwnT h0 h1 u v s) (x : Ext (h1.lay bs w) h2) : OwnT h0 h2 u v s := f.mono ((Inc.lay _ _ _).trans x.inc)
theorem OwnT.down {h0 h1 h : Heap} {u : TypeId} {v : Value} {s : List AtomD} (f : OwnT h1 h u v s) (i : h0.size ≤ h1.size) : OwnT h0 h u v s := by
  rcases f with f | ⟨A, o, full, e1, e2, e3, e4⟩
  · exact .inl f
  · exact .inr ⟨A, o, full, e1, e2, by omega, e4⟩
theorem OwnT.sl {h0 h : Heap} {u : TypeId} {v : Value} {s : List AtomD} (f : OwnT h0 h u v s) : Sl Rep.atom h v s := by
  rcases f with ⟨rfl, f⟩ | ⟨A, o, full, rfl, e2, e3, e4, e5, e6⟩
  · exact f.sl
  · have hG := G_big
    have hs : s.length ≤ 100000 := by rw [← e4, List.length_drop]; omega
    obtain ⟨d1, d2, d3⟩ := openCap2 (k := 11) (q := s.length) (by decide) (by omega)
    exact sl_row (o := o) e2 (.inr ⟨d1, d2, by rw [d3]; exact Nat.le_refl _⟩) hs (fun i x hx => by rw [← e4, List.getElem?_drop] at hx; exact hx)
theorem OwnT.tail {T : Tab} {t u : TypeId} {kd : IntKind} (hd : T.desc t = some (.slice u)) (hs : sizeA T u = some 11) {h0 h : Heap} {v : Value} {x : AtomD} {s : List AtomD} (f : OwnT h0 h u v (x :: s)) :
    ∃ v', sliceA T t v (some (.int kd 1)) none none = some v' ∧ OwnT h0 h u v' s := by
  rcases f with ⟨e, _⟩ | ⟨A, o, full, rfl, e2, e3, e4, e5, e6⟩
  · cases e
  · have hG := G_big
    have hl : (x :: s).length = full.length - o := by rw [← e4, List.length_drop]
    simp only [List.length_cons] at hl
    obtain ⟨d1, d2, d3⟩ := openCap2 (k := 11) (q := s.length + 1) (by decide) (by omega)
    refine ⟨.slice (some ⟨A, o * 11 + 1 * 11, none⟩) (s.length + 1 - 1) (G * 11 + (s.length + 1 - 1)), ?_, .inr ⟨A, o + 1, full, ?_, e2, e3, ?_, by omega, e6⟩⟩
    · unfold sliceA
      simp only [hd, hs, Option.bind_some, List.length_cons]
      rw [if_neg (by omega), d2, if_pos rfl, d3]
      unfold boundsA
      have hb : bound (.int kd 1) (s.length + 1) = some 1 := by
        have := bound_nat (kd := kd) (n := 1) (hi := s.length + 1) (by omega)
        simpa using this
      simp only [hb, Option.bind_some, Option.map_some]
    · rw [← Nat.add_mul]
      rfl
    · have := congrArg List.tail e4
      rw [List.tail_cons, List.tail_drop] at this
      exact this
theorem OwnT.app {T : Tab} {t u : TypeId} {bytes : Nat} {z : List Value} (hd : T.desc t = some (.slice u)) (hi : T.info u = some (11, bytes, z)) (hby : bytes ≤ 1000) {h0 h1 : Heap} {w : Value} {s : List AtomD} {a : AtomD} {lw : Nat}
    (hz : h0.size ≤ h1.size) (ho : OwnT h0 h1 u w s) (hn : s.length ≤ 10000) :
    ∃ w' H', appendA T t w (.slice (some ⟨h1.size + 0, 0, none⟩) 1 1) (h1.lay [.row a.cells u false] lw) = some (w', H') ∧ OwnT h0 H' u w' (s ++ [a]) ∧ ∃ A, h0.size ≤ A ∧ (A < h1.size ∨ A = h1.size) ∧ Chg A (h1.lay [.row a.cells u false] lw) H' ∧ (A = h1.size ∨ ∀ hh, OwnT h0 hh u w s → A < hh.size) := by
  obtain ⟨H, hH⟩ : ∃ H, H = h1.lay [.row a.cells u false] lw := ⟨_, rfl⟩
  have hgB : H.get (h1.size + 0) = some (.row a.cells u false) := by rw [hH, lay_get]; rfl
  have hHs : H.size = h1.size + 1 := by rw [hH, lay_size]; rfl
  rw [← hH]
  have hacut : cut a.cells 0 11 = some a.cells := rfl
  have hone : a.cells.all one = true := rfl
  have hsrc : srcA (.slice (some ⟨h1.size + 0, 0, none⟩) 1 1) 11 H = some (1, a.cells) := by
    unfold srcA cellsA cellsAt
    simp only [hgB, hacut, Option.map_some, Nat.one_mul]
    rfl
  have hG := G_big
  rcases ho with ⟨rfl, hemp⟩ | ⟨A, o, full, rfl, hq, hA, hdr, hol, hle⟩
  · have key : ∀ base c, c = 0 → cellsA (.slice base 0 c) 11 H = some [] → appendA T t (.slice base 0 c) (.slice (some ⟨h1.size + 0, 0, none⟩) 1 1) H = some (.slice (some ⟨H.size, 0, none⟩) 1 (G * 11 + 1), H.push (.row a.cells u false)) := by
      intro base c hc hcell
      subst hc
      unfold appendA
      simp only [hd, hi, Option.bind_some, hsrc, hcell, hone]
      rw [if_neg (by omega), if_neg (by simp; omega), if_neg (by simp), if_pos (by unfold G; omega)]
      rfl
    refine ⟨.slice (some ⟨H.size, 0, none⟩) 1 (G * 11 + 1), H.push (.row a.cells u false), ?_, ?_, h1.size, hz, .inr rfl, ⟨by rw [Heap.size_push]; omega, fun B h1 h2 => by rw [Heap.get_push, if_neg (by omega)], by rw [Heap.low_push]; omega⟩, .inl rfl⟩
    · rcases hemp.no with rfl | ⟨B, o, rfl⟩
      · exact key _ _ rfl rfl
      · exact key _ _ rfl rfl
    · refine .inr ⟨H.size, 0, [a], rfl, ⟨by rw [Heap.size_push]; omega, ?_⟩, by omega, rfl, by simp, by simp⟩
      rw [Heap.get_push, if_pos rfl]
      rfl
  · have hqH : H.get A = some (.row (rowA full) u false) := by rw [hH]; exact hq.lay _ _
    have hAlt : A < h1.size := hq.lt
    have hsl : s.length = full.length - o := by rw [← hdr, List.length_drop]
    obtain ⟨d1, d3, d2⟩ := openCap2 (k := 11) (q := s.length) (by decide) (by omega)
    have hold : cellsA (.slice (some ⟨A, o * 11, none⟩) s.length (G * 11 + s.length)) 11 H = some (rowA s) := by
      unfold cellsA
      simp only
      split
      · rename_i h0
        have : s = [] := List.length_eq_zero_iff.1 (by omega)
        subst this
        rfl
      · unfold cellsAt
        rw [hqH]
        have e : full = full.take o ++ (s ++ []) := by rw [List.append_nil, ← hdr, List.take_append_drop]
        simp only
        rw [e]
        exact rowA_part (by rw [List.length_take]; congr 1; omega) rfl
    have hb48 : ¬ ((s.length + 1) * bytes > 140737488355328) := by
      have : (s.length + 1) * bytes ≤ 10001 * 1000 := Nat.mul_le_mul (by omega) hby
      omega
    have hap : appendA T t (.slice (some ⟨A, o * 11, none⟩) s.length (G * 11 + s.length)) (.slice (some ⟨h1.size + 0, 0, none⟩) 1 1) H = some (.slice (some ⟨H.size, 0, none⟩) (s.length + 1) (G * 11 + (s.length + 1)), (H.set A .dead).push (.row (rowA s ++ a.cells) u false)) := by
      unfold appendA
      simp only [hd, hi, Option.bind_some, hsrc, hone, hqH]
      rw [if_neg (by omega), if_neg (by simp; omega), if_neg (by rw [d2]; omega), hold]
      simp only [Option.bind_some]
      rw [if_neg (by omega), if_pos (by rw [d3]; simp)]
    rw [hap]
    refine ⟨_, _, rfl, ?_, A, hA, .inl hAlt, ⟨by rw [Heap.size_push, Heap.size_set]; omega, fun B h1 h2 => by rw [Heap.get_push, Heap.size_set, if_neg (by omega), Heap.get_set _ _ _ _ (by omega), if_neg h2], by rw [Heap.low_push, Heap.low_set]; omega⟩, .inr (fun hh f => ?_)⟩
    · refine .inr ⟨H.size, 0, s ++ [a], by simp, ⟨by rw [Heap.size_push, Heap.size_set]; omega, by rw [Heap.get_push, Heap.size_set, if_pos rfl, rowA_snoc]⟩, by omega, rfl, by simp, by simp only [List.length_append, List.length_cons, List.length_nil]; omega⟩
    · rcases f with ⟨_, f⟩ | ⟨A', o', full', e1', e2', _⟩
      · rcases f.no with e | ⟨B, o2, e⟩
        · injection e with e4 e5 e6
          cases e4
        · injection e with e4 e5 e6
          omega
      · injection e1' with e4 e5 e6
        injection e4 with e4
        injection e4 with e4 e7
        subst e4
        exact e2'.lt
theorem OwnA.stayL {h0 h h' : Heap} {u : TypeId} {v : Value} {s : List AtomD} {A w : Nat} {bs : List Blk} (f : OwnA h0 h u v s) (hne : s ≠ []) (c : Chg A (h.lay bs w) h') (hA : A < h0.size ∨ A = h.size) : OwnA h0 h' u v s := by
  rcases f with ⟨e, _⟩ | ⟨B, t, e1, e2, e3, e4⟩
  · exact absurd e hne
  · exact .inr ⟨B, t, e1, (e2.on _ _).step c (by have := e2.lt; omega), e3, e4⟩
theorem ixr_base {T : Tab} {t e : TypeId} {kd : IntKind} {i : Int} {v : Value} {h0 h1 : Heap} {bs : List Blk} {w : Nat} {K : Value → Heap → Prop} {l : List ReasonD} {x : ReasonD} (f : Sl Rep.reason h0 v l) (i1 : Inc h0 h1) (hd : T.desc t = some (.slice e)) (hs : sizeA T e = some 13) (h2 : 0 ≤ i) (hx : l[i.toNat]? = some x)
    (hk : ∀ p b, Sl Rep.atom h0 b x.body → AtP h1 p (x.atom.cells ++ [.int .i64 x.clause, b]) → K p (h1.lay bs w)) : valE (indexAddrA T t v (.int kd i)) (h1.lay bs w) K := by
  have hlt := (List.getElem?_eq_some_iff.1 hx).1
  rcases f with ⟨rfl, rfl⟩ | ⟨A, o, c, row, u, ro, rfl, e2, e3, e4, e5, e6⟩
  · simp at hlt
  · obtain ⟨cs, g1, b, rfl, hb⟩ := e6 i.toNat x hx
    unfold indexAddrA
    simp only [hd]
    rw [if_pos ⟨h2, by omega⟩, hs]
    refine hk _ b hb (AtP.mono ⟨A, _, row, u, ro, rfl, e4, e5, ?_⟩ i1)
    exact g1
theorem bodies_len {l : List ReasonD} {n : Nat} (h : ∀ r ∈ l, r.body.length ≤ n) : (bodies l).length ≤ n * l.length := by
  unfold bodies
  induction l with
  | nil => simp
  | cons r l ih =>
    rw [List.flatMap_cons, List.length_append, List.length_cons, Nat.mul_succ]
    have h1 := h r (List.mem_cons_self ..)
    have h2 := ih (fun r hr => h r (List.mem_cons_of_mem _ hr))
    omega
end Go.Am
namespace Go.Proofs.Ytompindebndddaa
open Go.Am
set_option linter.unusedSimpArgs false
set_option linter.unusedVariables false
set_option maxRecDepth 100000
set_option maxHeartbeats 0
def hasR (l : List ReasonD) (a : AtomD) : Bool := l.any (fun x => decide (x.atom = a))
theorem findR {l : List ReasonD} {a : AtomD} (h : hasR l a = true) : ∃ i : Nat, idxP (fun x => decide (x.atom = a)) l = i ∧ i < l.length ∧ ∃ r, l[i]? = some r ∧ r.atom = a ∧ bodyOf l a = r.body := by
  induction l with
  | nil => simp [hasR] at h
  | cons r l ih =>
    by_cases e : r.atom = a
    · refine ⟨0, ?_, by simp, r, rfl, e, ?_⟩
      · unfold idxP
        simp [List.findIdx?_cons, e]
      · unfold bodyOf
        simp [e]
    · have h2 : hasR l a = true := by
        unfold hasR at h ⊢
        simpa [e] using h
      obtain ⟨i, h3, h4, r2, h5, h6, h7⟩ := ih h2
      refine ⟨i + 1, ?_, by simp; omega, r2, by simpa using h5, h6, ?_⟩
      · unfold idxP at h3 ⊢
        rw [List.findIdx?_cons]
        simp only [e, decide_false]
        cases hf : l.findIdx? (fun x => decide (x.atom = a)) with
        | none => rw [hf] at h3; simp at h3
        | some j => rw [hf] at h3; simp at h3 ⊢; omega
      · unfold bodyOf at h7 ⊢
        have : (r.atom == a) = false := by simpa using e
        rw [List.find?_cons, this]
        exact h7
theorem findR_no {l : List ReasonD} {a : AtomD} (h : hasR l a = false) : bodyOf l a = [] := by
  unfold bodyOf
  have : l.find? (fun r => r.atom == a) = none := by
    rw [List.find?_eq_none]
    intro r hr e
    unfold hasR at h
    rw [List.any_eq_false] at h
    have := h r hr
    simp at this e
    exact this e
  rw [this]
theorem ok_needs (l : List ReasonD) (goals : List AtomD) (v u : Value) (h : Heap) (hl : Sl Rep.reason h v l) (hg : Sl Rep.atom h u goals) (hn : l.length ≤ 40) (hr : ∀ r ∈ l, PlainR r) (hgl : goals.length ≤ 10) (hgi : ∀ x ∈ goals, x.light = true) (hgp : AllP goals) (K : Value → Heap → Prop)
    (h1k : (∀ g ∈ goals, hasR l g = true) → ∀ h' w out, Ext h h' → Sl Rep.atom h' w out → NeedsOf l goals out → (∀ x ∈ out, x.light = true) → out.length ≤ 300 → K (.tuple #[w, .int .i64 0]) h')
    (h2k : (∃ g ∈ goals, hasR l g = false) → ∀ h', Ext h h' → K (.tuple #[.slice none 0 0, .int .i64 13]) h') : Ok Try.prog tab ov 47 [v, u] h K := by
  rw [lay_nil h]
  have z := Ext.refl h
  have hva := vSelf v
  have hvu := vSelf u
  have hlg := fun (hh : Heap) => hg.lenA ds23 hh
  refine Ok.into rfl tab_fn47 (bodyF N47) rfl (m := 74) rfl ?_
  repeat' (first | simp -implicitDefEqProofs only [syms, symx, seval, c47, hva, hvu, hlg] | ((with_reducible first | apply forkD | apply forkB | apply forkN | apply forkNP | apply forkNot) <;> intro _) | ((with_reducible_and_instances apply unop_not); (· rfl)))
  obtain ⟨I1, hI1⟩ : ∃ I : Nat → Env → Heap → Prop, I = (fun n e h' => ∃ (i : Nat) (h1 : Heap), h' = h1.lay [] h1.low ∧ Ext h h1 ∧ (n = goals.length - i ∧ i ≤ goals.length ∧ ∀ x ∈ goals.take i, hasR l x = true) ∧ ∃ J : Nat → Value, e = (v :: u :: jr J 2 16 (u :: .int .i64 goals.length :: .int .i64 i :: jr J 21 55 ([])))) := ⟨_, rfl⟩
  refine W_loopN I1 _ (by rw [hI1]; exact ⟨0, _, rfl, z, ⟨rfl, by omega, by simp⟩, junk (by kernel_rfl)⟩) ?_
  intro n e h' hin
  rw [hI1] at hin
  obtain ⟨i, h1', rfl, z, hinv, J, rfl⟩ := hin
  obtain ⟨rfl, hi, hall⟩ := hinv
  have hwi : IntKind.i64.wrap ((i : Int) + 1) = ((i + 1 : Nat) : Int) := by rw [wrap_i64 (by omega) (by omega)]; omega
  simp -implicitDefEqProofs only [syms, symx, seval, c47, hvu]
  refine forkD (fun hlt1 => ?_) (fun hlt1 => ?_)
  · obtain ⟨g, hgr, hgr'⟩ := amElem (l := goals) (i := i) (by omega)
    repeat' (first | simp -implicitDefEqProofs only [syms, symx, seval, c47, hvu, hva] | ((with_reducible first | apply forkD | apply forkB | apply forkN | apply forkNP | apply forkNot) <;> intro _) | with_reducible_and_instances refine ixa_at (hg.mono z.inc) ds23 sz39 (by omega) hgr (fun p hp => ?_) | with_reducible_and_instances refine lda hp ag39 sz39 ?_ | ((with_reducible_and_instances apply unop_not); (· rfl)))
    refine store_laid sz39 rfl ?_
    repeat' (first | simp -implicitDefEqProofs only [syms, symx, seval, c47, hva, ↓cut_atom, agg_atom, valE_atom] | ((with_reducible first | apply forkD | apply forkB | apply forkN | apply forkNP | apply forkNot) <;> intro _) | with_reducible_and_instances refine ixa_at (hg.mono z.inc) ds23 sz39 (by omega) hgr (fun p hp => ?_) | with_reducible_and_instances refine lda hp ag39 sz39 ?_ | ((with_reducible_and_instances apply unop_not); (· rfl)))
    refine ok_find l v g _ ((hl.mono z.inc).lay _ _) (by omega) _ (fun h' v' x hv' => ?_)
    replace hv' : v' = if hasR l g then .tuple #[.int .i64 (idxP (fun x => decide (x.atom = g)) l), .bool true] else .tuple #[.int .i64 0, .bool false] := hv'
    ((skip); replace z := z.overW x (by (try simp only [lsz]); omega); rw [lay_nil h'])
    cases hb : hasR l g
    · rw [hb, if_neg (by decide)] at hv'
      subst hv'
      repeat' (first | simp -implicitDefEqProofs only [syms, symx, seval, c47] | ((with_reducible first | apply forkD | apply forkB | apply forkN | apply forkNP | apply forkNot) <;> intro _) | with_reducible_and_instances refine ixa_at (hg.mono z.inc) ds23 sz39 (by omega) hgr (fun p hp => ?_) | with_reducible_and_instances refine lda hp ag39 sz39 ?_ | ((with_reducible_and_instances apply unop_not); (· rfl)))
      exact h2k ⟨g, List.mem_of_getElem? hgr', hb⟩ _ (z.upW _ _ (by omega))
    · rw [hb, if_pos rfl] at hv'
      subst hv'
      repeat' (first | simp -implicitDefEqProofs only [syms, symx, seval, c47] | ((with_reducible first | apply forkD | apply forkB | apply forkN | apply forkNP | apply forkNot) <;> intro _) | with_reducible_and_instances refine ixa_at (hg.mono z.inc) ds23 sz39 (by omega) hgr (fun p hp => ?_) | with_reducible_and_instances refine lda hp ag39 sz39 ?_ | ((with_reducible_and_instances apply unop_not); (· rfl)))
      rw [hwi]
      (rw [hI1]; with_reducible refine loopN_normal (m := _) ?_ ⟨i + 1, _, rfl, z, ⟨rfl, by omega, take_all (i := i) (P := fun x => hasR l x = true) hgr' hall hb⟩, junk (by kernel_rfl)⟩; omega)
  rw [List.take_of_length_le (by omega)] at hall
  repeat' (first | simp -implicitDefEqProofs only [syms, symx, seval, c47, hvu] | ((with_reducible first | apply forkD | apply forkB | apply forkN | apply forkNP | apply forkNot) <;> intro _) | with_reducible_and_instances refine ixa_at (hg.mono z.inc) ds23 sz39 (by omega) hgr (fun p hp => ?_) | with_reducible_and_instances refine lda hp ag39 sz39 ?_ | ((with_reducible_and_instances apply unop_not); (· rfl)))
  refine ok_sorted goals u _ ((hg.mono z.inc).lay _ _) (by omega) hgi _ (fun h' w x ho => ?_)
  have hll := sortA_length goals
  have hlgt := sortA_light hgi
  have hst := NeedsTo.start (l := l) hgp
  replace ho := ho.sl
  ((skip); replace z := z.overW x (by (try simp only [lsz]); omega); rw [lay_nil h'])
  have hvw := vSelf w
  simp -implicitDefEqProofs only [syms, symx, seval, c47, hvw]
  repeat' ((first | ((with_reducible first | apply forkD | apply forkB | apply forkN | apply forkNP | apply forkNot) <;> intro _) | with_reducible_and_instances refine ixa_at (hg.mono z.inc) ds23 sz39 (by omega) hgr (fun p hp => ?_) | with_reducible_and_instances refine lda hp ag39 sz39 ?_ | ((with_reducible_and_instances apply unop_not); (· rfl))) <;> simp -implicitDefEqProofs only [syms, symx, seval, c47, hvw])
  have hz0 := z.size
  refine ok_cloneA (sortA goals) w _ (ho.lay _ _) (by omega) _ (fun h' wt x ot => ?_)
  replace ot := (ot.todo (by omega)).down (h0 := h) (by rw [lay_size]; omega)
  ((skip); replace z := z.overW x (by (try simp only [lsz]); omega); (try replace ho := ho.over x); rw [lay_nil h'])
  have hvt := vSelf wt
  repeat' (first | simp -implicitDefEqProofs only [syms, symx, seval, c47, hvw, hvt] | ((with_reducible first | apply forkD | apply forkB | apply forkN | apply forkNP | apply forkNot) <;> intro _) | with_reducible_and_instances refine ixa_at (hg.mono z.inc) ds23 sz39 (by omega) hgr (fun p hp => ?_) | with_reducible_and_instances refine lda hp ag39 sz39 ?_ | ((with_reducible_and_instances apply unop_not); (· rfl)))
  obtain ⟨M, hM⟩ : ∃ M, M = goals.length + (bodies l).length := ⟨_, rfl⟩
  have hM2 : M ≤ 250 := by
    have := bodies_len (n := 6) (fun r hr' => (hr r hr').len)
    omega
  have hpb : AllP (goals ++ bodies l) := hgp.app (fun x hx => by
    obtain ⟨r, hr1, hr2⟩ := List.mem_flatMap.1 hx
    exact (hr r hr1).plains x hr2)
  have hlb : ∀ x ∈ bodies l, x.light = true := fun x hx => by
    obtain ⟨r, hr1, hr2⟩ := List.mem_flatMap.1 hx
    exact (hr r hr1).lights x hr2
  have hs0 : (sortA goals).length ≤ M := by omega
  generalize sortA goals = s0 at *
  clear hI1
  obtain ⟨I2, hI2⟩ : ∃ I : Nat → Env → Heap → Prop, I = (fun n e h' => ∃ (out todo : List AtomD) (wo wt : Value) (h1 : Heap), h' = h1.lay [] h1.low ∧ Ext h h1 ∧ (n = 2 * (M - out.length) + todo.length ∧ out.length ≤ M ∧ NeedsTo l goals out todo ∧ (∀ x ∈ out, x.light = true) ∧ Sl Rep.atom h1 wo out ∧ OwnT h h1 39 wt todo ∧ 2 * (M - out.length) + todo.length ≤ 2 * M) ∧ ∃ J : Nat → Value, e = (v :: u :: jr J 2 8 (wo :: wt :: jr J 12 64 ([])))) := ⟨_, rfl⟩
  refine W_loopN I2 _ (by rw [hI2]; exact ⟨s0, s0, w, wt, _, rfl, z, ⟨rfl, hs0, hst, hlgt, ho, ot, by omega⟩, junk (by kernel_rfl)⟩) ?_
  intro n e h' hin
  rw [hI2] at hin
  obtain ⟨out, todo, wo, wt, h1', rfl, z, hinv, J, rfl⟩ := hin
  clear ho ot
  obtain ⟨rfl, hoM, hN, hlo, so, ot, hbd2⟩ := hinv
  have hvo := vSelf wo
  have hvt := vSelf wt
  have hlt2 := fun (hh : Heap) => ot.sl.lenA ds23 hh
  simp -implicitDefEqProofs only [syms, symx, seval, c47, hvo, hvt, hlt2]
  refine forkD (fun hpos => ?_) (fun hpos => ?_)
  rotate_left
  · have htn : todo = [] := List.length_eq_zero_iff.1 (by omega)
    rw [htn] at hN
    repeat' (first | simp -implicitDefEqProofs only [syms, symx, seval, c47, hvo] | ((with_reducible first | apply forkD | apply forkB | apply forkN | apply forkNP | apply forkNot) <;> intro _) | with_reducible_and_instances refine ixa_at (hg.mono z.inc) ds23 sz39 (by omega) hgr (fun p hp => ?_) | with_reducible_and_instances refine lda hp ag39 sz39 ?_ | ((with_reducible_and_instances apply unop_not); (· rfl)))
    exact h1k hall _ _ out (z.upW _ _ (by omega)) (so.lay _ _) hN.finish hlo (by omega)
  obtain ⟨x0, td, htd⟩ : ∃ x0 td, todo = x0 :: td := by
    cases todo with
    | nil => simp at hpos
    | cons a b => exact ⟨a, b, rfl⟩
  subst htd
  have hr0 : (x0 :: td)[(0 : Int).toNat]? = some x0 := rfl
  obtain ⟨wt', gt, ot'⟩ := ot.tail (T := tab) (t := 23) (kd := .i64) ds23 sz39
  have hvt' : ∀ (h : Heap) (K : Value → Heap → Prop), valE (some wt') h K = K wt' h := fun _ _ => rfl
  repeat' (first | simp -implicitDefEqProofs only [syms, symx, seval, c47, hvt, hva] | ((with_reducible first | apply forkD | apply forkB | apply forkN | apply forkNP | apply forkNot) <;> intro _) | with_reducible_and_instances refine ixa_at ot.sl ds23 sz39 (by omega) hr0 (fun p hp => ?_) | with_reducible_and_instances refine lda hp ag39 sz39 ?_ | ((with_reducible_and_instances apply unop_not); (· rfl)))
  refine ok_find l v x0 _ ((hl.mono z.inc).lay _ _) (by omega) _ (fun h' v' x hv' => ?_)
  replace hv' : v' = if hasR l x0 then .tuple #[.int .i64 (idxP (fun x => decide (x.atom = x0)) l), .bool true] else .tuple #[.int .i64 0, .bool false] := hv'
  ((skip); replace z := z.overW x (by (try simp only [lsz]); omega); (try replace so := so.over x); (try replace ot := ot.over x); (try replace ot' := ot'.over x); rw [lay_nil h'])
  simp only [List.length_cons] at hbd2
  cases hb : hasR l x0
  · rw [hb, if_neg (by decide)] at hv'
    subst hv'
    repeat' (first | simp -implicitDefEqProofs only [syms, symx, seval, c47, hvt, hvt', gt] | ((with_reducible first | apply forkD | apply forkB | apply forkN | apply forkNP | apply forkNot) <;> intro _) | with_reducible_and_instances refine ixa_at ot.sl ds23 sz39 (by omega) hr0 (fun p hp => ?_) | with_reducible_and_instances refine lda hp ag39 sz39 ?_ | ((with_reducible_and_instances apply unop_not); (· rfl)))
    (rw [hI2]; with_reducible refine loopN_normal (m := _) ?_ ⟨out, td, wo, wt', _, rfl, z, ⟨rfl, hoM, hN.enter.leave (by rw [findR_no hb]; simp), hlo, so, ot', by omega⟩, junk (by kernel_rfl)⟩; ((try simp only [List.length_cons]); omega))
  · rw [hb, if_pos rfl] at hv'
    subst hv'
    obtain ⟨i0, hi0, hil, r0, hr1, hr2, hr3⟩ := findR hb
    rw [hi0]
    have hrR : l[(i0 : Int).toNat]? = some r0 := by simpa using hr1
    have hp0 := hr r0 (List.mem_of_getElem? hr1)
    repeat' (first | simp -implicitDefEqProofs only [syms, symx, seval, c47, hvt, hvt', gt, hva] | ((with_reducible first | apply forkD | apply forkB | apply forkN | apply forkNP | apply forkNot) <;> intro _) | with_reducible_and_instances refine ixr_base hl z.inc ds24 sz41 (by omega) hrR (fun p bd hbd hp => ?_) | with_reducible_and_instances refine fdr2 hp fa41_2 (fun q hq => ?_) | with_reducible_and_instances refine ld_one hq ag23 ?_ | ((with_reducible_and_instances apply unop_not); (· rfl)))
    have hlb0 := fun (hh : Heap) => hbd.lenA ds23 hh
    have hvb := vSelf bd
    repeat' (first | simp -implicitDefEqProofs only [syms, symx, seval, c47, hlb0, hvb] | ((with_reducible first | apply forkD | apply forkB | apply forkN | apply forkNP | apply forkNot) <;> intro _) | with_reducible_and_instances refine ixr_base hl z.inc ds24 sz41 (by omega) hrR (fun p bd hbd hp => ?_) | with_reducible_and_instances refine fdr2 hp fa41_2 (fun q hq => ?_) | with_reducible_and_instances refine ld_one hq ag23 ?_ | ((with_reducible_and_instances apply unop_not); (· rfl)))
    obtain ⟨n0, hn0⟩ : ∃ n0, n0 = 2 * (M - out.length) + (td.length + 1) := ⟨_, rfl⟩
    have hE := hN.enter
    have hlen0 := hp0.len
    obtain ⟨I3, hI3⟩ : ∃ I : Nat → Env → Heap → Prop, I = (fun n e h' => ∃ (j : Nat) (out2 td2 : List AtomD) (wo2 wt2 : Value) (h1 : Heap), h' = h1.lay [] h1.low ∧ Ext h h1 ∧ (n = r0.body.length - j ∧ j ≤ r0.body.length ∧ out2.length ≤ M ∧ NeedsIn l goals out2 td2 x0 j ∧ (∀ x ∈ out2, x.light = true) ∧ Sl Rep.atom h1 wo2 out2 ∧ OwnT h h1 39 wt2 td2 ∧ 2 * (M - out2.length) + td2.length + 1 ≤ n0) ∧ ∃ J : Nat → Value, e = (v :: u :: jr J 2 8 (wo2 :: wt2 :: jr J 12 44 (bd :: .int .i64 r0.body.length :: .int .i64 j :: jr J 59 17 ([]))))) := ⟨_, rfl⟩
    refine W_loopN I3 _ (by rw [hI3]; exact ⟨0, out, td, wo, wt', _, rfl, z, ⟨rfl, by omega, hoM, hE, hlo, so, ot', by omega⟩, junk (by kernel_rfl)⟩) ?_
    intro n e h' hin
    rw [hI3] at hin
    obtain ⟨j, out2, td2, wo2, wt2, h1', rfl, z, hinv, J, rfl⟩ := hin
    clear so ot ot'
    obtain ⟨rfl, hj, hoM2, hI, hlo2, so, ot, hms⟩ := hinv
    have hwj : IntKind.i64.wrap ((j : Int) + 1) = ((j + 1 : Nat) : Int) := by rw [wrap_i64 (by omega) (by omega)]; omega
    have hvo := vSelf wo2
    have hvt2 := vSelf wt2
    simp -implicitDefEqProofs only [syms, symx, seval, c47, hvb]
    refine forkD (fun hlt3 => ?_) (fun hlt3 => ?_)
    rotate_left
    · have hT := hI.leave (by rw [hr3]; omega)
      repeat' (first | simp -implicitDefEqProofs only [syms, symx, seval, c47] | ((with_reducible first | apply forkD | apply forkB | apply forkN | apply forkNP | apply forkNot) <;> intro _) | with_reducible_and_instances refine ixr_base hl z.inc ds24 sz41 (by omega) hrR (fun p bd hbd hp => ?_) | with_reducible_and_instances refine fdr2 hp fa41_2 (fun q hq => ?_) | with_reducible_and_instances refine ld_one hq ag23 ?_ | ((with_reducible_and_instances apply unop_not); (· rfl)))
      (rw [hI2]; with_reducible refine loopN_normal (m := _) ?_ ⟨out2, td2, wo2, wt2, _, rfl, z, ⟨rfl, hoM2, hT, hlo2, so, ot, by omega⟩, junk (by kernel_rfl)⟩; ((try simp only [List.length_cons]); omega))
    obtain ⟨b0, hbr, hbr'⟩ := amElem (l := r0.body) (i := j) (by omega)
    have hbo : (bodyOf l x0)[j]? = some b0 := by rw [hr3]; exact hbr'
    have hbl := hp0.lights b0 (List.mem_of_getElem? hbr')
    have hbp := hp0.plains b0 (List.mem_of_getElem? hbr')
    repeat' (first | simp -implicitDefEqProofs only [syms, symx, seval, c47, hvb] | ((with_reducible first | apply forkD | apply forkB | apply forkN | apply forkNP | apply forkNot) <;> intro _) | with_reducible_and_instances refine ixa_at (hbd.mono z.inc) ds23 sz39 (by omega) hbr (fun p hp => ?_) | with_reducible_and_instances refine lda hp ag39 sz39 ?_ | ((with_reducible_and_instances apply unop_not); (· rfl)))
    refine store_laid sz39 rfl ?_
    repeat' (first | simp -implicitDefEqProofs only [syms, symx, seval, c47, hvo, ↓cut_atom, agg_atom, valE_atom] | ((with_reducible first | apply forkD | apply forkB | apply forkN | apply forkNP | apply forkNot) <;> intro _) | with_reducible_and_instances refine ixa_at (hbd.mono z.inc) ds23 sz39 (by omega) hbr (fun p hp => ?_) | with_reducible_and_instances refine lda hp ag39 sz39 ?_ | ((with_reducible_and_instances apply unop_not); (· rfl)))
    have hzz := z.size
    refine ok_add out2 b0 wo2 _ (so.lay _ _) (by omega) hlo2 hbl _ (fun h' w3 x o3 => ?_)
    rw [sortA_asc hI.asc] at o3
    have q1 := Holds.top (i := 0) x rfl
    have ot0 := ot
    replace ot := ot.over x
    replace so := so.over x
    ((skip); replace z := z.overW x (by (try simp only [lsz]); omega); rw [lay_nil h'])
    have hv3 := vSelf w3
    cases hbb : hasA out2 b0
    · have hN3 := hI.add hbo hbp
      have hl3 := hN3.len hpb
      have hf3 := del_length (asc_putA (a := b0) hI.asc) (has_put (a := b0) hI.asc)
      rw [del_put hI.asc hbb] at hf3
      have hg3 := put_light hlo2 hbl hI.asc
      repeat' (first | simp -implicitDefEqProofs only [syms, symx, seval, c47, Bool.not_false, hv3, hvt2, q1.lay, cells_atom, ↓cut_atom, agg_atom, valE_atom, fill_atom] | ((with_reducible first | apply forkD | apply forkB | apply forkN | apply forkNP | apply forkNot) <;> intro _) | with_reducible_and_instances refine ixa_at (hbd.mono z.inc) ds23 sz39 (by omega) hbr (fun p hp => ?_) | with_reducible_and_instances refine lda hp ag39 sz39 ?_ | ((with_reducible_and_instances apply unop_not); (· rfl)))
      simp -implicitDefEqProofs only [syms, symx, seval, c47, w_append, sty23]
      have hz := z.size
      obtain ⟨w4, h2, e2, o4, A2, hA2, _, c2, hA3⟩ := OwnT.app (a := b0) (lw := h'.low) ds23 ins_info (by decide) hz ot (by omega)
      rw [e2]
      have so5 := (o3.stayL (by intro e; rw [e] at hf3; simp at hf3) c2 (by
        rcases hA3 with e | e
        · exact .inr e
        · have := e _ ot0
          left
          rw [lay_size]
          omega)).sl
      replace z := z.stepW c2 hA2 (by omega)
      have hv4 := vSelf w4
      rw [lay_nil h2]
      clear ot so o3 ot0 q1
      repeat' (first | simp -implicitDefEqProofs only [syms, symx, seval, c47, hv4] | ((with_reducible first | apply forkD | apply forkB | apply forkN | apply forkNP | apply forkNot) <;> intro _) | with_reducible_and_instances refine ixa_at (hbd.mono z.inc) ds23 sz39 (by omega) hbr (fun p hp => ?_) | with_reducible_and_instances refine lda hp ag39 sz39 ?_ | ((with_reducible_and_instances apply unop_not); (· rfl)))
      rw [hwj]
      (rw [hI3]; with_reducible refine loopN_normal (m := _) ?_ ⟨j + 1, putA b0 out2, td2 ++ [b0], w3, w4, _, rfl, z, ⟨rfl, by omega, by omega, hN3, hg3, so5, o4, by simp only [List.length_append, List.length_cons, List.length_nil]; omega⟩, junk (by kernel_rfl)⟩; omega)
    · rw [put_has hI.asc hbb] at o3
      have hN3 := hI.pass hbo ((hasA_mem hI.plain hbp).1 hbb)
      repeat' (first | simp -implicitDefEqProofs only [syms, symx, seval, c47, Bool.not_true, hv3] | ((with_reducible first | apply forkD | apply forkB | apply forkN | apply forkNP | apply forkNot) <;> intro _) | with_reducible_and_instances refine ixa_at (hbd.mono z.inc) ds23 sz39 (by omega) hbr (fun p hp => ?_) | with_reducible_and_instances refine lda hp ag39 sz39 ?_ | ((with_reducible_and_instances apply unop_not); (· rfl)))
      rw [hwj]
      (rw [hI3]; with_reducible refine loopN_normal (m := _) ?_ ⟨j + 1, out2, td2, wo2, wt2, _, rfl, z, ⟨rfl, by omega, hoM2, hN3, hlo2, so, ot, by omega⟩, junk (by kernel_rfl)⟩; omega)
end Go.Proofs.Ytompindebndddaa

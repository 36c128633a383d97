/- Walks: slices.Backward over steps; the last place of an atom. Written out by fill2.py. No condition. -/
import Derived.Test.YtompindebndddaaG35
import Derived.Test.YtompindebndddaaG25
namespace Go.Proofs.Ytompindebndddaa
open Go.Am
set_option linter.unusedSimpArgs false
set_option linter.unusedVariables false
set_option maxRecDepth 100000
set_option maxHeartbeats 0
theorem ok_backS (l : List StepD) (v : Value) (A B : Nat) (h hs : Heap) (z : Ext h hs) (Inv : Nat → Heap → Prop) (Stop : Heap → Prop) (hI : Inv l.length hs) (hn : l.length ≤ 1000)
    (hbox : ∀ i h', Inv i h' → Holds h' B (.row [v] 84 false)) (hsl : ∀ i h', Inv i h' → Sl Rep.step h' v l)
    (round : ∀ i r b h' (K' : Value → Heap → Prop), l[i]? = some r → Ext h h' → Inv (i + 1) h' → Sl Rep.int h' b r.cites → (∀ h2, Ext h h2 → Inv i h2 → K' (.bool true) h2) → (∀ h2, Ext h h2 → Stop h2 → K' (.bool false) h2) →
      callE Try.prog tab ov [.int .i64 i, .agg ⟨r.re.atom.cells ++ [.int .i64 r.re.clause, b]⟩] h' K' (.func (.yield A) ⟨[]⟩ ⟨[]⟩))
    (K : Value → Heap → Prop) (h0k : ∀ h', Ext h h' → Inv 0 h' → K undef h') (h1k : ∀ h', Ext h h' → Stop h' → K undef h') : Ok Try.prog tab ov 160 [.func (.yield A) ⟨[]⟩ ⟨[]⟩, .pointer (some ⟨B, 0, none⟩)] hs K := by
  rw [lay_nil hs]
  have hva := vSelf v
  have q := hbox _ _ hI
  have hl := hsl _ _ hI
  have hln := fun (hh : Heap) => hl.lenA ds84 hh
  refine Ok.into rfl tab_fn160 (bodyF N160) rfl (m := 17) rfl ?_
  repeat' ( simp -implicitDefEqProofs only [syms, symx, seval, c160, q.lay, hva, hln])
  have hw0 : IntKind.i64.wrap ((l.length : Int) - 1) = (l.length : Int) - 1 := by rw [wrap_i64 (by omega) (by omega)]
  rw [hw0]
  clear q hl hln
  obtain ⟨I1, hI1⟩ : ∃ I : Nat → Env → Heap → Prop, I = (fun n e h' => ∃ (k : Nat) (h1 : Heap), h' = h1.lay [] h1.low ∧ Ext h h1 ∧ (n = 1 + k ∧ k ≤ l.length ∧ Inv k h1) ∧ ∃ J : Nat → Value, e = (.func (.yield A) ⟨[]⟩ ⟨[]⟩ :: .pointer (some ⟨B, 0, none⟩) :: J 2 :: .int .i64 ((k : Int) - 1) :: jr J 4 15 ([]))) := ⟨_, rfl⟩
  refine W_loopN I1 _ (by rw [hI1]; exact ⟨l.length, _, rfl, z, ⟨rfl, by omega, hI⟩, junk (by kernel_rfl)⟩) ?_
  intro n e h' hin
  rw [hI1] at hin
  obtain ⟨k, h1', rfl, z, hinv, J, rfl⟩ := hin
  clear hI
  obtain ⟨rfl, hk, hI⟩ := hinv
  have q := hbox _ _ hI
  have hl := hsl _ _ hI
  have hvy : ∀ (h : Heap) (K : Value → Heap → Prop), valE (some (.func (.yield A) ⟨[]⟩ ⟨[]⟩)) h K = K (.func (.yield A) ⟨[]⟩ ⟨[]⟩) h := fun _ _ => rfl
  simp -implicitDefEqProofs only [syms, symx, seval, c160]
  refine forkD (fun hge => ?_) (fun hge => ?_)
  rotate_left
  · have : k = 0 := by omega
    subst this
    repeat' ( simp -implicitDefEqProofs only [syms, symx, seval, c160])
    rw [← lay_nil]
    exact h0k _ z hI
  obtain ⟨i, hki⟩ : ∃ i, k = i + 1 := ⟨k - 1, by omega⟩
  subst hki
  have hci : ((i + 1 : Nat) : Int) - 1 = (i : Int) := by omega
  rw [hci]
  have hwi : IntKind.i64.wrap ((i : Int) - 1) = (i : Int) - 1 := by rw [wrap_i64 (by omega) (by omega)]
  obtain ⟨r, hr, hr'⟩ := amElem (l := l) (i := i) (by omega)
  repeat' (first | simp -implicitDefEqProofs only [syms, symx, seval, c160, q.lay, hva, hvy] | with_reducible_and_instances refine ixp_at hl ds84 sz90 (by omega) hr (fun p bd hbd hp => ?_) | with_reducible_and_instances refine ldr hp ag90 sz90 ?_)
  rw [← lay_nil h1']
  refine round i r bd h1' _ hr' z hI hbd (fun h2 x hI2 => ?_) (fun h2 x hS => ?_)
  · replace z := x
    rw [lay_nil h2]
    repeat' (first | simp -implicitDefEqProofs only [syms, symx, seval, c160, Bool.not_true] | ((with_reducible_and_instances apply unop_not); (· rfl)))
    rw [hwi]
    (rw [hI1]; with_reducible refine loopN_normal (m := _) ?_ ⟨i, _, rfl, z, ⟨rfl, by omega, hI2⟩, junk (by kernel_rfl)⟩; omega)
  · replace z := x
    rw [lay_nil h2]
    repeat' (first | simp -implicitDefEqProofs only [syms, symx, seval, c160, Bool.not_false] | ((with_reducible_and_instances apply unop_not); (· rfl)))
    rw [← lay_nil]
    exact h1k _ z hS
theorem range_backS {assign body : Code} {e : Env} {p q : Tmp} {hs : Heap} {Q : Ex → Env → Heap → Prop} (l : List StepD) (v : Value) (B : Nat) (h : Heap) (z : Ext h hs) (qb : Holds hs B (.row [v] 84 false)) (hl : Sl Rep.step h v l) (hn : l.length ≤ 1000)
    (J : Nat → Heap → Prop) (S : Heap → Prop) (hJ : ∀ i h1 h2, J i h1 → Chg hs.size h1 h2 → J i h2) (hS : ∀ h1 h2, S h1 → Chg hs.size h1 h2 → S h2) (h0 : J l.length hs)
    (round : ∀ i r b h', l[i]? = some r → Ext h h' → Holds h' B (.row [v] 84 false) → hs.size < h'.size → J (i + 1) h' → Sl Rep.int h' b r.cites → W Try.prog tab ov (some hs.size) assign ((e.set p (.int .i64 i)).set q (.agg ⟨r.re.atom.cells ++ [.int .i64 r.re.clause, b]⟩)) h' fun x e1 h1 => x = .normal ∧ Ext h' h1 ∧
      ∀ H bk, Chg hs.size h1 H → Ext h H → Holds H hs.size bk → W Try.prog tab ov (some hs.size) body e1 H fun x _ h2 => Ext h h2 ∧ Holds h2 hs.size bk ∧ Holds h2 B (.row [v] 84 false) ∧ ((x = .normal ∧ J i h2) ∨ (x = .ret ∧ S h2)))
    (hend : ∀ h', Ext h h' → J 0 h' → Q .normal e h') (hstop : ∀ h', Ext h h' → S h' → Q .ret e h') : rangeE Try.prog tab ov none (.func (.func 160) ⟨[]⟩ ⟨[.pointer (some ⟨B, 0, none⟩)]⟩) [p, q] assign body e hs Q := by
  have hBlt := qb.lt
  have hzs := z.size
  have hch : ∀ (h1 : Heap) (b : Blk), hs.size < h1.size → Chg hs.size h1 (h1.set hs.size b) ∧ Holds (h1.set hs.size b) hs.size b := fun h1 b hlt => ⟨⟨by rw [Heap.size_set]; exact Nat.le_refl _, fun B hB hne => by rw [Heap.get_set _ _ _ _ hlt, if_neg hne], by rw [Heap.low_set]; omega⟩, ⟨by rw [Heap.size_set]; exact hlt, by rw [Heap.get_set _ _ _ _ hlt, if_pos rfl]⟩⟩
  have hpx : Ext hs (hs.push (.loop e [p, q] assign body .ready none)) := ⟨by rw [Heap.size_push]; omega, fun A hA => by rw [Heap.get_push, if_neg (by omega)], by rw [Heap.low_push]; omega⟩
  have hpa : Holds (hs.push (.loop e [p, q] assign body .ready none)) hs.size (.loop e [p, q] assign body .ready none) := ⟨by rw [Heap.size_push]; omega, by rw [Heap.get_push, if_pos rfl]⟩
  refine range_rule (by kernel_rfl) ?_
  refine ok_backS l v hs.size B h _ (z.trans hpx) (fun i h' => J i h' ∧ Holds h' hs.size (.loop e [p, q] assign body .ready none) ∧ Holds h' B (.row [v] 84 false) ∧ Ext h h') (fun h' => S h' ∧ Holds h' hs.size (.loop e [p, q] assign body .done (some .ret)) ∧ Ext h h')
    ⟨hJ _ _ _ h0 hpx.chg, hpa, qb.ext hpx, z.trans hpx⟩ hn (fun i h' hi => hi.2.2.1) (fun i h' hi => hl.mono hi.2.2.2.inc) ?_ _ ?_ ?_
  · rintro i r b h' K' hr zz ⟨hj, ha, hb, _⟩ hbd hk1 hk2
    refine yield_rule (env := e) (ps := [p, q]) (assign := assign) (body := body) ha.get rfl ?_
    refine W.mono assign _ _ _ _ ?_ (round i r b h' hr zz hb ha.lt hj hbd)
    rintro x e1 h1 ⟨hx, x1, hw⟩
    have ha1 := ha.ext x1
    obtain ⟨c1, q1⟩ := hch h1 (.loop e [p, q] assign body .busy none) ha1.lt
    refine ⟨hx, ha1.get, W.mono body _ _ _ _ ?_ (hw _ _ c1 ((zz.trans x1).step c1 hzs) q1)⟩
    rintro y e2 h2 ⟨z2, q2, q3, hc⟩
    refine ⟨q2.get, ?_⟩
    rcases hc with ⟨rfl, hj2⟩ | ⟨rfl, hs2⟩
    · obtain ⟨c3, q4⟩ := hch h2 (.loop e [p, q] assign body .ready none) q2.lt
      exact hk1 _ (z2.step c3 hzs) ⟨hJ _ _ _ hj2 c3, q4, q3.step c3 (by omega), z2.step c3 hzs⟩
    · obtain ⟨c3, q4⟩ := hch h2 (.loop e [p, q] assign body .done (some .ret)) q2.lt
      exact hk2 _ (z2.step c3 hzs) ⟨hS _ _ hs2 c3, q4, z2.step c3 hzs⟩
  · rintro h' zz ⟨hj, ha, _⟩
    refine ⟨_, _, ha.get, .inl ⟨rfl, rfl, ?_⟩⟩
    obtain ⟨c3, _⟩ := hch h' (.loop e [p, q] assign body .exhausted none) ha.lt
    exact hend _ (zz.step c3 hzs) (hJ _ _ _ hj c3)
  · rintro h' zz ⟨hs2, ha, _⟩
    refine ⟨_, _, ha.get, .inr (.inr ⟨rfl, rfl, ?_⟩)⟩
    obtain ⟨c3, _⟩ := hch h' (.loop e [p, q] assign body .exhausted (some .ret)) ha.lt
    exact hstop _ (zz.step c3 hzs) (hS _ _ hs2 c3)
theorem ok_backG (v : Value) (h : Heap) (hv : v.cells.toList = [v]) (K : Value → Heap → Prop) (hk : ∀ h' B, Ext h h' → h.size ≤ B → Holds h' B (.row [v] 84 false) → K (.func (.func 160) ⟨[]⟩ ⟨[.pointer (some ⟨B, 0, none⟩)]⟩) h') : Ok Try.prog tab ov 123 [v] h K := by
  rw [lay_nil h]
  have z := Ext.refl h
  have hva := vSelf v
  refine Ok.into rfl tab_fn123 (bodyF N123) rfl (m := 3) rfl ?_
  repeat' ( simp -implicitDefEqProofs only [syms, symx, seval, c123, hva])
  exact hk _ _ (z.upW _ _ (by omega)) (by omega) ⟨by rw [lay_size]; simp, by rw [lay_get]; simp [hv]⟩
theorem len_reP (a : AtomD) (u w : Value) : (a.cells ++ [u, w]).length = 13 := rfl
theorem cut_re13P (a : AtomD) (u w : Value) : cut (a.cells ++ [u, w]) 0 13 = some (a.cells ++ [u, w]) := rfl
theorem dec13P : decide (13 ≤ 13) = true := rfl
theorem cut_re0P (a : AtomD) (u w : Value) : cut (a.cells ++ [u, w]) 0 11 = some a.cells := rfl
theorem one_reP {a : AtomD} {n : Int} {w : Value} (h : Am.one w = true) : (a.cells ++ [.int .i64 n, w]).all Am.one = true := by
  have h1 : a.cells.all Am.one = true := rfl
  rw [List.all_append, h1, Bool.true_and]
  simp only [List.all_cons, List.all_nil, h, Bool.and_true]
  rfl
theorem stP (h : Heap) (l : List Blk) (w i o : Nat) (v : Value) (hi : i < l.length) : storeA tab 90 (.pointer (some ⟨h.size + i, o, none⟩)) v (h.lay l w) = if v.cells.size = 13 then storeO l[i]? i o v.cells.toList h l w else none := st_lay sz90 h l w i o v hi
theorem ok_last (l : List StepD) (a : AtomD) (v : Value) (h : Heap) (hl : Sl Rep.step h v l) (hn : l.length ≤ 1000) (K : Value → Heap → Prop) (hk : ∀ h', Ext h h' → K (.int .i64 (lastD l a)) h') : Ok Try.prog tab ov 58 [v, a.val] h K := by
  rw [lay_nil h]
  have z := Ext.refl h
  have hva := vSelf v
  have cvv := sl_cells hl
  refine Ok.into rfl tab_fn58 (bodyF N58) rfl (m := 14) rfl ?_
  repeat' ( simp -implicitDefEqProofs only [syms, symx, seval, c58, hva])
  refine ok_backG v _ cvv _ (fun h' B x hB qb => ?_)
  have qa := Holds.top (i := 0) x rfl
  have qr := Holds.top (i := 1) x rfl
  ((skip); replace z := z.overW x (by (try simp only [lsz]); omega); rw [lay_nil h'])
  rw [lay_size] at hB
  simp only [List.length_cons, List.length_nil] at hB
  obtain ⟨A0, hA0⟩ : ∃ A0, A0 = h.size + 0 := ⟨_, rfl⟩
  obtain ⟨R0, hR0⟩ : ∃ R0, R0 = h.size + 1 := ⟨_, rfl⟩
  rw [← hA0] at qa
  rw [← hR0] at qr
  rw [← hA0, ← hR0]
  have hBl := qb.lt
  simp -implicitDefEqProofs only [syms, symx, seval, c58]
  rw [← lay_nil h']
  refine range_backS l v B h z qb hl hn (fun i h2 => lastD l a = lastF l a i ∧ Holds h2 A0 (.row a.cells 39 false) ∧ ∃ x, Holds h2 R0 (.row [.int .i64 x] 3 false)) (fun h2 => Holds h2 R0 (.row [.int .i64 (lastD l a)] 3 false)) ?_ ?_ ⟨rfl, qa, _, qr⟩ ?_ ?_ ?_
  · rintro i h2 h3 ⟨a0, a1, x, a2⟩ c
    exact ⟨a0, a1.step c (by omega), x, a2.step c (by omega)⟩
  · rintro h2 h3 a2 c
    exact a2.step c (by omega)
  · rintro i r b h2 hr' zz qb2 hlt2 ⟨a0, a1, x0, a2⟩ hbd
    rw [lay_nil h2]
    have hall := one_reP (a := r.re.atom) (n := r.re.clause) hbd.one
    repeat' ( simp -implicitDefEqProofs only [syms, symx, seval, c58, lay_set, storeO_row, List.all_cons, List.all_nil, Am.one, Bool.and_true, Bool.true_and, Bool.and_self, List.set_cons_zero, List.set_cons_succ, st4, st3, st9, st36, st39, st47, st41, st192, stP, len_reP, hall, dec13P, if_true, ↓cut_re13P])
    refine ⟨by rw [← lay_nil h2]; exact (Ext.refl h2).upW _ _ (by omega), fun H bk c zH qA => ?_⟩
    have hz2 := zz.size
    have qe := Holds.topC (i := 0) c hlt2 rfl
    have b0 := qb2.stepL c (by omega)
    have b1 := a1.stepL c (by omega)
    have b2 := a2.stepL c (by omega)
    have hHs := c.size
    rw [lay_size] at hHs
    obtain ⟨E0, hE0⟩ : ∃ E0, E0 = h2.size + 0 := ⟨_, rfl⟩
    rw [← hE0] at qe
    rw [← hE0, lay_nil H]
    clear z qb qa qr
    replace z := zH
    have hgd : l.getD i noStepD = r := by rw [List.getD_eq_getElem?_getD, hr']; rfl
    have hst : lastF l a (i + 1) = if r.re.atom = a then (i : Int) else lastF l a i := by rw [← hgd]; rfl
    rw [hst] at a0
    repeat' (first | simp -implicitDefEqProofs only [syms, symx, seval, c58, qe.lay, b1.lay, ↓cut_atom, ↓cut_re0P, agg_atom, valE_atom, bin_atomE] | ((with_reducible  apply forkD ) <;> intro _))
    · rename_i hh
      rw [if_pos hh] at a0
      refine store_cell b2 sz3 (by simp) rfl rfl (fun h4 b4 c4 => ?_)
      have hz3 := z.size
      replace z := (z.upW [] _ (by omega)).step c4 (by omega)
      replace qA := qA.stepL c4 (by omega)
      replace b0 := b0.stepL c4 (by omega)
      rw [lay_nil h4]
      repeat' ( simp -implicitDefEqProofs only [syms, symx, seval, c58])
      rw [← lay_nil]
      exact ⟨z, qA, b0, .inr (by rw [a0]; exact b4)⟩
    · rename_i hh
      rw [if_neg hh] at a0
      rw [← lay_nil]
      exact ⟨z, qA, b0, .inl ⟨a0, b1, _, b2⟩⟩
  · rintro h2 zz ⟨a0, a1, x0, a2⟩
    rw [lay_nil h2]
    repeat' ( simp -implicitDefEqProofs only [syms, symx, seval, c58])
    refine store_cell a2 sz3 (by simp) rfl rfl (fun h4 b4 c4 => ?_)
    have hz2 := zz.size
    replace zz := (zz.upW [] _ (by omega)).step c4 (by omega)
    rw [lay_nil h4]
    repeat' ( simp -implicitDefEqProofs only [syms, symx, seval, c58, b4.lay, List.set_cons_zero])
    have e : lastD l a = -1 := a0
    rw [e] at hk
    exact hk _ (zz.upW _ _ (by omega))
  · rintro h2 zz a2
    rw [lay_nil h2]
    repeat' ( simp -implicitDefEqProofs only [syms, symx, seval, c58, a2.lay])
    exact hk _ (zz.upW _ _ (by omega))
theorem ok_equalI (l m : List Int) (v u : Value) (h : Heap) (hl : Sl Rep.int h v l) (hm : Sl Rep.int h u m) (hs : l.length ≤ 1000) (K : Value → Heap → Prop)
    (hk : ∀ h', Ext h h' → K (.bool (decide (l = m))) h') : Ok Try.prog tab ov 122 [v, u] h K := by
  rw [lay_nil h]
  have z := Ext.refl h
  have hln := fun (hh : Heap) => hl.lenA ds32 hh
  have hlm := fun (hh : Heap) => hm.lenA ds32 hh
  have hva := vSelf v
  have hvu := vSelf u
  refine Ok.into rfl tab_fn122 (bodyF N122) rfl (m := 24) rfl ?_
  simp -implicitDefEqProofs only [syms, symx, seval, c122, hln, hlm, hva, hvu]
  refine forkN (fun hne => ?_) (fun heq => ?_)
  · rw [decide_eq_false (show ¬ l = m from fun e => by subst e; exact hne rfl)] at hk
    repeat' ( simp -implicitDefEqProofs only [syms, symx, seval, c122])
    exact hk _ (z.upW _ _ (by omega))
  have hlen : l.length = m.length := by omega
  repeat' ( simp -implicitDefEqProofs only [syms, symx, seval, c122, hln, hva])
  obtain ⟨I1, hI1⟩ : ∃ I : Nat → Env → Heap → Prop, I = (fun n e h' => ∃ (i : Nat) (h1 : Heap), h' = h1.lay [] h1.low ∧ Ext h h1 ∧ (n = l.length - i ∧ i ≤ l.length ∧ l.take i = m.take i) ∧ ∃ J : Nat → Value, e = (v :: u :: jr J 2 9 (v :: .int .i64 l.length :: .int .i64 i :: jr J 14 12 ([])))) := ⟨_, rfl⟩
  refine W_loopN I1 _ (by rw [hI1]; exact ⟨0, _, rfl, z, ⟨rfl, by omega, rfl⟩, junk (by kernel_rfl)⟩) ?_
  intro n e h' hin
  rw [hI1] at hin
  obtain ⟨i, h1', rfl, z, hinv, J, rfl⟩ := hin
  obtain ⟨rfl, hi, htk⟩ := hinv
  have hw : IntKind.i64.wrap ((i : Int) + 1) = ((i + 1 : Nat) : Int) := by rw [wrap_i64 (by omega) (by omega)]; omega
  simp -implicitDefEqProofs only [syms, symx, seval, c122, hln]
  refine forkD (fun hlt => ?_) (fun hlt => ?_)
  rotate_left
  · rw [List.take_of_length_le (by omega), List.take_of_length_le (by omega)] at htk
    rw [decide_eq_true htk] at hk
    repeat' ( simp -implicitDefEqProofs only [syms, symx, seval, c122])
    exact hk _ (z.upW _ _ (by omega))
  obtain ⟨r, hr, hr'⟩ := amElem (l := l) (i := i) (by omega)
  obtain ⟨s, hs, hs'⟩ := amElem (l := m) (i := i) (by omega)
  simp -implicitDefEqProofs only [syms, symx, seval, c122, hva, hvu]
  repeat' ((first | ((with_reducible  apply forkN ) <;> intro _) | with_reducible_and_instances refine ixi_at (hl.mono z.inc) ds32 sz3 (by omega) hr (fun p hp => ?_) | with_reducible_and_instances refine ixi_at (hm.mono z.inc) ds32 sz3 (by omega) hs (fun p hp => ?_) | with_reducible_and_instances refine ld_one hp ag3 ?_ | with_reducible refine drawN (by simp only [c122]) (z.upW _ _ (by omega)) ?_ | ((with_reducible refine ⟨z.grw.lay _ _, ?_⟩); (intro _ h' zz x _); (try simp only [lay_lay, List.append_nil] at x); (replace z := zz); (clear zz); rw [lay_nil h'])) <;> simp -implicitDefEqProofs only [syms, symx, seval, c122, hva, hvu])
  · have hne : ¬ r = s := by assumption
    rw [decide_eq_false (show ¬ l = m from fun e => by
      subst e
      rw [hr'] at hs'
      exact hne (Option.some.inj hs'))] at hk
    exact hk _ (z.upW _ _ (by omega))
  · have he : r = s := by assumption
    rw [hw]
    (rw [hI1]; with_reducible refine loopN_normal (m := _) ?_ ⟨i + 1, _, rfl, z, ⟨rfl, by omega, by rw [List.take_add_one, List.take_add_one, hr', hs', htk, he]⟩, junk (by kernel_rfl)⟩; omega)
theorem cell_re1P (a : AtomD) (u w : Value) : (a.cells ++ [u, w])[11]? = some u := rfl
theorem cell_re2P (a : AtomD) (u w : Value) : (a.cells ++ [u, w])[12]? = some w := rfl
theorem ok_same1 (r s : StepD) (b c : Value) (h : Heap) (hb : Sl Rep.int h b r.cites) (hc : Sl Rep.int h c s.cites) (hn : r.cites.length ≤ 1000) (K : Value → Heap → Prop) (hk : ∀ h', Ext h h' → K (.bool (decide (r = s))) h') :
    Ok Try.prog tab ov 121 [.agg ⟨r.re.atom.cells ++ [.int .i64 r.re.clause, b]⟩, .agg ⟨s.re.atom.cells ++ [.int .i64 s.re.clause, c]⟩] h K := by
  rw [lay_nil h]
  have z := Ext.refl h
  refine Ok.into rfl tab_fn121 (bodyF N121) rfl (m := 22) rfl ?_
  have hvb := vSelf b
  have hvc := vSelf c
  have hno : ∀ {p : Prop} [Decidable p], ¬ p → (r = s → p) → decide (r = s) = false := fun hp f => decide_eq_false (fun e => hp (f e))
  simp -implicitDefEqProofs only [syms, symx, seval, c121, ↓cut_re0P, agg_atom, valE_atom, bin_atomE, cell_re1P, cell_re2P, hvb, hvc]
  refine forkD (fun h1 => ?_) (fun h1 => ?_)
  rotate_left
  · rw [hno h1 (fun e => by rw [e])] at hk
    simp -implicitDefEqProofs only [syms, symx, seval, c121]
    exact hk _ (z.upW _ _ (by omega))
  simp -implicitDefEqProofs only [syms, symx, seval, c121, ↓cut_re0P, agg_atom, valE_atom, bin_atomE, cell_re1P, cell_re2P, hvb, hvc]
  refine forkB (fun h2 => ?_) (fun h2 => ?_)
  rotate_left
  · rw [hno h2 (fun e => by rw [e])] at hk
    simp -implicitDefEqProofs only [syms, symx, seval, c121]
    exact hk _ (z.upW _ _ (by omega))
  simp -implicitDefEqProofs only [syms, symx, seval, c121, ↓cut_re0P, agg_atom, valE_atom, bin_atomE, cell_re1P, cell_re2P, hvb, hvc]
  refine ok_equalI r.cites s.cites b c _ (hb.lay _ _) (hc.lay _ _) hn _ (fun h' x => ?_)
  ((skip); replace z := z.overW x (by (try simp only [lsz]); omega); rw [lay_nil h'])
  have hxy : decide (r.cites = s.cites) = decide (r = s) := by
    obtain ⟨xa, xc, xs⟩ := r
    obtain ⟨ya, yc, ys⟩ := s
    have e1 : xa = ya := h1
    have e2 : xc = yc := h2
    subst e1 e2
    simp
  rw [hxy]
  simp -implicitDefEqProofs only [syms, symx, seval, c121]
  generalize decide (r = s) = tb at hk
  cases tb
  all_goals
    refine ⟨fun e => ?_, fun e => ?_⟩ <;> first | cases e | skip
    simp -implicitDefEqProofs only [syms, symx, seval, c121]
    exact hk _ (z.upW _ _ (by omega))
theorem ok_equalFS (l m : List StepD) (v u fv : Value) (h : Heap) (hl : Sl Rep.step h v l) (hm : Sl Rep.step h u m) (hs : l.length ≤ 1000) (hpf : ∀ x ∈ l, ∀ (y : StepD) (b c : Value) (hc : Heap) (K : Value → Heap → Prop), Sl Rep.int hc b x.cites → Sl Rep.int hc c y.cites → (∀ h', Ext hc h' → K (.bool (decide (x = y))) h') → callE Try.prog tab ov [.agg ⟨x.re.atom.cells ++ [.int .i64 x.re.clause, b]⟩, .agg ⟨y.re.atom.cells ++ [.int .i64 y.re.clause, c]⟩] hc K fv) (K : Value → Heap → Prop)
    (hk : ∀ h', Ext h h' → K (.bool (decide (l = m))) h') : Ok Try.prog tab ov 120 [v, u, fv] h K := by
  rw [lay_nil h]
  have z := Ext.refl h
  have hln := fun (hh : Heap) => hl.lenA ds84 hh
  have hlm := fun (hh : Heap) => hm.lenA ds84 hh
  have hva := vSelf v
  have hvu := vSelf u
  have hvf := vSelf fv
  refine Ok.into rfl tab_fn120 (bodyF N120) rfl (m := 29) rfl ?_
  simp -implicitDefEqProofs only [syms, symx, seval, c120, hln, hlm, hva, hvu]
  refine forkN (fun hne => ?_) (fun heq => ?_)
  · rw [decide_eq_false (show ¬ l = m from fun e => by subst e; exact hne rfl)] at hk
    repeat' ( simp -implicitDefEqProofs only [syms, symx, seval, c120])
    exact hk _ (z.upW _ _ (by omega))
  have hlen : l.length = m.length := by omega
  repeat' ( simp -implicitDefEqProofs only [syms, symx, seval, c120, hln, hva])
  obtain ⟨I1, hI1⟩ : ∃ I : Nat → Env → Heap → Prop, I = (fun n e h' => ∃ (i : Nat) (h1 : Heap), h' = h1.lay [] h1.low ∧ Ext h h1 ∧ (n = l.length - i ∧ i ≤ l.length ∧ l.take i = m.take i) ∧ ∃ J : Nat → Value, e = (v :: u :: fv :: jr J 3 12 (v :: .int .i64 l.length :: .int .i64 i :: jr J 18 14 ([])))) := ⟨_, rfl⟩
  refine W_loopN I1 _ (by rw [hI1]; exact ⟨0, _, rfl, z, ⟨rfl, by omega, rfl⟩, junk (by kernel_rfl)⟩) ?_
  intro n e h' hin
  rw [hI1] at hin
  obtain ⟨i, h1', rfl, z, hinv, J, rfl⟩ := hin
  obtain ⟨rfl, hi, htk⟩ := hinv
  have hw : IntKind.i64.wrap ((i : Int) + 1) = ((i + 1 : Nat) : Int) := by rw [wrap_i64 (by omega) (by omega)]; omega
  simp -implicitDefEqProofs only [syms, symx, seval, c120, hln]
  refine forkD (fun hlt => ?_) (fun hlt => ?_)
  rotate_left
  · rw [List.take_of_length_le (by omega), List.take_of_length_le (by omega)] at htk
    rw [decide_eq_true htk] at hk
    repeat' ( simp -implicitDefEqProofs only [syms, symx, seval, c120])
    exact hk _ (z.upW _ _ (by omega))
  obtain ⟨r, hr, hr'⟩ := amElem (l := l) (i := i) (by omega)
  obtain ⟨s, hs1, hs'⟩ := amElem (l := m) (i := i) (by omega)
  repeat' (first | simp -implicitDefEqProofs only [syms, symx, seval, c120, hva, hvu] | with_reducible_and_instances refine ixp_at (hl.mono z.inc) ds84 sz90 (by omega) hr (fun p b hb hp => ?_) | with_reducible_and_instances refine ldr hp ag90 sz90 ?_)
  have hall := one_reP (a := r.re.atom) (n := r.re.clause) hb.one
  simp -implicitDefEqProofs only [syms, symx, seval, c120, lay_set, storeO_row, List.all_cons, List.all_nil, Am.one, Bool.and_true, Bool.true_and, Bool.and_self, List.set_cons_zero, List.set_cons_succ, st4, st3, st9, st36, st39, st47, st41, st192, stP, len_reP, hall, dec13P, if_true, ↓cut_re13P, hva, hvu]
  with_reducible_and_instances refine ixp_at (hm.mono z.inc) ds84 sz90 (by omega) hs1 (fun p c hc hq => ?_)
  simp -implicitDefEqProofs only [syms, symx, seval, c120]
  with_reducible_and_instances refine ldr hq ag90 sz90 ?_
  have hall2 := one_reP (a := s.re.atom) (n := s.re.clause) hc.one
  repeat' ( simp -implicitDefEqProofs only [syms, symx, seval, c120, lay_set, storeO_row, List.all_cons, List.all_nil, Am.one, Bool.and_true, Bool.true_and, Bool.and_self, List.set_cons_zero, List.set_cons_succ, st4, st3, st9, st36, st39, st47, st41, st192, stP, len_reP, hall, hall2, dec13P, if_true, ↓cut_re13P, hvf])
  refine hpf r (List.mem_of_getElem? hr') s b c _ _ (hb.lay _ _) (hc.lay _ _) (fun h' x => ?_)
  ((skip); replace z := z.overW x (by (try simp only [lsz]); omega); rw [lay_nil h'])
  by_cases he : r = s
  · rw [decide_eq_true he]
    repeat' (first | simp -implicitDefEqProofs only [syms, symx, seval, c120, Bool.not_true] | ((with_reducible_and_instances apply unop_not); (· rfl)))
    rw [hw]
    (rw [hI1]; with_reducible refine loopN_normal (m := _) ?_ ⟨i + 1, _, rfl, z, ⟨rfl, by omega, by rw [List.take_add_one, List.take_add_one, hr', hs', htk, he]⟩, junk (by kernel_rfl)⟩; omega)
  · rw [decide_eq_false he]
    repeat' (first | simp -implicitDefEqProofs only [syms, symx, seval, c120, Bool.not_false] | ((with_reducible_and_instances apply unop_not); (· rfl)))
    rw [decide_eq_false (show ¬ l = m from fun e => by
      subst e
      rw [hr'] at hs'
      exact he (Option.some.inj hs'))] at hk
    exact hk _ (z.upW _ _ (by omega))
theorem ok_proofSame (l m : List StepD) (v u : Value) (h : Heap) (hl : Sl Rep.step h v l) (hm : Sl Rep.step h u m) (hs : l.length ≤ 1000) (hc : ∀ s ∈ l, s.cites.length ≤ 1000) (K : Value → Heap → Prop)
    (hk : ∀ h', Ext h h' → K (.bool (decide (l = m))) h') : Ok Try.prog tab ov 57 [v, u] h K := by
  rw [lay_nil h]
  have z := Ext.refl h
  have hva := vSelf v
  have hvu := vSelf u
  refine Ok.into rfl tab_fn57 (bodyF N57) rfl (m := 6) rfl ?_
  simp -implicitDefEqProofs only [syms, symx, seval, c57, hva, hvu]
  refine ok_equalFS l m v u _ _ (hl.lay _ _) (hm.lay _ _) hs (fun r hr s b c h3 K3 g1 g2 g3 => ?_) _ (fun h' x => ?_)
  · rw [callE_clos]
    exact ok_same1 r s b c h3 g1 g2 (hc r hr) K3 g3
  ((skip); replace z := z.overW x (by (try simp only [lsz]); omega); rw [lay_nil h'])
  simp -implicitDefEqProofs only [syms, symx, seval, c57]
  exact hk _ (z.upW _ _ (by omega))
theorem ok_findRef (l : List ReasonD) (v : Value) (a : AtomD) (h : Heap) (hl : Sl Rep.reason h v l) (hs : l.length ≤ 1000) (K : Value → Heap → Prop)
    (hk : ∀ h' v', Ext h h' → (v' = if l.any (fun x => decide (x.atom = a)) then .tuple #[.int .i64 (idxP (fun x => decide (x.atom = a)) l), .bool true] else .tuple #[.int .i64 0, .bool false]) → K v' h') : Ok Try.prog tab ov 59 [v, a.val] h K := by
  rw [lay_nil h]
  have z := Ext.refl h
  have hln := fun (hh : Heap) => hl.lenA ds24 hh
  have hva := vSelf v
  refine Ok.into rfl tab_fn59 (bodyF N59) rfl (m := 19) rfl ?_
  repeat' ( simp -implicitDefEqProofs only [syms, symx, seval, c59, cells_atom, ↓cut_atom, agg_atom, valE_atom])
  refine W_fold (fun h' x hq => ?_)
  have q0 := hq 0 _ rfl
  clear hq
  (replace z := z.overW x (by (try simp only [lsz]); omega); rw [lay_nil h'])
  obtain ⟨A0, hA0⟩ : ∃ A0, A0 = h.size + 0 := ⟨_, rfl⟩
  rw [← hA0] at q0
  rw [← hA0]
  obtain ⟨I1, hI1⟩ : ∃ I : Nat → Env → Heap → Prop, I = (fun n e h' => ∃ (i : Nat) (h1 : Heap), h' = h1.lay [] h1.low ∧ Ext h h1 ∧ (n = l.length - i ∧ i ≤ l.length ∧ (∀ x ∈ l.take i, decide (x.atom = a) = false) ∧ Holds h1 A0 (.row a.cells 39 false)) ∧ ∃ J : Nat → Value, e = (v :: jr J 1 2 (.pointer (some ⟨A0, 0, none⟩) :: jr J 4 2 (.int .i64 i :: jr J 7 14 ([]))))) := ⟨_, rfl⟩
  refine W_loopN I1 _ (by rw [hI1]; exact ⟨0, _, rfl, z, ⟨rfl, by omega, by simp, q0⟩, junk (by kernel_rfl)⟩) ?_
  intro n e h' hin
  rw [hI1] at hin
  obtain ⟨i, h1', rfl, z, hinv, J, rfl⟩ := hin
  clear q0
  obtain ⟨rfl, hi, hall, q0⟩ := hinv
  have hw : IntKind.i64.wrap ((i : Int) + 1) = ((i + 1 : Nat) : Int) := by rw [wrap_i64 (by omega) (by omega)]; omega
  simp -implicitDefEqProofs only [syms, symx, seval, c59, hva, hln]
  refine forkD (fun hlt => ?_) (fun hlt => ?_)
  rotate_left
  · rw [List.take_of_length_le (by omega)] at hall
    have hf : l.any (fun x => decide (x.atom = a)) = false := by rw [List.any_eq_false]; intro x hx; rw [hall x hx]; decide
    repeat' ( simp -implicitDefEqProofs only [syms, symx, seval, c59])
    exact hk _ _ (z.upW _ _ (by omega)) (by rw [hf]; rfl)
  obtain ⟨r, hr, hr'⟩ := amElem (l := l) (i := i) (by omega)
  repeat' (first | simp -implicitDefEqProofs only [syms, symx, seval, c59, hva, q0.lay, ↓cut_atom, agg_atom, valE_atom, bin_atomE] | ((with_reducible  apply forkD ) <;> intro _) | with_reducible_and_instances refine ixr_at (hl.mono z.inc) ds24 sz41 (by omega) hr (fun p b hb hp => ?_) | with_reducible_and_instances refine fdr0 hp fa41_0 (fun q hq => ?_) | with_reducible_and_instances refine lda hq ag39 sz39 ?_ | with_reducible refine drawN (by simp only [c59]) (z.upW _ _ (by omega)) ?_ | ((with_reducible refine ⟨z.grw.lay _ _, ?_⟩); (intro _ h' zz x _); (try simp only [lay_lay, List.append_nil] at x); (try replace q0 := q0.over x); (replace z := zz); (clear zz); rw [lay_nil h']))
  · have he : r.atom = a := by assumption
    have hid := idx_found hr' hall (decide_eq_true he)
    have hf : l.any (fun x => decide (x.atom = a)) = true := List.any_eq_true.2 ⟨r, List.mem_of_getElem? hr', decide_eq_true he⟩
    exact hk _ _ (z.upW _ _ (by omega)) (by rw [hf, if_pos rfl, hid])
  · have he : ¬ r.atom = a := by assumption
    rw [hw]
    (rw [hI1]; with_reducible refine loopN_normal (m := _) ?_ ⟨i + 1, _, rfl, z, ⟨rfl, by omega, take_all (i := i) (P := fun x : ReasonD => decide (x.atom = a) = false) hr' hall (decide_eq_false he), q0⟩, junk (by kernel_rfl)⟩; omega)
end Go.Proofs.Ytompindebndddaa

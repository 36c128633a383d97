/- Walks: lists compared; elements deleted Written out by fill2.py. No condition. -/
import Derived.Test.YtemapihoobmonaaGreatDoorG41
import Derived.Test.YtemapihoobmonaaGreatDoorG18
namespace Go.Proofs.YtemapihoobmonaaGreatDoor
open Go.Am
set_option linter.unusedSimpArgs false
set_option linter.unusedVariables false
set_option maxRecDepth 100000
set_option maxHeartbeats 0
theorem zmb (l m : List AtomD) (v u : Value) (h : Heap) (hl : Sl Rep.atom h v l) (hm : Sl Rep.atom h u m) (hs : l.length ≤ 1000) (hs2 : m.length ≤ 1000) (K : Value → Heap → Prop)
    (hk : ∀ h', Ext h h' → K (.bool (decide (l = m))) h') : Ok Tryz.prog tab ov 21 [v, u] h K := by
  rw [zaa h]
  have z := Ext.refl h
  have hln := fun (hh : Heap) => hl.lenA ds27 hh
  have hlm := fun (hh : Heap) => hm.lenA ds27 hh
  refine Ok.into rfl zvs (zay N21) rfl (m := 24) rfl ?_
  simp -implicitDefEqProofs only [syms, symx, seval, c21, hln, hlm]
  refine ziJ (fun hne => ?_) (fun heq => ?_)
  · rw [decide_eq_false (show ¬ l = m from fun e => by subst e; exact hne rfl)] at hk
    repeat' ( simp -implicitDefEqProofs only [syms, symx, seval, c21])
    exact hk _ (z.upW _ _ (by omega))
  have hlen : l.length = m.length := by omega
  repeat' ( simp -implicitDefEqProofs only [syms, symx, seval, c21])
  obtain ⟨I1, hI1⟩ : ∃ I : Nat → Env → Heap → Prop, I = (fun n e h' => ∃ (i : Nat) (h1 : Heap), h' = h1.lay [] h1.low ∧ Ext h h1 ∧ (n = l.length - i ∧ i ≤ l.length ∧ l.take i = m.take i) ∧ ∃ J : Nat → Value, e = (v :: u :: jr J 2 3 (.int .i64 i :: jr J 6 20 ([])))) := ⟨_, rfl⟩
  refine zas I1 _ (by rw [hI1]; exact ⟨0, _, rfl, z, ⟨rfl, by omega, rfl⟩, junk (by kernel_rfl)⟩) ?_
  intro n e h' hin
  rw [hI1] at hin
  obtain ⟨i, h1', rfl, z, hinv, J, rfl⟩ := hin
  obtain ⟨rfl, hi, htk⟩ := hinv
  have hw : IntKind.i64.wrap ((i : Int) + 1) = ((i + 1 : Nat) : Int) := by rw [zae (by omega) (by omega)]; omega
  simp -implicitDefEqProofs only [syms, symx, seval, c21, hln]
  refine zax (fun hlt => ?_) (fun hlt => ?_)
  rotate_left
  · rw [List.take_of_length_le (by omega), List.take_of_length_le (by omega)] at htk
    rw [decide_eq_true htk] at hk
    repeat' ( simp -implicitDefEqProofs only [syms, symx, seval, c21])
    exact hk _ (z.upW _ _ (by omega))
  obtain ⟨r, hr, hr'⟩ := zbc (l := l) (i := i) (by omega)
  obtain ⟨s, hs, hs'⟩ := zbc (l := m) (i := i) (by omega)
  simp -implicitDefEqProofs only [syms, symx, seval, c21]
  repeat' ((first | ((with_reducible  apply zgT ) <;> intro _) | with_reducible_and_instances refine zb5 (hl.mono z.inc) ds27 sz26 (by omega) hr (fun p hp => ?_) | with_reducible_and_instances refine zb5 (hm.mono z.inc) ds27 sz26 (by omega) hs (fun p hp => ?_) | with_reducible_and_instances refine lda hp ag26 sz26 ?_ | with_reducible refine zbU (by simp only [c21]) (z.upW _ _ (by omega)) ?_ | ((with_reducible refine ⟨z.grw.lay _ _, ?_⟩); (intro _ h' zz x _); (try simp only [zaq, List.append_nil] at x); (replace z := zz); (clear zz); rw [zaa h'])) <;> simp -implicitDefEqProofs only [syms, symx, seval, c21, zty])
  · have hne : ¬ r = s := by assumption
    rw [decide_eq_false (show ¬ l = m from fun e => by
      subst e
      rw [hr'] at hs'
      exact hne (Option.some.inj hs'))] at hk
    exact hk _ (z.upW _ _ (by omega))
  · have he : r = s := by assumption
    rw [hw]
    (rw [hI1]; with_reducible refine zac (m := _) ?_ ⟨i + 1, _, rfl, z, ⟨rfl, by omega, by rw [List.take_add_one, List.take_add_one, hr', hs', htk, he]⟩, junk (by kernel_rfl)⟩; omega)
theorem zf4 (l : List AtomD) (v fv : Value) (pr : AtomD → Bool) (hb h : Heap) (z0 : Ext hb h) (hl : Sl Rep.atom h v l) (hn : l.length ≤ 1000) (hpf : ∀ x ∈ l, ∀ (hc : Heap) (K : Value → Heap → Prop), Ext hb hc → (∀ h', Ext hc h' → K (.bool (pr x)) h') → zfo Tryz.prog tab ov [x.val] hc K fv) (K : Value → Heap → Prop)
    (hk : ∀ h', Ext h h' → K (.int .i64 (idxP pr l)) h') : Ok Tryz.prog tab ov 151 [v, fv] h K := by
  rw [zaa h]
  have z := Ext.refl h
  refine Ok.into rfl zlj (zay N151) rfl (m := 17) rfl ?_
  simp -implicitDefEqProofs only [syms, symx, seval, c151]
  repeat' (( with_reducible_and_instances refine zci hl ds27 ?_) <;> simp -implicitDefEqProofs only [syms, symx, seval, c151])
  obtain ⟨I1, hI1⟩ : ∃ I : Nat → Env → Heap → Prop, I = (fun n e h' => ∃ (i : Nat) (h1 : Heap), h' = h1.lay [] h1.low ∧ Ext h h1 ∧ (n = l.length - i ∧ i ≤ l.length ∧ ∀ x ∈ l.take i, pr x = false) ∧ ∃ J : Nat → Value, e = (v :: fv :: jr J 2 5 (.int .i64 l.length :: .int .i64 i :: jr J 9 10 ([])))) := ⟨_, rfl⟩
  refine zas I1 _ (by rw [hI1]; exact ⟨0, _, rfl, z, ⟨rfl, by omega, by simp⟩, junk (by kernel_rfl)⟩) ?_
  intro n e h' hin
  rw [hI1] at hin
  obtain ⟨i, h1', rfl, z, hinv, J, rfl⟩ := hin
  obtain ⟨rfl, hi, hall⟩ := hinv
  have hw : IntKind.i64.wrap ((i : Int) + 1) = ((i + 1 : Nat) : Int) := by rw [zae (by omega) (by omega)]; omega
  repeat' (first | simp -implicitDefEqProofs only [syms, symx, seval, c151] | ((with_reducible  apply zax ) <;> intro _))
  rotate_left
  · rw [List.take_of_length_le (by omega)] at hall
    have := zfO hall
    rw [this] at hk
    exact hk _ (z.upW _ _ (by omega))
  obtain ⟨r, hr, hr'⟩ := zbc (l := l) (i := i) (by assumption)
  repeat' ((first | with_reducible_and_instances refine zb5 (hl.mono z.inc) ds27 sz26 (by omega) hr (fun p hp => ?_) | with_reducible_and_instances refine lda hp ag26 sz26 ?_) <;> simp -implicitDefEqProofs only [syms, symx, seval, c151])
  refine hpf r (List.mem_of_getElem? hr') _ _ ((z0.trans z).upW _ _ (by omega)) (fun h' x => ?_)
  ((skip); replace z := z.overW x (by (try simp only [lsz]); omega); rw [zaa h'])
  cases hx : pr r
  rotate_left
  · simp -implicitDefEqProofs only [syms, symx, seval, c151]
    have := zfF hr' hall hx
    rw [this] at hk
    exact hk _ (z.upW _ _ (by omega))
  · simp -implicitDefEqProofs only [syms, symx, seval, c151]
    rw [hw]
    (rw [hI1]; with_reducible refine zac (m := _) ?_ ⟨i + 1, _, rfl, z, ⟨rfl, by omega, zbg (i := i) (P := fun x : AtomD => pr x = false) hr' hall hx⟩, junk (by kernel_rfl)⟩; omega)
theorem zkK (s t : List AtomD) (fv : Value) (pr : AtomD → Bool) (A c : Nat) (h hs : Heap) (z : Ext h hs) (hA : h.size ≤ A) (q : Holds hs A (.row (rowA (s ++ t)) 26 false)) (hc : c = G * 11 + (s ++ t).length) (hn : (s ++ t).length ≤ 100000) (hsn : s.length ≤ 1000)
    (hpf : ∀ x ∈ s, ∀ (hc : Heap) (K : Value → Heap → Prop), Ext h hc → (∀ h', Ext hc h' → K (.bool (pr x)) h') → zfo Tryz.prog tab ov [x.val] hc K fv) (K : Value → Heap → Prop)
    (hk : ∀ h' w, Ext h h' → OwnA h h' 26 w (s.filter (fun x => !pr x)) → K w h') : Ok Tryz.prog tab ov 116 [.slice (some ⟨A, 0, none⟩) s.length c, fv] hs K := by
  have hO : OwnA h hs 26 (.slice (some ⟨A, 0, none⟩) s.length c) s := zfz q hA (by omega) rfl hc
  rw [zaa hs]
  refine Ok.into rfl zlV (zay N116) rfl (m := 40) rfl ?_
  repeat' ( simp -implicitDefEqProofs only [syms, symx, seval, c116])
  refine zf4 s (.slice (some ⟨A, 0, none⟩) s.length c) fv pr h _ (z.upW _ _ (by omega)) (hO.sl.lay _ _) hsn hpf _ (fun h' x => ?_)
  replace z := (z.upW _ _ (by omega)).trans x
  replace q := (q.on _ _).ext x
  rw [zaa h']
  have hfi : idxP pr s = -1 ∧ (∀ x ∈ s, pr x = false) ∨ ∃ i : Nat, idxP pr s = i ∧ i < s.length ∧ pr (s.getD i noAtomD) = true ∧ ∀ x ∈ s.take i, pr x = false := ztc s
  simp -implicitDefEqProofs only [syms, symx, seval, c116]
  rcases hfi with ⟨e, hall⟩ | ⟨i0, e, hi0, hpi, hall⟩
  · rw [e]
    refine zda (fun _ => ?_) (fun hh => absurd rfl hh)
    repeat' ( simp -implicitDefEqProofs only [syms, symx, seval, c116])
    rw [List.filter_eq_self.2 (fun x hx => by rw [hall x hx]; rfl)] at hk
    exact hk _ _ (z.upW _ _ (by omega)) (zfz (q.on _ _) hA (by omega) rfl hc)
  rw [e]
  refine zda (fun hh => ?_) (fun _ => ?_)
  · exfalso
    omega
  have hwi : IntKind.i64.wrap ((i0 : Int) + 1) = ((i0 + 1 : Nat) : Int) := by rw [zae (by omega) (by omega)]; omega
  repeat' ( simp -implicitDefEqProofs only [syms, symx, seval, c116, hwi])
  obtain ⟨I1, hI1⟩ : ∃ I : Nat → Env → Heap → Prop, I = (fun n e h' => ∃ (i j : Nat) (cur : List AtomD) (h1 : Heap), h' = h1.lay [] h1.low ∧ Ext h h1 ∧ (n = s.length - j ∧ i < j ∧ j ≤ s.length ∧ cur.length = (s ++ t).length ∧ cur.take i = (s.take j).filter (fun x => !pr x) ∧ (∀ p, j ≤ p → cur.getD p noAtomD = (s ++ t).getD p noAtomD) ∧ Holds h1 A (.row (rowA cur) 26 false)) ∧ ∃ J : Nat → Value, e = (.slice (some ⟨A, 0, none⟩) s.length c :: fv :: jr J 2 3 (.int .i64 i :: .int .i64 j :: jr J 7 35 ([])))) := ⟨_, rfl⟩
  refine zas I1 _ (by rw [hI1]; exact ⟨i0, i0 + 1, s ++ t, _, rfl, z, ⟨rfl, by omega, by omega, rfl, zre hi0 hpi hall, fun _ _ => rfl, q⟩, junk (by kernel_rfl)⟩) ?_
  intro n e h' hin
  rw [hI1] at hin
  obtain ⟨i, j, cur, h1', rfl, z, hinv, J, rfl⟩ := hin
  clear q
  obtain ⟨rfl, hij, hjs, hcl, htk, hce, q⟩ := hinv
  have hsl : s.length ≤ (s ++ t).length := by rw [List.length_append]; omega
  have hwj : IntKind.i64.wrap ((j : Int) + 1) = ((j + 1 : Nat) : Int) := by rw [zae (by omega) (by omega)]; omega
  have hwi2 : IntKind.i64.wrap ((i : Int) + 1) = ((i + 1 : Nat) : Int) := by rw [zae (by omega) (by omega)]; omega
  simp -implicitDefEqProofs only [syms, symx, seval, c116]
  refine zax (fun hlt => ?_) (fun hlt => ?_)
  rotate_left
  · have hjs2 : j = s.length := by omega
    have his : i ≤ s.length := by omega
    simp -implicitDefEqProofs only [syms, symx, seval, c116]
    rw [hc, zhE ds27 sz26 his hsl (by omega), ← hc]
    obtain ⟨C3, hC3⟩ : ∃ C3, C3 = G * 11 + ((s ++ t).length - i) := ⟨_, rfl⟩
    rw [← hC3]
    simp -implicitDefEqProofs only [syms, symx, seval, c116, zrh]
    refine zsn q ds27 zbw (by omega) (fun h3 q3 c3 => ?_)
    replace z := z.stepW c3 hA (by omega)
    rw [zaa h3]
    clear q
    simp -implicitDefEqProofs only [syms, symx, seval, c116]
    rw [hc, zt3 ds27 sz26 his hsl (by omega), ← hc]
    repeat' ( simp -implicitDefEqProofs only [syms, symx, seval, c116])
    rw [htk, hjs2, List.take_length] at q3
    have hlen : i = (s.filter (fun x => !pr x)).length := by
      have := congrArg List.length htk
      rw [List.length_take, hjs2, List.take_length] at this
      omega
    have hlen2 : (s.filter (fun x => !pr x) ++ (List.replicate (s.length - i) noAtomD ++ cur.drop (i + (s.length - i)))).length = (s ++ t).length := by
      rw [List.length_append, List.length_append, List.length_replicate, List.length_drop]
      omega
    exact hk _ _ (z.upW _ _ (by omega)) (zfz (q3.on _ _) hA (by omega) hlen (by rw [hlen2]; exact hc))
  have hin : (0 : Int) ≤ (j : Int) ∧ (j : Int) < (s.length : Int) := by omega
  have hini : (0 : Int) ≤ (i : Int) ∧ (i : Int) < (s.length : Int) := by omega
  have hld := fun (bs : List Blk) (w : Nat) => zaL (bs := bs) (w := w) q (zaH (l := cur) (i := j) (by omega))
  rw [hce _ (by omega), zvT (by omega)] at hld
  simp -implicitDefEqProofs only [syms, symx, seval, c116, hin, and_self, if_true, ↓hld, zai]
  refine zpZ sz26 rfl ?_
  repeat' ( simp -implicitDefEqProofs only [syms, symx, seval, c116, ↓zar, zap, zai])
  refine hpf _ (by have := List.mem_of_getElem? (zaH (l := s) (i := j) (by omega)); exact this) _ _ (z.upW _ _ (by omega)) (fun h' x => ?_)
  have q1 := Holds.top (i := 0) x rfl
  ((skip); replace z := z.overW x (by (try simp only [lsz]); omega); (try replace q := q.over x); rw [zaa h'])
  have hcd := zvc (pr := pr) (s := s) (j := j) (by omega)
  have hck := zv9 (pr := pr) (s := s) (j := j) (by omega)
  have hce2 : ∀ p, j + 1 ≤ p → cur.getD p noAtomD = (s ++ t).getD p noAtomD := fun p hp => hce p (by omega)
  cases hx : pr (s.getD j noAtomD)
  rotate_left
  · repeat' (first | simp -implicitDefEqProofs only [syms, symx, seval, c116] | ((with_reducible_and_instances apply zaf); (· rfl)))
    rw [hwj]
    (rw [hI1]; with_reducible refine zac (m := _) ?_ ⟨i, j + 1, cur, _, rfl, z, ⟨rfl, by omega, by omega, hcl, by rw [hcd hx]; exact htk, hce2, q⟩, junk (by kernel_rfl)⟩; omega)
  repeat' (first | simp -implicitDefEqProofs only [syms, symx, seval, c116] | ((with_reducible_and_instances apply zaf); (· rfl)))
  repeat' ( simp -implicitDefEqProofs only [syms, symx, seval, c116, q1.lay, ↓zar, zap, zai, hini, and_self, if_true])
  have hce3 : ∀ p, j + 1 ≤ p → (cur.set i (s.getD j noAtomD)).getD p noAtomD = (s ++ t).getD p noAtomD := by
    intro p hp
    have hne : i ≠ p := by omega
    rw [zfV hne]
    exact hce2 p hp
  have hz := z.size
  refine zbz q sz26 (by omega) (fun h3 q3 c3 => ?_)
  replace z := z.stepW c3 hA (by omega)
  rw [zaa h3]
  clear q q1
  repeat' ( simp -implicitDefEqProofs only [syms, symx, seval, c116])
  rw [hwi2, hwj]
  (rw [hI1]; with_reducible refine zac (m := _) ?_ ⟨i + 1, j + 1, cur.set i (s.getD j noAtomD), _, rfl, z, ⟨rfl, by omega, by omega, by rw [List.length_set]; exact hcl, by rw [zoW (by omega), hck hx, htk], hce3, q3⟩, junk (by kernel_rfl)⟩; omega)
theorem zrS (s : List AtomD) (w : Value) (a : AtomD) (B : Nat) (h : Heap) (hl : Sl Rep.atom h w s) (hs : AscD s) (hn : s.length ≤ 1000) (hlt : ∀ x ∈ s, x.light = true) (ha : a.light = true) (q0 : Holds h B (.row [w] 27 false)) (K : Value → Heap → Prop)
    (hk : ∀ h', Ext h h' → K (.bool (hasA s a)) h') : Ok Tryz.prog tab ov 117 [a.val, .pointer (some ⟨B, 0, none⟩)] h K := by
  rw [zaa h]
  have z := Ext.refl h
  have hva := zaF w
  refine Ok.into rfl ztO (zay N117) rfl (m := 11) rfl ?_
  repeat' ( simp -implicitDefEqProofs only [syms, symx, seval, c117, q0.lay, hva, zat, ↓zar, zap, zai])
  refine zv0 s a w _ (hl.lay _ _) hs hn hlt ha _ (fun h' i x hp => ?_)
  ((skip); replace z := z.overW x (by (try simp only [lsz]); omega); rw [zaa h'])
  generalize hasA s a = b at hk ⊢
  cases b
  all_goals
    repeat' ( simp -implicitDefEqProofs only [syms, symx, seval, c117])
    exact hk _ (z.upW _ _ (by omega))
theorem zmz (v fv : Value) (h : Heap) (hl : Sl Rep.atom h v []) (K : Value → Heap → Prop) (hk : ∀ h', Ext h h' → K v h') : Ok Tryz.prog tab ov 116 [v, fv] h K := by
  rw [zaa h]
  have z := Ext.refl h
  have hva := zaF v
  refine Ok.into rfl zlV (zay N116) rfl (m := 40) rfl ?_
  repeat' ( simp -implicitDefEqProofs only [syms, symx, seval, c116, hva])
  refine zf4 [] v fv (fun _ => false) h _ (z.upW _ _ (by omega)) (hl.lay _ _) (by simp) (fun x hx => absurd hx (by simp)) _ (fun h' x => ?_)
  ((skip); replace z := z.overW x (by (try simp only [lsz]); omega); rw [zaa h'])
  rw [show idxP (fun _ : AtomD => false) [] = -1 from rfl]
  simp -implicitDefEqProofs only [syms, symx, seval, c116, hva, beq_self_eq_true, zge, Int.reduceBEq]
  exact hk _ (z.upW _ _ (by omega))
theorem zvj (l m : List AtomD) (v u : Value) (h : Heap) (hl : Sl Rep.atom h v l) (hm : Sl Rep.atom h u m) (hn : l.length ≤ 900) (hn2 : m.length ≤ 900) (hlt : ∀ x ∈ l, x.light = true) (hlm : ∀ x ∈ m, x.light = true) (K : Value → Heap → Prop)
    (hk : ∀ h' w, Ext h h' → OwnA h h' 26 w ((zbR l).filter (fun x => !hasA m x)) → K w h') : Ok Tryz.prog tab ov 82 [v, u] h K := by
  rw [zaa h]
  have z := Ext.refl h
  refine Ok.into rfl zvN (zay N82) rfl (m := 10) rfl ?_
  repeat' ( simp -implicitDefEqProofs only [syms, symx, seval, c82])
  refine zrY m u _ (hm.lay _ _) hn2 hlm _ (fun h' w x ho => ?_)
  ((skip); replace z := z.overW x (by (try simp only [lsz]); omega); rw [zaa h'])
  have hva := zaF w
  simp -implicitDefEqProofs only [syms, symx, seval, c82, hva]
  refine zhK sz27 (zcx ho.sl) ho.sl.one ?_
  repeat' ( simp -implicitDefEqProofs only [syms, symx, seval, c82, hva])
  have zb : Ext h (h'.lay [Blk.row [w] 27 false] (min h'.low (h'.size + 0))) := z.upW _ _ (by have := z.size; omega)
  have q0 : Holds (h'.lay [Blk.row [w] 27 false] (min h'.low (h'.size + 0))) (h'.size + 0) (.row [w] 27 false) := ⟨by rw [zad]; simp, by rw [za5]; rfl⟩
  have hos : Sl Rep.atom (h'.lay [Blk.row [w] 27 false] (min h'.low (h'.size + 0))) w (zbR m) := ho.sl.lay _ _
  generalize hH : h'.lay [Blk.row [w] 27 false] (min h'.low (h'.size + 0)) = H1 at zb q0 hos ⊢
  refine zrY l v _ (hl.mono zb.inc) hn hlt _ (fun h2' w2 x ho2 => ?_)
  have hva2 := zaF w2
  rw [zaa h2']
  repeat' ( simp -implicitDefEqProofs only [syms, symx, seval, c82, hva2])
  have hsz := zb.size
  have hfe : (fun x => !hasA (zbR m) x) = fun x => !hasA m x := funext fun x => by rw [zrT]
  rcases ho2 with ⟨e, ho2⟩ | ⟨A, t, rfl, q, hA, hle⟩
  · replace z := (zb.trans x)
    refine zmz w2 _ _ (ho2.lay _ _).sl _ (fun h' x => ?_)
    have ho3 := ho2.over x
    ((skip); replace z := z.overW x (by (try simp only [lsz]); omega); rw [zaa h'])
    repeat' ( simp -implicitDefEqProofs only [syms, symx, seval, c82, hva2])
    rw [e] at hk
    exact hk _ _ (z.upW _ _ (by omega)) (.inl ⟨rfl, ho3.lay _ _⟩)
  · have hll := zdl l
    have key := fun K hk => zkK (zbR l) t (.func (.func 117) ⟨[]⟩ ⟨[.pointer (some ⟨h'.size + 0, 0, none⟩)]⟩) (fun x => hasA (zbR m) x) A _ H1 (h2'.lay [] h2'.low) (x.upW _ _ (by omega)) hA (q.on _ _) rfl hle (by omega) (fun y hy hc K' xe hk' => by
      rw [zgw]
      exact zrS (zbR m) w y _ hc (hos.mono xe.inc) (zbQ m).asc (by have := zdl m; omega) (zh3 hlm) (zh3 hlt y hy) (q0.ext xe) K' hk') K hk
    rw [hfe] at key
    refine key _ (fun h' w3 x ho => ?_)
    replace z := zb.trans x
    replace ho := ho.down hsz
    have hva3 := zaF w3
    rw [zaa h']
    repeat' ( simp -implicitDefEqProofs only [syms, symx, seval, c82, hva3])
    exact hk _ _ (z.upW _ _ (by omega)) (ho.lay _ _)
end Go.Proofs.YtemapihoobmonaaGreatDoor

/- The plain machine's memory operations beside the model's. No condition. -/
import Derived.Test.YtpnnbjakbplgeaaGRel
namespace Go.Am
open Go.RowKit

structure Tab.Fits (T : Tab) (P : Program) : Prop where
  desc : ∀ t d, T.desc t = some d → P.underlying t = some d
  info : ∀ t n b z, T.info t = some (n, b, z) → ∃ i zv, P.info? t = some i ∧ i.size = n ∧ i.bytes = b ∧ i.zero = some zv ∧ zv.cells.toList = z ∧ z.length = n ∧ z.all plain1 = true
  fn : ∀ f fn, T.fn f = some fn → P.funcs[f]? = some fn ∧ (fn.name == "runtime.NumGoroutine") = false ∧ ∀ c, fn.body = some c → codeOk T.gs c = true
  cmp : ∀ t, T.cmp t = true → P.stoodInHeld t = false ∧ P.eqGuardType P.depth t = false
  zero : ∀ t v, T.zero t = some v → (∃ i, P.info? t = some i ∧ i.zero = some v) ∧ plain v = true
  meth : ∀ t name m, T.meth t name = some m → ∃ i, P.info? t = some i ∧ i.methods.find? (·.name == name) = some m

theorem cut_some {l m : List Value} {o n : Nat} (h : cut l o n = some m) : o + n ≤ l.length ∧ m.length = n ∧ ∀ i, i < n → m[i]? = l[o + i]? := by
  unfold cut at h
  split at h
  · rename_i hl
    cases h
    refine ⟨hl, by simp; omega, fun i hi => ?_⟩
    rw [List.getElem?_take, if_pos hi, List.getElem?_drop]
  · cases h
theorem cut_mk {l m : List Value} {o n : Nat} (hl : o + n ≤ l.length) (hm : m.length = n) (h : ∀ i, i < n → m[i]? = l[o + i]?) : cut l o n = some m := by
  unfold cut
  rw [if_pos hl]
  congr 1
  refine List.ext_getElem? fun i => ?_
  rw [List.getElem?_take]
  split
  · rename_i hi; rw [List.getElem?_drop, h i hi]
  · rw [List.getElem?_eq_none (by omega)]

theorem length_splice {l vs : List Value} {o : Nat} (h : o + vs.length ≤ l.length) : (splice l o vs).length = l.length := by
  simp [splice]; omega
theorem getElem?_splice (l vs : List Value) (o i : Nat) (h : o + vs.length ≤ l.length) : (splice l o vs)[i]? = if i < o then l[i]? else if i < o + vs.length then vs[i - o]? else l[i]? := by
  unfold splice
  rw [List.getElem?_append, List.getElem?_append]
  have hl : (l.take o).length = o := by simp; omega
  simp only [List.length_append, hl]
  by_cases h1 : i < o
  · rw [if_pos (by omega), if_pos h1, if_pos h1, List.getElem?_take, if_pos h1]
  · rw [if_neg h1]
    by_cases h2 : i < o + vs.length
    · rw [if_pos h2, if_neg h1, if_pos h2]
    · rw [if_neg h2, if_neg h2, List.getElem?_drop]
      rw [show o + vs.length + (i - (o + vs.length)) = i by omega, if_neg h1]
theorem cut_splice {cur m us : List Value} {s n o : Nat} (hc : cut cur s n = some m) (ho : o + us.length ≤ n) : cut (splice cur (s + o) us) s n = some (splice m o us) := by
  obtain ⟨h1, h2, h3⟩ := cut_some hc
  refine cut_mk (by rw [length_splice (by omega)]; exact h1) (by rw [length_splice (by omega)]; exact h2) fun i hi => ?_
  rw [getElem?_splice _ _ _ _ (by omega), getElem?_splice _ _ _ _ (by omega)]
  by_cases h4 : i < o
  · rw [if_pos h4, if_pos (show s + i < s + o by omega), h3 i hi]
  · rw [if_neg h4, if_neg (show ¬ s + i < s + o by omega)]
    by_cases h5 : i < o + us.length
    · rw [if_pos h5, if_pos (show s + i < s + o + us.length by omega)]
      congr 1
      omega
    · rw [if_neg h5, if_neg (show ¬ s + i < s + o + us.length by omega), h3 i hi]

section
variable {P : Program} {T : Tab} {ρ : Rho} {h h' : Heap} {w : World}

/-- Reading: the cells lie there. -/
theorem cellsAt_sound (hs : Sim ρ h w) {A o n : Nat} {L : Loc} {l : List Value} (hA : ρ A = some L) (hc : cellsAt A o n h = some l) :
    ∃ m, VRs ρ l m ∧ m.length = n ∧ w.rangeAt L.b (L.s + o) m := by
  have hb := hs.blk A L hA
  unfold cellsAt at hc
  cases hg : h.get A with
  | none => rw [hg] at hc; cases hc
  | some b =>
    rw [hg] at hc hb
    cases b with
    | dead => cases hc
    | map es clock => cases hc
    | loop env ps assign body st pend => cases hc
    | row cs e ro =>
      obtain ⟨h1, h2, h3⟩ := cut_some hc
      cases ro with
      | true =>
        obtain ⟨_, hcell⟩ := hb
        have hex : ∀ i, i < n → ∃ u, w.cell? ⟨L.b, L.s + (o + i), none⟩ = some u ∧ ∀ x, l[i]? = some x → VR ρ x u := by
          intro i hi
          have hx : cs[o + i]? = some (cs[o + i]'(by omega)) := List.getElem?_eq_getElem _
          obtain ⟨u, hu, hv⟩ := hcell (o + i) _ hx
          refine ⟨u, hu, fun x hxx => ?_⟩
          rw [h3 i hi, hx] at hxx
          cases hxx
          exact hv
        refine ⟨(List.range n).map fun i => (w.cell? ⟨L.b, L.s + (o + i), none⟩).getD undef, ⟨by simp [h2], fun i x y hx hy => ?_⟩, by simp, fun j v hv => ?_⟩
        · have hi : i < n := by rw [← h2]; exact (List.getElem?_eq_some_iff.1 hx).1
          obtain ⟨u, hu, hv⟩ := hex i hi
          rw [List.getElem?_map, List.getElem?_range hi, Option.map_some, hu] at hy
          cases hy
          exact hv x hx
        · have hj : j < n := by have := (List.getElem?_eq_some_iff.1 hv).1; simpa using this
          obtain ⟨u, hu, _⟩ := hex j hj
          rw [List.getElem?_map, List.getElem?_range hj, Option.map_some, hu] at hv
          cases hv
          rw [Nat.add_assoc]
          exact hu
      | false =>
        obtain ⟨cur, fz, hcur, _, _, m, hm, hv⟩ := hb
        obtain ⟨d, hd, hvd⟩ := hv.cut hc
        obtain ⟨k1, k2, k3⟩ := cut_some hm
        obtain ⟨d1, d2, d3⟩ := cut_some hd
        refine ⟨d, hvd, d2, fun j v hj => ?_⟩
        have hjn : j < n := by rw [← d2]; exact (List.getElem?_eq_some_iff.1 hj).1
        rw [cell_of_row w L.b _ cur e fz hcur]
        rw [d3 j hjn, k3 (o + j) (by rw [k2] at d1; omega)] at hj
        rw [← Array.getElem?_toList, Nat.add_assoc]
        exact hj

theorem loadA_sound (hT : T.Fits P) (hs : Sim ρ h w) {t : TypeId} {x y v : Value} (hxy : VR ρ x y) (hl : loadA T t x h = some v) :
    ∃ u, (Instr.loadAt t y).run P w = .ok u w ∧ VR ρ v u := by
  cases hxy with
  | ptr hA =>
    rename_i A o L
    simp only [loadA] at hl
    cases hg : T.desc t with
    | none => simp [aggA, hg] at hl
    | some d =>
      have hu := hT.desc t d hg
      have key : ∀ (n : Nat) (l : List Value), T.info t ≠ none → cellsAt A o n h = some l → d.isRow = true → (T.info t).map (·.1) = some n → v = .agg l.toArray → ∃ u, (Instr.loadAt t (.pointer (some ⟨L.b, L.s + o, none⟩))).run P w = .ok u w ∧ VR ρ v u := by
        intro n l _ hc hd hi hv
        obtain ⟨m, hm, hlen, hr⟩ := cellsAt_sound hs hA hc
        cases hinf : T.info t with
        | none => simp [hinf] at hi
        | some q =>
          obtain ⟨q1, q2, q3⟩ := q
          obtain ⟨i, zv, e1, e2, _⟩ := hT.info t q1 q2 q3 hinf
          simp [hinf] at hi
          refine ⟨.agg m.toArray, run_loadAt_mid w L.b (L.s + o) t m d hr hu hd (by rw [e1]; simp [e2, hi, hlen]), ?_⟩
          rw [hv]
          exact hm.toArray
      have key1 : ∀ (l : List Value), cellsAt A o 1 h = some l → l[0]? = some v → d.isRow = false → ∃ u, (Instr.loadAt t (.pointer (some ⟨L.b, L.s + o, none⟩))).run P w = .ok u w ∧ VR ρ v u := by
        intro l hc h0 hd
        obtain ⟨m, hm, hlen, hr⟩ := cellsAt_sound hs hA hc
        obtain ⟨u, hu0, hv0⟩ := hm.get h0
        have hcell := hr 0 u hu0
        refine ⟨u, ?_, hv0⟩
        have hagg : (isAgg t).run P w = .ok false w := by
          unfold isAgg
          rw [Sem.run_bind, run_underlying hu w]
          cases d <;> simp_all
        simp only [Nat.add_zero] at hcell
        simp [Instr.loadAt, Instr.sureAddr, loadVar, Sem.run_bind, hagg, hcell]
      have hcase : (∃ n l, T.info t ≠ none ∧ cellsAt A o n h = some l ∧ d.isRow = true ∧ (T.info t).map (·.1) = some n ∧ v = .agg l.toArray) ∨ (∃ l, cellsAt A o 1 h = some l ∧ l[0]? = some v ∧ d.isRow = false) := by
        have hrow : ∀ (hl : ((sizeA T t).bind fun n => (cellsAt A o n h).map fun l => Value.agg l.toArray) = some v) (hd : d.isRow = true),
            ∃ n l, T.info t ≠ none ∧ cellsAt A o n h = some l ∧ d.isRow = true ∧ (T.info t).map (·.1) = some n ∧ v = .agg l.toArray := by
          intro hl hd
          simp only [sizeA, Option.bind_eq_some_iff, Option.map_eq_some_iff] at hl
          obtain ⟨n, ⟨q, hq, rfl⟩, l, hc, rfl⟩ := hl
          exact ⟨q.1, l, by rw [hq]; simp, hc, hd, by rw [hq]; rfl, rfl⟩
        cases d <;> simp only [aggA, hg, Option.map_some, Option.bind_some, if_true, Bool.false_eq_true, if_false] at hl <;>
          first
            | (left; exact hrow hl rfl)
            | (right; simp only [Option.bind_eq_some_iff] at hl; obtain ⟨l, hc, h0⟩ := hl; exact ⟨l, hc, h0, rfl⟩)
      rcases hcase with ⟨n, l, a, b, c, d', e⟩ | ⟨l, a, b, c⟩
      · exact key n l a b c d' e
      · exact key1 l a b c
  | _ => simp [loadA] at hl

/-- A block of one's own is turned. -/
theorem setB_sound (hs : Sim ρ h w) {A : Nat} {L : Loc} {b b' : Blk} {W : World} (hA : ρ A = some L) (hg : h.get A = some b) (hlive : b ≠ .dead) (hro : ∀ cs e, b ≠ .row cs e true)
    (hos : W.os = w.os) (htape : W.tape = w.tape) (hout : W.output = w.output) (hsz : W.heap.size = w.heap.size) (hother : ∀ k, k ≠ L.b → W.heap[k]? = w.heap[k]?) (hb' : BlkR ρ W L (some b')) :
    Fr ρ ρ h (h.set A b') w W ∧ Sim ρ (h.set A b') W := by
  have hAs : A < h.size := Heap.lt_of_get hg
  refine ⟨⟨fun _ _ h => h, fun A' L' h1 h2 => (by rw [h1] at h2; cases h2), hos, htape, hout, by rw [hsz]; exact Nat.le_refl _, Nat.le_refl _, Nat.min_le_left _ _, ?_, ?_⟩, ⟨?_, ?_⟩⟩
  · intro b hb hall
    refine hother b fun e => ?_
    subst e
    have := hall A L hA rfl
    rw [Heap.low_set, Heap.size_set] at this
    omega
  · intro A' hA' hl
    rw [Heap.low_set] at hl
    rw [Heap.get_set _ _ _ _ hAs, if_neg (by omega)]
  · intro A' L' hA'
    rw [Heap.get_set _ _ _ _ hAs]
    by_cases e' : A' = A
    · subst e'
      rw [hA] at hA'
      cases hA'
      rw [if_pos rfl]
      exact hb'
    · rw [if_neg e']
      refine (hs.blk A' L' hA').keep (fun _ _ h => h) (by omega) ?_
      rintro ⟨x, hx, hxd⟩
      refine hother L'.b fun heq => ?_
      rcases hs.inj A' A L' L hA' hA e' heq with h1 | h1 | h1
      · exact h1 ⟨x, hx, hxd⟩
      · exact h1 ⟨_, hg, hlive⟩
      · obtain ⟨_, cs2, e2, hg2⟩ := h1
        rw [hg] at hg2
        cases hg2
        exact hro _ _ rfl
  · intro A1 A2 L1 L2 h1 h2 hne hb
    have hlv : ∀ A', ¬ live h A' → ¬ live (h.set A b') A' := by
      intro A' hd
      by_cases e' : A' = A
      · subst e'; exact (hd ⟨_, hg, hlive⟩).elim
      · unfold live at hd ⊢
        rw [Heap.get_set _ _ _ _ hAs, if_neg e']
        exact hd
    have hro' : ∀ A', isRo h A' → isRo (h.set A b') A' := by
      rintro A' ⟨cs2, e2, hg2⟩
      refine ⟨cs2, e2, ?_⟩
      rw [Heap.get_set _ _ _ _ hAs, if_neg (by intro e'; subst e'; rw [hg] at hg2; cases hg2; exact hro _ _ rfl)]
      exact hg2
    rcases hs.inj A1 A2 L1 L2 h1 h2 hne hb with h3 | h3 | ⟨h3, h4⟩
    · exact .inl (hlv _ h3)
    · exact .inr (.inl (hlv _ h3))
    · exact .inr (.inr ⟨hro' _ h3, hro' _ h4⟩)

theorem run_storeCells_thaw (P : Program) (g o : Nat) (t : TypeId) (fz : Nat × Nat) : ∀ (vs : List Value) (i : Nat) (cur : Array Value) (w : World), w.heap[g]? = some (.cells cur t fz) → Thaw cur.size fz → o + i + vs.length ≤ cur.size → (∀ v ∈ vs, v.oneCell' = true) →
    (storeCells ⟨g, o, none⟩ vs i).run P w = .ok () (w.setRow g (cur.toList.take (o + i) ++ vs ++ cur.toList.drop (o + i + vs.length)).toArray)
  | [], i, cur, w, hg, _, _, _ => by
    simp only [storeCells, List.append_nil, List.length_nil, Nat.add_zero, List.take_append_drop, Array.toArray_toList]
    rw [setRow_self w g cur t fz hg]
    rfl
  | v :: rest, i, cur, w, hg, hfz, hl, h1 => by
    have hi : o + i < cur.size := by simp at hl; omega
    have hadd : (⟨g, o, none⟩ : Addr).add i = ⟨g, o + i, none⟩ := by unfold Addr.add; split <;> simp_all
    have hcell : w.cell? ⟨g, o + i, none⟩ = some cur[o + i] := by simp [World.cell?, hg, hi]
    have hfro : w.frozen? ⟨g, o + i, none⟩ = false := by
      have h0 := hfz (o + i) hi
      obtain ⟨lo, hi'⟩ := fz
      simp only [World.frozen?, hg, Bool.and_eq_false_iff, decide_eq_false_iff_not]
      simp only at h0
      omega
    have hst : (store ((⟨g, o, none⟩ : Addr).add i) v).run P w = .ok () (w.setRow g (cur.setIfInBounds (o + i) v)) := by
      rw [hadd, run_store P w _ v _ (h1 v (by simp)), hcell]
      simp [hfro, setCell_eq_setRow w g (o + i) cur t fz v hg]
    have ih := run_storeCells_thaw P g o t fz rest (i + 1) (cur.setIfInBounds (o + i) v) (w.setRow g (cur.setIfInBounds (o + i) v)) (setRow_heap w g cur _ t _ hg) (by simpa using hfz) (by simp at hl ⊢; omega) (fun x hx => h1 x (by simp [hx]))
    simp only [storeCells, Sem.run_bind, hst, Result.andThen_ok, ih, setRow_setRow]
    congr 3
    have e := list_seg_step cur.toList (o + i) v rest (by simp at hl ⊢; omega)
    simpa [Array.toList_setIfInBounds, Nat.add_assoc] using e

/-- Writing into a row of one's own. -/
theorem writeA_sound (hs : Sim ρ h w) {A o : Nat} {L : Loc} {vs us : List Value} (hA : ρ A = some L) (hv : VRs ρ vs us) (hw : writeA A o vs h = some h') :
    ∃ w', (storeCells ⟨L.b, L.s + o, none⟩ us 0).run P w = .ok () w' ∧ Fr ρ ρ h h' w w' ∧ Sim ρ h' w' := by
  have hb := hs.blk A L hA
  unfold writeA at hw
  split at hw
  · rename_i cs e hg
    split at hw
    · rename_i hc
      simp only [Bool.and_eq_true, decide_eq_true_eq] at hc
      obtain ⟨ho, h1⟩ := hc
      cases hw
      rw [hg] at hb
      obtain ⟨cur, fz, hcur, hth, htot, m, hm, hvm⟩ := hb
      obtain ⟨k1, k2, k3⟩ := cut_some hm
      have hlu : vs.length = us.length := hv.1
      have hst := run_storeCells_thaw P L.b (L.s + o) e fz us 0 cur w hcur hth (by simp at k1 ⊢; omega) (hv.one h1)
      simp only [Nat.add_zero] at hst
      let cur' := (cur.toList.take (L.s + o) ++ us ++ cur.toList.drop (L.s + o + us.length)).toArray
      have hcur' : (w.setRow L.b cur').heap[L.b]? = some (.cells cur' e fz) := setRow_heap w L.b cur cur' e _ hcur
      have hsz : (w.setRow L.b cur').heap.size = w.heap.size := by simp [World.setRow]
      have hth' : Thaw cur'.size fz := by
        have := length_splice (l := cur.toList) (vs := us) (o := L.s + o) (by simp at k1 ⊢; omega)
        have h2 : cur'.size = cur.size := by simpa [cur', splice] using this
        rw [h2]
        exact hth
      refine ⟨w.setRow L.b cur', hst, setB_sound hs hA hg (by simp) (by simp) rfl rfl rfl hsz (fun b hb => setRow_other w L.b b cur' hb) ⟨cur', fz, hcur', hth', ?_, splice m o us, ?_, hvm.splice o hv⟩⟩
      · show cur'.size = L.tot
        rw [← htot]
        have := length_splice (l := cur.toList) (vs := us) (o := L.s + o) (by simp at k1 ⊢; omega)
        simpa [cur', splice] using this
      · rw [length_splice ho]
        have := cut_splice (us := us) (o := o) hm (by omega)
        simpa [cur', splice] using this
    · cases hw
  · cases hw

/-- A new block. -/
theorem pushB_sound (hs : Sim ρ h w) (hnone : ρ h.size = none) {W : World} {L : Loc} {b : Blk} (hold : ∀ k, k < w.heap.size → W.heap[k]? = w.heap[k]?) (hsz : w.heap.size ≤ W.heap.size)
    (hos : W.os = w.os) (htape : W.tape = w.tape) (hout : W.output = w.output) (hL : w.heap.size ≤ L.b) (hb : ∀ ρ', (∀ A L, ρ A = some L → ρ' A = some L) → BlkR ρ' W L (some b)) :
    ∃ ρ', ρ' h.size = some L ∧ Fr ρ ρ' h (h.push b) w W ∧ Sim ρ' (h.push b) W := by
  have hgrow : ∀ A L', ρ A = some L' → (fun A => if A = h.size then some L else ρ A) A = some L' := by
    intro A L' hA
    have hne : A ≠ h.size := fun e => by rw [e, hnone] at hA; cases hA
    simp only [if_neg hne]
    exact hA
  refine ⟨fun A => if A = h.size then some L else ρ A, by simp, ⟨hgrow, ?_, hos, htape, hout, hsz, by rw [Heap.size_push]; omega, Nat.le_refl _, fun b hb _ => hold b hb, ?_⟩, ⟨?_, ?_⟩⟩
  · intro A L' hA hn
    split at hA
    · rename_i e1; cases hA; exact ⟨by omega, by rw [Heap.size_push]; omega, .inl hL⟩
    · rw [hn] at hA; cases hA
  · intro A hA _
    rw [Heap.get_push, if_neg (by omega)]
  · intro A L' hA
    rw [Heap.get_push]
    split at hA
    · rename_i e1
      cases hA
      rw [if_pos e1]
      exact hb _ hgrow
    · rename_i e1
      rw [if_neg e1]
      exact (hs.blk A L' hA).keep hgrow hsz fun _ => hold _ (hs.lt hA)
  · intro A1 A2 L1 L2 h1 h2 hne hbb
    have hget : ∀ A, A ≠ h.size → (h.push b).get A = h.get A := fun A hA => by rw [Heap.get_push, if_neg hA]
    split at h1
    · split at h2
      · omega
      · rename_i e1 e2
        cases h1
        have := hs.lt h2
        omega
    · split at h2
      · rename_i e1 e2
        cases h2
        have := hs.lt h1
        omega
      · rename_i e1 e2
        unfold live isRo
        rw [hget A1 e1, hget A2 e2]
        exact hs.inj A1 A2 L1 L2 h1 h2 hne hbb

/-- A new row. -/
theorem pushF_sound (hs : Sim ρ h w) (hnone : ρ h.size = none) {W : World} {cs m : List Value} {cur : Array Value} {e : TypeId} {fz : Nat × Nat} (hth : Thaw cur.size fz) (hW : W.heap = w.heap.push (.cells cur e fz))
    (hos : W.os = w.os) (htape : W.tape = w.tape) (hout : W.output = w.output) (hcut : cut cur.toList 0 cs.length = some m) (hv : VRs ρ cs m) :
    ∃ ρ', ρ' h.size = some ⟨w.heap.size, 0, cur.size⟩ ∧ Fr ρ ρ' h (h.push (.row cs e false)) w W ∧ Sim ρ' (h.push (.row cs e false)) W := by
  refine pushB_sound hs hnone (fun k hk => by rw [hW, Array.getElem?_push, if_neg (by omega)]) (by rw [hW]; simp) hos htape hout (Nat.le_refl _) fun ρ' hg => ?_
  exact ⟨cur, fz, by rw [hW]; simp, hth, rfl, m, hcut, hv.mono hg⟩
theorem push_sound (hs : Sim ρ h w) (hnone : ρ h.size = none) {W : World} {cs m : List Value} {cur : Array Value} {e : TypeId} (hW : W.heap = w.heap.push (.cells cur e (0, 0)))
    (hos : W.os = w.os) (htape : W.tape = w.tape) (hout : W.output = w.output) (hcut : cut cur.toList 0 cs.length = some m) (hv : VRs ρ cs m) :
    ∃ ρ', ρ' h.size = some ⟨w.heap.size, 0, cur.size⟩ ∧ Fr ρ ρ' h (h.push (.row cs e false)) w W ∧ Sim ρ' (h.push (.row cs e false)) W :=
  pushF_sound hs hnone (.zero _) hW hos htape hout hcut hv

/-- A world that differs in nothing but the count of draws. -/
theorem Sim.same (hs : Sim ρ h w) {W : World} (hW : W.heap = w.heap) : Sim ρ h W :=
  ⟨fun A L hA => (hs.blk A L hA).keep (fun _ _ h => h) (by rw [hW]; exact Nat.le_refl _) (fun _ => by rw [hW]), hs.inj⟩
end
#print axioms writeA_sound
#print axioms push_sound
#print axioms loadA_sound
end Go.Am

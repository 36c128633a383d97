/- Consequences, by rounds; sources of an older heap. No condition. -/
import Derived.Test.YtemapihoobmonaaDoorG43
import Derived.Test.YtemapihoobmonaaDoorG40
import Derived.Test.YtemapihoobmonaaDoorG45
import Derived.Test.YtemapihoobmonaaDoorG46
import Derived.Test.YtemapihoobmonaaDoorG47
import Derived.Test.YtemapihoobmonaaDoorZK9
import Derived.Test.YtemapihoobmonaaDoorG10
import Derived.Test.YtemapihoobmonaaDoorG14
import Derived.Test.YtemapihoobmonaaDoorRows
import Derived.Test.YtemapihoobmonaaDoorCards
import Derived.Test.YtemapihoobmonaaDoorTie
import Derived.SevenTiedAt
import Derived.Lay
import Derived.LaidHandle
namespace Go.Am
set_option linter.unusedVariables false
section
variable {cl cl2 : List ClauseD} {facts facts2 : List AtomD}
theorem may_same (hc : ∀ c, c ∈ cl ↔ c ∈ cl2) (hf : ∀ a, a ∈ facts ↔ a ∈ facts2) : MayX cl facts ↔ MayX cl2 facts2 :=
  ⟨fun h => ⟨fun c hh => h.clauses c ((hc c).2 hh), fun a hh => h.facts a ((hf a).2 hh)⟩, fun h => ⟨fun c hh => h.clauses c ((hc c).1 hh), fun a hh => h.facts a ((hf a).1 hh)⟩⟩
theorem iter_same (hm : MayX cl facts) (hc : ∀ c, c ∈ cl ↔ c ∈ cl2) (hf : ∀ a, a ∈ facts ↔ a ∈ facts2) : ∀ n, iterD cl facts n = iterD cl2 facts2 n
  | 0 => rfl
  | n + 1 => by
    have hm2 := (may_same hc hf).1 hm
    show roundD cl facts (iterD cl facts n) = roundD cl2 facts2 (iterD cl2 facts2 n)
    rw [iter_same hm hc hf n]
    refine sortA_set (allP_of (out_fact hm (iter_fact hm2 n))) (allP_of (out_fact hm2 (iter_fact hm2 n))) (fun x => ⟨fun h => ?_, fun h => ?_⟩)
    · exact out_mono (fun c => (hc c).1) (fun a => (hf a).1) (fun _ h => h) h
    · exact out_mono (fun c => (hc c).2) (fun a => (hf a).2) (fun _ h => h) h
theorem iter_le (hm : MayX cl facts) {n m : Nat} (h : n ≤ m) : ∀ a ∈ iterD cl facts n, a ∈ iterD cl facts m := by
  induction m with
  | zero => obtain rfl : n = 0 := by omega
            exact fun _ h => h
  | succ m ih =>
    by_cases e : n = m + 1
    · subst e; exact fun _ h => h
    · exact fun a ha => iter_up hm m a (ih (by omega) a ha)
theorem iter_len (hm : MayX cl facts) {n m : Nat} (h : n ≤ m) : (iterD cl facts n).length ≤ (iterD cl facts m).length := (asc_len (iter_asc cl facts n) (iter_asc cl facts m) (iter_le hm h)).1
theorem iter_still {k : Nat} (h : iterD cl facts (k + 1) = iterD cl facts k) : ∀ n, iterD cl facts (k + n) = iterD cl facts k
  | 0 => rfl
  | n + 1 => by
    show roundD cl facts (iterD cl facts (k + n)) = _
    rw [iter_still h n]
    exact h
inductive LfpX (cl : List ClauseD) (facts : List AtomD) : List AtomD → Nat → Int → Prop
  | bad : ¬ MayX cl facts → LfpX cl facts [] 0 2
  | all (k : Nat) : MayX cl facts → (∀ i, i < k → (iterD cl facts i).length < (iterD cl facts (i + 1)).length) → (iterD cl facts k).length ≤ 24 → iterD cl facts (k + 1) = iterD cl facts k → LfpX cl facts (iterD cl facts k) k 0
  | much (k : Nat) : MayX cl facts → (∀ i, i < k → (iterD cl facts i).length < (iterD cl facts (i + 1)).length) → 24 < (iterD cl facts (k + 1)).length → LfpX cl facts [] 0 14
theorem LfpX.len {l : List AtomD} {n : Nat} {e : Int} (h : LfpX cl facts l n e) : l.length ≤ 24 := by
  cases h with
  | bad _ => exact Nat.zero_le _
  | all k _ _ h _ => exact h
  | much k _ _ _ => exact Nat.zero_le _
theorem LfpX.fact {l : List AtomD} {n : Nat} {e : Int} (h : LfpX cl facts l n e) : ∀ a ∈ l, FactX a := by
  cases h with
  | bad _ => nofun
  | all _ hm _ _ _ => exact iter_fact hm n
  | much k _ _ _ => nofun
theorem grow_lt {k : Nat} (hm : MayX cl facts) (hb : ∀ i, i < k → (iterD cl facts i).length < (iterD cl facts (i + 1)).length) : ∀ i, i ≤ k → i ≤ (iterD cl facts i).length
  | 0, _ => Nat.zero_le _
  | i + 1, h => by
    have := grow_lt hm hb i (by omega)
    have := hb i (by omega)
    omega
theorem LfpX.round {l : List AtomD} {n : Nat} {e : Int} (h : LfpX cl facts l n e) : n ≤ 24 := by
  cases h with
  | bad _ => exact Nat.zero_le _
  | all _ hm hb h _ => exact Nat.le_trans (grow_lt hm hb n (Nat.le_refl _)) h
  | much k _ _ _ => exact Nat.zero_le _
theorem not_much {k k2 : Nat} (hm : MayX cl facts) (h4 : (iterD cl facts k).length ≤ 24) (hs : iterD cl facts (k + 1) = iterD cl facts k) (h : 24 < (iterD cl facts k2).length) : False := by
  by_cases hk : k2 ≤ k
  · have := iter_len hm hk
    omega
  · have := iter_still hs (k2 - k)
    rw [show k + (k2 - k) = k2 by omega] at this
    rw [this] at h
    omega
theorem LfpX.one {l l2 : List AtomD} {n n2 : Nat} {e e2 : Int} (h : LfpX cl facts l n e) (h2 : LfpX cl facts l2 n2 e2) : l = l2 ∧ n = n2 ∧ e = e2 := by
  cases h with
  | bad hm =>
    cases h2 with
    | bad _ => exact ⟨rfl, rfl, rfl⟩
    | all k hm2 => exact absurd hm2 hm
    | much k hm2 => exact absurd hm2 hm
  | all _ hm hb h4 hs =>
    cases h2 with
    | bad hm2 => exact absurd hm hm2
    | all _ hm2 hb2 h42 hs2 =>
      have hn : n = n2 := by
        rcases Nat.lt_trichotomy n n2 with hlt | he | hgt
        · have := hb2 n hlt
          rw [hs] at this
          omega
        · exact he
        · have := hb n2 hgt
          rw [hs2] at this
          omega
      subst hn
      exact ⟨rfl, rfl, rfl⟩
    | much k2 hm2 hb2 h2 => exact (not_much hm h4 hs h2).elim
  | much k hm hb h =>
    cases h2 with
    | bad hm2 => exact absurd hm hm2
    | all _ hm2 hb2 h42 hs2 => exact (not_much hm h42 hs2 h).elim
    | much k2 _ _ _ => exact ⟨rfl, rfl, rfl⟩
theorem LfpX.zero {l : List AtomD} {n : Nat} (h : LfpX cl facts l n 0) : MayX cl facts ∧ l = iterD cl facts n ∧ (∀ i, i < n → (iterD cl facts i).length < (iterD cl facts (i + 1)).length) ∧ l.length ≤ 24 ∧ iterD cl facts (n + 1) = l := by
  cases h with
  | all _ hm hb h4 hs => exact ⟨hm, rfl, hb, h4, hs⟩
theorem LfpX.iter {l : List AtomD} {n : Nat} {e : Int} (hm : MayX cl facts ↔ MayX cl2 facts2) (hi : MayX cl facts → ∀ n, iterD cl facts n = iterD cl2 facts2 n) (h : LfpX cl facts l n e) : LfpX cl2 facts2 l n e := by
  cases h with
  | bad h => exact .bad (fun x => h (hm.2 x))
  | all _ h hb h4 hs =>
    rw [hi h n] at h4 ⊢
    rw [hi h, hi h] at hs
    exact .all n (hm.1 h) (fun i hh => by rw [← hi h, ← hi h]; exact hb i hh) h4 hs
  | much k h hb h4 =>
    rw [hi h] at h4
    exact .much k (hm.1 h) (fun i hh => by rw [← hi h, ← hi h]; exact hb i hh) h4
theorem LfpX.same {l : List AtomD} {n : Nat} {e : Int} (hc : ∀ c, c ∈ cl ↔ c ∈ cl2) (hf : ∀ a, a ∈ facts ↔ a ∈ facts2) (h : LfpX cl facts l n e) : LfpX cl2 facts2 l n e :=
  h.iter (may_same hc hf) (fun hm => iter_same hm hc hf)
theorem turn_mem {α : Type} (l : List α) (k : Nat) (x : α) : x ∈ l ↔ x ∈ l.drop k ++ l.take k := by
  rw [List.mem_append, Or.comm, ← List.mem_append, List.take_append_drop]
theorem turn_mem3 {α : Type} (l : List α) (k : Nat) (x : α) : x ∈ l ↔ x ∈ (l.drop k ++ l.take k) ++ l.drop k := by
  rw [List.mem_append, ← turn_mem]
  exact ⟨.inl, fun h => h.elim id fun h => List.mem_of_mem_drop h⟩
end
def Rep.old {α : Type} (r : Rep α) (B : Heap) : Rep α := { k := r.k, R := fun h cs x => Inc B h ∧ r.R B cs x, len := fun h cs x hh => r.len _ _ _ hh.2, mono := fun h h' cs x i hh => ⟨hh.1.trans i, hh.2⟩, ones := fun h cs x hh => r.ones _ _ _ hh.2 }
theorem Sl.old {α : Type} {r : Rep α} {B : Heap} {v : Value} {l : List α} (f : Sl r B v l) : Sl (r.old B) B v l := by
  rcases f with f | ⟨A, o, c, row, u, ro, e1, e2, e3, e4, e5, e6⟩
  · exact .inl f
  · refine .inr ⟨A, o, c, row, u, ro, e1, e2, e3, e4, e5, fun i x hx => ?_⟩
    obtain ⟨cs, g1, g2⟩ := e6 i x hx
    exact ⟨cs, g1, Inc.refl _, g2⟩
theorem src_base {α : Type} {r : Rep α} {B h : Heap} {A : Nat} {v : Value} {l : List α} (hk : 0 < r.k) (f : Sl r B v l) (i : Inc B h) (i2 : Inc B (kill A h)) : ∃ news, srcA v r.k h = some (l.length, news) ∧ Src r (kill A h) l.length news l := by
  obtain ⟨news, h1, h2, h3, h4, h5⟩ := src_sl (r := r.old B) (A := A) (h := h) hk (f.old.mono i) (fun cs y hr => ⟨i2, hr.2⟩)
  refine ⟨news, h1, h2, h3, h4, fun j y hy => ?_⟩
  obtain ⟨cs, g1, g2, g3⟩ := h5 j y hy
  exact ⟨cs, g1, r.mono _ _ _ _ i2 g3⟩
theorem to_base {T : Tab} {t e : TypeId} {α : Type} {r : Rep α} {B : Heap} {v : Value} {l : List α} (f : Sl r B v l) (hk : 0 < r.k) (hd : T.desc t = some (.slice e)) (hs : sizeA T e = some r.k) {b : Nat} {kd : IntKind} (hb : b ≤ l.length) :
    ∃ v', sliceA T t v none (some (.int kd b)) none = some v' ∧ Sl r B v' (l.take b) := by
  have h := to_rule (bs := []) (w := B.low) f hk hd hs (kd := kd) hb (K := fun v' _ => Sl r B v' (l.take b)) (fun _ h => h)
  cases e : sliceA T t v none (some (.int kd b)) none with
  | none => rw [e] at h; exact h.elim
  | some v' => rw [e] at h; exact ⟨v', rfl, h⟩
end Go.Am
namespace Go.Proofs.YtemapihoobmonaaDoor
open Go.Am
set_option linter.unusedSimpArgs false
set_option linter.unusedVariables false
set_option maxRecDepth 100000
set_option maxHeartbeats 0
theorem ok_lfpX (cl : List ClauseD) (facts : List AtomD) (v u : Value) (h : Heap) (hsp : SpaceAt 1 h) (hl : Sl Rep.clause h v cl) (hf : Sl Rep.atom h u facts) (hn : cl.length ≤ 6) (hcb : ∀ c ∈ cl, c.body.length ≤ 3) (hfn : facts.length ≤ 1000)
    (K : Value → Heap → Prop) (hk : ∀ h' w L (k : Nat) e, Ext h h' → Sl Rep.atom h' w L → LfpX cl facts L k e → K (.tuple #[w, .int .i64 k, .int .i64 e]) h') : Ok Tryd.prog tab ov 6 [v, u, .int .i64 24] h K :=
  ok_lfpM cl facts v u h hsp hl hf hn hcb hfn K (fun hm h' x => hk _ _ [] 0 2 x Sl.nil (.bad hm)) (fun hm h' w k x s hb h4 hs => hk _ _ _ k 0 x s (.all k hm hb h4 hs)) (fun hm h' k x hb h => hk _ _ [] 0 14 x Sl.nil (.much k hm hb h))
theorem ok_naiveOrder (cl : List ClauseD) (facts : List AtomD) (turn : Int) (v u : Value) (h : Heap) (hsp : SpaceAt 1 h) (hl : Sl Rep.clause h v cl) (hf : Sl Rep.atom h u facts) (K : Value → Heap → Prop)
    (hk : ∀ h', Ext h h' → K (.bool true) h') : Ok Tryd.prog tab ov 3 [v, u, .int .i64 turn] h K := by
  rw [lay_nil h]
  have z := Ext.refl h
  have hvc := vSelf v
  have hvf := vSelf u
  have hlv := fun (hh : Heap) => hl.lenA ds22 hh
  have hlu := fun (hh : Heap) => hf.lenA ds23 hh
  refine Ok.into rfl tab_fn3 (bodyF N3) rfl (m := 104) rfl ?_
  simp -implicitDefEqProofs only [syms, symx, seval, c3, hvc, hvf]
  refine Ok.over (g := trueS 1) rfl (trueS_at (hsp.lay _ _)) ?_
  repeat' (first | simp -implicitDefEqProofs only [syms, symx, seval, c3, hvc, hvf] | ((with_reducible_and_instances apply unop_not); (· rfl)))
  refine ok_lightClauses cl facts _ _ _ ((hl.mono z.inc).lay _ _) ((hf.mono z.inc).lay _ _) _ (fun e1 e2 e3 h' x => ?_) (fun h' x => ?_)
  rotate_left
  · (( skip); replace z := z.overW x (by (try simp only [lsz]); omega); rw [lay_nil h'])
    repeat' (first | simp -implicitDefEqProofs only [syms, symx, seval, c3] | ((with_reducible_and_instances apply unop_not); (· rfl)))
    exact hk _ (z.upW _ _ (by omega))
  (( skip); replace z := z.overW x (by (try simp only [lsz]); omega); rw [lay_nil h'])
  repeat' (first | simp -implicitDefEqProofs only [syms, symx, seval, c3, hvc, hvf] | ((with_reducible_and_instances apply unop_not); (· rfl)))
  refine ok_lfpX cl facts v u _ ((hsp.ext z).lay _ _) ((hl.mono z.inc).lay _ _) ((hf.mono z.inc).lay _ _) e1 e3 (by omega) _ (fun h' w L m e x sL hL => ?_)
  (( skip); replace z := z.overW x (by (try simp only [lsz]); omega); rw [lay_nil h'])
  have hvw := vSelf w
  have hw1 : IntKind.i64.wrap ((cl.length : Int) + 1) = ((cl.length + 1 : Nat) : Int) := by rw [wrap_i64 (by omega) (by omega)]; omega
  have hw2 : IntKind.i64.wrap ((facts.length : Int) + 1) = ((facts.length + 1 : Nat) : Int) := by rw [wrap_i64 (by omega) (by omega)]; omega
  repeat' ( simp -implicitDefEqProofs only [syms, symx, seval, c3, hvc, hvf, hvw, hlv, hw1])
  obtain ⟨p1, p2⟩ := pickD_lt turn ((cl.length + 1 : Nat) : Int) (by omega)
  refine ok_pick turn _ _ _ (by omega) ?_
  obtain ⟨k, hk1⟩ := Int.eq_ofNat_of_zero_le p1
  rw [hk1] at p2 ⊢
  repeat' ( simp -implicitDefEqProofs only [syms, symx, seval, c3, hvf, hlu, hw2])
  obtain ⟨p3, p4⟩ := pickD_lt turn ((facts.length + 1 : Nat) : Int) (by omega)
  refine ok_pick turn _ _ _ (by omega) ?_
  obtain ⟨j, hj1⟩ := Int.eq_ofNat_of_zero_le p3
  rw [hj1] at p4 ⊢
  have hkl : k ≤ cl.length := by omega
  have hjl : j ≤ facts.length := by omega
  repeat' ( simp -implicitDefEqProofs only [syms, symx, seval, c3, hvc, hvf])
  obtain ⟨v2, hv2, sv2⟩ := from_base (kd := .i64) hl (by decide) ds22 sz46 hkl
  obtain ⟨v3, hv3, sv3⟩ := to_base (kd := .i64) hl (by decide) ds22 sz46 hkl
  obtain ⟨u2, hu2, su2⟩ := from_base (kd := .i64) hf (by decide) ds23 sz36 hjl
  obtain ⟨u3, hu3, su3⟩ := to_base (kd := .i64) hf (by decide) ds23 sz36 hjl
  have hvv2 := vSelf v2
  have hvv3 := vSelf v3
  have hvu2 := vSelf u2
  have hvu3 := vSelf u3
  with_reducible first | refine drawN (by simp only [c3]) (z.upW _ _ (by omega)) ?_
  repeat' ( simp -implicitDefEqProofs only [syms, symx, seval, c3, hvc, hv2, hvv2])
  refine ok_ownClauses (cl.drop k) v2 _ ((sv2.mono z.inc).lay _ _) (by rw [List.length_drop]; omega) (fun y hy => Nat.le_trans (e3 y (List.mem_of_mem_drop hy)) (by omega)) _ (fun wc Ac h' x oc => ?_)
  have hfA := oc.fresh
  have hzz := z.size
  have i0 := (Inc.lay _ _ _).trans x.inc
  have hxs := x.size
  have sL0 := sL
  rw [lay_size] at hfA hxs
  (( ((with_reducible refine KOpsX_call ?_ ?_ ?_); (· exact (by (try simp only [lsz]); have := z.size; omega)); (·  exact x )) ); replace z := z.overW x (by (try simp only [lsz]); omega); (try replace sL := sL.over x); rw [lay_nil h'])
  have hvwc := vSelf wc
  repeat' ( simp -implicitDefEqProofs only [syms, symx, seval, c3, hvc, hv3, hvv3, hvwc, w_append, sty22])
  have hdl : (cl.drop k).length + (cl.take k).length ≤ 6 := by rw [List.length_drop, List.length_take]; omega
  have hz1 := z.size
  have hq1 : (h'.lay [] (h'.size + 0)).size = h'.size := by rw [lay_size]; rfl
  obtain ⟨news, hs1, hsr1⟩ := src_base (A := Ac) (h := h'.lay [] (h'.size + 0)) (r := Rep.clause) (by decide) sv3 (z.inc.trans (Inc.lay _ _ _)) (inc_fresh (z.inc.trans (Inc.lay _ _ _)) (by omega))
  obtain ⟨w3, h3, A3, g1, o3, cg3, g4, g5⟩ := app_ow (t := 22) ds22 tab_info46 rfl (by decide) (by rw [lay_size, lay_size]; omega) (oc.mono (Inc.lay _ _ _)) hs1 hsr1 (by omega) (by omega)
  rw [g1]
  simp -implicitDefEqProofs only [syms, symx, seval, c3]
  refine KOpsX_chg (A := Ac) (by kernel_rfl) (by rw [lay_size]; omega) (by omega) (by simpa only [lay_lay, lay_size, List.append_nil, List.length_cons, List.length_nil, Nat.add_zero, Nat.zero_add] using cg3) ?_
  have sL3 := sL0.mono ((i0.trans (Inc.lay _ _ _)).chg cg3 (by omega))
  replace z := (z.upW [] (h'.size + 0) (by omega)).step cg3 (by omega)
  have s3 := o3.sl (by decide)
  obtain ⟨a3, n3, cc3, rfl⟩ := o3.slice
  have hvw3 : ∀ (h : Heap) (K : Value → Heap → Prop), valE (some (.slice a3 n3 cc3)) h K = K (.slice a3 n3 cc3) h := fun _ _ => rfl
  clear sL sL0 oc o3 hs1 hsr1
  rw [lay_nil h3]
  repeat' (first | simp -implicitDefEqProofs only [syms, symx, seval, c3] | with_reducible refine drawN (by simp only [c3]) (z.upW _ _ (by omega)) ?_ | ((with_reducible refine ⟨z.grw.lay _ _, ?_⟩); (intro _ h' zz x _); (try simp only [lay_lay, List.append_nil] at x); (try replace sL3 := sL3.over x); (try replace s3 := s3.over x); (replace z := zz); (clear zz); rw [lay_nil h']))
  repeat' ( simp -implicitDefEqProofs only [syms, symx, seval, c3, hvf, hu2, hvu2])
  have hz4 := z.size
  refine ok_own (facts.drop j) u2 _ ((su2.mono z.inc).lay _ _) (by rw [List.length_drop]; omega) _ (fun wf Af h' x of hfAf => ?_)
  have hfA2 := of.fresh
  have i4 := (Inc.lay _ _ _).trans x.inc
  have hxs4 := x.size
  have sL4 := sL3
  have s4 := s3
  rw [lay_size] at hfA2 hxs4
  (( ((with_reducible refine KOpsX_call ?_ ?_ ?_); (· exact (by (try simp only [lsz]); have := z.size; omega)); (·  exact x )) ); replace z := z.overW x (by (try simp only [lsz]); omega); (try replace sL3 := sL3.over x); (try replace s3 := s3.over x); rw [lay_nil h'])
  have hvwf := vSelf wf
  repeat' ( simp -implicitDefEqProofs only [syms, symx, seval, c3, hvf, hu3, hvu3, hvwf, w_append, sty23])
  have hfl1 : (facts.drop j).length + (facts.take j).length ≤ 12 := by rw [List.length_drop, List.length_take]; omega
  have hz5 := z.size
  obtain ⟨news5, hs5, hsr5⟩ := src_base (A := Af) (h := h'.lay [] (h'.size + 0)) (r := Rep.atom) (by decide) su3 (z.inc.trans (Inc.lay _ _ _)) (inc_fresh (z.inc.trans (Inc.lay _ _ _)) (by omega))
  obtain ⟨w5, h5, A5, g6, o5, cg5, g7, g8⟩ := app_ow (t := 23) ds23 tab_info36 rfl (by decide) (by rw [lay_size, lay_size]; omega) (of.mono (Inc.lay _ _ _)) hs5 hsr5 (by omega) (by omega)
  rw [g6]
  simp -implicitDefEqProofs only [syms, symx, seval, c3]
  refine KOpsX_chg (A := Af) (by kernel_rfl) (by rw [lay_size]; omega) (by omega) (by simpa only [lay_lay, lay_size, List.append_nil, List.length_cons, List.length_nil, Nat.add_zero, Nat.zero_add] using cg5) ?_
  replace z := (z.upW [] (h'.size + 0) (by omega)).step cg5 (by omega)
  have i5 := (i4.trans (Inc.lay _ _ _)).chg cg5 (by omega)
  have hz6 := z.size
  have hcs5 := cg5.size
  rw [lay_size] at hcs5
  have hf5 := o5.fresh
  rw [lay_size] at hf5
  have hvw5 := vSelf w5
  rw [lay_nil h5]
  clear sL3 s3
  repeat' ( simp -implicitDefEqProofs only [syms, symx, seval, c3, hvf, hu2, hvu2, hvw5, w_append, sty23])
  have hfl2 : (facts.drop j ++ facts.take j).length + (facts.drop j).length ≤ 24 := by rw [List.length_append]; rw [List.length_drop, List.length_take] at *; omega
  obtain ⟨news6, hs6, hsr6⟩ := src_base (A := A5) (h := h5.lay [] (h5.size + 0)) (r := Rep.atom) (by decide) su2 (z.inc.trans (Inc.lay _ _ _)) (inc_fresh (z.inc.trans (Inc.lay _ _ _)) (by omega))
  obtain ⟨w6, h6, A6, g9, o6, cg6, g10, g11⟩ := app_ow (t := 23) ds23 tab_info36 rfl (by decide) (by rw [lay_size, lay_size]; omega) (o5.mono (Inc.lay _ _ _)) hs6 hsr6 (by omega) (by omega)
  rw [g9]
  simp -implicitDefEqProofs only [syms, symx, seval, c3]
  refine KOpsX_chg (A := A5) (by kernel_rfl) (by rw [lay_size]; omega) (by omega) (by simpa only [lay_lay, lay_size, List.append_nil, List.length_cons, List.length_nil, Nat.add_zero, Nat.zero_add] using cg6) ?_
  replace z := (z.upW [] (h5.size + 0) (by omega)).step cg6 (by omega)
  have i6 := (i5.trans (Inc.lay _ _ _)).chg cg6 (by omega)
  have sL := sL4.mono i6
  have s3 := s4.mono i6
  have s6 := o6.sl (by decide)
  have hvw6 := vSelf w6
  rw [lay_nil h6]
  have hcl2 : (cl.drop k ++ cl.take k).length ≤ 6 := by rw [List.length_append]; exact hdl
  have hcb2 : ∀ c ∈ cl.drop k ++ cl.take k, c.body.length ≤ 3 := fun c hc => e3 c ((turn_mem cl k c).2 hc)
  clear sL4 s4 o5 o6 of hs5 hs6 hsr5 hsr6 i4 i5 i6
  repeat' ( simp -implicitDefEqProofs only [syms, symx, seval, c3, hvw6])
  refine ok_lfpX _ _ _ w6 _ ((hsp.ext z).lay _ _) (s3.lay _ _) (s6.lay _ _) hcl2 hcb2 (by rw [List.length_append]; omega) _ (fun h' w2 L2 n2 e2' x sL2 hL2 => ?_)
  obtain ⟨rfl, rfl, rfl⟩ := (hL.same (turn_mem cl k) (turn_mem3 facts j)).one hL2
  (( ((with_reducible refine KOpsX_call ?_ ?_ ?_); (· exact (by (try simp only [lsz]); have := z.size; omega)); (·  exact x )) ); replace z := z.overW x (by (try simp only [lsz]); omega); (try replace sL := sL.over x); rw [lay_nil h'])
  have hvw2 := vSelf w2
  repeat' (first | simp -implicitDefEqProofs only [syms, symx, seval, c3, hvw2, hvw, bne_self_eq_false] | ((with_reducible refine ⟨z.grw.lay _ _, ?_⟩); (intro _ h' zz x _); (try simp only [lay_lay, List.append_nil] at x); (try replace sL := sL.over x); (try replace sL2 := sL2.over x); (replace z := zz); (clear zz); rw [lay_nil h']))
  have hLn := hL.len
  have hnn := hL.round
  refine ok_sameAtoms L L w w2 _ (sL.lay _ _) (sL2.lay _ _) (by omega) (by omega) _ (fun h' x => ?_)
  rw [decide_eq_true rfl]
  (( skip); replace z := z.overW x (by (try simp only [lsz]); omega); (try replace sL := sL.over x); (try replace sL2 := sL2.over x); rw [lay_nil h'])
  repeat' (first | simp -implicitDefEqProofs only [syms, symx, seval, c3, bne_self_eq_false, Bool.not_true] | ((with_reducible  apply forkN ) <;> intro _) | ((with_reducible_and_instances apply unop_not); (· rfl)))
  · exact hk _ (z.upW _ _ (by omega))
  obtain rfl : e = 0 := by omega
  obtain ⟨hm, hLi, hgr, _, hst⟩ := hL.zero
  obtain ⟨I1, hI1⟩ : ∃ I : Nat → Env → Heap → Prop, I = (fun n e h' => ∃ (i : Nat) (w9 : Value) (h1 : Heap), h' = h1.lay [] h1.low ∧ Ext h h1 ∧ (n = m - i ∧ i ≤ m ∧ Sl Rep.atom h1 w9 (iterD cl facts i) ∧ Sl Rep.atom h1 w L) ∧ ∃ J : Nat → Value, e = (v :: u :: jr J 2 5 (w :: .int .i64 m :: jr J 9 7 (w9 :: .int .i64 i :: jr J 18 89 ([]))))) := ⟨_, rfl⟩
  refine W_loopN I1 _ (by rw [hI1]; exact ⟨0, .slice none 0 0, _, rfl, z, ⟨rfl, by omega, Sl.nil, sL⟩, junk (by kernel_rfl)⟩) ?_
  intro n e h' hin
  rw [hI1] at hin
  obtain ⟨i, w9, h1', rfl, z, hinv, J, rfl⟩ := hin
  clear sL sL2
  obtain ⟨rfl, hi, s9, sL⟩ := hinv
  have hwi : IntKind.i64.wrap ((i : Int) + 1) = ((i + 1 : Nat) : Int) := by rw [wrap_i64 (by omega) (by omega)]; omega
  have hvw9 := vSelf w9
  have hl9 := fun (hh : Heap) => s9.lenA ds23 hh
  have hi4 : (iterD cl facts i).length ≤ 24 := by have := iter_len hm hi; rw [← hLi] at this; omega
  simp -implicitDefEqProofs only [syms, symx, seval, c3, hvw9]
  refine forkD (fun hlt => ?_) (fun hlt => ?_)
  · repeat' ( simp -implicitDefEqProofs only [syms, symx, seval, c3, hvc, hvf, hvw9])
    refine ok_roundM cl facts _ v u w9 _ ((hsp.ext z).lay _ _) ((hl.mono z.inc).lay _ _) ((hf.mono z.inc).lay _ _) (s9.lay _ _) e1 e3 (by omega) hi4 hm (iter_fact hm i) _ (fun h' w8 x s8 => ?_)
    rw [sortA_asc (iter_asc cl facts i)] at s8
    replace s8 : Sl Rep.atom h' w8 (iterD cl facts (i + 1)) := s8
    (( skip); replace z := z.overW x (by (try simp only [lsz]); omega); (try replace s9 := s9.over x); (try replace sL := sL.over x); rw [lay_nil h'])
    have hvw8 := vSelf w8
    have hl8 := fun (hh : Heap) => s8.lenA ds23 hh
    have hgi := hgr i (by omega)
    have hi5 : (iterD cl facts (i + 1)).length ≤ 24 := by have := iter_len hm (show i + 1 ≤ m by omega); rw [← hLi] at this; omega
    simp -implicitDefEqProofs only [syms, symx, seval, c3, hvw9, hvw8, hl9, hl8]
    refine forkD (fun hx => absurd hx (by omega)) (fun _ => ?_)
    simp -implicitDefEqProofs only [syms, symx, seval, c3, hvw9, hvw8, hl9, hl8]
    refine forkD (fun hx => absurd hx (by omega)) (fun _ => ?_)
    repeat' ( simp -implicitDefEqProofs only [syms, symx, seval, c3, hvw8])
    rw [hwi]
    (rw [hI1]; with_reducible refine loopN_normal (m := _) ?_ ⟨i + 1, w8, _, rfl, z, ⟨rfl, by omega, s8, sL⟩, junk (by kernel_rfl)⟩; omega)
  · have him : i = m := by omega
    subst him
    rw [← hLi] at s9
    repeat' ( simp -implicitDefEqProofs only [syms, symx, seval, c3, hvw9, hvw])
    refine ok_sameAtoms L L w9 w _ (s9.lay _ _) (sL.lay _ _) (by omega) (by omega) _ (fun h' x => ?_)
    rw [decide_eq_true rfl]
    (( skip); replace z := z.overW x (by (try simp only [lsz]); omega); (try replace s8 := s8.over x); (try replace sL := sL.over x); rw [lay_nil h'])
    repeat' ( simp -implicitDefEqProofs only [syms, symx, seval, c3])
    exact hk _ (z.upW _ _ (by omega))
end Go.Proofs.YtemapihoobmonaaDoor
namespace Go.Proofs.YtemapihoobmonaaDoor
open Go.ChangeShapes Go.WideShapes Go.ChangeAt Go.RowKit Go.Am
theorem naiveOrder_own : ownKnob Tryd.prog.godebug = none := by kernel_rfl
theorem naiveOrder_laidOut : laidOutB Tryd.prog = true := by kernel_rfl
theorem naiveOrder_tab {W : World} (hL : laidMetH Tryd.prog Rows.naiveOrderRow.laid W) : ∀ c, c < 256 → W.cell? ⟨1, c, none⟩ = some (.int .u8 (Lib.asciiSpaceTab.getD c 0)) :=
  space_of_laid hL (by kernel_rfl) (d := Rows.laid_strings_asciiSpace) (by simp [Rows.naiveOrderRow]) (by kernel_rfl) (by kernel_rfl) (by kernel_rfl) (t := 117) (by kernel_rfl) (e := 5) (by kernel_rfl) (by kernel_rfl) (by kernel_rfl)
noncomputable def naiveOrder_world (os : Os) : World := World.laidAll Tryd.prog os Rows.naiveOrderRow.laid
theorem naiveOrder_met (os : Os) (args : Array Value) : laidMetH Tryd.prog Rows.naiveOrderRow.laid ((naiveOrder_world os).forCall (fun _ _ => 0) ⟨#[], args, []⟩).memory := by
  rw [MakeChecks.laidMetH_plain _ _ _ (by kernel_rfl)]
  exact laidMet_laidAll args (by kernel_rfl) (by kernel_rfl)
set_option maxRecDepth 100000 in
theorem naiveOrder_ok (h : Heap) (args : List Value) (_ : h.low = h.size) (hsp : Holds h 1 (.row spaceCells spaceMark true)) (hs : ArgsShp Tryd.prog h 8 Tryd.f3.params.toList args) : Ok Tryd.prog tab ov 3 args h fun v h' => v = .bool true ∧ Ext h h' := by
  have hp : Tryd.f3.params.toList = [22, 23, 3] := by kernel_rfl
  have hs2 : ArgsShp Tryd.prog h 8 [22, 23, 3] args := argsShp_eq hp hs
  clear hs
  obtain ⟨x0, r0, rfl, h0, hs2⟩ := argsShp_cons hs2
  obtain ⟨x1, r1, rfl, h1, hs2⟩ := argsShp_cons hs2
  obtain ⟨x2, r2, rfl, h2, hs2⟩ := argsShp_cons hs2
  obtain rfl := argsShp_nil hs2
  obtain ⟨d0, f0⟩ := arg_clauses h0
  obtain ⟨d1, f1⟩ := arg_atoms h1
  obtain ⟨d2, rfl, w2⟩ := arg_int h2
  exact ok_naiveOrder d0 d1 d2 x0 x1 h hsp f0 f1 _ (fun h' x => ⟨rfl, x⟩)
set_option maxRecDepth 100000 in
theorem naiveOrder_lifted (os : Os) (started : os.Started) (H : Type) (enc : TypeId × Value → H) :
    ReturnsInHanded {} Tryd.checked os 3 .any (fun w args => (Rows.naiveOrderSpec.pre enc Tryd.prog Tryd.f3 Rows.naiveOrderRow.domain false w args ∧ laidMetH Tryd.prog Rows.naiveOrderRow.laid w) ∧ sizedMet enc Tryd.prog Tryd.f3 (OpenSpec.ofChange Rows.naiveOrderSpec) false w args)
      (Rows.naiveOrderSpec.post enc Tryd.prog Tryd.f3 Rows.naiveOrderRow.apart Rows.naiveOrderRow.fresh Rows.naiveOrderRow.handsOn Rows.naiveOrderRow.again) := by
  refine returnsInHanded_of_change_and (C := Tryd.checked) (X := fun w _ => laidMetH Tryd.prog Rows.naiveOrderRow.laid w) (fun _ _ _ hh h => h.of_heap hh) naiveOrder_own started (by kernel_rfl) Tryd.func3
    (witness_zip (enc := enc) (C := Tryd.checked) (os := os) (X := fun w _ => laidMetH Tryd.prog Rows.naiveOrderRow.laid w) (naiveOrder_world os) #[.slice none 0 0, .slice none 0 0, .int .i64 0] 12 (World.laidAll_os _ _ _) (by kernel_rfl) (by kernel_rfl) (by kernel_rfl) (by kernel_rfl) (by kernel_rfl) (naiveOrder_met os _)) ?_
  intro W base args ds gs before hval hW hcnd _ hL _
  exact law_contractS (n := 8) (boolT := 4) mixed tab_fits rfl ov_ok rfl (naiveOrder_tab hL) naiveOrder_laidOut rfl (by kernel_rfl) (by kernel_rfl) Tryd.underlying4 (by kernel_rfl) (by kernel_rfl)
    (fun ds hd => by
      have hp : Tryd.f3.params.size = 3 := by kernel_rfl
      rw [hp] at hd
      match ds, hd with
      | [_, _, _], _ => rfl)
    naiveOrder_ok hval hW
theorem naiveOrder_row : Rows.NaiveOrderSaid :=
  OpenClaim.holds_of_wide 3 Tryd.f3 rfl rfl rfl rfl rfl rfl rfl ⟨rfl, rfl, rfl, rfl, rfl⟩ rfl rfl rfl rfl rfl (by kernel_rfl) Tryd.func3 (by kernel_rfl)
    (of_decide_eq_true (by kernel_rfl)) (by unfold Func.isWrapper; first | (rw [if_pos (by decide +kernel)]; kernel_rfl) | (rw [if_neg (by decide +kernel)]; exact ⟨rfl, rfl⟩))
    (fun os started H enc _ => naiveOrder_lifted os started H enc)
theorem naiveOrder_stand : Tryd.f3.params.toList.all (fun t => !Tryd.prog.wantsStandIn t) = true := by kernel_rfl
theorem naiveOrder_holds : Rows.NaiveOrderCardSaid :=
  Claim7.holds_tied_plain_at .later [] [.listed, .data] true (true, "cd4db55e27661f8a48d004844acd6f798a6b8adde834ae1d9c2485ea56b9ebd0") false
    naiveOrder_row (fun _ h => by cases h) (by kernel_rfl) (fun _ h => by cases h) naiveOrder_row_tie rfl ⟨rfl, rfl⟩ (by kernel_rfl) rfl
    (fun f fn hf hfn => by
      obtain rfl : f = 3 := Option.some.inj ((show Tryd.prog.funcNamed "vouchsafe/vouchsafelaw16.NaiveOrder" = some 3 by kernel_rfl).symm.trans hf) |>.symm
      obtain rfl : fn = Tryd.f3 := (Option.some.inj (Tryd.func3.symm.trans hfn)).symm
      refine ⟨by kernel_rfl, fun j t ht => ?_⟩
      have h1 := List.all_eq_true.1 naiveOrder_stand t (List.mem_of_getElem? (i := j) (by simpa using ht))
      have h2 : Tryd.prog.wantsStandIn t = false := by
        cases hh : Tryd.prog.wantsStandIn t with
        | false => rfl
        | true =>
          have h3 : (!Tryd.prog.wantsStandIn t) = true := h1
          rw [hh] at h3
          exact absurd h3 (by decide)
      exact h2)
    (by kernel_rfl)
#print axioms naiveOrder_holds
end Go.Proofs.YtemapihoobmonaaDoor

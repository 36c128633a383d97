/- Founded reasons: what they give follows, their ranks rise. No condition. -/
import Derived.Test.YtompindebndddaaGJoin
import Derived.Test.YtompindebndddaaG38
import Derived.Test.YtompindebndddaaG47
import Derived.Test.YtompindebndddaaG48
import Derived.Test.YtompindebndddaaG13
import Derived.Test.YtompindebndddaaRows
namespace Go.Am
set_option linter.unusedVariables false
theorem founded_all {cl : List ClauseD} {facts : List AtomD} : ∀ {l : List ReasonD} {met : List AtomD} {i0 : Nat}, foundD cl facts met l i0 = -1 → ∀ (i : Nat) r, l[i]? = some r → rightD cl facts r = true ∧ ∀ a ∈ r.body, a ∈ met ∨ ∃ (j : Nat) (r' : ReasonD), j < i ∧ l[j]? = some r' ∧ r'.atom = a
  | [], _, _, _, i, r, hr => by simp at hr
  | q :: l, met, i0, h, i, r, hr => by
    unfold foundD at h
    split at h
    · omega
    rename_i hb
    have hb : badD cl facts met q = false := by simpa using hb
    unfold badD at hb
    simp only [Bool.or_eq_false_iff, Bool.not_eq_eq_eq_not, Bool.not_false] at hb
    cases i with
    | zero =>
      simp at hr
      subst hr
      refine ⟨hb.1, fun a ha => .inl ?_⟩
      have h3 := List.any_eq_false.1 hb.2.2 a ha
      simpa using h3
    | succ i =>
      obtain ⟨h1, h2⟩ := founded_all h i r (by simpa using hr)
      refine ⟨h1, fun a ha => ?_⟩
      rcases h2 a ha with h3 | ⟨j, r', hj, h3, h4⟩
      · rcases List.mem_cons.1 h3 with e | h3
        · exact .inr ⟨0, q, Nat.zero_lt_succ _, rfl, e.symm⟩
        · exact .inl h3
      · exact .inr ⟨j + 1, r', by omega, by simpa using h3, h4⟩
theorem sound_core {cl : List ClauseD} {facts all : List AtomD} {l : List ReasonD} (hm : MayX cl facts) (hf : ∀ a ∈ all, FactX a) (hc : ∀ a ∈ outD cl facts all, a ∈ all) (h : foundD cl facts [] l 0 = -1) : ∀ (n i : Nat) r, i < n → l[i]? = some r → coreD r.atom ∈ all
  | 0, i, r, hi, _ => absurd hi (Nat.not_lt_zero _)
  | n + 1, i, r, hi, hr => by
    obtain ⟨h1, h2⟩ := founded_all h i r hr
    refine right_follows hm hf hc h1 (fun b hb => ?_)
    rcases h2 b hb with h3 | ⟨j, r', hj, h3, h4⟩
    · cases h3
    · rw [← h4]
      exact sound_core hm hf hc h n j r' (by omega) h3
theorem sound_has {cl : List ClauseD} {facts all : List AtomD} {l : List ReasonD} (hm : MayX cl facts) (hf : ∀ a ∈ all, FactX a) (hc : ∀ a ∈ outD cl facts all, a ∈ all) (h : foundD cl facts [] l 0 = -1) {i : Nat} {r : ReasonD} (hr : l[i]? = some r) : hasA all r.atom = true :=
  hasA_iff.2 ⟨_, sound_core hm hf hc h (i + 1) i r (Nat.lt_succ_self _) hr, coreD_text _⟩
theorem idxP_lt {α : Type} {p : α → Bool} {l : List α} {i j : Nat} {x : α} (hj : j < i) (hx : l[j]? = some x) (hp : p x = true) : ∃ at_ : Nat, idxP p (l.take i) = at_ ∧ idxP p l = at_ ∧ at_ < i ∧ at_ < l.length ∧ (l.take i).any p = true := by
  have hjl := (List.getElem?_eq_some_iff.1 hx).1
  have hmem : x ∈ l.take i := by
    rw [List.mem_take_iff_getElem]
    obtain ⟨h1, h2⟩ := List.getElem?_eq_some_iff.1 hx
    exact ⟨j, by omega, h2⟩
  have hany : (l.take i).any p = true := List.any_eq_true.2 ⟨x, hmem, hp⟩
  have h0 : 0 ≤ idxP p (l.take i) := by
    have := idx_any p (l.take i)
    rw [hany] at this
    simpa using this
  have hlt : idxP p (l.take i) < (l.take i).length := by
    unfold idxP at h0 ⊢
    split
    · rename_i k hk
      have := (List.findIdx?_eq_some_iff_getElem.1 hk).1
      omega
    · rename_i hk
      rw [hk] at h0
      simp at h0
  rw [List.length_take] at hlt
  have hk := idxP_take p l i i (Nat.le_refl _)
  have hboth := hk.1.1 ⟨h0, by omega⟩
  have heq := hk.2 hboth
  refine ⟨(idxP p l).toNat, by omega, by omega, by omega, by omega, hany⟩
theorem rank_here {l : List ReasonD} {i n : Nat} {r : ReasonD} (hr : l[i]? = some r) (hi : i < n) : (ranksD l n)[i]? = some (rankR l (ranksD l i) i r.body) := by
  have h1 := ranksD_prefix l n (i + 1) hi
  have h2 : (ranksD l n)[i]? = ((ranksD l n).take (i + 1))[i]? := by rw [List.getElem?_take, if_pos (Nat.lt_succ_self _)]
  rw [h2, h1]
  show (ranksD l i ++ [match l[i]? with
    | some r => rankR l (ranksD l i) i r.body
    | none => 0])[i]? = _
  rw [hr, List.getElem?_append_right (by rw [ranksD_length]; exact Nat.le_refl _), ranksD_length, Nat.sub_self]
  rfl
theorem rank_old {l : List ReasonD} {i k n : Nat} (hk : k < i) (hi : i ≤ n) : (ranksD l n)[k]? = some ((ranksD l i).getD k 0) := by
  have h1 := ranksD_prefix l n i hi
  have h2 : (ranksD l n)[k]? = ((ranksD l n).take i)[k]? := by rw [List.getElem?_take, if_pos hk]
  rw [h2, h1, List.getD_eq_getElem?_getD, List.getElem?_eq_getElem (by rw [ranksD_length]; exact hk)]
  rfl
theorem upR_ge (l : List ReasonD) (out : List Int) (i : Nat) (m : Int) (a : AtomD) : m ≤ upR l out i m a := by
  unfold upR
  split <;> omega
theorem fold_ge (l : List ReasonD) (out : List Int) (i : Nat) : ∀ (body : List AtomD) (m : Int), m ≤ body.foldl (upR l out i) m
  | [], m => Int.le_refl _
  | a :: body, m => Int.le_trans (upR_ge l out i m a) (fold_ge l out i body _)
theorem fold_at (l : List ReasonD) (out : List Int) (i : Nat) {b : AtomD} {k : Nat} (hk : atR l b = k) (hi : k < i) : ∀ (body : List AtomD) (m : Int), b ∈ body → out.getD k 0 ≤ body.foldl (upR l out i) m
  | a :: body, m, h => by
    rcases List.mem_cons.1 h with e | h
    · subst e
      refine Int.le_trans ?_ (fold_ge l out i body _)
      unfold upR
      rw [hk, if_pos ⟨by omega, by omega⟩]
      have : ((k : Int)).toNat = k := by omega
      rw [this]
      omega
    · exact fold_at l out i hk hi body _ h
theorem rank_rises {l : List ReasonD} {i j n : Nat} {r r' : ReasonD} {b : AtomD} (hr : l[i]? = some r) (hi : i < n) (hb : b ∈ r.body) (hj : j < i) (hj' : l[j]? = some r') (he : r'.atom = b) :
    ∃ (k : Nat) (x y : Int), idxP (fun q : ReasonD => decide (q.atom = b)) (l.take i) = k ∧ k < i ∧ (l.take i).any (fun q => decide (q.atom = b)) = true ∧ (ranksD l n)[k]? = some x ∧ (ranksD l n)[i]? = some y ∧ x < y := by
  obtain ⟨k, h1, h2, h3, h4, h5⟩ := idxP_lt (p := fun q : ReasonD => decide (q.atom = b)) hj hj' (by simpa using he)
  refine ⟨k, _, _, h1, h3, h5, rank_old h3 (Nat.le_of_lt hi), rank_here hr hi, ?_⟩
  have := fold_at l (ranksD l i) i (b := b) (k := k) h2 h3 r.body 0 hb
  unfold rankR
  omega
theorem rank_range {l : List ReasonD} {i n : Nat} {y : Int} (hn : n ≤ l.length) (hy : (ranksD l n)[i]? = some y) : 1 ≤ y ∧ y ≤ i + 1 := ranksD_bound l n hn i y hy
end Go.Am
namespace Go.Proofs.Ytompindebndddaa
open Go.Am
set_option linter.unusedSimpArgs false
set_option linter.unusedVariables false
set_option maxRecDepth 100000
set_option maxHeartbeats 0
theorem sound_tail (cl : List ClauseD) (facts : List AtomD) (l2 : List ReasonD) (all : List AtomD) (cv fv v2 wa w1 : Value) (ee : Int) (h h1' : Heap) (hc : Sl Rep.clause h cv cl) (hf : Sl Rep.atom h fv facts) (e1 : cl.length ≤ 6) (e2 : facts.length ≤ 12) (e3 : ∀ c ∈ cl, c.body.length ≤ 3) (hm : MayX cl facts) (hfd : foundD cl facts [] l2 0 = -1) (hll2 : l2.length ≤ 40) (hPl2 : ∀ r ∈ l2, PlainR r)
    (hhas : ee = 0 → ∀ (i : Nat) r, l2[i]? = some r → hasA all r.atom = true) (hlight : ∀ x ∈ all, x.light = true) (hal : all.length ≤ 24) (z : Ext h h1') (hv2 : Sl Rep.reason h1' v2 l2) (sa : Sl Rep.atom h1' wa all) (hw1 : Sl Rep.int h1' w1 (ranksD l2 l2.length)) (K : Value → Heap → Prop) (hk : ∀ h', Ext h h' → K (.bool true) h') (e : Env) (he : ∃ J : Nat → Value, e = cv :: fv :: v2 :: jr J 3 5 (wa :: J 9 :: .int .i64 ee :: w1 :: .int .i64 0 :: jr J 13 138 [])) :
    W Try.prog tab ov none (N3 51).loop e (h1'.lay [] h1'.low) (blockE 0 (thenE Try.prog tab ov none (N3 90) (finE tab Try.f3 K))) := by
  obtain ⟨J, rfl⟩ := he
  have hvc := vSelf cv
  have hvf := vSelf fv
  have hva2 := vSelf v2
  have hvwa := vSelf wa
  have hvw1 := vSelf w1
  have hl2 := fun (hh : Heap) => hv2.lenA ds24 hh
  have hlw := fun (hh : Heap) => hw1.lenA ds32 hh
  obtain ⟨I1, hI1⟩ : ∃ I : Nat → Env → Heap → Prop, I = (fun n e h' => ∃ (i : Nat) (h1 : Heap), h' = h1.lay [] h1.low ∧ Ext h h1 ∧ (n = l2.length - i ∧ i ≤ l2.length ∧ Sl Rep.reason h1 v2 l2 ∧ Sl Rep.atom h1 wa all ∧ Sl Rep.int h1 w1 (ranksD l2 l2.length)) ∧ ∃ J : Nat → Value, e = (cv :: fv :: v2 :: jr J 3 5 (wa :: J 9 :: .int .i64 ee :: w1 :: .int .i64 i :: jr J 13 138 ([])))) := ⟨_, rfl⟩
  refine W_loopN I1 _ (by rw [hI1]; exact ⟨0, _, rfl, z, ⟨rfl, by omega, hv2, sa, hw1⟩, junk (by kernel_rfl)⟩) ?_
  intro n e h' hin
  rw [hI1] at hin
  obtain ⟨i, h1', rfl, z, hinv, J, rfl⟩ := hin
  clear hv2 sa hw1
  obtain ⟨rfl, hi, hv2, sa, hw1⟩ := hinv
  have hwi : IntKind.i64.wrap ((i : Int) + 1) = ((i + 1 : Nat) : Int) := by rw [wrap_i64 (by omega) (by omega)]; omega
  simp -implicitDefEqProofs only [syms, symx, seval, c3, hva2, hl2]
  refine forkD (fun hlt => ?_) (fun hlt => ?_)
  rotate_left
  · repeat' ( simp -implicitDefEqProofs only [syms, symx, seval, c3, hvw1, hva2, hl2, hlw, ranksD_length])
    all_goals first
      | exact hk _ (z.upW _ _ (by omega))
      | (exfalso; omega)
  obtain ⟨r, hr, hr'⟩ := amElem (l := l2) (i := i) (by omega)
  have hmem := List.mem_of_getElem? hr'
  obtain ⟨hright, hbody⟩ := founded_all hfd i r hr'
  have hrank := rank_here (n := l2.length) hr' (by omega)
  obtain ⟨y, hy⟩ : ∃ y, y = rankR l2 (ranksD l2 i) i r.body := ⟨_, rfl⟩
  rw [← hy] at hrank
  have hyr := rank_range (Nat.le_refl _) hrank
  have hrank0 : (ranksD l2 l2.length)[(i : Int).toNat]? = some y := by rw [Int.toNat_natCast]; exact hrank
  have hla := (hPl2 r hmem).light
  simp -implicitDefEqProofs only [syms, symx, seval, c3, hvc, hvf, hva2, hvwa, hvw1, hwi]
  have hblen := (hPl2 r hmem).len
  refine forkB (fun hee => ?_) (fun hee => ?_)
  focus
    have hhr := hhas hee i r hr'
    repeat' (first | simp -implicitDefEqProofs only [syms, symx, seval, c3, hvc, hvf, hva2, hvwa, hvw1] | with_reducible_and_instances refine ixr_at hv2 ds24 sz41 (by omega) hr (fun p bd hbd hp => ?_) | with_reducible_and_instances refine fdr0 hp fa41_0 (fun p hp => ?_) | with_reducible_and_instances refine lda hp ag39 sz39 ?_)
    refine ok_hasR all r.atom wa _ (sa.lay _ _) (by omega) hlight hla _ (fun h' x => ?_)
    rw [hhr]
    (( skip); replace z := z.overW x (by (try simp only [lsz]); omega); (try replace hv2 := hv2.over x); (try replace sa := sa.over x); (try replace hw1 := hw1.over x); rw [lay_nil h'])
    clear hp
    repeat' (first | simp -implicitDefEqProofs only [syms, symx, seval, c3, hvc, hvf, hva2, hvwa, hvw1, Bool.not_true] | with_reducible_and_instances refine ixr_at hv2 ds24 sz41 (by omega) hr (fun p bd hbd hp => ?_) | with_reducible_and_instances refine ldr hp ag41 sz41 ?_ | ((with_reducible_and_instances apply unop_not); (· rfl)))
    refine ok_right cl facts r cv fv bd _ ((hc.mono z.inc).lay _ _) ((hf.mono z.inc).lay _ _) (Sl.lay (by assumption) _ _) (by omega) (by omega) (Nat.le_trans (hPl2 r hmem).len (by omega)) _ (fun h' x => ?_)
    rw [hright]
    (( skip); replace z := z.overW x (by (try simp only [lsz]); omega); (try replace hv2 := hv2.over x); (try replace sa := sa.over x); (try replace hw1 := hw1.over x); rw [lay_nil h'])
    clear hp
    repeat' (first | simp -implicitDefEqProofs only [syms, symx, seval, c3, hvw1, hwi, Bool.not_true] | ((with_reducible  apply forkD ) <;> intro _) | with_reducible_and_instances refine ixi_at hw1 ds32 sz3 (by omega) hrank0 (fun p hp => ?_) | with_reducible_and_instances refine ld_one hp ag3 ?_ | ((with_reducible_and_instances apply unop_not); (· rfl)))
    all_goals try (exfalso; omega)
  rotate_left
  focus
    simp -implicitDefEqProofs only [syms, symx, seval, c3, hvc, hvf, hva2, hvwa, hvw1, Bool.not_true]
    repeat' ((first | with_reducible_and_instances refine ixr_at hv2 ds24 sz41 (by omega) hr (fun p bd hbd hp => ?_) | with_reducible_and_instances refine ldr hp ag41 sz41 ?_) <;> simp -implicitDefEqProofs only [syms, symx, seval, c3, hvc, hvf, hva2, hvwa, hvw1, Bool.not_true])
    refine ok_right cl facts r cv fv bd _ ((hc.mono z.inc).lay _ _) ((hf.mono z.inc).lay _ _) (Sl.lay (by assumption) _ _) (by omega) (by omega) (Nat.le_trans (hPl2 r hmem).len (by omega)) _ (fun h' x => ?_)
    rw [hright]
    (( skip); replace z := z.overW x (by (try simp only [lsz]); omega); (try replace hv2 := hv2.over x); (try replace sa := sa.over x); (try replace hw1 := hw1.over x); rw [lay_nil h'])
    clear hp
    repeat' (first | simp -implicitDefEqProofs only [syms, symx, seval, c3, hvw1, hwi, Bool.not_true] | ((with_reducible  apply forkD ) <;> intro _) | with_reducible_and_instances refine ixi_at hw1 ds32 sz3 (by omega) hrank0 (fun p hp => ?_) | with_reducible_and_instances refine ld_one hp ag3 ?_ | ((with_reducible_and_instances apply unop_not); (· rfl)))
    all_goals try (exfalso; omega)
  all_goals
    obtain ⟨I2, hI2⟩ : ∃ I : Nat → Env → Heap → Prop, I = (fun n e h' => ∃ (j : Nat) (h1 : Heap), h' = h1.lay [] h1.low ∧ Ext h h1 ∧ (n = r.body.length - j ∧ j ≤ r.body.length ∧ Sl Rep.reason h1 v2 l2 ∧ Sl Rep.atom h1 wa all ∧ Sl Rep.int h1 w1 (ranksD l2 l2.length)) ∧ ∃ J : Nat → Value, e = (cv :: fv :: v2 :: jr J 3 5 (wa :: J 9 :: .int .i64 ee :: w1 :: .int .i64 i :: .int .i64 j :: jr J 14 137 ([])))) := ⟨_, rfl⟩
    refine W_loopN I2 _ (by rw [hI2]; exact ⟨0, _, rfl, z, ⟨rfl, by omega, hv2, sa, hw1⟩, junk (by kernel_rfl)⟩) ?_
    intro n e h' hin
    rw [hI2] at hin
    obtain ⟨j, h2', rfl, z, hinv, J, rfl⟩ := hin
    clear hv2 sa hw1
    obtain ⟨rfl, hj, hv2, sa, hw1⟩ := hinv
    have hwj : IntKind.i64.wrap ((j : Int) + 1) = ((j + 1 : Nat) : Int) := by rw [wrap_i64 (by omega) (by omega)]; omega
    repeat' (first | simp -implicitDefEqProofs only [syms, symx, seval, c3, hva2] | ((with_reducible  apply forkD ) <;> intro _) | with_reducible_and_instances refine ixr_at hv2 ds24 sz41 (by omega) hr (fun p bd hbd hp => ?_) | with_reducible_and_instances refine fdr2 hp fa41_2 (fun q hq => ?_) | with_reducible_and_instances refine ld_one hq ag23 ?_ | with_reducible_and_instances refine ln_rule hbd ds23 ?_)
    rotate_left
    · rw [hwi]
      (rw [hI1]; with_reducible refine loopN_normal (m := _) ?_ ⟨i + 1, _, rfl, z, ⟨rfl, by omega, hv2, sa, hw1⟩, junk (by kernel_rfl)⟩; omega)
    obtain ⟨b, hb, hb'⟩ := amElem (l := r.body) (i := j) (by omega)
    have hbm := List.mem_of_getElem? hb'
    rcases hbody b hbm with h0 | ⟨j2, r2, hj2, hr2, he2⟩
    · cases h0
    obtain ⟨k, xk, yk, f1, f2, f3, f4, f5, f6⟩ := rank_rises (n := l2.length) hr' (by omega) hbm hj2 hr2 he2
    obtain rfl : y = yk := Option.some.inj (hrank.symm.trans f5)
    have f40 : (ranksD l2 l2.length)[(k : Int).toNat]? = some xk := by rw [Int.toNat_natCast]; exact f4
    clear hp hq
    have hil : i ≤ l2.length := hi
    have htl : (l2.take i).length = i := by rw [List.length_take]; omega
    repeat' (first | simp -implicitDefEqProofs only [syms, symx, seval, c3, hva2] | with_reducible refine drawN (by simp only [c3]) (z.upW _ _ (by omega)) ?_ | with_reducible_and_instances refine to_rule hv2 (by decide) ds24 sz41 hil (fun v3 hv3 => ?_) | with_reducible_and_instances refine ixr_at hv2 ds24 sz41 (by omega) hr (fun p bd hbd hp => ?_) | with_reducible_and_instances refine fdr2 hp fa41_2 (fun q hq => ?_) | with_reducible_and_instances refine ld_one hq ag23 ?_ | with_reducible_and_instances refine ixa_at hbd ds23 sz39 (by omega) hb (fun p hp => ?_) | with_reducible_and_instances refine lda hp ag39 sz39 ?_)
    refine ok_find (l2.take i) _ b _ (Sl.lay (by assumption) _ _) (by omega) _ (fun h' v' x hv' => ?_)
    rw [if_pos f3, f1] at hv'
    subst hv'
    clear hp hq
    (( ((with_reducible refine KOpsX_call ?_ ?_ ?_); (· exact (by (try simp only [lsz]); have := z.size; omega)); (·  exact x )) ); replace z := z.overW x (by (try simp only [lsz]); omega); (try replace hv2 := hv2.over x); (try replace sa := sa.over x); (try replace hw1 := hw1.over x); rw [lay_nil h'])
    repeat' (first | simp -implicitDefEqProofs only [syms, symx, seval, c3, Bool.not_true, hvw1] | with_reducible refine drawN (by simp only [c3]) (z.upW _ _ (by omega)) ?_ | ((with_reducible  apply forkD ) <;> intro _) | with_reducible_and_instances refine ixi_at hw1 ds32 sz3 (by omega) f40 (fun p hp => ?_) | with_reducible_and_instances refine ixi_at hw1 ds32 sz3 (by omega) hrank0 (fun p hp => ?_) | with_reducible_and_instances refine ld_one hp ag3 ?_ | ((with_reducible_and_instances apply unop_not); (· rfl)) | ((with_reducible refine ⟨z.grw.lay _ _, ?_⟩); (intro _ h' zz x _); (try simp only [lay_lay, List.append_nil] at x); (try replace hv2 := hv2.over x); (try replace sa := sa.over x); (try replace hw1 := hw1.over x); (replace z := zz); (clear zz); rw [lay_nil h']))
    all_goals try (exfalso; omega)
    rw [hwj]
    (rw [hI2]; with_reducible refine loopN_normal (m := _) ?_ ⟨j + 1, _, rfl, z, ⟨rfl, by omega, hv2, sa, hw1⟩, junk (by kernel_rfl)⟩; omega)
theorem ok_reasonSound (cl : List ClauseD) (facts : List AtomD) (l : List ReasonD) (cv fv v : Value) (h : Heap) (hc : Sl Rep.clause h cv cl) (hf : Sl Rep.atom h fv facts) (hl : Sl Rep.reason h v l) (K : Value → Heap → Prop)
    (hk : ∀ h', Ext h h' → K (.bool true) h') : Ok Try.prog tab ov 3 [cv, fv, v] h K := by
  rw [lay_nil h]
  have z := Ext.refl h
  have hva := vSelf v
  have hvc := vSelf cv
  have hvf := vSelf fv
  have hlv := fun (hh : Heap) => hl.lenA ds24 hh
  refine Ok.into rfl tab_fn3 (bodyF N3) rfl (m := 148) rfl ?_
  simp -implicitDefEqProofs only [syms, symx, seval, c3, hva, hvc, hvf]
  refine Ok.over (g := trueA) rfl rfl ?_
  repeat' (first | simp -implicitDefEqProofs only [syms, symx, seval, c3, hva, hvc, hvf] | ((with_reducible_and_instances apply unop_not); (· rfl)))
  refine ok_lightClauses cl facts _ _ _ ((hc.mono z.inc).lay _ _) ((hf.mono z.inc).lay _ _) _ (fun e1 e2 e3 h' x => ?_) (fun h' x => ?_)
  rotate_left
  · (( skip); replace z := z.overW x (by (try simp only [lsz]); omega); rw [lay_nil h'])
    repeat' (first | simp -implicitDefEqProofs only [syms, symx, seval, c3, hva, hvc, hvf] | ((with_reducible_and_instances apply unop_not); (· rfl)))
    exact hk _ (z.upW _ _ (by omega))
  (( skip); replace z := z.overW x (by (try simp only [lsz]); omega); rw [lay_nil h'])
  repeat' (first | simp -implicitDefEqProofs only [syms, symx, seval, c3, hva, hvc, hvf] | ((with_reducible_and_instances apply unop_not); (· rfl)))
  refine ok_lightReasonsS l _ _ ((hl.mono z.inc).lay _ _) _ (fun e4 e5 h' x => ?_) (fun h' x => ?_)
  rotate_left
  · (( skip); replace z := z.overW x (by (try simp only [lsz]); omega); rw [lay_nil h'])
    repeat' (first | simp -implicitDefEqProofs only [syms, symx, seval, c3, hva, hvc, hvf] | ((with_reducible_and_instances apply unop_not); (· rfl)))
    exact hk _ (z.upW _ _ (by omega))
  (( skip); replace z := z.overW x (by (try simp only [lsz]); omega); rw [lay_nil h'])
  repeat' (first | simp -implicitDefEqProofs only [syms, symx, seval, c3, hva, hvc, hvf] | ((with_reducible_and_instances apply unop_not); (· rfl)))
  refine ok_mayX cl facts _ _ _ ((hc.mono z.inc).lay _ _) ((hf.mono z.inc).lay _ _) (by omega) (fun c hc => Nat.le_trans (e3 c hc) (by omega)) (by omega) _ (fun hm h' x => ?_) (fun hm h' x => ?_)
  rotate_left
  · (( skip); replace z := z.overW x (by (try simp only [lsz]); omega); rw [lay_nil h'])
    repeat' (first | simp -implicitDefEqProofs only [syms, symx, seval, c3, hva, hvc, hvf] | ((with_reducible_and_instances apply unop_not); (· rfl)))
    exact hk _ (z.upW _ _ (by omega))
  (( skip); replace z := z.overW x (by (try simp only [lsz]); omega); rw [lay_nil h'])
  repeat' (first | simp -implicitDefEqProofs only [syms, symx, seval, c3, hva, hvc, hvf] | ((with_reducible_and_instances apply unop_not); (· rfl)))
  have hbs : ∀ r ∈ l, r.body.length ≤ 100 := fun r hr => Nat.le_trans (e5 r hr).len (by omega)
  refine ok_founded cl facts l cv fv v _ ((hc.mono z.inc).lay _ _) ((hf.mono z.inc).lay _ _) ((hl.mono z.inc).lay _ _) (by omega) (by omega) (by omega) hbs _ (fun h' x => ?_)
  (( skip); replace z := z.overW x (by (try simp only [lsz]); omega); rw [lay_nil h'])
  have hrg := foundD_range (cl := cl) (facts := facts) l [] 0
  have hfr := fun k => foundD_front (cl := cl) (facts := facts) (l := l) (met := []) (i := 0) k
  obtain ⟨n, hn⟩ : ∃ n, n = foundD cl facts [] l 0 := ⟨_, rfl⟩
  rw [← hn] at hrg hfr ⊢
  rw [Int.ofNat_zero, Int.zero_add] at hrg
  repeat' (first | simp -implicitDefEqProofs only [syms, symx, seval, c3, hva, hlv] | ((with_reducible  apply forkD ) <;> intro _))
  all_goals try (exfalso; omega)
  · obtain ⟨k, rfl⟩ := Int.eq_ofNat_of_zero_le (show 0 ≤ n by omega)
    have hkl : k ≤ l.length := by omega
    have hbs2 : ∀ r ∈ l.take k, r.body.length ≤ 100 := fun r hr => hbs r (List.mem_of_mem_take hr)
    have htl : (l.take k).length = k := by rw [List.length_take]; omega
    have hfd := hfr k
    rw [if_pos (.inr (by omega))] at hfd
    repeat' (first | simp -implicitDefEqProofs only [syms, symx, seval, c3] | with_reducible_and_instances refine to_rule (hl.mono z.inc) (by decide) ds24 sz41 hkl (fun v2 hv2 => ?_))
    have hva2 := vSelf v2
    skip
    refine ok_founded cl facts (l.take k) cv fv v2 _ ((hc.mono z.inc).lay _ _) ((hf.mono z.inc).lay _ _) (hv2.lay _ _) (by omega) (by omega) (by omega) hbs2 _ (fun h' x => ?_)
    (( skip); replace z := z.overW x (by (try simp only [lsz]); omega); (try replace hv2 := hv2.over x); rw [lay_nil h'])
    rw [hfd]
    repeat' ( simp -implicitDefEqProofs only [syms, symx, seval, c3, hva2, hvc, hvf])
    have hPl2 : ∀ r ∈ l.take k, PlainR r := fun r hr => e5 r (List.mem_of_mem_take hr)
    have hll2 : (l.take k).length ≤ 40 := by omega
    obtain ⟨l2, hl2e⟩ : ∃ l2, l2 = l.take k := ⟨_, rfl⟩
    rw [← hl2e] at hfd hPl2 hv2 hll2
    refine ok_lfpT cl facts cv fv _ ((hc.mono z.inc).lay _ _) ((hf.mono z.inc).lay _ _) e1 e3 (by omega) hm _ (fun h' wa m x sa hal hfix => ?_) (fun h' x => ?_)
    · obtain ⟨ee, hee⟩ : ∃ ee : Int, ee = 0 := ⟨_, rfl⟩
      obtain ⟨all, hall⟩ : ∃ all, all = iterD cl facts m := ⟨_, rfl⟩
      have hhas : ee = 0 → ∀ (i : Nat) r, l2[i]? = some r → hasA all r.atom = true := fun _ i r hr => by
        rw [hall]
        exact sound_has hm (iter_fact hm m) (fun a ha => by rw [← hfix]; exact (mem_round hm (iter_fact hm m)).2 ha) hfd hr
      have hlight : ∀ x ∈ all, x.light = true := fun x hx => by rw [hall] at hx; exact (iter_fact hm m x hx).valid.light
      rw [← hall] at sa hal
      rw [← hee]
      clear hall hee hfix
      (( skip); replace z := z.overW x (by (try simp only [lsz]); omega); (try replace hv2 := hv2.over x); rw [lay_nil h'])
      have hvwa := vSelf wa
      repeat' ( simp -implicitDefEqProofs only [syms, symx, seval, c3, hva2, hvwa])
      refine ok_ranks l2 v2 _ (hv2.lay _ _) (by omega) (fun r hr => Nat.le_trans (hPl2 r hr).len (by omega)) _ (fun h' w1 x hw1 => ?_)
      (( skip); replace z := z.overW x (by (try simp only [lsz]); omega); (try replace hv2 := hv2.over x); (try replace sa := sa.over x); rw [lay_nil h'])
      have hvw1 := vSelf w1
      repeat' ( simp -implicitDefEqProofs only [syms, symx, seval, c3, hvw1])
      exact sound_tail cl facts l2 all cv fv v2 wa w1 ee h _ hc hf e1 e2 e3 hm hfd hll2 hPl2 hhas hlight hal z hv2 sa hw1 K hk _ (junk (by kernel_rfl))
    · obtain ⟨ee, hee⟩ : ∃ ee : Int, ee = 14 := ⟨_, rfl⟩
      obtain ⟨wa, hwa⟩ : ∃ wa : Value, wa = .slice none 0 0 := ⟨_, rfl⟩
      (( skip); replace z := z.overW x (by (try simp only [lsz]); omega); (try replace hv2 := hv2.over x); (try replace sa := sa.over x); rw [lay_nil h'])
      have sa : Sl Rep.atom h' wa [] := by rw [hwa]; exact Sl.nil
      rw [← hee, ← hwa]
      have hvwa := vSelf wa
      repeat' ( simp -implicitDefEqProofs only [syms, symx, seval, c3, hva2, hvwa])
      refine ok_ranks l2 v2 _ (hv2.lay _ _) (by omega) (fun r hr => Nat.le_trans (hPl2 r hr).len (by omega)) _ (fun h' w1 x hw1 => ?_)
      (( skip); replace z := z.overW x (by (try simp only [lsz]); omega); (try replace hv2 := hv2.over x); (try replace sa := sa.over x); rw [lay_nil h'])
      have hvw1 := vSelf w1
      repeat' ( simp -implicitDefEqProofs only [syms, symx, seval, c3, hvw1])
      exact sound_tail cl facts l2 [] cv fv v2 wa w1 ee h _ hc hf e1 e2 e3 hm hfd hll2 hPl2 (fun e => by omega) (by simp) (by simp) z hv2 sa hw1 K hk _ (junk (by kernel_rfl))
  · have hn1 : n = -1 := by omega
    obtain ⟨v2, rfl⟩ : ∃ v2, v2 = v := ⟨_, rfl⟩
    obtain ⟨l2, rfl⟩ : ∃ l2, l2 = l := ⟨_, rfl⟩
    have hfd : foundD cl facts [] l2 0 = -1 := by omega
    have hPl2 := e5
    have hll2 := e4
    have hva2 := hva
    have hv2 := hl.mono z.inc
    refine ok_lfpT cl facts cv fv _ ((hc.mono z.inc).lay _ _) ((hf.mono z.inc).lay _ _) e1 e3 (by omega) hm _ (fun h' wa m x sa hal hfix => ?_) (fun h' x => ?_)
    · obtain ⟨ee, hee⟩ : ∃ ee : Int, ee = 0 := ⟨_, rfl⟩
      obtain ⟨all, hall⟩ : ∃ all, all = iterD cl facts m := ⟨_, rfl⟩
      have hhas : ee = 0 → ∀ (i : Nat) r, l2[i]? = some r → hasA all r.atom = true := fun _ i r hr => by
        rw [hall]
        exact sound_has hm (iter_fact hm m) (fun a ha => by rw [← hfix]; exact (mem_round hm (iter_fact hm m)).2 ha) hfd hr
      have hlight : ∀ x ∈ all, x.light = true := fun x hx => by rw [hall] at hx; exact (iter_fact hm m x hx).valid.light
      rw [← hall] at sa hal
      rw [← hee]
      clear hall hee hfix
      (( skip); replace z := z.overW x (by (try simp only [lsz]); omega); (try replace hv2 := hv2.over x); rw [lay_nil h'])
      have hvwa := vSelf wa
      repeat' ( simp -implicitDefEqProofs only [syms, symx, seval, c3, hva2, hvwa])
      refine ok_ranks l2 v2 _ (hv2.lay _ _) (by omega) (fun r hr => Nat.le_trans (hPl2 r hr).len (by omega)) _ (fun h' w1 x hw1 => ?_)
      (( skip); replace z := z.overW x (by (try simp only [lsz]); omega); (try replace hv2 := hv2.over x); (try replace sa := sa.over x); rw [lay_nil h'])
      have hvw1 := vSelf w1
      repeat' ( simp -implicitDefEqProofs only [syms, symx, seval, c3, hvw1])
      exact sound_tail cl facts l2 all cv fv v2 wa w1 ee h _ hc hf e1 e2 e3 hm hfd hll2 hPl2 hhas hlight hal z hv2 sa hw1 K hk _ (junk (by kernel_rfl))
    · obtain ⟨ee, hee⟩ : ∃ ee : Int, ee = 14 := ⟨_, rfl⟩
      obtain ⟨wa, hwa⟩ : ∃ wa : Value, wa = .slice none 0 0 := ⟨_, rfl⟩
      (( skip); replace z := z.overW x (by (try simp only [lsz]); omega); (try replace hv2 := hv2.over x); (try replace sa := sa.over x); rw [lay_nil h'])
      have sa : Sl Rep.atom h' wa [] := by rw [hwa]; exact Sl.nil
      rw [← hee, ← hwa]
      have hvwa := vSelf wa
      repeat' ( simp -implicitDefEqProofs only [syms, symx, seval, c3, hva2, hvwa])
      refine ok_ranks l2 v2 _ (hv2.lay _ _) (by omega) (fun r hr => Nat.le_trans (hPl2 r hr).len (by omega)) _ (fun h' w1 x hw1 => ?_)
      (( skip); replace z := z.overW x (by (try simp only [lsz]); omega); (try replace hv2 := hv2.over x); (try replace sa := sa.over x); rw [lay_nil h'])
      have hvw1 := vSelf w1
      repeat' ( simp -implicitDefEqProofs only [syms, symx, seval, c3, hvw1])
      exact sound_tail cl facts l2 [] cv fv v2 wa w1 ee h _ hc hf e1 e2 e3 hm hfd hll2 hPl2 (fun e => by omega) (by simp) (by simp) z hv2 sa hw1 K hk _ (junk (by kernel_rfl))
end Go.Proofs.Ytompindebndddaa
namespace Go.Proofs.Ytompindebndddaa
open Go.ChangeShapes Go.WideShapes Go.ChangeAt Go.RowKit Go.Am
theorem reasonSound_own : ownKnob Try.prog.godebug = none := by kernel_rfl
theorem reasonSound_laidOut : laidOutB Try.prog = true := by kernel_rfl
set_option maxRecDepth 100000 in
theorem reasonSound_ok (h : Heap) (args : List Value) (_ : h.low = h.size) (hs : ArgsShp Try.prog h 8 Try.f3.params.toList args) : Ok Try.prog tab ov 3 args h fun v h' => v = .bool true ∧ Ext h h' := by
  have hp : Try.f3.params.toList = [22, 23, 24] := by kernel_rfl
  have hs2 : ArgsShp Try.prog h 8 [22, 23, 24] args := argsShp_eq hp hs
  clear hs
  obtain ⟨x0, r0, rfl, h0, hs2⟩ := argsShp_cons hs2
  obtain ⟨x1, r1, rfl, h1, hs2⟩ := argsShp_cons hs2
  obtain ⟨x2, r2, rfl, h2, hs2⟩ := argsShp_cons hs2
  obtain rfl := argsShp_nil hs2
  obtain ⟨d0, f0⟩ := arg_clauses h0
  obtain ⟨d1, f1⟩ := arg_atoms h1
  obtain ⟨d2, f2⟩ := arg_reasons h2
  exact ok_reasonSound d0 d1 d2 x0 x1 x2 h f0 f1 f2 _ (fun h' x => ⟨rfl, x⟩)
set_option maxRecDepth 100000 in
theorem reasonSound_lifted (os : Os) (started : os.Started) (H : Type) (enc : TypeId × Value → H) :
    ReturnsInHanded {} Try.checked os 3 .any (Rows.reasonSoundSpec.pre6 enc Try.prog Try.f3 Rows.reasonSoundRow.domain false) (Rows.reasonSoundSpec.post enc Try.prog Try.f3 Rows.reasonSoundRow.apart Rows.reasonSoundRow.fresh Rows.reasonSoundRow.handsOn Rows.reasonSoundRow.again) := by
  refine returnsInHanded_of_change_shaped (C := Try.checked) reasonSound_own started (by kernel_rfl) Try.func3
    (ChangeSpec.witness6 (enc := enc) (C := Try.checked) false ⟨#[], #[.slice none 0 0, .slice none 0 0, .slice none 0 0], []⟩ 12 (by kernel_rfl) (by kernel_rfl) (by kernel_rfl) (by kernel_rfl)) ?_
  intro W base args ds gs before hval hW _ _ hsh _
  exact law_contract (n := 8) (boolT := 4) mixed tab_fits rfl ov_ok rfl (of_decide_eq_true (by kernel_rfl)) reasonSound_laidOut rfl (by kernel_rfl) (by kernel_rfl) Try.underlying4 (by kernel_rfl) (by kernel_rfl)
    (fun ds hd => by
      have hp : Try.f3.params.size = 3 := by kernel_rfl
      rw [hp] at hd
      match ds, hd with
      | [_, _, _], _ => rfl)
    reasonSound_ok hval hW hsh
theorem reasonSound_holds : Rows.ReasonSoundSaid :=
  OpenClaim.holds_of_wide 3 Try.f3 rfl rfl rfl rfl rfl rfl rfl ⟨rfl, rfl, rfl, rfl, rfl⟩ rfl rfl rfl rfl rfl (by kernel_rfl) Try.func3 (by kernel_rfl)
    (of_decide_eq_true (by kernel_rfl)) (by unfold Func.isWrapper; first | (rw [if_pos (by decide +kernel)]; kernel_rfl) | (rw [if_neg (by decide +kernel)]; exact ⟨rfl, rfl⟩))
    (fun os started H enc _ => reasonSound_lifted os started H enc)
#print axioms reasonSound_holds
end Go.Proofs.Ytompindebndddaa

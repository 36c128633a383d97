/- Founded reasons and their ranks: prefixes, and more facts and clauses. No condition. -/
import Derived.Test.YtompindebndddaaG23
import Derived.Test.YtompindebndddaaGMapx
import Derived.Test.YtompindebndddaaG26
namespace Go.Am
set_option linter.unusedVariables false
theorem badD_more {cl cl2 : List ClauseD} {facts facts2 met : List AtomD} {r : ReasonD} (h : badD cl facts met r = false) : badD (cl ++ cl2) (facts ++ facts2) met r = false := by
  unfold badD at *
  simp only [Bool.or_eq_false_iff, Bool.not_eq_eq_eq_not, Bool.not_false] at *
  exact ⟨rightD_more h.1, h.2⟩
theorem foundD_more {cl cl2 : List ClauseD} {facts facts2 : List AtomD} {l : List ReasonD} {met : List AtomD} {i : Nat} (h : foundD cl facts met l i = -1) : foundD (cl ++ cl2) (facts ++ facts2) met l i = -1 := by
  induction l generalizing met i with
  | nil => rfl
  | cons r l ih =>
    unfold foundD at h ⊢
    cases hb : badD cl facts met r
    · rw [hb] at h
      rw [badD_more hb]
      simp only [Bool.false_eq_true, if_false] at h ⊢
      exact ih h
    · rw [hb] at h
      simp only [if_true] at h
      exact absurd h (by omega)
theorem foundD_front {cl : List ClauseD} {facts : List AtomD} {l : List ReasonD} {met : List AtomD} {i : Nat} (k : Nat) :
    foundD cl facts met (l.take k) i = if foundD cl facts met l i = -1 ∨ (i : Int) + k ≤ foundD cl facts met l i then -1 else foundD cl facts met l i := by
  induction l generalizing met i k with
  | nil => simp [foundD]
  | cons r l ih =>
    cases k with
    | zero =>
      simp only [List.take_zero, foundD]
      have hge : ∀ (l : List ReasonD) (met : List AtomD) (j : Nat), foundD cl facts met l j = -1 ∨ (j : Int) ≤ foundD cl facts met l j := by
        intro l
        induction l with
        | nil => intro met j; exact .inl rfl
        | cons r l ih2 =>
          intro met j
          unfold foundD
          split
          · exact .inr (Int.le_refl _)
          · rcases ih2 (r.atom :: met) (j + 1) with h | h
            · exact .inl h
            · exact .inr (by omega)
      have := hge (r :: l) met i
      simp only [foundD] at this
      refine (if_pos ?_).symm
      rcases this with h | h
      · exact .inl h
      · exact .inr (by simpa using h)
    | succ k =>
      rw [List.take_succ_cons]
      simp only [foundD]
      split
      · rw [if_neg]
        omega
      · rw [ih k]
        have e : ((i + 1 : Nat) : Int) + k = (i : Int) + ((k + 1 : Nat) : Int) := by omega
        rw [e]
theorem foundD_range {cl : List ClauseD} {facts : List AtomD} : ∀ (l : List ReasonD) (met : List AtomD) (i : Nat), foundD cl facts met l i = -1 ∨ ((i : Int) ≤ foundD cl facts met l i ∧ foundD cl facts met l i < i + l.length)
  | [], _, _ => .inl rfl
  | r :: l, met, i => by
    unfold foundD
    split
    · exact .inr ⟨Int.le_refl _, by simp; omega⟩
    · rcases foundD_range l (r.atom :: met) (i + 1) with h | ⟨h1, h2⟩
      · exact .inl h
      · exact .inr ⟨by omega, by simp only [List.length_cons]; omega⟩
/-- The place of an atom's reason. -/
def atR (l : List ReasonD) (a : AtomD) : Int := idxP (fun x => decide (x.atom = a)) l
/-- What a body's atom adds to a rank. -/
def upR (l : List ReasonD) (out : List Int) (i : Nat) (m : Int) (a : AtomD) : Int := if 0 ≤ atR l a ∧ atR l a < i then max m (out.getD (atR l a).toNat 0) else m
def rankR (l : List ReasonD) (out : List Int) (i : Nat) (body : List AtomD) : Int := body.foldl (upR l out i) 0 + 1
/-- The ranks of the first i. -/
def ranksD (l : List ReasonD) : Nat → List Int
  | 0 => []
  | i + 1 => ranksD l i ++ [match l[i]? with
    | some r => rankR l (ranksD l i) i r.body
    | none => 0]
theorem ranksD_length (l : List ReasonD) (i : Nat) : (ranksD l i).length = i := by
  induction i with
  | zero => rfl
  | succ i ih => simp [ranksD, ih]
theorem idxP_take {α : Type} (p : α → Bool) (l : List α) (k i : Nat) (hi : i ≤ k) : (0 ≤ idxP p (l.take k) ∧ idxP p (l.take k) < i ↔ 0 ≤ idxP p l ∧ idxP p l < i) ∧ (0 ≤ idxP p l ∧ idxP p l < i → idxP p (l.take k) = idxP p l) := by
  unfold idxP
  rw [List.findIdx?_take]
  cases h : l.findIdx? p with
  | none => simp
  | some j =>
    by_cases hj : j < k
    · have e : (Option.bind (some j) (Option.guard fun i => decide (i < k))) = some j := by simp [Option.guard, hj]
      rw [e]
      simp
    · have e : (Option.bind (some j) (Option.guard fun i => decide (i < k))) = none := by simp [Option.guard, hj]
      rw [e]
      simp only
      omega
theorem ranksD_take (l : List ReasonD) (k i : Nat) (hi : i ≤ k) : ranksD (l.take k) i = ranksD l i := by
  induction i with
  | zero => rfl
  | succ i ih =>
    unfold ranksD
    rw [ih (by omega), List.getElem?_take_of_lt (by omega)]
    congr 2
    cases l[i]? with
    | none => rfl
    | some r =>
      simp only
      unfold rankR
      congr 2
      funext m a
      unfold upR atR
      obtain ⟨h1, h2⟩ := idxP_take (fun x : ReasonD => decide (x.atom = a)) l k i (by omega)
      by_cases hc : 0 ≤ idxP (fun x : ReasonD => decide (x.atom = a)) l ∧ idxP (fun x : ReasonD => decide (x.atom = a)) l < i
      · rw [if_pos hc, if_pos (h1.2 hc), h2 hc]
      · rw [if_neg hc, if_neg (fun h => hc (h1.1 h))]
theorem ranksD_prefix (l : List ReasonD) (i k : Nat) (hk : k ≤ i) : (ranksD l i).take k = ranksD l k := by
  induction i with
  | zero =>
    have : k = 0 := by omega
    subst this
    rfl
  | succ i ih =>
    by_cases h : k = i + 1
    · subst h
      rw [List.take_of_length_le (by rw [ranksD_length]; omega)]
    · conv => lhs; unfold ranksD
      rw [List.take_append_of_le_length (by rw [ranksD_length]; omega)]
      exact ih (by omega)
end Go.Am
namespace Go.Am
set_option linter.unusedVariables false
set_option linter.unusedSimpArgs false
theorem upR_bound {l : List ReasonD} {out : List Int} {i : Nat} (hout : ∀ (k : Nat) x, out[k]? = some x → 0 ≤ x ∧ x ≤ i) {m : Int} {a : AtomD} (hm : 0 ≤ m ∧ m ≤ i) : 0 ≤ upR l out i m a ∧ upR l out i m a ≤ i := by
  unfold upR
  split
  · have : 0 ≤ out.getD (atR l a).toNat 0 ∧ out.getD (atR l a).toNat 0 ≤ i := by
      rw [List.getD_eq_getElem?_getD]
      cases h : out[(atR l a).toNat]? with
      | none => simp
      | some x => exact hout _ _ h
    omega
  · exact hm
theorem fold_bound {l : List ReasonD} {out : List Int} {i : Nat} (hout : ∀ (k : Nat) x, out[k]? = some x → 0 ≤ x ∧ x ≤ i) : ∀ (body : List AtomD) (m : Int), (0 ≤ m ∧ m ≤ i) → 0 ≤ body.foldl (upR l out i) m ∧ body.foldl (upR l out i) m ≤ i
  | [], m, h => h
  | a :: body, m, h => fold_bound hout body _ (upR_bound hout h)
theorem ranksD_bound (l : List ReasonD) (i : Nat) (hi : i ≤ l.length) : ∀ (k : Nat) x, (ranksD l i)[k]? = some x → 1 ≤ x ∧ x ≤ k + 1 := by
  induction i with
  | zero => intro k x hx; simp [ranksD] at hx
  | succ i ih =>
    intro k x hx
    unfold ranksD at hx
    by_cases hk : k < i
    · rw [List.getElem?_append_left (by rw [ranksD_length]; exact hk)] at hx
      exact ih (by omega) k x hx
    · rw [List.getElem?_append_right (by rw [ranksD_length]; omega), ranksD_length] at hx
      have hki : k = i := by
        have := (List.getElem?_eq_some_iff.1 hx).1
        simp at this
        omega
      subst hki
      have hl : l[k]? = some (l[k]'(by omega)) := List.getElem?_eq_getElem (by omega)
      rw [hl] at hx
      simp at hx
      subst hx
      unfold rankR
      have := fold_bound (l := l) (out := ranksD l k) (i := k) (fun j y hy => by
        have h1 := ih (by omega) j y hy
        have h2 := (List.getElem?_eq_some_iff.1 hy).1
        rw [ranksD_length] at h2
        omega) (l[k]'(by omega)).body 0 (by omega)
      omega
/-- The row while the i-th rank is being found. -/
def rowR (l : List ReasonD) (i : Nat) (m : Int) : List Int := ranksD l i ++ m :: List.replicate (l.length - i - 1) 0
theorem rowR_length {l : List ReasonD} {i : Nat} {m : Int} (hi : i < l.length) : (rowR l i m).length = l.length := by
  unfold rowR
  rw [List.length_append, ranksD_length, List.length_cons, List.length_replicate]
  omega
theorem rowR_self (l : List ReasonD) (i : Nat) (m : Int) : (rowR l i m)[i]? = some m := by
  unfold rowR
  rw [List.getElem?_append_right (by rw [ranksD_length]; omega), ranksD_length]
  simp
theorem rowR_old (l : List ReasonD) (i k : Nat) (m : Int) (hk : k < i) : (rowR l i m)[k]? = some ((ranksD l i).getD k 0) := by
  unfold rowR
  rw [List.getElem?_append_left (by rw [ranksD_length]; exact hk), List.getD_eq_getElem?_getD, List.getElem?_eq_getElem (by rw [ranksD_length]; exact hk)]
  rfl
theorem rowR_set (l : List ReasonD) (i : Nat) (m x : Int) : (rowR l i m).set i x = rowR l i x := by
  unfold rowR
  rw [List.set_append, if_neg (by rw [ranksD_length]; omega), ranksD_length]
  simp
theorem rowR_start (l : List ReasonD) (i : Nat) (hi : i < l.length) : ranksD l i ++ List.replicate (l.length - i) 0 = rowR l i 0 := by
  unfold rowR
  rw [show l.length - i = (l.length - i - 1) + 1 by omega, List.replicate_succ]
  rfl
theorem rowR_end (l : List ReasonD) (i : Nat) (r : ReasonD) (hr : l[i]? = some r) (m : Int) (hm : m = r.body.foldl (upR l (ranksD l i) i) 0) : rowR l i (m + 1) = ranksD l (i + 1) ++ List.replicate (l.length - (i + 1)) 0 := by
  subst hm
  conv => rhs; unfold ranksD
  rw [hr, List.append_assoc, List.singleton_append, Nat.sub_add_eq]
  rfl
def ints (l : List Int) : List Value := l.map (Value.int .i64)
theorem ints_get {l : List Int} {i : Nat} {x : Int} (h : l[i]? = some x) : (ints l)[i]? = some (.int .i64 x) := by
  unfold ints
  rw [List.getElem?_map, h]
  rfl
theorem ints_length (l : List Int) : (ints l).length = l.length := List.length_map _
theorem ints_rep (n : Nat) : (List.replicate n [Value.int .i64 0]).flatten = ints (List.replicate n 0) := by
  unfold ints
  induction n with
  | zero => rfl
  | succ n ih => rw [List.replicate_succ, List.flatten_cons, ih, List.replicate_succ]; rfl
theorem sl_ints {h : Heap} {A : Nat} {l : List Int} {u : TypeId} {ro : Bool} (q : Holds h A (.row (ints l) u ro)) (hl : l.length ≤ 1000) : Sl Rep.int h (.slice (some ⟨A, 0, none⟩) l.length l.length) l := by
  refine .inr ⟨A, 0, l.length, _, u, ro, rfl, by unfold maxLen; omega, .inl ⟨by unfold G; omega, Nat.le_refl _⟩, q.lt, q.get, fun i x hx => ⟨[.int .i64 x], ?_, rfl⟩⟩
  have hi := (List.getElem?_eq_some_iff.1 hx).1
  unfold cut
  rw [if_pos (by rw [ints_length]; show 0 + i * 1 + 1 ≤ l.length; omega)]
  have h1 := ints_get hx
  show some (((ints l).drop (0 + i * 1)).take 1) = _
  rw [Nat.zero_add, Nat.mul_one]
  obtain ⟨hh, he⟩ := List.getElem?_eq_some_iff.1 h1
  rw [List.drop_eq_getElem_cons hh, he]
  rfl
theorem store_int {T : Tab} {t u : TypeId} {A j : Nat} {l : List Int} {x : Int} {h1 : Heap} {bs : List Blk} {w : Nat} {K : Value → Heap → Prop} (q : Holds h1 A (.row (ints l) u false)) (hs : sizeA T t = some 1) (hj : j < l.length)
    (hK : ∀ h', Holds h' A (.row (ints (l.set j x)) u false) → Chg A (h1.lay bs w) h' → K undef h') : memE (storeA T t (.pointer (some ⟨A, j, none⟩)) (.int .i64 x) (h1.lay bs w)) K := by
  have hg : (h1.lay bs w).get A = some (.row (ints l) u false) := q.lay bs w
  have hA : A < (h1.lay bs w).size := (q.on bs w).lt
  have hsp : splice (ints l) j [.int .i64 x] = ints (l.set j x) := by
    unfold splice ints
    rw [List.map_set, List.set_eq_take_append_cons_drop, if_pos (by rw [List.length_map]; exact hj)]
    simp
  have he : storeA T t (.pointer (some ⟨A, j, none⟩)) (.int .i64 x) (h1.lay bs w) = some ((h1.lay bs w).set A (.row (ints (l.set j x)) u false)) := by
    unfold storeA
    simp only [hs, Option.bind_some]
    have h1 : (Value.int .i64 x).cells = #[.int .i64 x] := rfl
    rw [h1, if_pos (by rfl)]
    unfold writeA
    rw [hg]
    simp only
    rw [if_pos (by simp only [List.length_cons, List.length_nil, List.all_cons, List.all_nil, Bool.and_true, Bool.and_eq_true, decide_eq_true_eq]; refine ⟨?_, rfl⟩; rw [ints_length]; omega), hsp]
  rw [he]
  refine hK _ ⟨by rw [Heap.size_set]; exact hA, by rw [Heap.get_set _ _ _ _ hA, if_pos rfl]⟩ ⟨by rw [Heap.size_set]; exact Nat.le_refl _, fun B hB hne => by rw [Heap.get_set _ _ _ _ hA, if_neg hne], by rw [Heap.low_set]; omega⟩
theorem load_int {T : Tab} {t u : TypeId} {A j : Nat} {l : List Int} {x : Int} {ro : Bool} {h1 : Heap} {bs : List Blk} {w : Nat} {K : Value → Heap → Prop} (q : Holds h1 A (.row (ints l) u ro)) (hg : aggA T t = some false) (hx : l[j]? = some x)
    (hK : K (.int .i64 x) (h1.lay bs w)) : valE (cellO ((h1.lay bs w).get A) j) (h1.lay bs w) K := by
  have hh : (h1.lay bs w).get A = some (.row (ints l) u ro) := q.lay bs w
  rw [hh]
  show valE ((ints l)[j]?) _ K
  rw [ints_get hx]
  exact hK
end Go.Am
namespace Go.Proofs.Ytompindebndddaa
open Go.Am
set_option linter.unusedSimpArgs false
set_option linter.unusedVariables false
set_option maxRecDepth 100000
set_option maxHeartbeats 0
theorem ok_sameInt (l : List Int) (v u : Value) (h : Heap) (hl : Sl Rep.int h v l) (hu : Sl Rep.int h u l) (hs : l.length ≤ 1000) (K : Value → Heap → Prop)
    (hk : ∀ h', Ext h h' → K (.bool true) h') : Ok Try.prog tab ov 25 [v, u] h K := by
  rw [lay_nil h]
  have z := Ext.refl h
  refine Ok.into rfl tab_fn25 body25 rfl (m := 24) rfl ?_
  simp -implicitDefEqProofs only [syms, symx, Nat.reduceAdd, Nat.reduceMul, Int.reduceLT, Int.reduceLE, Int.reduceAdd, Int.reduceSub, Int.reduceToNat, Int.reduceNeg, reduceIte, Nat.reduceGT, Nat.reduceLT, Nat.reduceLeDiff, code25_0, code25_1, ty25]
  repeat' ((first
    | ((with_reducible first | apply forkD | apply forkB | apply forkN | apply forkNP | apply forkNot) <;> intro _)
    | with_reducible_and_instances refine ln_rule (hl.mono z.inc) ds32 ?_
    | with_reducible_and_instances refine ln_rule (hu.mono z.inc) ds32 ?_
    | ((with_reducible_and_instances apply unop_not); (· rfl))
    | ((with_reducible refine ⟨z.grw.lay _ _, ?_⟩); (intro _ h' zz x _); (try simp only [lay_lay, List.append_nil] at x); (replace z := zz); (clear zz); rw [lay_nil h'])) <;> simp -implicitDefEqProofs only [syms, symx, Nat.reduceAdd, Nat.reduceMul, Int.reduceLT, Int.reduceLE, Int.reduceAdd, Int.reduceSub, Int.reduceToNat, Int.reduceNeg, reduceIte, Nat.reduceGT, Nat.reduceLT, Nat.reduceLeDiff, code25_0, code25_1, ty25, bne_self_eq_false])
  obtain ⟨I1, hI1⟩ : ∃ I : Nat → Env → Heap → Prop, I = (fun n e h' => ∃ (i : Nat) (h1 : Heap), h' = h1.lay [] h1.low ∧ Ext h h1 ∧ (n = l.length - i ∧ i ≤ l.length) ∧ ∃ J : Nat → Value, e = (v :: u :: J 2 :: J 3 :: J 4 :: .int .i64 i :: J 6 :: J 7 :: J 8 :: J 9 :: J 10 :: J 11 :: J 12 :: J 13 :: J 14 :: J 15 :: J 16 :: J 17 :: J 18 :: J 19 :: J 20 :: J 21 :: J 22 :: J 23 :: J 24 :: J 25 :: [])) := ⟨_, rfl⟩
  refine W_loopN I1 _ (by rw [hI1]; exact ⟨0, _, rfl, z, ⟨rfl, by omega⟩, junk (by kernel_rfl)⟩) ?_
  intro n e h' hin
  rw [hI1] at hin
  obtain ⟨i, h1', rfl, z, hinv, J, rfl⟩ := hin
  obtain ⟨rfl, hi⟩ := hinv
  have hw : i < l.length → IntKind.i64.wrap ((i : Int) + 1) = ((i + 1 : Nat) : Int) := fun _ => by rw [wrap_i64 (by omega) (by omega)]; omega
  simp -implicitDefEqProofs only [syms, symx, Nat.reduceAdd, Nat.reduceMul, Int.reduceLT, Int.reduceLE, Int.reduceAdd, Int.reduceSub, Int.reduceToNat, Int.reduceNeg, reduceIte, Nat.reduceGT, Nat.reduceLT, Nat.reduceLeDiff, code25_0, code25_1, ty25]
  repeat' ((first
    | ((with_reducible first | apply forkD | apply forkB | apply forkN | apply forkNP | apply forkNot) <;> intro _)
    | with_reducible_and_instances refine ln_rule (hl.mono z.inc) ds32 ?_
    | with_reducible_and_instances refine ln_rule (hu.mono z.inc) ds32 ?_
    | ((with_reducible_and_instances apply unop_not); (· rfl))
    | ((with_reducible refine ⟨z.grw.lay _ _, ?_⟩); (intro _ h' zz x _); (try simp only [lay_lay, List.append_nil] at x); (replace z := zz); (clear zz); rw [lay_nil h'])) <;> simp -implicitDefEqProofs only [syms, symx, Nat.reduceAdd, Nat.reduceMul, Int.reduceLT, Int.reduceLE, Int.reduceAdd, Int.reduceSub, Int.reduceToNat, Int.reduceNeg, reduceIte, Nat.reduceGT, Nat.reduceLT, Nat.reduceLeDiff, code25_0, code25_1, ty25])
  rotate_left
  · exact hk _ (z.upW _ _ (by omega))
  obtain ⟨r, hr, hr'⟩ := amElem (l := l) (i := i) (by assumption)
  repeat' ((first
    | ((with_reducible first | apply forkD | apply forkB | apply forkN | apply forkNP | apply forkNot) <;> intro _)
    | with_reducible_and_instances refine ixi_at (hl.mono z.inc) ds32 sz3 (by omega) hr (fun p hp => ?_)
    | with_reducible_and_instances refine ixi_at (hu.mono z.inc) ds32 sz3 (by omega) hr (fun p hp => ?_)
    | with_reducible_and_instances refine ld_one hp ag3 ?_
    | ((with_reducible_and_instances apply unop_not); (· rfl))
    | with_reducible refine D25_24 (z.upW _ _ (by omega)) ?_
    | ((with_reducible refine ⟨z.grw.lay _ _, ?_⟩); (intro _ h' zz x _); (try simp only [lay_lay, List.append_nil] at x); (replace z := zz); (clear zz); rw [lay_nil h'])) <;> simp -implicitDefEqProofs only [syms, symx, Nat.reduceAdd, Nat.reduceMul, Int.reduceLT, Int.reduceLE, Int.reduceAdd, Int.reduceSub, Int.reduceToNat, Int.reduceNeg, reduceIte, Nat.reduceGT, Nat.reduceLT, Nat.reduceLeDiff, code25_0, code25_1, ty25, bne_self_eq_false])
  rw [hw (by omega)]
  (rw [hI1]; with_reducible refine loopN_normal (m := _) ?_ ⟨i + 1, _, rfl, z, ⟨rfl, by omega⟩, junk (by kernel_rfl)⟩; omega)
theorem mk_ints (n : Nat) (hn : n ≤ 1000) (h : Heap) : makeSliceA tab 32 (.int .i64 n) (.int .i64 n) h = some (.slice (some ⟨h.size, 0, none⟩) n n, h.push (.row (ints (List.replicate n 0)) 3 false)) := by
  unfold makeSliceA
  simp only [ds32, tab_info3, Option.bind_some]
  rw [if_pos (by omega)]
  rw [zeros_def, Int.toNat_natCast, ints_rep]
theorem ixr_at0 {T : Tab} {t e : TypeId} {v : Value} {h0 h1 : Heap} {kd : IntKind} {i : Int} {bs : List Blk} {w : Nat} {K : Value → Heap → Prop} {l : List ReasonD} {x : ReasonD} (f : Sl Rep.reason h0 v l) (i0 : Inc h0 h1) (hd : T.desc t = some (.slice e)) (hs : sizeA T e = some 13) (hi0 : 0 ≤ i) (hx : l[i.toNat]? = some x)
    (hk : ∀ p b, Sl Rep.atom h0 b x.body → AtP h1 p (x.atom.cells ++ [.int .i64 x.clause, b]) → K p (h1.lay bs w)) : valE (indexAddrA T t v (.int kd i)) (h1.lay bs w) K := by
  have hlt : i < l.length := by
    have := (List.getElem?_eq_some_iff.1 hx).1
    omega
  have key := ix_rule (bs := []) (w := 0) (kd := kd) (K := fun p _ => K p (h1.lay bs w)) f hd hs hi0 hlt (fun x' p cs g1 g2 g3 => by
    rw [hx] at g1
    cases g1
    obtain ⟨b, rfl, hb⟩ := g2
    exact hk p b hb (g3.mono i0))
  revert key
  cases indexAddrA T t v (.int kd i) <;> exact id
theorem ok_ranks (l : List ReasonD) (v : Value) (h : Heap) (hl : Sl Rep.reason h v l) (hs : l.length ≤ 1000) (hbs : ∀ r ∈ l, r.body.length ≤ 100) (K : Value → Heap → Prop)
    (hk : ∀ h' w, Ext h h' → Sl Rep.int h' w (ranksD l l.length) → K w h') : Ok Try.prog tab ov 19 [v] h K := by
  rw [lay_nil h]
  have z := Ext.refl h
  refine Ok.into rfl tab_fn19 body19 rfl (m := 59) rfl ?_
  simp -implicitDefEqProofs only [syms, symx, Nat.reduceAdd, Nat.reduceMul, Int.reduceLT, Int.reduceLE, Int.reduceAdd, Int.reduceSub, Int.reduceToNat, Int.reduceNeg, reduceIte, Nat.reduceGT, Nat.reduceLT, Nat.reduceLeDiff, code19_0, code19_1, code19_2, code19_3, ty19]
  repeat' ((first
    | ((with_reducible first | apply forkD | apply forkB | apply forkN | apply forkNP | apply forkNot) <;> intro _)
    | with_reducible_and_instances refine ln_rule (hl.mono z.inc) ds24 ?_
    | ((with_reducible_and_instances apply unop_not); (· rfl))
    | ((with_reducible_and_instances apply max_int); (· rfl); (· rfl))
    | ((with_reducible refine ⟨z.grw.lay _ _, ?_⟩); (intro _ h' zz x _); (try simp only [lay_lay, List.append_nil] at x); (replace z := zz); (clear zz); rw [lay_nil h'])) <;> simp -implicitDefEqProofs only [syms, symx, Nat.reduceAdd, Nat.reduceMul, Int.reduceLT, Int.reduceLE, Int.reduceAdd, Int.reduceSub, Int.reduceToNat, Int.reduceNeg, reduceIte, Nat.reduceGT, Nat.reduceLT, Nat.reduceLeDiff, code19_0, code19_1, code19_2, code19_3, ty19, mk_ints l.length hs])
  refine W_fold (fun h' x hq => ?_)
  have q0 := hq 0 _ rfl
  clear hq
  (replace z := z.overW x (by (try simp only [lay_size, List.length_cons, List.length_nil]); omega); rw [lay_nil h'])
  obtain ⟨I1, hI1⟩ : ∃ I : Nat → Env → Heap → Prop, I = (fun n e h' => ∃ (i : Nat) (h1 : Heap), h' = h1.lay [] h1.low ∧ Ext h h1 ∧ (n = l.length - i ∧ i ≤ l.length ∧ Holds h1 (h.size + 0) (.row (ints (ranksD l i ++ List.replicate (l.length - i) 0)) 3 false)) ∧ ∃ J : Nat → Value, e = (v :: J 1 :: J 2 :: .slice (some ⟨h.size + 0, 0, none⟩) l.length l.length :: J 4 :: J 5 :: J 6 :: J 7 :: J 8 :: J 9 :: J 10 :: J 11 :: J 12 :: v :: .int .i64 l.length :: .int .i64 i :: J 16 :: J 17 :: J 18 :: J 19 :: J 20 :: J 21 :: J 22 :: J 23 :: J 24 :: J 25 :: J 26 :: J 27 :: J 28 :: J 29 :: J 30 :: J 31 :: J 32 :: J 33 :: J 34 :: J 35 :: J 36 :: J 37 :: J 38 :: J 39 :: J 40 :: J 41 :: J 42 :: J 43 :: J 44 :: J 45 :: J 46 :: J 47 :: J 48 :: J 49 :: J 50 :: J 51 :: J 52 :: J 53 :: J 54 :: J 55 :: J 56 :: J 57 :: J 58 :: J 59 :: [])) := ⟨_, rfl⟩
  refine W_loopN I1 _ (by rw [hI1]; exact ⟨0, _, rfl, z, ⟨rfl, by omega, q0⟩, junk (by kernel_rfl)⟩) ?_
  intro n e h' hin
  rw [hI1] at hin
  obtain ⟨i, h1', rfl, z, hinv, J, rfl⟩ := hin
  clear q0
  obtain ⟨rfl, hi, q0⟩ := hinv
  have hw : IntKind.i64.wrap ((i : Int) + 1) = ((i + 1 : Nat) : Int) := by rw [wrap_i64 (by omega) (by omega)]; omega
  simp -implicitDefEqProofs only [syms, symx, Nat.reduceAdd, Nat.reduceMul, Int.reduceLT, Int.reduceLE, Int.reduceAdd, Int.reduceSub, Int.reduceToNat, Int.reduceNeg, reduceIte, Nat.reduceGT, Nat.reduceLT, Nat.reduceLeDiff, code19_0, code19_1, code19_2, code19_3, ty19]
  refine forkD (fun hlt => ?_) (fun hlt => ?_)
  rotate_left
  · simp -implicitDefEqProofs only [syms, symx, Nat.reduceAdd, Nat.reduceMul, Int.reduceLT, Int.reduceLE, Int.reduceAdd, Int.reduceSub, Int.reduceToNat, Int.reduceNeg, reduceIte, Nat.reduceGT, Nat.reduceLT, Nat.reduceLeDiff, code19_0, code19_1, code19_2, code19_3, ty19]
    repeat' ((first
      | ((with_reducible first | apply forkD | apply forkB | apply forkN | apply forkNP | apply forkNot) <;> intro _)
      | with_reducible_and_instances refine ln_rule (hl.mono z.inc) ds24 ?_
      | ((with_reducible_and_instances apply unop_not); (· rfl))
      | ((with_reducible_and_instances apply max_int); (· rfl); (· rfl))
      | ((with_reducible refine ⟨z.grw.lay _ _, ?_⟩); (intro _ h' zz x _); (try simp only [lay_lay, List.append_nil] at x); (try replace q0 := q0.over x); (replace z := zz); (clear zz); rw [lay_nil h'])) <;> simp -implicitDefEqProofs only [syms, symx, Nat.reduceAdd, Nat.reduceMul, Int.reduceLT, Int.reduceLE, Int.reduceAdd, Int.reduceSub, Int.reduceToNat, Int.reduceNeg, reduceIte, Nat.reduceGT, Nat.reduceLT, Nat.reduceLeDiff, code19_0, code19_1, code19_2, code19_3, ty19])
    obtain rfl : i = l.length := by omega
    rw [Nat.sub_self, List.replicate_zero, List.append_nil] at q0
    have hsl := sl_ints q0 (by rw [ranksD_length]; exact hs)
    rw [ranksD_length] at hsl
    exact hk _ _ (z.upW _ _ (by omega)) (hsl.lay _ _)
  rw [rowR_start l i (by omega)] at q0
  obtain ⟨r, hr, hr'⟩ := amElem (l := l) (i := i) hlt
  have hrb := hbs r (List.mem_of_getElem? hr')
  simp -implicitDefEqProofs only [syms, symx, Nat.reduceAdd, Nat.reduceMul, Int.reduceLT, Int.reduceLE, Int.reduceAdd, Int.reduceSub, Int.reduceToNat, Int.reduceNeg, reduceIte, Nat.reduceGT, Nat.reduceLT, Nat.reduceLeDiff, code19_0, code19_1, code19_2, code19_3, ty19]
  repeat' ((first
    | ((with_reducible first | apply forkD | apply forkB | apply forkN | apply forkNP | apply forkNot) <;> intro _)
    | with_reducible_and_instances refine ixr_at0 hl z.inc ds24 sz41 (by omega) hr (fun p bd hbd hp => ?_)
    | with_reducible_and_instances refine ldr hp ag41 sz41 ?_
    | ((with_reducible_and_instances apply unop_not); (· rfl))
    | ((with_reducible_and_instances apply max_int); (· rfl); (· rfl))
    | ((with_reducible refine ⟨z.grw.lay _ _, ?_⟩); (intro _ h' zz x _); (try simp only [lay_lay, List.append_nil] at x); (try replace q0 := q0.over x); (replace z := zz); (clear zz); rw [lay_nil h'])) <;> simp -implicitDefEqProofs only [syms, symx, Nat.reduceAdd, Nat.reduceMul, Int.reduceLT, Int.reduceLE, Int.reduceAdd, Int.reduceSub, Int.reduceToNat, Int.reduceNeg, reduceIte, Nat.reduceGT, Nat.reduceLT, Nat.reduceLeDiff, code19_0, code19_1, code19_2, code19_3, ty19])
  have hall := one_re (a := r.atom) (n := r.clause) hbd.one
  have hvb : ∀ (h : Heap) (K : Value → Heap → Prop), valE (some bd) h K = K bd h := fun _ _ => rfl
  simp -implicitDefEqProofs only [syms, symx, Nat.reduceAdd, Nat.reduceMul, Int.reduceLT, Int.reduceLE, Int.reduceAdd, Int.reduceSub, Int.reduceToNat, Int.reduceNeg, reduceIte, Nat.reduceGT, Nat.reduceLT, Nat.reduceLeDiff, code19_0, code19_1, code19_2, code19_3, ty19, lay_set, storeO_row, List.all_cons, List.all_nil, one, Bool.and_true, Bool.true_and, Bool.and_self, List.set_cons_zero, List.set_cons_succ, st4, st3, st9, st36, st39, st47, st41, st192, len_re, hall, dec13, drop13, if_true, cell_re2, hvb]
  repeat' ((first
    | ((with_reducible first | apply forkD | apply forkB | apply forkN | apply forkNP | apply forkNot) <;> intro _)
    | with_reducible_and_instances refine ln_rule hbd ds23 ?_
    | ((with_reducible_and_instances apply unop_not); (· rfl))
    | ((with_reducible_and_instances apply max_int); (· rfl); (· rfl))
    | ((with_reducible refine ⟨z.grw.lay _ _, ?_⟩); (intro _ h' zz x _); (try simp only [lay_lay, List.append_nil] at x); (try replace q0 := q0.over x); (replace z := zz); (clear zz); rw [lay_nil h'])) <;> simp -implicitDefEqProofs only [syms, symx, Nat.reduceAdd, Nat.reduceMul, Int.reduceLT, Int.reduceLE, Int.reduceAdd, Int.reduceSub, Int.reduceToNat, Int.reduceNeg, reduceIte, Nat.reduceGT, Nat.reduceLT, Nat.reduceLeDiff, code19_0, code19_1, code19_2, code19_3, ty19, lay_set, storeO_row, List.all_cons, List.all_nil, one, Bool.and_true, Bool.true_and, Bool.and_self, List.set_cons_zero, List.set_cons_succ, st4, st3, st9, st36, st39, st47, st41, st192, len_re, hall, dec13, drop13, if_true, cell_re2, hvb])
  refine W_fold (fun h' x hq => ?_)
  have q9 := hq 0 _ rfl
  clear hq
  (replace z := z.overW x (by (try simp only [lay_size, List.length_cons, List.length_nil]); omega); (try replace q0 := q0.over x); rw [lay_nil h'])
  clear q9
  have hout := ranksD_bound l i (by omega)
  have hout2 : ∀ (k : Nat) x, (ranksD l i)[k]? = some x → 0 ≤ x ∧ x ≤ i := fun k x hx => by
    have h1 := hout k x hx
    have h2 := (List.getElem?_eq_some_iff.1 hx).1
    rw [ranksD_length] at h2
    omega
  obtain ⟨I2, hI2⟩ : ∃ I : Nat → Env → Heap → Prop, I = (fun n e h' => ∃ (j : Nat) (m : Int) (h1 : Heap), h' = h1.lay [] h1.low ∧ Ext h h1 ∧ (n = r.body.length - j ∧ j ≤ r.body.length ∧ m = (r.body.take j).foldl (upR l (ranksD l i) i) 0 ∧ Holds h1 (h.size + 0) (.row (ints (rowR l i m)) 3 false)) ∧ ∃ J : Nat → Value, e = (v :: J 1 :: J 2 :: .slice (some ⟨h.size + 0, 0, none⟩) l.length l.length :: .int .i64 i :: J 5 :: J 6 :: J 7 :: J 8 :: J 9 :: J 10 :: J 11 :: J 12 :: v :: .int .i64 l.length :: .int .i64 i :: J 16 :: J 17 :: J 18 :: J 19 :: J 20 :: bd :: .int .i64 r.body.length :: .int .i64 j :: J 24 :: J 25 :: J 26 :: J 27 :: J 28 :: J 29 :: J 30 :: J 31 :: J 32 :: J 33 :: J 34 :: J 35 :: J 36 :: J 37 :: J 38 :: J 39 :: J 40 :: J 41 :: J 42 :: J 43 :: J 44 :: J 45 :: J 46 :: J 47 :: J 48 :: J 49 :: J 50 :: J 51 :: J 52 :: J 53 :: J 54 :: J 55 :: J 56 :: J 57 :: J 58 :: J 59 :: [])) := ⟨_, rfl⟩
  refine W_loopN I2 _ (by rw [hI2]; exact ⟨0, 0, _, rfl, z, ⟨rfl, by omega, rfl, q0⟩, junk (by kernel_rfl)⟩) ?_
  intro n e h' hin
  rw [hI2] at hin
  obtain ⟨j, m, h2', rfl, z, hinv, J, rfl⟩ := hin
  clear q0
  obtain ⟨rfl, hj, hm, q0⟩ := hinv
  have hmb : 0 ≤ m ∧ m ≤ i := by rw [hm]; exact fold_bound hout2 _ 0 (by omega)
  have hw2 : IntKind.i64.wrap ((j : Int) + 1) = ((j + 1 : Nat) : Int) := by rw [wrap_i64 (by omega) (by omega)]; omega
  have hin : (0 : Int) ≤ (i : Int) ∧ (i : Int) < (l.length : Int) := by omega
  have hgi := ints_get (rowR_self l i m)
  have hz := z.size
  simp -implicitDefEqProofs only [syms, symx, Nat.reduceAdd, Nat.reduceMul, Int.reduceLT, Int.reduceLE, Int.reduceAdd, Int.reduceSub, Int.reduceToNat, Int.reduceNeg, reduceIte, Nat.reduceGT, Nat.reduceLT, Nat.reduceLeDiff, code19_0, code19_1, code19_2, code19_3, ty19]
  refine forkD (fun hlt2 => ?_) (fun hlt2 => ?_)
  rotate_left
  · simp -implicitDefEqProofs only [syms, symx, Nat.reduceAdd, Nat.reduceMul, Int.reduceLT, Int.reduceLE, Int.reduceAdd, Int.reduceSub, Int.reduceToNat, Int.reduceNeg, reduceIte, Nat.reduceGT, Nat.reduceLT, Nat.reduceLeDiff, code19_0, code19_1, code19_2, code19_3, ty19, hin, and_self, if_true, Nat.mul_one, q0.lay, hgi]
    repeat' ((first
      | ((with_reducible first | apply forkD | apply forkB | apply forkN | apply forkNP | apply forkNot) <;> intro _)
      | with_reducible_and_instances refine ln_rule hbd ds23 ?_
      | ((with_reducible_and_instances apply unop_not); (· rfl))
      | ((with_reducible_and_instances apply max_int); (· rfl); (· rfl))
      | ((with_reducible refine ⟨z.grw.lay _ _, ?_⟩); (intro _ h' zz x _); (try simp only [lay_lay, List.append_nil] at x); (try replace q0 := q0.over x); (try replace q9 := q9.over x); (replace z := zz); (clear zz); rw [lay_nil h'])) <;> simp -implicitDefEqProofs only [syms, symx, Nat.reduceAdd, Nat.reduceMul, Int.reduceLT, Int.reduceLE, Int.reduceAdd, Int.reduceSub, Int.reduceToNat, Int.reduceNeg, reduceIte, Nat.reduceGT, Nat.reduceLT, Nat.reduceLeDiff, code19_0, code19_1, code19_2, code19_3, ty19, hin, and_self, if_true, Nat.mul_one, q0.lay, hgi])
    have hwm : IntKind.i64.wrap (m + 1) = m + 1 := wrap_i64 (by omega) (by omega)
    rw [hwm]
    refine store_int q0 sz3 (by rw [rowR_length (by omega)]; omega) (fun h' q0' c => ?_)
    rw [rowR_set, rowR_end l i r hr' m (by rw [hm, List.take_of_length_le (by omega)])] at q0'
    replace z := (z.upW [] h2'.low (by omega)).step c (by omega)
    rw [lay_nil h']
    simp -implicitDefEqProofs only [syms, symx, Nat.reduceAdd, Nat.reduceMul, Int.reduceLT, Int.reduceLE, Int.reduceAdd, Int.reduceSub, Int.reduceToNat, Int.reduceNeg, reduceIte, Nat.reduceGT, Nat.reduceLT, Nat.reduceLeDiff, code19_0, code19_1, code19_2, code19_3, ty19]
    repeat' ((first
      | ((with_reducible first | apply forkD | apply forkB | apply forkN | apply forkNP | apply forkNot) <;> intro _)
      | with_reducible_and_instances refine ln_rule hbd ds23 ?_
      | ((with_reducible_and_instances apply unop_not); (· rfl))
      | ((with_reducible_and_instances apply max_int); (· rfl); (· rfl))
      | ((with_reducible refine ⟨z.grw.lay _ _, ?_⟩); (intro _ h' zz x _); (try simp only [lay_lay, List.append_nil] at x); (try replace q0 := q0.over x); (try replace q9 := q9.over x); (replace z := zz); (clear zz); rw [lay_nil h'])) <;> simp -implicitDefEqProofs only [syms, symx, Nat.reduceAdd, Nat.reduceMul, Int.reduceLT, Int.reduceLE, Int.reduceAdd, Int.reduceSub, Int.reduceToNat, Int.reduceNeg, reduceIte, Nat.reduceGT, Nat.reduceLT, Nat.reduceLeDiff, code19_0, code19_1, code19_2, code19_3, ty19])
    rw [hw]
    (rw [hI1]; with_reducible refine loopN_normal (m := _) ?_ ⟨i + 1, _, rfl, z, ⟨rfl, by omega, q0'⟩, junk (by kernel_rfl)⟩; omega)
  obtain ⟨a, ha, ha'⟩ := amElem (l := r.body) (i := j) hlt2
  simp -implicitDefEqProofs only [syms, symx, Nat.reduceAdd, Nat.reduceMul, Int.reduceLT, Int.reduceLE, Int.reduceAdd, Int.reduceSub, Int.reduceToNat, Int.reduceNeg, reduceIte, Nat.reduceGT, Nat.reduceLT, Nat.reduceLeDiff, code19_0, code19_1, code19_2, code19_3, ty19]
  repeat' ((first
    | ((with_reducible first | apply forkD | apply forkB | apply forkN | apply forkNP | apply forkNot) <;> intro _)
    | with_reducible_and_instances refine ixa_at (hbd.mono z.inc) ds23 sz39 (by omega) ha (fun p hp => ?_)
    | with_reducible_and_instances refine lda hp ag39 sz39 ?_
    | ((with_reducible_and_instances apply unop_not); (· rfl))
    | ((with_reducible_and_instances apply max_int); (· rfl); (· rfl))
    | ((with_reducible refine ⟨z.grw.lay _ _, ?_⟩); (intro _ h' zz x _); (try simp only [lay_lay, List.append_nil] at x); (try replace q0 := q0.over x); (try replace q9 := q9.over x); (replace z := zz); (clear zz); rw [lay_nil h'])) <;> simp -implicitDefEqProofs only [syms, symx, Nat.reduceAdd, Nat.reduceMul, Int.reduceLT, Int.reduceLE, Int.reduceAdd, Int.reduceSub, Int.reduceToNat, Int.reduceNeg, reduceIte, Nat.reduceGT, Nat.reduceLT, Nat.reduceLeDiff, code19_0, code19_1, code19_2, code19_3, ty19])
  simp -implicitDefEqProofs only [syms, symx, Nat.reduceAdd, Nat.reduceMul, Int.reduceLT, Int.reduceLE, Int.reduceAdd, Int.reduceSub, Int.reduceToNat, Int.reduceNeg, reduceIte, Nat.reduceGT, Nat.reduceLT, Nat.reduceLeDiff, code19_0, code19_1, code19_2, code19_3, ty19, lay_set, storeO_row, List.all_cons, List.all_nil, one, Bool.and_true, Bool.true_and, Bool.and_self, List.set_cons_zero, List.set_cons_succ, st4, st3, st9, st36, st39, st47, st41, st192, cells_atom, siz_atom, len_atom, one_atom, drop11, dec11, List.append_nil, if_true, ↓cut_atom, agg_atom, valE_atom]
  repeat' ((first
    | ((with_reducible first | apply forkD | apply forkB | apply forkN | apply forkNP | apply forkNot) <;> intro _)
    | with_reducible_and_instances refine ixa_at (hbd.mono z.inc) ds23 sz39 (by omega) ha (fun p hp => ?_)
    | with_reducible_and_instances refine lda hp ag39 sz39 ?_
    | ((with_reducible_and_instances apply unop_not); (· rfl))
    | ((with_reducible_and_instances apply max_int); (· rfl); (· rfl))
    | ((with_reducible refine ⟨z.grw.lay _ _, ?_⟩); (intro _ h' zz x _); (try simp only [lay_lay, List.append_nil] at x); (try replace q0 := q0.over x); (try replace q9 := q9.over x); (replace z := zz); (clear zz); rw [lay_nil h'])) <;> simp -implicitDefEqProofs only [syms, symx, Nat.reduceAdd, Nat.reduceMul, Int.reduceLT, Int.reduceLE, Int.reduceAdd, Int.reduceSub, Int.reduceToNat, Int.reduceNeg, reduceIte, Nat.reduceGT, Nat.reduceLT, Nat.reduceLeDiff, code19_0, code19_1, code19_2, code19_3, ty19, lay_set, storeO_row, List.all_cons, List.all_nil, one, Bool.and_true, Bool.true_and, Bool.and_self, List.set_cons_zero, List.set_cons_succ, st4, st3, st9, st36, st39, st47, st41, st192, cells_atom, siz_atom, len_atom, one_atom, drop11, dec11, List.append_nil, if_true, ↓cut_atom, agg_atom, valE_atom])
  refine ok_find l v a _ (hl.mono (z.upW _ _ (by omega)).inc) hs _ (fun h' v' x hv' => ?_)
  ((first | ((with_reducible refine KOpsX_call ?_ ?_ ?_); (· exact (by (try simp only [lay_size, List.length_cons, List.length_nil]); have := z.size; omega)); (· first | exact x | simpa only [lay_lay, lay_size, List.append_nil, List.length_cons, List.length_nil, Nat.add_zero] using x)) | skip); replace z := z.overW x (by (try simp only [lay_size, List.length_cons, List.length_nil]); omega); (try replace q0 := q0.over x); rw [lay_nil h'])
  have htk : (r.body.take (j + 1)).foldl (upR l (ranksD l i) i) 0 = upR l (ranksD l i) i m a := by
    rw [List.take_add_one, ha', List.foldl_append, ← hm]
    rfl
  have hany := idx_any (fun x : ReasonD => decide (x.atom = a)) l
  by_cases hat : 0 ≤ atR l a
  rotate_left
  · have h1 : (l.any fun x => decide (x.atom = a)) = false := by
      rw [← hany]
      exact decide_eq_false hat
    rw [h1] at hv'
    simp only [Bool.false_eq_true, if_false] at hv'
    subst hv'
    have hup : upR l (ranksD l i) i m a = m := by unfold upR; rw [if_neg (by omega)]
    rw [hup] at htk
    simp -implicitDefEqProofs only [syms, symx, Nat.reduceAdd, Nat.reduceMul, Int.reduceLT, Int.reduceLE, Int.reduceAdd, Int.reduceSub, Int.reduceToNat, Int.reduceNeg, reduceIte, Nat.reduceGT, Nat.reduceLT, Nat.reduceLeDiff, code19_0, code19_1, code19_2, code19_3, ty19]
    repeat' ((first
      | ((with_reducible first | apply forkD | apply forkB | apply forkN | apply forkNP | apply forkNot) <;> intro _)
      | with_reducible_and_instances refine ixa_at (hbd.mono z.inc) ds23 sz39 (by omega) ha (fun p hp => ?_)
      | with_reducible_and_instances refine lda hp ag39 sz39 ?_
      | ((with_reducible_and_instances apply unop_not); (· rfl))
      | ((with_reducible_and_instances apply max_int); (· rfl); (· rfl))
      | ((with_reducible refine ⟨z.grw.lay _ _, ?_⟩); (intro _ h' zz x _); (try simp only [lay_lay, List.append_nil] at x); (try replace q0 := q0.over x); (replace z := zz); (clear zz); rw [lay_nil h'])) <;> simp -implicitDefEqProofs only [syms, symx, Nat.reduceAdd, Nat.reduceMul, Int.reduceLT, Int.reduceLE, Int.reduceAdd, Int.reduceSub, Int.reduceToNat, Int.reduceNeg, reduceIte, Nat.reduceGT, Nat.reduceLT, Nat.reduceLeDiff, code19_0, code19_1, code19_2, code19_3, ty19])
    rw [hw2]
    (rw [hI2]; with_reducible refine loopN_normal (m := _) ?_ ⟨j + 1, m, _, rfl, z, ⟨rfl, by omega, htk.symm, q0⟩, junk (by kernel_rfl)⟩; omega)
  have h1 : (l.any fun x => decide (x.atom = a)) = true := by
    rw [← hany]
    exact decide_eq_true hat
  rw [h1] at hv'
  simp only [if_true] at hv'
  obtain ⟨k, hkk⟩ := Int.eq_ofNat_of_zero_le hat
  have hkk2 : idxP (fun x : ReasonD => decide (x.atom = a)) l = (k : Int) := hkk
  rw [hkk2] at hv'
  subst hv'
  simp -implicitDefEqProofs only [syms, symx, Nat.reduceAdd, Nat.reduceMul, Int.reduceLT, Int.reduceLE, Int.reduceAdd, Int.reduceSub, Int.reduceToNat, Int.reduceNeg, reduceIte, Nat.reduceGT, Nat.reduceLT, Nat.reduceLeDiff, code19_0, code19_1, code19_2, code19_3, ty19]
  refine forkD (fun hki => ?_) (fun hki => ?_)
  rotate_left
  · simp -implicitDefEqProofs only [syms, symx, Nat.reduceAdd, Nat.reduceMul, Int.reduceLT, Int.reduceLE, Int.reduceAdd, Int.reduceSub, Int.reduceToNat, Int.reduceNeg, reduceIte, Nat.reduceGT, Nat.reduceLT, Nat.reduceLeDiff, code19_0, code19_1, code19_2, code19_3, ty19]
    repeat' ((first
      | ((with_reducible first | apply forkD | apply forkB | apply forkN | apply forkNP | apply forkNot) <;> intro _)
      | with_reducible_and_instances refine ixa_at (hbd.mono z.inc) ds23 sz39 (by omega) ha (fun p hp => ?_)
      | with_reducible_and_instances refine lda hp ag39 sz39 ?_
      | ((with_reducible_and_instances apply unop_not); (· rfl))
      | ((with_reducible_and_instances apply max_int); (· rfl); (· rfl))
      | ((with_reducible refine ⟨z.grw.lay _ _, ?_⟩); (intro _ h' zz x _); (try simp only [lay_lay, List.append_nil] at x); (try replace q0 := q0.over x); (replace z := zz); (clear zz); rw [lay_nil h'])) <;> simp -implicitDefEqProofs only [syms, symx, Nat.reduceAdd, Nat.reduceMul, Int.reduceLT, Int.reduceLE, Int.reduceAdd, Int.reduceSub, Int.reduceToNat, Int.reduceNeg, reduceIte, Nat.reduceGT, Nat.reduceLT, Nat.reduceLeDiff, code19_0, code19_1, code19_2, code19_3, ty19])
    have hup : upR l (ranksD l i) i m a = m := by unfold upR; rw [if_neg (by omega)]
    rw [hup] at htk
    rw [hw2]
    (rw [hI2]; with_reducible refine loopN_normal (m := _) ?_ ⟨j + 1, m, _, rfl, z, ⟨rfl, by omega, htk.symm, q0⟩, junk (by kernel_rfl)⟩; omega)
  have hin2 : (0 : Int) ≤ (k : Int) ∧ (k : Int) < (l.length : Int) := by omega
  have hgk := ints_get (rowR_old l i k m (by omega))
  simp -implicitDefEqProofs only [syms, symx, Nat.reduceAdd, Nat.reduceMul, Int.reduceLT, Int.reduceLE, Int.reduceAdd, Int.reduceSub, Int.reduceToNat, Int.reduceNeg, reduceIte, Nat.reduceGT, Nat.reduceLT, Nat.reduceLeDiff, code19_0, code19_1, code19_2, code19_3, ty19]
  repeat' ((first
    | ((with_reducible first | apply forkD | apply forkB | apply forkN | apply forkNP | apply forkNot) <;> intro _)
    | with_reducible_and_instances refine ixa_at (hbd.mono z.inc) ds23 sz39 (by omega) ha (fun p hp => ?_)
    | with_reducible_and_instances refine lda hp ag39 sz39 ?_
    | ((with_reducible_and_instances apply unop_not); (· rfl))
    | ((with_reducible_and_instances apply max_int); (· rfl); (· rfl))
    | ((with_reducible refine ⟨z.grw.lay _ _, ?_⟩); (intro _ h' zz x _); (try simp only [lay_lay, List.append_nil] at x); (try replace q0 := q0.over x); (replace z := zz); (clear zz); rw [lay_nil h'])) <;> simp -implicitDefEqProofs only [syms, symx, Nat.reduceAdd, Nat.reduceMul, Int.reduceLT, Int.reduceLE, Int.reduceAdd, Int.reduceSub, Int.reduceToNat, Int.reduceNeg, reduceIte, Nat.reduceGT, Nat.reduceLT, Nat.reduceLeDiff, code19_0, code19_1, code19_2, code19_3, ty19])
  refine D19_39 (z.upW _ _ (by omega)) ?_
  simp -implicitDefEqProofs only [syms, symx, Nat.reduceAdd, Nat.reduceMul, Int.reduceLT, Int.reduceLE, Int.reduceAdd, Int.reduceSub, Int.reduceToNat, Int.reduceNeg, reduceIte, Nat.reduceGT, Nat.reduceLT, Nat.reduceLeDiff, code19_0, code19_1, code19_2, code19_3, ty19, hin, hin2, and_self, if_true, Nat.mul_one, q0.lay, hgi, hgk]
  repeat' ((first
    | ((with_reducible first | apply forkD | apply forkB | apply forkN | apply forkNP | apply forkNot) <;> intro _)
    | with_reducible_and_instances refine ixa_at (hbd.mono z.inc) ds23 sz39 (by omega) ha (fun p hp => ?_)
    | with_reducible_and_instances refine lda hp ag39 sz39 ?_
    | ((with_reducible_and_instances apply unop_not); (· rfl))
    | ((with_reducible_and_instances apply max_int); (· rfl); (· rfl))
    | ((with_reducible refine ⟨z.grw.lay _ _, ?_⟩); (intro _ h' zz x _); (try simp only [lay_lay, List.append_nil] at x); (try replace q0 := q0.over x); (replace z := zz); (clear zz); rw [lay_nil h'])) <;> simp -implicitDefEqProofs only [syms, symx, Nat.reduceAdd, Nat.reduceMul, Int.reduceLT, Int.reduceLE, Int.reduceAdd, Int.reduceSub, Int.reduceToNat, Int.reduceNeg, reduceIte, Nat.reduceGT, Nat.reduceLT, Nat.reduceLeDiff, code19_0, code19_1, code19_2, code19_3, ty19, hin, hin2, and_self, if_true, Nat.mul_one, q0.lay, hgi, hgk])
  have hup : (if m < (ranksD l i).getD k 0 then (ranksD l i).getD k 0 else m) = upR l (ranksD l i) i m a := by
    have hup0 : upR l (ranksD l i) i m a = max m ((ranksD l i).getD k 0) := by
      unfold upR
      rw [if_pos ⟨hat, by omega⟩, hkk]
      rfl
    rw [hup0, Int.max_def]
    split <;> split <;> omega
  rw [hup]
  refine store_int q0 sz3 (by rw [rowR_length (by omega)]; omega) (fun h2 q0' c => ?_)
  rw [rowR_set] at q0'
  have hz2 := z.size
  refine KOpsX_chg (A := h.size + 0) (by kernel_rfl) (by rw [lay_size]; omega) (by omega) (by simpa only [lay_lay, lay_size, List.append_nil, List.length_cons, List.length_nil, Nat.add_zero] using c) ?_
  replace z := (z.upW [] (h'.size + 0) (by omega)).step c (by omega)
  rw [lay_nil h2]
  clear q0
  simp -implicitDefEqProofs only [syms, symx, Nat.reduceAdd, Nat.reduceMul, Int.reduceLT, Int.reduceLE, Int.reduceAdd, Int.reduceSub, Int.reduceToNat, Int.reduceNeg, reduceIte, Nat.reduceGT, Nat.reduceLT, Nat.reduceLeDiff, code19_0, code19_1, code19_2, code19_3, ty19]
  repeat' ((first
    | ((with_reducible first | apply forkD | apply forkB | apply forkN | apply forkNP | apply forkNot) <;> intro _)
    | with_reducible_and_instances refine ixa_at (hbd.mono z.inc) ds23 sz39 (by omega) ha (fun p hp => ?_)
    | with_reducible_and_instances refine lda hp ag39 sz39 ?_
    | ((with_reducible_and_instances apply unop_not); (· rfl))
    | ((with_reducible_and_instances apply max_int); (· rfl); (· rfl))
    | with_reducible refine D19_39 (z.upW _ _ (by omega)) ?_
    | ((with_reducible refine ⟨z.grw.lay _ _, ?_⟩); (intro _ h' zz x _); (try simp only [lay_lay, List.append_nil] at x); (try replace q0' := q0'.over x); (replace z := zz); (clear zz); rw [lay_nil h'])) <;> simp -implicitDefEqProofs only [syms, symx, Nat.reduceAdd, Nat.reduceMul, Int.reduceLT, Int.reduceLE, Int.reduceAdd, Int.reduceSub, Int.reduceToNat, Int.reduceNeg, reduceIte, Nat.reduceGT, Nat.reduceLT, Nat.reduceLeDiff, code19_0, code19_1, code19_2, code19_3, ty19])
  rw [hw2]
  (rw [hI2]; with_reducible refine loopN_normal (m := _) ?_ ⟨j + 1, _, _, rfl, z, ⟨rfl, by omega, htk.symm, q0'⟩, junk (by kernel_rfl)⟩; omega)
end Go.Proofs.Ytompindebndddaa

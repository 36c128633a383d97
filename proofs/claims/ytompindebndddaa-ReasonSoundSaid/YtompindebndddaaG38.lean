/- Founded reasons and their ranks: prefixes, and more facts and clauses. No condition. -/
import Derived.Test.YtompindebndddaaG24
import Derived.Test.YtompindebndddaaG25
namespace Go.Am
set_option linter.unusedVariables false
theorem foundD_front {cl : List ClauseD} {facts : List AtomD} {l : List ReasonD} {met : List AtomD} {i : Nat} (k : Nat) :
    foundD cl facts met (l.take k) i = if foundD cl facts met l i = -1 ∨ (i : Int) + k ≤ foundD cl facts met l i then -1 else foundD cl facts met l i := by
  induction l generalizing met i k with
  | nil => simp [foundD]
  | cons r l ih =>
    cases k with
    | zero =>
      simp only [List.take_zero, foundD]
      have hge : ∀ (l : List ReasonD) (met : List AtomD) (j : Nat), foundD cl facts met l j = -1 ∨ (j : Int) ≤ foundD cl facts met l j := by
        intro l
        induction l with
        | nil => intro met j; exact .inl rfl
        | cons r l ih2 =>
          intro met j
          unfold foundD
          split
          · exact .inr (Int.le_refl _)
          · rcases ih2 (r.atom :: met) (j + 1) with h | h
            · exact .inl h
            · exact .inr (by omega)
      have := hge (r :: l) met i
      simp only [foundD] at this
      refine (if_pos ?_).symm
      rcases this with h | h
      · exact .inl h
      · exact .inr (by simpa using h)
    | succ k =>
      rw [List.take_succ_cons]
      simp only [foundD]
      split
      · rw [if_neg]
        omega
      · rw [ih k]
        have e : ((i + 1 : Nat) : Int) + k = (i : Int) + ((k + 1 : Nat) : Int) := by omega
        rw [e]
theorem foundD_range {cl : List ClauseD} {facts : List AtomD} : ∀ (l : List ReasonD) (met : List AtomD) (i : Nat), foundD cl facts met l i = -1 ∨ ((i : Int) ≤ foundD cl facts met l i ∧ foundD cl facts met l i < i + l.length)
  | [], _, _ => .inl rfl
  | r :: l, met, i => by
    unfold foundD
    split
    · exact .inr ⟨Int.le_refl _, by simp; omega⟩
    · rcases foundD_range l (r.atom :: met) (i + 1) with h | ⟨h1, h2⟩
      · exact .inl h
      · exact .inr ⟨by omega, by simp only [List.length_cons]; omega⟩
def atR (l : List ReasonD) (a : AtomD) : Int := idxP (fun x => decide (x.atom = a)) l
def upR (l : List ReasonD) (out : List Int) (i : Nat) (m : Int) (a : AtomD) : Int := if 0 ≤ atR l a ∧ atR l a < i then max m (out.getD (atR l a).toNat 0) else m
def rankR (l : List ReasonD) (out : List Int) (i : Nat) (body : List AtomD) : Int := body.foldl (upR l out i) 0 + 1
def ranksD (l : List ReasonD) : Nat → List Int
  | 0 => []
  | i + 1 => ranksD l i ++ [match l[i]? with
    | some r => rankR l (ranksD l i) i r.body
    | none => 0]
theorem ranksD_length (l : List ReasonD) (i : Nat) : (ranksD l i).length = i := by
  induction i with
  | zero => rfl
  | succ i ih => simp [ranksD, ih]
theorem idxP_take {α : Type} (p : α → Bool) (l : List α) (k i : Nat) (hi : i ≤ k) : (0 ≤ idxP p (l.take k) ∧ idxP p (l.take k) < i ↔ 0 ≤ idxP p l ∧ idxP p l < i) ∧ (0 ≤ idxP p l ∧ idxP p l < i → idxP p (l.take k) = idxP p l) := by
  unfold idxP
  rw [List.findIdx?_take]
  cases h : l.findIdx? p with
  | none => simp
  | some j =>
    by_cases hj : j < k
    · have e : (Option.bind (some j) (Option.guard fun i => decide (i < k))) = some j := by simp [Option.guard, hj]
      rw [e]
      simp
    · have e : (Option.bind (some j) (Option.guard fun i => decide (i < k))) = none := by simp [Option.guard, hj]
      rw [e]
      simp only
      omega
theorem ranksD_prefix (l : List ReasonD) (i k : Nat) (hk : k ≤ i) : (ranksD l i).take k = ranksD l k := by
  induction i with
  | zero =>
    have : k = 0 := by omega
    subst this
    rfl
  | succ i ih =>
    by_cases h : k = i + 1
    · subst h
      rw [List.take_of_length_le (by rw [ranksD_length]; omega)]
    · conv => lhs; unfold ranksD
      rw [List.take_append_of_le_length (by rw [ranksD_length]; omega)]
      exact ih (by omega)
end Go.Am
namespace Go.Am
set_option linter.unusedVariables false
set_option linter.unusedSimpArgs false
theorem upR_bound {l : List ReasonD} {out : List Int} {i : Nat} (hout : ∀ (k : Nat) x, out[k]? = some x → 0 ≤ x ∧ x ≤ i) {m : Int} {a : AtomD} (hm : 0 ≤ m ∧ m ≤ i) : 0 ≤ upR l out i m a ∧ upR l out i m a ≤ i := by
  unfold upR
  split
  · have : 0 ≤ out.getD (atR l a).toNat 0 ∧ out.getD (atR l a).toNat 0 ≤ i := by
      rw [List.getD_eq_getElem?_getD]
      cases h : out[(atR l a).toNat]? with
      | none => simp
      | some x => exact hout _ _ h
    omega
  · exact hm
theorem fold_bound {l : List ReasonD} {out : List Int} {i : Nat} (hout : ∀ (k : Nat) x, out[k]? = some x → 0 ≤ x ∧ x ≤ i) : ∀ (body : List AtomD) (m : Int), (0 ≤ m ∧ m ≤ i) → 0 ≤ body.foldl (upR l out i) m ∧ body.foldl (upR l out i) m ≤ i
  | [], m, h => h
  | a :: body, m, h => fold_bound hout body _ (upR_bound hout h)
theorem ranksD_bound (l : List ReasonD) (i : Nat) (hi : i ≤ l.length) : ∀ (k : Nat) x, (ranksD l i)[k]? = some x → 1 ≤ x ∧ x ≤ k + 1 := by
  induction i with
  | zero => intro k x hx; simp [ranksD] at hx
  | succ i ih =>
    intro k x hx
    unfold ranksD at hx
    by_cases hk : k < i
    · rw [List.getElem?_append_left (by rw [ranksD_length]; exact hk)] at hx
      exact ih (by omega) k x hx
    · rw [List.getElem?_append_right (by rw [ranksD_length]; omega), ranksD_length] at hx
      have hki : k = i := by
        have := (List.getElem?_eq_some_iff.1 hx).1
        simp at this
        omega
      subst hki
      have hl : l[k]? = some (l[k]'(by omega)) := List.getElem?_eq_getElem (by omega)
      rw [hl] at hx
      simp at hx
      subst hx
      unfold rankR
      have := fold_bound (l := l) (out := ranksD l k) (i := k) (fun j y hy => by
        have h1 := ih (by omega) j y hy
        have h2 := (List.getElem?_eq_some_iff.1 hy).1
        rw [ranksD_length] at h2
        omega) (l[k]'(by omega)).body 0 (by omega)
      omega
def rowR (l : List ReasonD) (i : Nat) (m : Int) : List Int := ranksD l i ++ m :: List.replicate (l.length - i - 1) 0
theorem rowR_length {l : List ReasonD} {i : Nat} {m : Int} (hi : i < l.length) : (rowR l i m).length = l.length := by
  unfold rowR
  rw [List.length_append, ranksD_length, List.length_cons, List.length_replicate]
  omega
theorem rowR_self (l : List ReasonD) (i : Nat) (m : Int) : (rowR l i m)[i]? = some m := by
  unfold rowR
  rw [List.getElem?_append_right (by rw [ranksD_length]; omega), ranksD_length]
  simp
theorem rowR_old (l : List ReasonD) (i k : Nat) (m : Int) (hk : k < i) : (rowR l i m)[k]? = some ((ranksD l i).getD k 0) := by
  unfold rowR
  rw [List.getElem?_append_left (by rw [ranksD_length]; exact hk), List.getD_eq_getElem?_getD, List.getElem?_eq_getElem (by rw [ranksD_length]; exact hk)]
  rfl
theorem rowR_set (l : List ReasonD) (i : Nat) (m x : Int) : (rowR l i m).set i x = rowR l i x := by
  unfold rowR
  rw [List.set_append, if_neg (by rw [ranksD_length]; omega), ranksD_length]
  simp
theorem rowR_start (l : List ReasonD) (i : Nat) (hi : i < l.length) : ranksD l i ++ List.replicate (l.length - i) 0 = rowR l i 0 := by
  unfold rowR
  rw [show l.length - i = (l.length - i - 1) + 1 by omega, List.replicate_succ]
  rfl
theorem rowR_end (l : List ReasonD) (i : Nat) (r : ReasonD) (hr : l[i]? = some r) (m : Int) (hm : m = r.body.foldl (upR l (ranksD l i) i) 0) : rowR l i (m + 1) = ranksD l (i + 1) ++ List.replicate (l.length - (i + 1)) 0 := by
  subst hm
  conv => rhs; unfold ranksD
  rw [hr, List.append_assoc, List.singleton_append, Nat.sub_add_eq]
  rfl
def ints (l : List Int) : List Value := l.map (Value.int .i64)
theorem ints_get {l : List Int} {i : Nat} {x : Int} (h : l[i]? = some x) : (ints l)[i]? = some (.int .i64 x) := by
  unfold ints
  rw [List.getElem?_map, h]
  rfl
theorem ints_length (l : List Int) : (ints l).length = l.length := List.length_map _
theorem ints_rep (n : Nat) : (List.replicate n [Value.int .i64 0]).flatten = ints (List.replicate n 0) := by
  unfold ints
  induction n with
  | zero => rfl
  | succ n ih => rw [List.replicate_succ, List.flatten_cons, ih, List.replicate_succ]; rfl
theorem sl_ints {h : Heap} {A : Nat} {l : List Int} {u : TypeId} {ro : Bool} (q : Holds h A (.row (ints l) u ro)) (hl : l.length ≤ 1000) : Sl Rep.int h (.slice (some ⟨A, 0, none⟩) l.length l.length) l := by
  refine .inr ⟨A, 0, l.length, _, u, ro, rfl, by unfold maxLen; omega, .inl ⟨by unfold G; omega, Nat.le_refl _⟩, q.lt, q.get, fun i x hx => ⟨[.int .i64 x], ?_, rfl⟩⟩
  have hi := (List.getElem?_eq_some_iff.1 hx).1
  unfold cut
  rw [if_pos (by rw [ints_length]; show 0 + i * 1 + 1 ≤ l.length; omega)]
  have h1 := ints_get hx
  show some (((ints l).drop (0 + i * 1)).take 1) = _
  rw [Nat.zero_add, Nat.mul_one]
  obtain ⟨hh, he⟩ := List.getElem?_eq_some_iff.1 h1
  rw [List.drop_eq_getElem_cons hh, he]
  rfl
theorem store_int {T : Tab} {t u : TypeId} {A j : Nat} {l : List Int} {x : Int} {h1 : Heap} {bs : List Blk} {w : Nat} {K : Value → Heap → Prop} (q : Holds h1 A (.row (ints l) u false)) (hs : sizeA T t = some 1) (hj : j < l.length)
    (hK : ∀ h', Holds h' A (.row (ints (l.set j x)) u false) → Chg A (h1.lay bs w) h' → K undef h') : memE (storeA T t (.pointer (some ⟨A, j, none⟩)) (.int .i64 x) (h1.lay bs w)) K := by
  have hg : (h1.lay bs w).get A = some (.row (ints l) u false) := q.lay bs w
  have hA : A < (h1.lay bs w).size := (q.on bs w).lt
  have hsp : splice (ints l) j [.int .i64 x] = ints (l.set j x) := by
    unfold splice ints
    rw [List.map_set, List.set_eq_take_append_cons_drop, if_pos (by rw [List.length_map]; exact hj)]
    simp
  have he : storeA T t (.pointer (some ⟨A, j, none⟩)) (.int .i64 x) (h1.lay bs w) = some ((h1.lay bs w).set A (.row (ints (l.set j x)) u false)) := by
    unfold storeA
    simp only [hs, Option.bind_some]
    have h1 : (Value.int .i64 x).cells = #[.int .i64 x] := rfl
    rw [h1, if_pos (by rfl)]
    unfold writeA
    rw [hg]
    simp only
    rw [if_pos (by simp only [List.length_cons, List.length_nil, List.all_cons, List.all_nil, Bool.and_true, Bool.and_eq_true, decide_eq_true_eq]; refine ⟨?_, rfl⟩; rw [ints_length]; omega), hsp]
  rw [he]
  refine hK _ ⟨by rw [Heap.size_set]; exact hA, by rw [Heap.get_set _ _ _ _ hA, if_pos rfl]⟩ ⟨by rw [Heap.size_set]; exact Nat.le_refl _, fun B hB hne => by rw [Heap.get_set _ _ _ _ hA, if_neg hne], by rw [Heap.low_set]; omega⟩
end Go.Am

/- A region that draws its order: the proof. No condition. -/
import Derived.Test.YtpnnbjakbplgeaaGDraw
namespace Go.Am
open Go.RowKit

section
variable {P : Program} {T : Tab} {C : Fn → List Value → Heap → Option (Value × Heap)}

/-- One operation of the run by the text. -/
def StepAt (P : Program) (T : Tab) (C : Fn → List Value → Heap → Option (Value × Heap)) (ops : Array Oper) (o : Oper) (e e1 : Env) (h h1 : Heap) (v : Value) (k : Nat) : Prop :=
  (wantedA ops o e = true ∧ ∃ h2, evalOp P T C e o { h with low := h.size } = some (v, h2) ∧ h1 = { h2 with low := min h.low h2.low } ∧ e1 = put e o.dst v ∧ k = kindA T o e h h2) ∨
  (wantedA ops o e = false ∧ v = undef ∧ h1 = h ∧ e1 = put e o.dst undef ∧ k = 0)

theorem trace_of {ops : Array Oper} : ∀ (l : List Oper) (e e' : Env) (h h' : Heap) (ks : List Nat), evalOpsK P T C ops l e h = some (ks, e', h') →
    ∃ (E : Nat → Env) (H : Nat → Heap) (V : Nat → Value), E 0 = e ∧ H 0 = h ∧ E l.length = e' ∧ H l.length = h' ∧ ks.length = l.length ∧
      ∀ i o, l[i]? = some o → StepAt P T C ops o (E i) (E (i + 1)) (H i) (H (i + 1)) (V i) (ks.getD i 2)
  | [], e, e', h, h', ks, hev => by
    simp only [evalOpsK, Option.some.injEq, Prod.mk.injEq] at hev
    obtain ⟨rfl, rfl, rfl⟩ := hev
    exact ⟨fun _ => e, fun _ => h, fun _ => undef, rfl, rfl, rfl, rfl, rfl, fun i o hi => by simp at hi⟩
  | o :: l, e, e', h, h', ks, hev => by
    have glue : ∀ (e1 : Env) (h1 : Heap) (v : Value) (k : Nat) (ks' : List Nat), evalOpsK P T C ops l e1 h1 = some (ks', e', h') → StepAt P T C ops o e e1 h h1 v k → ks = k :: ks' →
        ∃ (E : Nat → Env) (H : Nat → Heap) (V : Nat → Value), E 0 = e ∧ H 0 = h ∧ E (o :: l).length = e' ∧ H (o :: l).length = h' ∧ ks.length = (o :: l).length ∧
          ∀ i o', (o :: l)[i]? = some o' → StepAt P T C ops o' (E i) (E (i + 1)) (H i) (H (i + 1)) (V i) (ks.getD i 2) := by
      intro e1 h1 v k ks' hr hst hk
      obtain ⟨E, H, V, h1', h2', h3', h4', h5', h6'⟩ := trace_of l e1 e' h1 h' ks' hr
      subst hk
      refine ⟨fun n => match n with | 0 => e | n + 1 => E n, fun n => match n with | 0 => h | n + 1 => H n, fun n => match n with | 0 => v | n + 1 => V n, rfl, rfl, h3', h4', by simp [h5'], ?_⟩
      intro i o' hi
      cases i with
      | zero =>
        simp only [List.getElem?_cons_zero, Option.some.injEq] at hi
        subst hi
        simp only [h1', h2', List.getD_cons_zero]
        exact hst
      | succ i =>
        have := h6' i o' (by simpa using hi)
        simpa using this
    simp only [evalOpsK] at hev
    split at hev
    · rename_i hw
      split at hev
      · rename_i v h2 hr
        simp only [Option.map_eq_some_iff, Prod.exists, Prod.mk.injEq] at hev
        obtain ⟨ks', x1, x2, hr', hk, rfl, rfl⟩ := hev
        exact glue _ _ v _ ks' hr' (.inl ⟨hw, h2, hr, rfl, rfl, rfl⟩) hk.symm
      · cases hev
    · rename_i hw
      simp only [Option.map_eq_some_iff, Prod.exists, Prod.mk.injEq] at hev
      obtain ⟨ks', x1, x2, hr', hk, rfl, rfl⟩ := hev
      exact glue _ _ undef _ ks' hr' (.inr ⟨by simpa using hw, rfl, rfl, rfl, rfl⟩) hk.symm

/-! ### Who comes ahead of whom -/
theorem masks_length : ∀ (l : List Oper) (acc : List Nat), (masks l acc).length = acc.length + l.length
  | [], acc => by simp [masks]
  | o :: l, acc => by simp [masks, masks_length l]; omega
theorem masks_prefix : ∀ (l : List Oper) (acc : List Nat) (k : Nat), k < acc.length → (masks l acc).getD k 0 = acc.getD k 0
  | [], acc, k, _ => rfl
  | o :: l, acc, k, hk => by
    rw [masks, masks_prefix l _ k (by simp; omega)]
    simp [List.getElem?_append_left hk]
theorem masks_at : ∀ (l : List Oper) (acc : List Nat) (t : Nat) (o : Oper), l[t]? = some o → ∃ acc' : List Nat, acc'.length = acc.length + t ∧ (masks l acc).getD (acc.length + t) 0 = edgeMask acc' o ∧ ∀ k, k < acc.length + t → acc'.getD k 0 = (masks l acc).getD k 0
  | [], acc, t, o, h => by simp at h
  | o' :: l, acc, 0, o, h => by
    simp only [List.getElem?_cons_zero, Option.some.injEq] at h
    subst h
    refine ⟨acc, rfl, ?_, fun k hk => ?_⟩
    · rw [masks, Nat.add_zero, masks_prefix l _ acc.length (by simp)]
      simp
    · rw [masks, masks_prefix l _ k (by simp; omega)]
      simp [List.getElem?_append_left (show k < acc.length by omega)]
  | o' :: l, acc, t + 1, o, h => by
    obtain ⟨acc', h1, h2, h3⟩ := masks_at l (acc ++ [edgeMask acc o']) t o (by simpa using h)
    simp only [List.length_append, List.length_singleton] at h1 h2 h3
    rw [show acc.length + (t + 1) = acc.length + 1 + t by omega]
    exact ⟨acc', h1, h2, h3⟩

theorem edgeMask_bit {acc : List Nat} {o : Oper} {i : Nat} (h : (edgeMask acc o).testBit i = true) : ∃ e ∈ o.after.toList, Region.binds .any e = true ∧ (i = e.on ∨ (acc.getD e.on 0).testBit i = true) := by
  have key : ∀ (l : List Edge) (s : Nat), (l.foldl (fun s e => if Region.binds .any e then s ||| 2 ^ e.on ||| acc.getD e.on 0 else s) s).testBit i = true →
      s.testBit i = true ∨ ∃ e ∈ l, Region.binds .any e = true ∧ (i = e.on ∨ (acc.getD e.on 0).testBit i = true) := by
    intro l
    induction l with
    | nil => intro s hs; exact .inl hs
    | cons e l ih =>
      intro s hs
      rw [List.foldl_cons] at hs
      rcases ih _ hs with h1 | ⟨e', h1, h2, h3⟩
      · split at h1
        · rename_i hb
          rw [Nat.testBit_or, Nat.testBit_or, Bool.or_eq_true, Bool.or_eq_true] at h1
          rcases h1 with (h1 | h1) | h1
          · exact .inl h1
          · rw [Nat.testBit_two_pow] at h1
            exact .inr ⟨e, by simp, hb, .inl (of_decide_eq_true h1).symm⟩
          · exact .inr ⟨e, by simp, hb, .inr h1⟩
        · exact .inl h1
      · exact .inr ⟨e', by simp [h1], h2, h3⟩
  rcases key _ 0 h with h1 | h1
  · simp at h1
  · exact h1

/-- What stands ahead of an operation is done, where its nearest ones are. -/
theorem mask_done {ops : Array Oper} {S : Nat → Prop} (hback : ∀ (j : Nat) (o : Oper), ops[j]? = some o → ∀ e ∈ o.after.toList, Region.binds .any e = true → e.on < j)
    (hdown : ∀ (j : Nat) (o : Oper), ops[j]? = some o → S j → ∀ e ∈ o.after.toList, Region.binds .any e = true → S e.on) :
    ∀ (n j : Nat) (o : Oper) (i : Nat), j ≤ n → ops[j]? = some o → (∀ e ∈ o.after.toList, Region.binds .any e = true → S e.on) → ((masks ops.toList []).getD j 0).testBit i = true → S i := by
  intro n
  induction n with
  | zero =>
    intro j o i hj ho hd hb
    obtain ⟨acc', h1, h2, h3⟩ := masks_at ops.toList [] j o (by simpa using ho)
    simp only [List.length_nil, Nat.zero_add] at h1 h2 h3
    rw [h2] at hb
    obtain ⟨e, he, hbd, _⟩ := edgeMask_bit hb
    have := hback j o ho e he hbd
    omega
  | succ n ih =>
    intro j o i hj ho hd hb
    obtain ⟨acc', h1, h2, h3⟩ := masks_at ops.toList [] j o (by simpa using ho)
    simp only [List.length_nil, Nat.zero_add] at h1 h2 h3
    rw [h2] at hb
    obtain ⟨e, he, hbd, hi⟩ := edgeMask_bit hb
    have hlt := hback j o ho e he hbd
    have hS := hd e he hbd
    rcases hi with rfl | hi
    · exact hS
    · rw [h3 e.on hlt] at hi
      have hjs : j < ops.size := (Array.getElem?_eq_some_iff.1 ho).1
      have hoe : ops[e.on]? = some (ops[e.on]'(by omega)) := Array.getElem?_eq_getElem _
      exact ih e.on _ i (by omega) hoe (hdown e.on _ hoe hS) hi

/-! ### The frame, by what is done -/
def eS (e0 : Env) (dst : Nat → Option Tmp) (V : Nat → Value) (S : Nat → Bool) : Nat → Env
  | 0 => e0
  | k + 1 => if S k then put (eS e0 dst V S k) (dst k) (V k) else eS e0 dst V S k

theorem eS_pos {e0 : Env} {dst : Nat → Option Tmp} {V : Nat → Value} {S : Nat → Bool} {k : Nat} (h : S k = true) : eS e0 dst V S (k + 1) = put (eS e0 dst V S k) (dst k) (V k) := by simp only [eS, h, if_true]
theorem eS_neg {e0 : Env} {dst : Nat → Option Tmp} {V : Nat → Value} {S : Nat → Bool} {k : Nat} (h : S k = false) : eS e0 dst V S (k + 1) = eS e0 dst V S k := by simp only [eS, h, Bool.false_eq_true, if_false]
theorem put_length (e : Env) (d : Option Tmp) (v : Value) : (put e d v).length = e.length := by cases d <;> simp [put, Env.length_set]
theorem eS_length (e0 : Env) (dst : Nat → Option Tmp) (V : Nat → Value) (S : Nat → Bool) : ∀ k, (eS e0 dst V S k).length = e0.length
  | 0 => rfl
  | k + 1 => by
    simp only [eS]
    split
    · rw [put_length, eS_length e0 dst V S k]
    · exact eS_length e0 dst V S k
theorem put_get_ne {e : Env} {d : Option Tmp} {v : Value} {t : Nat} (h : d ≠ some t) : (put e d v).get t = e.get t := by
  cases d with
  | none => rfl
  | some d => simp only [put, Env.get_set]; rw [if_neg (fun hh => h (by rw [hh.1]))]
theorem put_get_congr {e e' : Env} (hl : e.length = e'.length) {d : Option Tmp} {v : Value} {t : Nat} (h : e.get t = e'.get t) : (put e d v).get t = (put e' d v).get t := by
  cases d with
  | none => exact h
  | some d => simp only [put, Env.get_set, hl, h]

end
#print axioms mask_done
end Go.Am

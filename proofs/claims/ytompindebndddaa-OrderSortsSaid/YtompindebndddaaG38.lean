/- Atoms of the document's form, and plain ones: their texts tell them apart; lists of such, merged. No condition. -/
import Derived.Test.YtompindebndddaaG33
import Derived.Test.YtompindebndddaaG27
import Derived.Test.YtompindebndddaaG23
import Derived.Test.YtompindebndddaaZK6
namespace Go.Am
set_option linter.unusedVariables false
set_option linter.unusedSimpArgs false
/-- A letter, a digit, a stroke. -/
def okCh (c : Int) : Prop := (97 ≤ c ∧ c ≤ 122) ∨ (65 ≤ c ∧ c ≤ 90) ∨ (48 ≤ c ∧ c ≤ 57) ∨ c = 95
/-- A small letter, a digit, a stroke. -/
def lowCh (c : Int) : Prop := (97 ≤ c ∧ c ≤ 122) ∨ (48 ≤ c ∧ c ≤ 57) ∨ c = 95
def lowName (s : ByteArray) : Prop := 1 ≤ s.size ∧ ∀ i, i < s.size → lowCh (byteAt s i)
def varName (s : ByteArray) : Prop := 1 ≤ s.size ∧ (65 ≤ byteAt s 0 ∧ byteAt s 0 ≤ 90) ∧ ∀ i, i < s.size → okCh (byteAt s i)
/-- A term's name is of its sort. -/
def okTermD (t : TermD) : Prop := if t.v then varName t.s else lowName t.s
structure ValidD (a : AtomD) : Prop where
  says : lowName a.says
  pred : lowName a.pred
  lo : 0 ≤ a.n
  hi : a.n ≤ 4
  terms : ∀ i : Nat, (i : Int) < a.n → okTermD (a.arg i)
  rest : ∀ i : Nat, a.n ≤ (i : Int) → i < 4 → a.arg i = noTermD
/-- A name that begins with a great letter. -/
def greatB (s : ByteArray) : Bool := decide (65 ≤ byteAt s 0) && decide (byteAt s 0 ≤ 90)
structure PlainD (a : AtomD) : Prop where
  says : Word a.says.data.toList
  pred : Word a.pred.data.toList
  lo : 0 ≤ a.n
  hi : a.n ≤ 4
  terms : ∀ i : Nat, (i : Int) < a.n → Word (a.arg i).s.data.toList ∧ (a.arg i).v = greatB (a.arg i).s
  rest : ∀ i : Nat, a.n ≤ (i : Int) → i < 4 → a.arg i = noTermD
theorem byteAt_mem {s : ByteArray} {c : UInt8} (h : c ∈ s.data.toList) : ∃ i, i < s.size ∧ byteAt s i = c.toNat := by
  obtain ⟨i, hi, he⟩ := List.getElem_of_mem h
  have hi' : i < s.size := by rw [← bsz2]; exact hi
  refine ⟨i, hi', ?_⟩
  unfold byteAt
  have : s[i]? = some s[i] := by simp [hi']
  rw [this]
  simp only [Option.getD_some]
  have h2 : s[i] = c := by rw [← he]; rfl
  rw [h2]
theorem word_low {s : ByteArray} (h : lowName s) : Word s.data.toList := by
  intro c hc
  obtain ⟨i, hi, he⟩ := byteAt_mem hc
  have := h.2 i hi
  unfold lowCh at this
  unfold wordB
  omega
theorem word_var {s : ByteArray} (h : varName s) : Word s.data.toList := by
  intro c hc
  obtain ⟨i, hi, he⟩ := byteAt_mem hc
  have := h.2.2 i hi
  unfold okCh at this
  unfold wordB
  omega
theorem ValidD.plain {a : AtomD} (w : ValidD a) : PlainD a := by
  refine ⟨word_low w.says, word_low w.pred, w.lo, w.hi, fun i hi => ?_, w.rest⟩
  have h := w.terms i hi
  unfold okTermD at h
  cases hv : (a.arg i).v
  · rw [hv] at h
    have h : lowName (a.arg i).s := h
    refine ⟨word_low h, ?_⟩
    have := h.2 0 h.1
    unfold lowCh at this
    unfold greatB
    rw [eq_comm, Bool.and_eq_false_iff, decide_eq_false_iff_not, decide_eq_false_iff_not]
    omega
  · rw [hv] at h
    have h : varName (a.arg i).s := h
    refine ⟨word_var h, ?_⟩
    unfold greatB
    rw [decide_eq_true h.2.1.1, decide_eq_true h.2.1.2]
    rfl
/-- All of them plain. -/
def AllP (l : List AtomD) : Prop := ∀ x ∈ l, PlainD x
theorem AllP.sort {l : List AtomD} (h : AllP l) : AllP (sortA l) := fun x hx => h x ((sortA_of l).mem hx)
end Go.Am
namespace Go.Proofs.Ytompindebndddaa
open Go.Am
set_option linter.unusedSimpArgs false
set_option linter.unusedVariables false
set_option maxRecDepth 100000
set_option maxHeartbeats 0
theorem ok_small (c : Int) (h : Heap) (K : Value → Heap → Prop) (h1 : (97 ≤ c ∧ c ≤ 122) → K (.bool true) h) (h2 : ¬ (97 ≤ c ∧ c ≤ 122) → K (.bool false) h) : Ok Try.prog tab ov 143 [.int .u8 c] h K := by
  refine Ok.into rfl tab_fn143 body143 rfl (m := 8) rfl ?_
  simp -implicitDefEqProofs only [syms, symx, Nat.reduceAdd, Nat.reduceMul, Int.reduceLT, Int.reduceLE, Int.reduceAdd, Int.reduceSub, Int.reduceToNat, Int.reduceNeg, reduceIte, Nat.reduceGT, Nat.reduceLT, Nat.reduceLeDiff, code143_0, ty143]
  repeat' (refine forkD (fun c => ?_) (fun c => ?_) <;> simp -implicitDefEqProofs only [syms, symx, Nat.reduceAdd, Nat.reduceMul, Int.reduceLT, Int.reduceLE, Int.reduceAdd, Int.reduceSub, Int.reduceToNat, Int.reduceNeg, reduceIte, Nat.reduceGT, Nat.reduceLT, Nat.reduceLeDiff, code143_0, ty143])
  all_goals first | exact h1 (by omega) | exact h2 (by omega)
theorem ok_great (c : Int) (h : Heap) (K : Value → Heap → Prop) (h1 : (65 ≤ c ∧ c ≤ 90) → K (.bool true) h) (h2 : ¬ (65 ≤ c ∧ c ≤ 90) → K (.bool false) h) : Ok Try.prog tab ov 176 [.int .u8 c] h K := by
  refine Ok.into rfl tab_fn176 body176 rfl (m := 8) rfl ?_
  simp -implicitDefEqProofs only [syms, symx, Nat.reduceAdd, Nat.reduceMul, Int.reduceLT, Int.reduceLE, Int.reduceAdd, Int.reduceSub, Int.reduceToNat, Int.reduceNeg, reduceIte, Nat.reduceGT, Nat.reduceLT, Nat.reduceLeDiff, code176_0, ty176]
  repeat' (refine forkD (fun c => ?_) (fun c => ?_) <;> simp -implicitDefEqProofs only [syms, symx, Nat.reduceAdd, Nat.reduceMul, Int.reduceLT, Int.reduceLE, Int.reduceAdd, Int.reduceSub, Int.reduceToNat, Int.reduceNeg, reduceIte, Nat.reduceGT, Nat.reduceLT, Nat.reduceLeDiff, code176_0, ty176])
  all_goals first | exact h1 (by omega) | exact h2 (by omega)
theorem ok_digit (c : Int) (h : Heap) (K : Value → Heap → Prop) (h1 : (48 ≤ c ∧ c ≤ 57) → K (.bool true) h) (h2 : ¬ (48 ≤ c ∧ c ≤ 57) → K (.bool false) h) : Ok Try.prog tab ov 177 [.int .u8 c] h K := by
  refine Ok.into rfl tab_fn177 body177 rfl (m := 8) rfl ?_
  simp -implicitDefEqProofs only [syms, symx, Nat.reduceAdd, Nat.reduceMul, Int.reduceLT, Int.reduceLE, Int.reduceAdd, Int.reduceSub, Int.reduceToNat, Int.reduceNeg, reduceIte, Nat.reduceGT, Nat.reduceLT, Nat.reduceLeDiff, code177_0, ty177]
  repeat' (refine forkD (fun c => ?_) (fun c => ?_) <;> simp -implicitDefEqProofs only [syms, symx, Nat.reduceAdd, Nat.reduceMul, Int.reduceLT, Int.reduceLE, Int.reduceAdd, Int.reduceSub, Int.reduceToNat, Int.reduceNeg, reduceIte, Nat.reduceGT, Nat.reduceLT, Nat.reduceLeDiff, code177_0, ty177])
  all_goals first | exact h1 (by omega) | exact h2 (by omega)
theorem ok_constant (s : ByteArray) (h : Heap) (K : Value → Heap → Prop) (h1 : lowName s → ∀ h', Ext h h' → K (.bool true) h') (h2 : ∀ h', Ext h h' → K (.bool false) h') : Ok Try.prog tab ov 174 [.string s] h K := by
  rw [lay_nil h]
  have z := Ext.refl h
  refine Ok.into rfl tab_fn174 body174 rfl (m := 40) rfl ?_
  simp -implicitDefEqProofs only [syms, symx, Nat.reduceAdd, Nat.reduceMul, Int.reduceLT, Int.reduceLE, Int.reduceAdd, Int.reduceSub, Int.reduceToNat, Int.reduceNeg, reduceIte, Nat.reduceGT, Nat.reduceLT, Nat.reduceLeDiff, code174_0, code174_1, code174_2, ty174]
  refine forkD (fun c => ?_) (fun c1 => ?_)
  · simp -implicitDefEqProofs only [syms, symx, Nat.reduceAdd, Nat.reduceMul, Int.reduceLT, Int.reduceLE, Int.reduceAdd, Int.reduceSub, Int.reduceToNat, Int.reduceNeg, reduceIte, Nat.reduceGT, Nat.reduceLT, Nat.reduceLeDiff, code174_0, code174_1, code174_2, ty174]
    exact h2 _ (z.upW _ _ (by omega))
  simp -implicitDefEqProofs only [syms, symx, Nat.reduceAdd, Nat.reduceMul, Int.reduceLT, Int.reduceLE, Int.reduceAdd, Int.reduceSub, Int.reduceToNat, Int.reduceNeg, reduceIte, Nat.reduceGT, Nat.reduceLT, Nat.reduceLeDiff, code174_0, code174_1, code174_2, ty174]
  refine forkD (fun c => ?_) (fun c2 => ?_)
  · simp -implicitDefEqProofs only [syms, symx, Nat.reduceAdd, Nat.reduceMul, Int.reduceLT, Int.reduceLE, Int.reduceAdd, Int.reduceSub, Int.reduceToNat, Int.reduceNeg, reduceIte, Nat.reduceGT, Nat.reduceLT, Nat.reduceLeDiff, code174_0, code174_1, code174_2, ty174]
    exact h2 _ (z.upW _ _ (by omega))
  simp -implicitDefEqProofs only [syms, symx, Nat.reduceAdd, Nat.reduceMul, Int.reduceLT, Int.reduceLE, Int.reduceAdd, Int.reduceSub, Int.reduceToNat, Int.reduceNeg, reduceIte, Nat.reduceGT, Nat.reduceLT, Nat.reduceLeDiff, code174_0, code174_1, code174_2, ty174]
  refine index_str Try.underlying9 rfl rfl (by omega) (by omega) ?_
  simp -implicitDefEqProofs only [syms, symx, Nat.reduceAdd, Nat.reduceMul, Int.reduceLT, Int.reduceLE, Int.reduceAdd, Int.reduceSub, Int.reduceToNat, Int.reduceNeg, reduceIte, Nat.reduceGT, Nat.reduceLT, Nat.reduceLeDiff, code174_0, code174_1, code174_2, ty174]
  refine forkB (fun c => ?_) (fun c => ?_)
  · simp -implicitDefEqProofs only [syms, symx, Nat.reduceAdd, Nat.reduceMul, Int.reduceLT, Int.reduceLE, Int.reduceAdd, Int.reduceSub, Int.reduceToNat, Int.reduceNeg, reduceIte, Nat.reduceGT, Nat.reduceLT, Nat.reduceLeDiff, code174_0, code174_1, code174_2, ty174]
    exact h2 _ (z.upW _ _ (by omega))
  simp -implicitDefEqProofs only [syms, symx, Nat.reduceAdd, Nat.reduceMul, Int.reduceLT, Int.reduceLE, Int.reduceAdd, Int.reduceSub, Int.reduceToNat, Int.reduceNeg, reduceIte, Nat.reduceGT, Nat.reduceLT, Nat.reduceLeDiff, code174_0, code174_1, code174_2, ty174]
  repeat' ((first
    | ((with_reducible first | apply forkD | apply forkB | apply forkN | apply forkNP | apply forkNot) <;> intro _)
    | ((with_reducible_and_instances apply index_str); (· exact Try.underlying9); (· rfl); (· rfl); (· omega); (· first | omega | exact str_pos (by assumption)))
    | ((with_reducible_and_instances apply unop_not); (· rfl))) <;> simp -implicitDefEqProofs only [syms, symx, Nat.reduceAdd, Nat.reduceMul, Int.reduceLT, Int.reduceLE, Int.reduceAdd, Int.reduceSub, Int.reduceToNat, Int.reduceNeg, reduceIte, Nat.reduceGT, Nat.reduceLT, Nat.reduceLeDiff, code174_0, code174_1, code174_2, ty174])
  obtain ⟨I1, hI1⟩ : ∃ I : Nat → Env → Heap → Prop, I = (fun n e h' => ∃ (i : Nat) (h1 : Heap), h' = h1.lay [] h1.low ∧ Ext h h1 ∧ (n = s.size - i ∧ i ≤ s.size ∧ ∀ j, j < i → lowCh (byteAt s j)) ∧ ∃ J : Nat → Value, e = (.string s :: J 1 :: J 2 :: .int .i64 i :: J 4 :: J 5 :: J 6 :: J 7 :: J 8 :: J 9 :: J 10 :: J 11 :: J 12 :: J 13 :: J 14 :: J 15 :: J 16 :: J 17 :: J 18 :: J 19 :: J 20 :: J 21 :: J 22 :: J 23 :: J 24 :: J 25 :: J 26 :: J 27 :: J 28 :: J 29 :: J 30 :: J 31 :: J 32 :: J 33 :: J 34 :: J 35 :: J 36 :: J 37 :: J 38 :: J 39 :: J 40 :: [])) := ⟨_, rfl⟩
  refine W_loopN I1 _ (by rw [hI1]; exact ⟨0, _, rfl, z, ⟨rfl, by omega, fun j hj => by omega⟩, junk (by kernel_rfl)⟩) ?_
  intro n e h' hin
  rw [hI1] at hin
  obtain ⟨i, h1', rfl, z, hinv, J, rfl⟩ := hin
  obtain ⟨rfl, hi, hall⟩ := hinv
  have hw : IntKind.i64.wrap ((i : Int) + 1) = ((i + 1 : Nat) : Int) := by rw [wrap_i64 (by omega) (by omega)]; omega
  simp -implicitDefEqProofs only [syms, symx, Nat.reduceAdd, Nat.reduceMul, Int.reduceLT, Int.reduceLE, Int.reduceAdd, Int.reduceSub, Int.reduceToNat, Int.reduceNeg, reduceIte, Nat.reduceGT, Nat.reduceLT, Nat.reduceLeDiff, code174_0, code174_1, code174_2, ty174, hw]
  repeat' ((first
    | ((with_reducible first | apply forkD | apply forkB | apply forkN | apply forkNP | apply forkNot) <;> intro _)
    | with_reducible_and_instances refine ok_small _ _ _ (fun _ => ?_) (fun _ => ?_)
    | with_reducible_and_instances refine ok_digit _ _ _ (fun _ => ?_) (fun _ => ?_)
    | with_reducible_and_instances refine ok_great _ _ _ (fun _ => ?_) (fun _ => ?_)
    | ((with_reducible_and_instances apply index_str); (· exact Try.underlying9); (· rfl); (· rfl); (· omega); (· first | omega | exact str_pos (by assumption)))
    | ((with_reducible_and_instances apply unop_not); (· rfl))) <;> simp -implicitDefEqProofs only [syms, symx, Nat.reduceAdd, Nat.reduceMul, Int.reduceLT, Int.reduceLE, Int.reduceAdd, Int.reduceSub, Int.reduceToNat, Int.reduceNeg, reduceIte, Nat.reduceGT, Nat.reduceLT, Nat.reduceLeDiff, code174_0, code174_1, code174_2, ty174, hw])
  all_goals first
    | with_reducible exact h2 _ (z.upW _ _ (by omega))
    | (with_reducible refine h1 ?_ _ (z.upW _ _ (by omega))
       exact ⟨by omega, fun j hj => hall j (by omega)⟩)
    | (have hnx : ∀ j, j < i + 1 → lowCh (byteAt s j) := by
         intro j hj
         by_cases hji : j < i
         · exact hall j hji
         · have : j = i := by omega
           subst this
           unfold lowCh
           omega
       (rw [hI1]; with_reducible refine loopN_normal (m := _) ?_ ⟨i + 1, _, rfl, z, ⟨rfl, by omega, hnx⟩, junk (by kernel_rfl)⟩; omega))
theorem ok_variable (s : ByteArray) (h : Heap) (K : Value → Heap → Prop) (h1 : varName s → ∀ h', Ext h h' → K (.bool true) h') (h2 : ∀ h', Ext h h' → K (.bool false) h') : Ok Try.prog tab ov 144 [.string s] h K := by
  rw [lay_nil h]
  have z := Ext.refl h
  refine Ok.into rfl tab_fn144 body144 rfl (m := 48) rfl ?_
  simp -implicitDefEqProofs only [syms, symx, Nat.reduceAdd, Nat.reduceMul, Int.reduceLT, Int.reduceLE, Int.reduceAdd, Int.reduceSub, Int.reduceToNat, Int.reduceNeg, reduceIte, Nat.reduceGT, Nat.reduceLT, Nat.reduceLeDiff, code144_0, code144_1, code144_2, ty144]
  refine forkD (fun c => ?_) (fun c1 => ?_)
  · simp -implicitDefEqProofs only [syms, symx, Nat.reduceAdd, Nat.reduceMul, Int.reduceLT, Int.reduceLE, Int.reduceAdd, Int.reduceSub, Int.reduceToNat, Int.reduceNeg, reduceIte, Nat.reduceGT, Nat.reduceLT, Nat.reduceLeDiff, code144_0, code144_1, code144_2, ty144]
    exact h2 _ (z.upW _ _ (by omega))
  simp -implicitDefEqProofs only [syms, symx, Nat.reduceAdd, Nat.reduceMul, Int.reduceLT, Int.reduceLE, Int.reduceAdd, Int.reduceSub, Int.reduceToNat, Int.reduceNeg, reduceIte, Nat.reduceGT, Nat.reduceLT, Nat.reduceLeDiff, code144_0, code144_1, code144_2, ty144]
  refine forkD (fun c => ?_) (fun c2 => ?_)
  · simp -implicitDefEqProofs only [syms, symx, Nat.reduceAdd, Nat.reduceMul, Int.reduceLT, Int.reduceLE, Int.reduceAdd, Int.reduceSub, Int.reduceToNat, Int.reduceNeg, reduceIte, Nat.reduceGT, Nat.reduceLT, Nat.reduceLeDiff, code144_0, code144_1, code144_2, ty144]
    exact h2 _ (z.upW _ _ (by omega))
  simp -implicitDefEqProofs only [syms, symx, Nat.reduceAdd, Nat.reduceMul, Int.reduceLT, Int.reduceLE, Int.reduceAdd, Int.reduceSub, Int.reduceToNat, Int.reduceNeg, reduceIte, Nat.reduceGT, Nat.reduceLT, Nat.reduceLeDiff, code144_0, code144_1, code144_2, ty144]
  refine index_str Try.underlying9 rfl rfl (by omega) (by omega) ?_
  simp -implicitDefEqProofs only [syms, symx, Nat.reduceAdd, Nat.reduceMul, Int.reduceLT, Int.reduceLE, Int.reduceAdd, Int.reduceSub, Int.reduceToNat, Int.reduceNeg, reduceIte, Nat.reduceGT, Nat.reduceLT, Nat.reduceLeDiff, code144_0, code144_1, code144_2, ty144]
  refine ok_great _ _ _ (fun cg => ?_) (fun cg => ?_)
  rotate_left
  · simp -implicitDefEqProofs only [syms, symx, Nat.reduceAdd, Nat.reduceMul, Int.reduceLT, Int.reduceLE, Int.reduceAdd, Int.reduceSub, Int.reduceToNat, Int.reduceNeg, reduceIte, Nat.reduceGT, Nat.reduceLT, Nat.reduceLeDiff, code144_0, code144_1, code144_2, ty144]
    repeat' ((first
      | ((with_reducible first | apply forkD | apply forkB | apply forkN | apply forkNP | apply forkNot) <;> intro _)
      | with_reducible_and_instances refine ok_small _ _ _ (fun _ => ?_) (fun _ => ?_)
      | with_reducible_and_instances refine ok_digit _ _ _ (fun _ => ?_) (fun _ => ?_)
      | with_reducible_and_instances refine ok_great _ _ _ (fun _ => ?_) (fun _ => ?_)
      | ((with_reducible_and_instances apply index_str); (· exact Try.underlying9); (· rfl); (· rfl); (· omega); (· first | omega | exact str_pos (by assumption)))
      | ((with_reducible_and_instances apply unop_not); (· rfl))) <;> simp -implicitDefEqProofs only [syms, symx, Nat.reduceAdd, Nat.reduceMul, Int.reduceLT, Int.reduceLE, Int.reduceAdd, Int.reduceSub, Int.reduceToNat, Int.reduceNeg, reduceIte, Nat.reduceGT, Nat.reduceLT, Nat.reduceLeDiff, code144_0, code144_1, code144_2, ty144])
    exact h2 _ (z.upW _ _ (by omega))
  simp -implicitDefEqProofs only [syms, symx, Nat.reduceAdd, Nat.reduceMul, Int.reduceLT, Int.reduceLE, Int.reduceAdd, Int.reduceSub, Int.reduceToNat, Int.reduceNeg, reduceIte, Nat.reduceGT, Nat.reduceLT, Nat.reduceLeDiff, code144_0, code144_1, code144_2, ty144]
  repeat' ((first
    | ((with_reducible first | apply forkD | apply forkB | apply forkN | apply forkNP | apply forkNot) <;> intro _)
    | with_reducible_and_instances refine ok_small _ _ _ (fun _ => ?_) (fun _ => ?_)
    | with_reducible_and_instances refine ok_digit _ _ _ (fun _ => ?_) (fun _ => ?_)
    | with_reducible_and_instances refine ok_great _ _ _ (fun _ => ?_) (fun _ => ?_)
    | ((with_reducible_and_instances apply index_str); (· exact Try.underlying9); (· rfl); (· rfl); (· omega); (· first | omega | exact str_pos (by assumption)))
    | ((with_reducible_and_instances apply unop_not); (· rfl))) <;> simp -implicitDefEqProofs only [syms, symx, Nat.reduceAdd, Nat.reduceMul, Int.reduceLT, Int.reduceLE, Int.reduceAdd, Int.reduceSub, Int.reduceToNat, Int.reduceNeg, reduceIte, Nat.reduceGT, Nat.reduceLT, Nat.reduceLeDiff, code144_0, code144_1, code144_2, ty144])
  obtain ⟨I1, hI1⟩ : ∃ I : Nat → Env → Heap → Prop, I = (fun n e h' => ∃ (i : Nat) (h1 : Heap), h' = h1.lay [] h1.low ∧ Ext h h1 ∧ (n = s.size - i ∧ i ≤ s.size ∧ ∀ j, j < i → okCh (byteAt s j)) ∧ ∃ J : Nat → Value, e = (.string s :: J 1 :: J 2 :: .int .i64 i :: J 4 :: J 5 :: J 6 :: J 7 :: J 8 :: J 9 :: J 10 :: J 11 :: J 12 :: J 13 :: J 14 :: J 15 :: J 16 :: J 17 :: J 18 :: J 19 :: J 20 :: J 21 :: J 22 :: J 23 :: J 24 :: J 25 :: J 26 :: J 27 :: J 28 :: J 29 :: J 30 :: J 31 :: J 32 :: J 33 :: J 34 :: J 35 :: J 36 :: J 37 :: J 38 :: J 39 :: J 40 :: J 41 :: J 42 :: J 43 :: J 44 :: J 45 :: J 46 :: J 47 :: J 48 :: [])) := ⟨_, rfl⟩
  refine W_loopN I1 _ (by rw [hI1]; exact ⟨0, _, rfl, z, ⟨rfl, by omega, fun j hj => by omega⟩, junk (by kernel_rfl)⟩) ?_
  intro n e h' hin
  rw [hI1] at hin
  obtain ⟨i, h1', rfl, z, hinv, J, rfl⟩ := hin
  obtain ⟨rfl, hi, hall⟩ := hinv
  have hw : IntKind.i64.wrap ((i : Int) + 1) = ((i + 1 : Nat) : Int) := by rw [wrap_i64 (by omega) (by omega)]; omega
  simp -implicitDefEqProofs only [syms, symx, Nat.reduceAdd, Nat.reduceMul, Int.reduceLT, Int.reduceLE, Int.reduceAdd, Int.reduceSub, Int.reduceToNat, Int.reduceNeg, reduceIte, Nat.reduceGT, Nat.reduceLT, Nat.reduceLeDiff, code144_0, code144_1, code144_2, ty144, hw]
  repeat' ((first
    | ((with_reducible first | apply forkD | apply forkB | apply forkN | apply forkNP | apply forkNot) <;> intro _)
    | with_reducible_and_instances refine ok_small _ _ _ (fun _ => ?_) (fun _ => ?_)
    | with_reducible_and_instances refine ok_digit _ _ _ (fun _ => ?_) (fun _ => ?_)
    | with_reducible_and_instances refine ok_great _ _ _ (fun _ => ?_) (fun _ => ?_)
    | ((with_reducible_and_instances apply index_str); (· exact Try.underlying9); (· rfl); (· rfl); (· omega); (· first | omega | exact str_pos (by assumption)))
    | ((with_reducible_and_instances apply unop_not); (· rfl))) <;> simp -implicitDefEqProofs only [syms, symx, Nat.reduceAdd, Nat.reduceMul, Int.reduceLT, Int.reduceLE, Int.reduceAdd, Int.reduceSub, Int.reduceToNat, Int.reduceNeg, reduceIte, Nat.reduceGT, Nat.reduceLT, Nat.reduceLeDiff, code144_0, code144_1, code144_2, ty144, hw])
  all_goals first
    | with_reducible exact h2 _ (z.upW _ _ (by omega))
    | (with_reducible refine h1 ?_ _ (z.upW _ _ (by omega))
       exact ⟨by omega, by simpa using cg, fun j hj => hall j (by omega)⟩)
    | (have hnx : ∀ j, j < i + 1 → okCh (byteAt s j) := by
         intro j hj
         by_cases hji : j < i
         · exact hall j hji
         · have : j = i := by omega
           subst this
           unfold okCh
           omega
       (rw [hI1]; with_reducible refine loopN_normal (m := _) ?_ ⟨i + 1, _, rfl, z, ⟨rfl, by omega, hnx⟩, junk (by kernel_rfl)⟩; omega))
theorem ok_reserved (s : ByteArray) (h : Heap) (K : Value → Heap → Prop) (hk : ∀ b h', Ext h h' → K (.bool b) h') : Ok Try.prog tab ov 175 [.string s] h K := by
  rw [lay_nil h]
  have z := Ext.refl h
  refine Ok.into rfl tab_fn175 body175 rfl (m := 17) rfl ?_
  simp -implicitDefEqProofs only [syms, symx, Nat.reduceAdd, Nat.reduceMul, Int.reduceLT, Int.reduceLE, Int.reduceAdd, Int.reduceSub, Int.reduceToNat, Int.reduceNeg, reduceIte, Nat.reduceGT, Nat.reduceLT, Nat.reduceLeDiff, code175_0, code175_1, ty175, code210_0, ty210]
  refine Ok.into rfl tab_fn210 body210 rfl (m := 2) rfl ?_
  simp -implicitDefEqProofs only [syms, symx, Nat.reduceAdd, Nat.reduceMul, Int.reduceLT, Int.reduceLE, Int.reduceAdd, Int.reduceSub, Int.reduceToNat, Int.reduceNeg, reduceIte, Nat.reduceGT, Nat.reduceLT, Nat.reduceLeDiff, code175_0, code175_1, ty175, code210_0, ty210]
  repeat' ((first
    | ((with_reducible first | apply forkD | apply forkB | apply forkN | apply forkNP | apply forkNot) <;> intro _)
    | with_reducible_and_instances refine W_unroll ?_
    | ((with_reducible_and_instances apply unop_not); (· rfl))) <;> simp -implicitDefEqProofs only [syms, symx, Nat.reduceAdd, Nat.reduceMul, Int.reduceLT, Int.reduceLE, Int.reduceAdd, Int.reduceSub, Int.reduceToNat, Int.reduceNeg, reduceIte, Nat.reduceGT, Nat.reduceLT, Nat.reduceLeDiff, code175_0, code175_1, ty175, code210_0, ty210])
  all_goals exact hk _ _ (z.upW _ _ (by omega))
theorem ok_const (s : ByteArray) (h : Heap) (K : Value → Heap → Prop) (h1 : lowName s → ∀ h', Ext h h' → K (.bool true) h') (h2 : ∀ h', Ext h h' → K (.bool false) h') : Ok Try.prog tab ov 142 [.string s] h K := by
  rw [lay_nil h]
  have z := Ext.refl h
  refine Ok.into rfl tab_fn142 body142 rfl (m := 9) rfl ?_
  simp -implicitDefEqProofs only [syms, symx, Nat.reduceAdd, Nat.reduceMul, Int.reduceLT, Int.reduceLE, Int.reduceAdd, Int.reduceSub, Int.reduceToNat, Int.reduceNeg, reduceIte, Nat.reduceGT, Nat.reduceLT, Nat.reduceLeDiff, code142_0, ty142]
  refine ok_constant _ _ _ (fun hs h' x => ?_) (fun h' x => ?_)
  · ((skip); replace z := z.overW x (by (try simp only [lay_size, List.length_cons, List.length_nil]); omega); rw [lay_nil h'])
    simp -implicitDefEqProofs only [syms, symx, Nat.reduceAdd, Nat.reduceMul, Int.reduceLT, Int.reduceLE, Int.reduceAdd, Int.reduceSub, Int.reduceToNat, Int.reduceNeg, reduceIte, Nat.reduceGT, Nat.reduceLT, Nat.reduceLeDiff, code142_0, ty142]
    refine ok_reserved _ _ _ (fun b h' x => ?_)
    ((skip); replace z := z.overW x (by (try simp only [lay_size, List.length_cons, List.length_nil]); omega); rw [lay_nil h'])
    cases b
    all_goals
      simp -implicitDefEqProofs only [syms, symx, Nat.reduceAdd, Nat.reduceMul, Int.reduceLT, Int.reduceLE, Int.reduceAdd, Int.reduceSub, Int.reduceToNat, Int.reduceNeg, reduceIte, Nat.reduceGT, Nat.reduceLT, Nat.reduceLeDiff, code142_0, ty142]
      repeat' ((first
        | ((with_reducible first | apply forkD | apply forkB | apply forkN | apply forkNP | apply forkNot) <;> intro _)
        | with_reducible_and_instances refine W_unroll ?_
        | ((with_reducible_and_instances apply unop_not); (· rfl))) <;> simp -implicitDefEqProofs only [syms, symx, Nat.reduceAdd, Nat.reduceMul, Int.reduceLT, Int.reduceLE, Int.reduceAdd, Int.reduceSub, Int.reduceToNat, Int.reduceNeg, reduceIte, Nat.reduceGT, Nat.reduceLT, Nat.reduceLeDiff, code142_0, ty142])
      first
        | with_reducible exact h1 hs _ (z.upW _ _ (by omega))
        | with_reducible exact h2 _ (z.upW _ _ (by omega))
  · ((skip); replace z := z.overW x (by (try simp only [lay_size, List.length_cons, List.length_nil]); omega); rw [lay_nil h'])
    simp -implicitDefEqProofs only [syms, symx, Nat.reduceAdd, Nat.reduceMul, Int.reduceLT, Int.reduceLE, Int.reduceAdd, Int.reduceSub, Int.reduceToNat, Int.reduceNeg, reduceIte, Nat.reduceGT, Nat.reduceLT, Nat.reduceLeDiff, code142_0, ty142]
    exact h2 _ (z.upW _ _ (by omega))
theorem ok_principal (s : ByteArray) (h : Heap) (K : Value → Heap → Prop) (h1 : lowName s → ∀ h', Ext h h' → K (.bool true) h') (h2 : ∀ h', Ext h h' → K (.bool false) h') : Ok Try.prog tab ov 86 [.string s] h K := by
  rw [lay_nil h]
  have z := Ext.refl h
  refine Ok.into rfl tab_fn86 body86 rfl (m := 9) rfl ?_
  simp -implicitDefEqProofs only [syms, symx, Nat.reduceAdd, Nat.reduceMul, Int.reduceLT, Int.reduceLE, Int.reduceAdd, Int.reduceSub, Int.reduceToNat, Int.reduceNeg, reduceIte, Nat.reduceGT, Nat.reduceLT, Nat.reduceLeDiff, code86_0, ty86]
  refine ok_const _ _ _ (fun hs h' x => ?_) (fun h' x => ?_)
  · ((skip); replace z := z.overW x (by (try simp only [lay_size, List.length_cons, List.length_nil]); omega); rw [lay_nil h'])
    have := hs.1
    simp -implicitDefEqProofs only [syms, symx, Nat.reduceAdd, Nat.reduceMul, Int.reduceLT, Int.reduceLE, Int.reduceAdd, Int.reduceSub, Int.reduceToNat, Int.reduceNeg, reduceIte, Nat.reduceGT, Nat.reduceLT, Nat.reduceLeDiff, code86_0, ty86]
    repeat' ((first
      | ((with_reducible first | apply forkD | apply forkB | apply forkN | apply forkNP | apply forkNot) <;> intro _)
      | with_reducible_and_instances refine ok_small _ _ _ (fun _ => ?_) (fun _ => ?_)
      | ((with_reducible_and_instances apply index_str); (· exact Try.underlying9); (· rfl); (· rfl); (· omega); (· first | omega | exact str_pos (by assumption)))
      | ((with_reducible_and_instances apply unop_not); (· rfl))) <;> simp -implicitDefEqProofs only [syms, symx, Nat.reduceAdd, Nat.reduceMul, Int.reduceLT, Int.reduceLE, Int.reduceAdd, Int.reduceSub, Int.reduceToNat, Int.reduceNeg, reduceIte, Nat.reduceGT, Nat.reduceLT, Nat.reduceLeDiff, code86_0, ty86])
    all_goals first
      | with_reducible exact h1 hs _ (z.upW _ _ (by omega))
      | with_reducible exact h2 _ (z.upW _ _ (by omega))
  · ((skip); replace z := z.overW x (by (try simp only [lay_size, List.length_cons, List.length_nil]); omega); rw [lay_nil h'])
    simp -implicitDefEqProofs only [syms, symx, Nat.reduceAdd, Nat.reduceMul, Int.reduceLT, Int.reduceLE, Int.reduceAdd, Int.reduceSub, Int.reduceToNat, Int.reduceNeg, reduceIte, Nat.reduceGT, Nat.reduceLT, Nat.reduceLeDiff, code86_0, ty86]
    exact h2 _ (z.upW _ _ (by omega))
theorem ok_predicate (s : ByteArray) (h : Heap) (K : Value → Heap → Prop) (h1 : lowName s → ∀ h', Ext h h' → K (.bool true) h') (h2 : ∀ h', Ext h h' → K (.bool false) h') : Ok Try.prog tab ov 87 [.string s] h K := by
  rw [lay_nil h]
  have z := Ext.refl h
  refine Ok.into rfl tab_fn87 body87 rfl (m := 4) rfl ?_
  simp -implicitDefEqProofs only [syms, symx, Nat.reduceAdd, Nat.reduceMul, Int.reduceLT, Int.reduceLE, Int.reduceAdd, Int.reduceSub, Int.reduceToNat, Int.reduceNeg, reduceIte, Nat.reduceGT, Nat.reduceLT, Nat.reduceLeDiff, code87_0, ty87]
  refine ok_principal _ _ _ (fun hs h' x => ?_) (fun h' x => ?_)
  all_goals
    ((skip); replace z := z.overW x (by (try simp only [lay_size, List.length_cons, List.length_nil]); omega); rw [lay_nil h'])
    simp -implicitDefEqProofs only [syms, symx, Nat.reduceAdd, Nat.reduceMul, Int.reduceLT, Int.reduceLE, Int.reduceAdd, Int.reduceSub, Int.reduceToNat, Int.reduceNeg, reduceIte, Nat.reduceGT, Nat.reduceLT, Nat.reduceLeDiff, code87_0, ty87]
    first
      | with_reducible exact h1 hs _ (z.upW _ _ (by omega))
      | with_reducible exact h2 _ (z.upW _ _ (by omega))
end Go.Proofs.Ytompindebndddaa
namespace Go.Proofs.Ytompindebndddaa
open Go.Am
set_option linter.unusedSimpArgs false
set_option linter.unusedVariables false
set_option maxRecDepth 100000
set_option maxHeartbeats 0
theorem bld_noT : buildA tab 36 [] = some noTermD.val := by kernel_rfl
theorem cut_argV (a : AtomD) (k : Nat) (hk : k < 4) : cut a.cells (3 + k * 2) 2 = some (a.arg k).cells := by
  have : k = 0 ∨ k = 1 ∨ k = 2 ∨ k = 3 := by omega
  rcases this with rfl | rfl | rfl | rfl <;> rfl
theorem agg_term2 (a : TermD) : Value.agg a.cells.toArray = a.val := rfl
theorem cell_v0 (a : AtomD) : a.cells[0]? = some (.string a.says) := rfl
theorem cell_v1 (a : AtomD) : a.cells[1]? = some (.string a.pred) := rfl
theorem cell_v2 (a : AtomD) : a.cells[2]? = some (.int .i64 a.n) := rfl
theorem ok_termOk (t : TermD) (h : Heap) (K : Value → Heap → Prop) (h1 : okTermD t → ∀ h', Ext h h' → K (.bool true) h') (h2 : ∀ h', Ext h h' → K (.bool false) h') : Ok Try.prog tab ov 88 [t.val] h K := by
  rw [lay_nil h]
  have z := Ext.refl h
  rcases t with ⟨tv, ts⟩
  unfold okTermD at h1
  cases tv
  · refine Ok.into rfl tab_fn88 body88 rfl (m := 10) rfl ?_
    simp -implicitDefEqProofs only [syms, symx, Nat.reduceAdd, Nat.reduceMul, Int.reduceLT, Int.reduceLE, Int.reduceAdd, Int.reduceSub, Int.reduceToNat, Int.reduceNeg, reduceIte, Nat.reduceGT, Nat.reduceLT, Nat.reduceLeDiff, code88_0, ty88, TermD.val, TermD.cells]
    refine ok_const _ _ _ (fun hs h' x => ?_) (fun h' x => ?_)
    all_goals
      ((skip); replace z := z.overW x (by (try simp only [lay_size, List.length_cons, List.length_nil]); omega); rw [lay_nil h'])
      simp -implicitDefEqProofs only [syms, symx, Nat.reduceAdd, Nat.reduceMul, Int.reduceLT, Int.reduceLE, Int.reduceAdd, Int.reduceSub, Int.reduceToNat, Int.reduceNeg, reduceIte, Nat.reduceGT, Nat.reduceLT, Nat.reduceLeDiff, code88_0, ty88]
      first
        | exact h1 hs _ (z.upW _ _ (by omega))
        | exact h2 _ (z.upW _ _ (by omega))
  · refine Ok.into rfl tab_fn88 body88 rfl (m := 10) rfl ?_
    simp -implicitDefEqProofs only [syms, symx, Nat.reduceAdd, Nat.reduceMul, Int.reduceLT, Int.reduceLE, Int.reduceAdd, Int.reduceSub, Int.reduceToNat, Int.reduceNeg, reduceIte, Nat.reduceGT, Nat.reduceLT, Nat.reduceLeDiff, code88_0, ty88, TermD.val, TermD.cells]
    refine ok_variable _ _ _ (fun hs h' x => ?_) (fun h' x => ?_)
    all_goals
      ((skip); replace z := z.overW x (by (try simp only [lay_size, List.length_cons, List.length_nil]); omega); rw [lay_nil h'])
      simp -implicitDefEqProofs only [syms, symx, Nat.reduceAdd, Nat.reduceMul, Int.reduceLT, Int.reduceLE, Int.reduceAdd, Int.reduceSub, Int.reduceToNat, Int.reduceNeg, reduceIte, Nat.reduceGT, Nat.reduceLT, Nat.reduceLeDiff, code88_0, ty88]
      first
        | exact h1 hs _ (z.upW _ _ (by omega))
        | exact h2 _ (z.upW _ _ (by omega))
theorem ok_validA (a : AtomD) (h : Heap) (K : Value → Heap → Prop) (h1 : ValidD a → ∀ h', Ext h h' → K (.int .i64 0) h') (h2 : ∀ c h', c ≠ 0 → Ext h h' → K (.int .i64 c) h') : Ok Try.prog tab ov 29 [a.val] h K := by
  rw [lay_nil h]
  have z := Ext.refl h
  refine Ok.into rfl tab_fn29 body29 rfl (m := 46) rfl ?_
  simp -implicitDefEqProofs only [syms, symx, Nat.reduceAdd, Nat.reduceMul, Int.reduceLT, Int.reduceLE, Int.reduceAdd, Int.reduceSub, Int.reduceToNat, Int.reduceNeg, reduceIte, Nat.reduceGT, Nat.reduceLT, Nat.reduceLeDiff, code29_0, code29_1, code29_2, code29_3, ty29, cells_atom, cell_v0, cell_v1, cell_v2]
  repeat' ((first
    | ((with_reducible first | apply forkD | apply forkB | apply forkN | apply forkNP | apply forkNot) <;> intro _)
    | ((with_reducible_and_instances apply unop_not); (· rfl))) <;> simp -implicitDefEqProofs only [syms, symx, Nat.reduceAdd, Nat.reduceMul, Int.reduceLT, Int.reduceLE, Int.reduceAdd, Int.reduceSub, Int.reduceToNat, Int.reduceNeg, reduceIte, Nat.reduceGT, Nat.reduceLT, Nat.reduceLeDiff, code29_0, code29_1, code29_2, code29_3, ty29, cells_atom, cell_v0, cell_v1, cell_v2])
  refine ok_principal _ _ _ (fun hs h' x => ?_) (fun h' x => ?_)
  rotate_left
  · ((skip); replace z := z.overW x (by (try simp only [lay_size, List.length_cons, List.length_nil]); omega); rw [lay_nil h'])
    simp -implicitDefEqProofs only [syms, symx, Nat.reduceAdd, Nat.reduceMul, Int.reduceLT, Int.reduceLE, Int.reduceAdd, Int.reduceSub, Int.reduceToNat, Int.reduceNeg, reduceIte, Nat.reduceGT, Nat.reduceLT, Nat.reduceLeDiff, code29_0, code29_1, code29_2, code29_3, ty29]
    repeat' ((first
      | ((with_reducible first | apply forkD | apply forkB | apply forkN | apply forkNP | apply forkNot) <;> intro _)
      | ((with_reducible_and_instances apply unop_not); (· rfl))) <;> simp -implicitDefEqProofs only [syms, symx, Nat.reduceAdd, Nat.reduceMul, Int.reduceLT, Int.reduceLE, Int.reduceAdd, Int.reduceSub, Int.reduceToNat, Int.reduceNeg, reduceIte, Nat.reduceGT, Nat.reduceLT, Nat.reduceLeDiff, code29_0, code29_1, code29_2, code29_3, ty29])
    exact h2 _ _ (by decide) (z.upW _ _ (by omega))
  have q0 := Holds.top (i := 0) x rfl
  (replace z := z.overW x (by (try simp only [lay_size, List.length_cons, List.length_nil]); omega); rw [lay_nil h'])
  simp -implicitDefEqProofs only [syms, symx, Nat.reduceAdd, Nat.reduceMul, Int.reduceLT, Int.reduceLE, Int.reduceAdd, Int.reduceSub, Int.reduceToNat, Int.reduceNeg, reduceIte, Nat.reduceGT, Nat.reduceLT, Nat.reduceLeDiff, code29_0, code29_1, code29_2, code29_3, ty29, q0.lay, cell_v0, cell_v1, cell_v2]
  repeat' ((first
    | ((with_reducible first | apply forkD | apply forkB | apply forkN | apply forkNP | apply forkNot) <;> intro _)
    | ((with_reducible_and_instances apply unop_not); (· rfl))) <;> simp -implicitDefEqProofs only [syms, symx, Nat.reduceAdd, Nat.reduceMul, Int.reduceLT, Int.reduceLE, Int.reduceAdd, Int.reduceSub, Int.reduceToNat, Int.reduceNeg, reduceIte, Nat.reduceGT, Nat.reduceLT, Nat.reduceLeDiff, code29_0, code29_1, code29_2, code29_3, ty29, q0.lay, cell_v0, cell_v1, cell_v2])
  refine ok_predicate _ _ _ (fun hp h' x => ?_) (fun h' x => ?_)
  rotate_left
  · ((skip); replace z := z.overW x (by (try simp only [lay_size, List.length_cons, List.length_nil]); omega); (try replace q0 := q0.over x); rw [lay_nil h'])
    simp -implicitDefEqProofs only [syms, symx, Nat.reduceAdd, Nat.reduceMul, Int.reduceLT, Int.reduceLE, Int.reduceAdd, Int.reduceSub, Int.reduceToNat, Int.reduceNeg, reduceIte, Nat.reduceGT, Nat.reduceLT, Nat.reduceLeDiff, code29_0, code29_1, code29_2, code29_3, ty29]
    repeat' ((first
      | ((with_reducible first | apply forkD | apply forkB | apply forkN | apply forkNP | apply forkNot) <;> intro _)
      | ((with_reducible_and_instances apply unop_not); (· rfl))) <;> simp -implicitDefEqProofs only [syms, symx, Nat.reduceAdd, Nat.reduceMul, Int.reduceLT, Int.reduceLE, Int.reduceAdd, Int.reduceSub, Int.reduceToNat, Int.reduceNeg, reduceIte, Nat.reduceGT, Nat.reduceLT, Nat.reduceLeDiff, code29_0, code29_1, code29_2, code29_3, ty29])
    exact h2 _ _ (by decide) (z.upW _ _ (by omega))
  ((skip); replace z := z.overW x (by (try simp only [lay_size, List.length_cons, List.length_nil]); omega); (try replace q0 := q0.over x); rw [lay_nil h'])
  simp -implicitDefEqProofs only [syms, symx, Nat.reduceAdd, Nat.reduceMul, Int.reduceLT, Int.reduceLE, Int.reduceAdd, Int.reduceSub, Int.reduceToNat, Int.reduceNeg, reduceIte, Nat.reduceGT, Nat.reduceLT, Nat.reduceLeDiff, code29_0, code29_1, code29_2, code29_3, ty29, q0.lay, cell_v0, cell_v1, cell_v2]
  repeat' ((first
    | ((with_reducible first | apply forkD | apply forkB | apply forkN | apply forkNP | apply forkNot) <;> intro _)
    | ((with_reducible_and_instances apply unop_not); (· rfl))) <;> simp -implicitDefEqProofs only [syms, symx, Nat.reduceAdd, Nat.reduceMul, Int.reduceLT, Int.reduceLE, Int.reduceAdd, Int.reduceSub, Int.reduceToNat, Int.reduceNeg, reduceIte, Nat.reduceGT, Nat.reduceLT, Nat.reduceLeDiff, code29_0, code29_1, code29_2, code29_3, ty29, q0.lay, cell_v0, cell_v1, cell_v2])
  all_goals try exact h2 _ _ (by decide) (z.upW _ _ (by omega))
  have hn0 : 0 ≤ a.n := by omega
  have hn4 : a.n ≤ 4 := by omega
  obtain ⟨I1, hI1⟩ : ∃ I : Nat → Env → Heap → Prop, I = (fun n e h' => ∃ (i : Nat) (h1 : Heap), h' = h1.lay [] h1.low ∧ Ext h h1 ∧ (n = 4 - i ∧ (i : Int) ≤ a.n ∧ (∀ j, j < i → okTermD (a.arg j)) ∧ Holds h1 (h.size + 0) (.row a.cells 39 false)) ∧ ∃ J : Nat → Value, e = (J 0 :: .pointer (some ⟨h.size + 0, 0, none⟩) :: J 2 :: .int .i64 i :: J 4 :: J 5 :: J 6 :: J 7 :: J 8 :: J 9 :: J 10 :: J 11 :: J 12 :: J 13 :: J 14 :: J 15 :: J 16 :: J 17 :: J 18 :: J 19 :: J 20 :: J 21 :: J 22 :: J 23 :: J 24 :: J 25 :: J 26 :: J 27 :: J 28 :: J 29 :: J 30 :: J 31 :: J 32 :: J 33 :: J 34 :: J 35 :: J 36 :: J 37 :: J 38 :: J 39 :: J 40 :: J 41 :: J 42 :: J 43 :: J 44 :: J 45 :: J 46 :: [])) := ⟨_, rfl⟩
  refine W_loopN I1 _ (by rw [hI1]; exact ⟨0, _, rfl, z, ⟨rfl, by omega, fun j hj => by omega, q0⟩, junk (by kernel_rfl)⟩) ?_
  intro n e h' hin
  rw [hI1] at hin
  obtain ⟨i, h1', rfl, z, hinv, J, rfl⟩ := hin
  clear q0
  obtain ⟨rfl, hi, hall, q0⟩ := hinv
  have hwi : IntKind.i64.wrap ((i : Int) + 1) = ((i + 1 : Nat) : Int) := by rw [wrap_i64 (by omega) (by omega)]; omega
  simp -implicitDefEqProofs only [syms, symx, Nat.reduceAdd, Nat.reduceMul, Int.reduceLT, Int.reduceLE, Int.reduceAdd, Int.reduceSub, Int.reduceToNat, Int.reduceNeg, reduceIte, Nat.reduceGT, Nat.reduceLT, Nat.reduceLeDiff, code29_0, code29_1, code29_2, code29_3, ty29, q0.lay, cell_v2]
  refine forkD (fun hlt => ?_) (fun hlt => ?_)
  · have hin4 : (0 : Int) ≤ (i : Int) ∧ (i : Int) < 4 := by omega
    have hca := cut_argV a i (by omega)
    simp -implicitDefEqProofs only [syms, symx, Nat.reduceAdd, Nat.reduceMul, Int.reduceLT, Int.reduceLE, Int.reduceAdd, Int.reduceSub, Int.reduceToNat, Int.reduceNeg, reduceIte, Nat.reduceGT, Nat.reduceLT, Nat.reduceLeDiff, code29_0, code29_1, code29_2, code29_3, ty29, q0.lay, hin4, ↓hca, agg_term2, valE_term, and_self, if_true]
    repeat' ((first
      | ((with_reducible first | apply forkD | apply forkB | apply forkN | apply forkNP | apply forkNot) <;> intro _)
      | ((with_reducible_and_instances apply unop_not); (· rfl))) <;> simp -implicitDefEqProofs only [syms, symx, Nat.reduceAdd, Nat.reduceMul, Int.reduceLT, Int.reduceLE, Int.reduceAdd, Int.reduceSub, Int.reduceToNat, Int.reduceNeg, reduceIte, Nat.reduceGT, Nat.reduceLT, Nat.reduceLeDiff, code29_0, code29_1, code29_2, code29_3, ty29, q0.lay, hin4, ↓hca, agg_term2, valE_term, and_self, if_true])
    refine ok_termOk _ _ _ (fun ht h' x => ?_) (fun h' x => ?_)
    · ((skip); replace z := z.overW x (by (try simp only [lay_size, List.length_cons, List.length_nil]); omega); (try replace q0 := q0.over x); rw [lay_nil h'])
      have hnx : ∀ j, j < i + 1 → okTermD (a.arg j) := by
        intro j hj
        by_cases hji : j < i
        · exact hall j hji
        · have : j = i := by omega
          subst this
          exact ht
      simp -implicitDefEqProofs only [syms, symx, Nat.reduceAdd, Nat.reduceMul, Int.reduceLT, Int.reduceLE, Int.reduceAdd, Int.reduceSub, Int.reduceToNat, Int.reduceNeg, reduceIte, Nat.reduceGT, Nat.reduceLT, Nat.reduceLeDiff, code29_0, code29_1, code29_2, code29_3, ty29]
      repeat' ((first
        | ((with_reducible first | apply forkD | apply forkB | apply forkN | apply forkNP | apply forkNot) <;> intro _)
        | ((with_reducible_and_instances apply unop_not); (· rfl))) <;> simp -implicitDefEqProofs only [syms, symx, Nat.reduceAdd, Nat.reduceMul, Int.reduceLT, Int.reduceLE, Int.reduceAdd, Int.reduceSub, Int.reduceToNat, Int.reduceNeg, reduceIte, Nat.reduceGT, Nat.reduceLT, Nat.reduceLeDiff, code29_0, code29_1, code29_2, code29_3, ty29])
      rw [hwi]
      (rw [hI1]; with_reducible refine loopN_normal (m := _) ?_ ⟨i + 1, _, rfl, z, ⟨rfl, by omega, hnx, q0⟩, junk (by kernel_rfl)⟩; omega)
    · ((skip); replace z := z.overW x (by (try simp only [lay_size, List.length_cons, List.length_nil]); omega); (try replace q0 := q0.over x); rw [lay_nil h'])
      simp -implicitDefEqProofs only [syms, symx, Nat.reduceAdd, Nat.reduceMul, Int.reduceLT, Int.reduceLE, Int.reduceAdd, Int.reduceSub, Int.reduceToNat, Int.reduceNeg, reduceIte, Nat.reduceGT, Nat.reduceLT, Nat.reduceLeDiff, code29_0, code29_1, code29_2, code29_3, ty29]
      repeat' ((first
        | ((with_reducible first | apply forkD | apply forkB | apply forkN | apply forkNP | apply forkNot) <;> intro _)
        | ((with_reducible_and_instances apply unop_not); (· rfl))) <;> simp -implicitDefEqProofs only [syms, symx, Nat.reduceAdd, Nat.reduceMul, Int.reduceLT, Int.reduceLE, Int.reduceAdd, Int.reduceSub, Int.reduceToNat, Int.reduceNeg, reduceIte, Nat.reduceGT, Nat.reduceLT, Nat.reduceLeDiff, code29_0, code29_1, code29_2, code29_3, ty29])
      exact h2 _ _ (by decide) (z.upW _ _ (by omega))
  have hin : a.n = (i : Int) := by omega
  simp -implicitDefEqProofs only [syms, symx, Nat.reduceAdd, Nat.reduceMul, Int.reduceLT, Int.reduceLE, Int.reduceAdd, Int.reduceSub, Int.reduceToNat, Int.reduceNeg, reduceIte, Nat.reduceGT, Nat.reduceLT, Nat.reduceLeDiff, code29_0, code29_1, code29_2, code29_3, ty29, q0.lay, cell_v2]
  repeat' ((first
    | ((with_reducible first | apply forkD | apply forkB | apply forkN | apply forkNP | apply forkNot) <;> intro _)
    | ((with_reducible_and_instances apply unop_not); (· rfl))) <;> simp -implicitDefEqProofs only [syms, symx, Nat.reduceAdd, Nat.reduceMul, Int.reduceLT, Int.reduceLE, Int.reduceAdd, Int.reduceSub, Int.reduceToNat, Int.reduceNeg, reduceIte, Nat.reduceGT, Nat.reduceLT, Nat.reduceLeDiff, code29_0, code29_1, code29_2, code29_3, ty29, q0.lay, cell_v2])
  rw [hin]
  obtain ⟨I2, hI2⟩ : ∃ I : Nat → Env → Heap → Prop, I = (fun n e h' => ∃ (k : Nat) (h1 : Heap), h' = h1.lay [] h1.low ∧ Ext h h1 ∧ (n = 4 - k ∧ i ≤ k ∧ k ≤ 4 ∧ (∀ j, i ≤ j → j < k → a.arg j = noTermD) ∧ Holds h1 (h.size + 0) (.row a.cells 39 false)) ∧ ∃ J : Nat → Value, e = (J 0 :: .pointer (some ⟨h.size + 0, 0, none⟩) :: J 2 :: J 3 :: .int .i64 k :: J 5 :: J 6 :: J 7 :: J 8 :: J 9 :: J 10 :: J 11 :: J 12 :: J 13 :: J 14 :: J 15 :: J 16 :: J 17 :: J 18 :: J 19 :: J 20 :: J 21 :: J 22 :: J 23 :: J 24 :: J 25 :: J 26 :: J 27 :: J 28 :: J 29 :: J 30 :: J 31 :: J 32 :: J 33 :: J 34 :: J 35 :: J 36 :: J 37 :: J 38 :: J 39 :: J 40 :: J 41 :: J 42 :: J 43 :: J 44 :: J 45 :: J 46 :: [])) := ⟨_, rfl⟩
  refine W_loopN I2 _ (by rw [hI2]; exact ⟨i, _, rfl, z, ⟨rfl, by omega, by omega, fun j h1 h2 => by omega, q0⟩, junk (by kernel_rfl)⟩) ?_
  intro n e h' hin
  rw [hI2] at hin
  obtain ⟨k, h2', rfl, z, hinv, J, rfl⟩ := hin
  clear q0
  obtain ⟨rfl, hik, hk4, hrest, q0⟩ := hinv
  have hwk : IntKind.i64.wrap ((k : Int) + 1) = ((k + 1 : Nat) : Int) := by rw [wrap_i64 (by omega) (by omega)]; omega
  simp -implicitDefEqProofs only [syms, symx, Nat.reduceAdd, Nat.reduceMul, Int.reduceLT, Int.reduceLE, Int.reduceAdd, Int.reduceSub, Int.reduceToNat, Int.reduceNeg, reduceIte, Nat.reduceGT, Nat.reduceLT, Nat.reduceLeDiff, code29_0, code29_1, code29_2, code29_3, ty29]
  refine forkD (fun hlt => ?_) (fun hlt => ?_)
  rotate_left
  · simp -implicitDefEqProofs only [syms, symx, Nat.reduceAdd, Nat.reduceMul, Int.reduceLT, Int.reduceLE, Int.reduceAdd, Int.reduceSub, Int.reduceToNat, Int.reduceNeg, reduceIte, Nat.reduceGT, Nat.reduceLT, Nat.reduceLeDiff, code29_0, code29_1, code29_2, code29_3, ty29]
    repeat' ((first
      | ((with_reducible first | apply forkD | apply forkB | apply forkN | apply forkNP | apply forkNot) <;> intro _)
      | ((with_reducible_and_instances apply unop_not); (· rfl))) <;> simp -implicitDefEqProofs only [syms, symx, Nat.reduceAdd, Nat.reduceMul, Int.reduceLT, Int.reduceLE, Int.reduceAdd, Int.reduceSub, Int.reduceToNat, Int.reduceNeg, reduceIte, Nat.reduceGT, Nat.reduceLT, Nat.reduceLeDiff, code29_0, code29_1, code29_2, code29_3, ty29])
    exact h1 ⟨hs, hp, by omega, by omega, fun j hj => hall j (by omega), fun j h1 h2 => hrest j (by omega) (by omega)⟩ _ (z.upW _ _ (by omega))
  have hin4 : (0 : Int) ≤ (k : Int) ∧ (k : Int) < 4 := by omega
  have hca := cut_argV a k (by omega)
  simp -implicitDefEqProofs only [syms, symx, Nat.reduceAdd, Nat.reduceMul, Int.reduceLT, Int.reduceLE, Int.reduceAdd, Int.reduceSub, Int.reduceToNat, Int.reduceNeg, reduceIte, Nat.reduceGT, Nat.reduceLT, Nat.reduceLeDiff, code29_0, code29_1, code29_2, code29_3, ty29, q0.lay, hin4, ↓hca, agg_term2, valE_term, and_self, if_true, bld_noT, bin_termN]
  refine forkNP (fun hne => ?_) (fun heq => ?_)
  · simp -implicitDefEqProofs only [syms, symx, Nat.reduceAdd, Nat.reduceMul, Int.reduceLT, Int.reduceLE, Int.reduceAdd, Int.reduceSub, Int.reduceToNat, Int.reduceNeg, reduceIte, Nat.reduceGT, Nat.reduceLT, Nat.reduceLeDiff, code29_0, code29_1, code29_2, code29_3, ty29]
    repeat' ((first
      | ((with_reducible first | apply forkD | apply forkB | apply forkN | apply forkNP | apply forkNot) <;> intro _)
      | ((with_reducible_and_instances apply unop_not); (· rfl))) <;> simp -implicitDefEqProofs only [syms, symx, Nat.reduceAdd, Nat.reduceMul, Int.reduceLT, Int.reduceLE, Int.reduceAdd, Int.reduceSub, Int.reduceToNat, Int.reduceNeg, reduceIte, Nat.reduceGT, Nat.reduceLT, Nat.reduceLeDiff, code29_0, code29_1, code29_2, code29_3, ty29])
    exact h2 _ _ (by decide) (z.upW _ _ (by omega))
  · have hnx : ∀ j, i ≤ j → j < k + 1 → a.arg j = noTermD := by
      intro j h1 h2
      by_cases hji : j < k
      · exact hrest j h1 hji
      · have : j = k := by omega
        subst this
        exact heq
    simp -implicitDefEqProofs only [syms, symx, Nat.reduceAdd, Nat.reduceMul, Int.reduceLT, Int.reduceLE, Int.reduceAdd, Int.reduceSub, Int.reduceToNat, Int.reduceNeg, reduceIte, Nat.reduceGT, Nat.reduceLT, Nat.reduceLeDiff, code29_0, code29_1, code29_2, code29_3, ty29]
    repeat' ((first
      | ((with_reducible first | apply forkD | apply forkB | apply forkN | apply forkNP | apply forkNot) <;> intro _)
      | ((with_reducible_and_instances apply unop_not); (· rfl))) <;> simp -implicitDefEqProofs only [syms, symx, Nat.reduceAdd, Nat.reduceMul, Int.reduceLT, Int.reduceLE, Int.reduceAdd, Int.reduceSub, Int.reduceToNat, Int.reduceNeg, reduceIte, Nat.reduceGT, Nat.reduceLT, Nat.reduceLeDiff, code29_0, code29_1, code29_2, code29_3, ty29])
    rw [hwk]
    (rw [hI2]; with_reducible refine loopN_normal (m := _) ?_ ⟨k + 1, _, rfl, z, ⟨rfl, by omega, by omega, hnx, q0⟩, junk (by kernel_rfl)⟩; omega)
end Go.Proofs.Ytompindebndddaa

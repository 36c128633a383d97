/- Atoms of the document's form, and plain ones: their texts tell them apart; lists of such, merged. No condition. -/
import Derived.Test.YtompindebndddaaG17
import Derived.Test.YtompindebndddaaG29
import Derived.Test.YtompindebndddaaZK6
namespace Go.Am
set_option linter.unusedVariables false
set_option linter.unusedSimpArgs false
def okCh (c : Int) : Prop := (97 ≤ c ∧ c ≤ 122) ∨ (65 ≤ c ∧ c ≤ 90) ∨ (48 ≤ c ∧ c ≤ 57) ∨ c = 95
def lowCh (c : Int) : Prop := (97 ≤ c ∧ c ≤ 122) ∨ (48 ≤ c ∧ c ≤ 57) ∨ c = 95
def lowName (s : ByteArray) : Prop := 1 ≤ s.size ∧ ∀ i, i < s.size → lowCh (byteAt s i)
def varName (s : ByteArray) : Prop := 1 ≤ s.size ∧ (65 ≤ byteAt s 0 ∧ byteAt s 0 ≤ 90) ∧ ∀ i, i < s.size → okCh (byteAt s i)
def okTermD (t : TermD) : Prop := if t.v then varName t.s else lowName t.s
structure ValidD (a : AtomD) : Prop where
  says : lowName a.says
  pred : lowName a.pred
  lo : 0 ≤ a.n
  hi : a.n ≤ 4
  terms : ∀ i : Nat, (i : Int) < a.n → okTermD (a.arg i)
  rest : ∀ i : Nat, a.n ≤ (i : Int) → i < 4 → a.arg i = noTermD
def greatB (s : ByteArray) : Bool := decide (65 ≤ byteAt s 0) && decide (byteAt s 0 ≤ 90)
structure PlainD (a : AtomD) : Prop where
  says : Word a.says.data.toList
  pred : Word a.pred.data.toList
  lo : 0 ≤ a.n
  hi : a.n ≤ 4
  terms : ∀ i : Nat, (i : Int) < a.n → Word (a.arg i).s.data.toList ∧ (a.arg i).v = greatB (a.arg i).s
  rest : ∀ i : Nat, a.n ≤ (i : Int) → i < 4 → a.arg i = noTermD
theorem byteAt_mem {s : ByteArray} {c : UInt8} (h : c ∈ s.data.toList) : ∃ i, i < s.size ∧ byteAt s i = c.toNat := by
  obtain ⟨i, hi, he⟩ := List.getElem_of_mem h
  have hi' : i < s.size := by rw [← bsz2]; exact hi
  refine ⟨i, hi', ?_⟩
  unfold byteAt
  have : s[i]? = some s[i] := by simp [hi']
  rw [this]
  simp only [Option.getD_some]
  have h2 : s[i] = c := by rw [← he]; rfl
  rw [h2]
theorem word_low {s : ByteArray} (h : lowName s) : Word s.data.toList := by
  intro c hc
  obtain ⟨i, hi, he⟩ := byteAt_mem hc
  have := h.2 i hi
  unfold lowCh at this
  unfold wordB
  omega
theorem word_var {s : ByteArray} (h : varName s) : Word s.data.toList := by
  intro c hc
  obtain ⟨i, hi, he⟩ := byteAt_mem hc
  have := h.2.2 i hi
  unfold okCh at this
  unfold wordB
  omega
theorem ValidD.plain {a : AtomD} (w : ValidD a) : PlainD a := by
  refine ⟨word_low w.says, word_low w.pred, w.lo, w.hi, fun i hi => ?_, w.rest⟩
  have h := w.terms i hi
  unfold okTermD at h
  cases hv : (a.arg i).v
  · rw [hv] at h
    have h : lowName (a.arg i).s := h
    refine ⟨word_low h, ?_⟩
    have := h.2 0 h.1
    unfold lowCh at this
    unfold greatB
    rw [eq_comm, Bool.and_eq_false_iff, decide_eq_false_iff_not, decide_eq_false_iff_not]
    omega
  · rw [hv] at h
    have h : varName (a.arg i).s := h
    refine ⟨word_var h, ?_⟩
    unfold greatB
    rw [decide_eq_true h.2.1.1, decide_eq_true h.2.1.2]
    rfl
end Go.Am
namespace Go.Proofs.Ytompindebndddaa
open Go.Am
set_option linter.unusedSimpArgs false
set_option linter.unusedVariables false
set_option maxRecDepth 100000
set_option maxHeartbeats 0
theorem ok_small (c : Int) (h : Heap) (K : Value → Heap → Prop) (h1 : (97 ≤ c ∧ c ≤ 122) → K (.bool true) h) (h2 : ¬ (97 ≤ c ∧ c ≤ 122) → K (.bool false) h) : Ok Try.prog tab ov 143 [.int .u8 c] h K := by
  refine Ok.into rfl tab_fn143 (bodyF N143) rfl (m := 8) rfl ?_
  simp -implicitDefEqProofs only [syms, symx, seval, c143]
  repeat' (refine forkD (fun c => ?_) (fun c => ?_) <;> simp -implicitDefEqProofs only [syms, symx, seval, c143])
  all_goals first | exact h1 (by omega) | exact h2 (by omega)
theorem ok_great (c : Int) (h : Heap) (K : Value → Heap → Prop) (h1 : (65 ≤ c ∧ c ≤ 90) → K (.bool true) h) (h2 : ¬ (65 ≤ c ∧ c ≤ 90) → K (.bool false) h) : Ok Try.prog tab ov 176 [.int .u8 c] h K := by
  refine Ok.into rfl tab_fn176 (bodyF N176) rfl (m := 8) rfl ?_
  simp -implicitDefEqProofs only [syms, symx, seval, c176]
  repeat' (refine forkD (fun c => ?_) (fun c => ?_) <;> simp -implicitDefEqProofs only [syms, symx, seval, c176])
  all_goals first | exact h1 (by omega) | exact h2 (by omega)
theorem ok_digit (c : Int) (h : Heap) (K : Value → Heap → Prop) (h1 : (48 ≤ c ∧ c ≤ 57) → K (.bool true) h) (h2 : ¬ (48 ≤ c ∧ c ≤ 57) → K (.bool false) h) : Ok Try.prog tab ov 177 [.int .u8 c] h K := by
  refine Ok.into rfl tab_fn177 (bodyF N177) rfl (m := 8) rfl ?_
  simp -implicitDefEqProofs only [syms, symx, seval, c177]
  repeat' (refine forkD (fun c => ?_) (fun c => ?_) <;> simp -implicitDefEqProofs only [syms, symx, seval, c177])
  all_goals first | exact h1 (by omega) | exact h2 (by omega)
theorem ok_constant (s : ByteArray) (h : Heap) (K : Value → Heap → Prop) (h1 : lowName s → ∀ h', Ext h h' → K (.bool true) h') (h2 : ∀ h', Ext h h' → K (.bool false) h') : Ok Try.prog tab ov 174 [.string s] h K := by
  rw [lay_nil h]
  have z := Ext.refl h
  refine Ok.into rfl tab_fn174 (bodyF N174) rfl (m := 40) rfl ?_
  simp -implicitDefEqProofs only [syms, symx, seval, c174]
  refine forkD (fun c => ?_) (fun c1 => ?_)
  · simp -implicitDefEqProofs only [syms, symx, seval, c174]
    exact h2 _ (z.upW _ _ (by omega))
  simp -implicitDefEqProofs only [syms, symx, seval, c174]
  refine forkD (fun c => ?_) (fun c2 => ?_)
  · simp -implicitDefEqProofs only [syms, symx, seval, c174]
    exact h2 _ (z.upW _ _ (by omega))
  simp -implicitDefEqProofs only [syms, symx, seval, c174]
  refine index_str Try.underlying9 rfl rfl (by omega) (by omega) ?_
  simp -implicitDefEqProofs only [syms, symx, seval, c174]
  refine forkB (fun c => ?_) (fun c => ?_)
  · simp -implicitDefEqProofs only [syms, symx, seval, c174]
    exact h2 _ (z.upW _ _ (by omega))
  repeat' (first | simp -implicitDefEqProofs only [syms, symx, seval, c174] | ((with_reducible first | apply forkD | apply forkB | apply forkN | apply forkNP | apply forkNot) <;> intro _) | ((with_reducible_and_instances apply index_str); (· exact Try.underlying9); (· rfl); (· rfl); (· omega); (· first | omega | exact str_pos (by assumption))) | ((with_reducible_and_instances apply unop_not); (· rfl)))
  obtain ⟨I1, hI1⟩ : ∃ I : Nat → Env → Heap → Prop, I = (fun n e h' => ∃ (i : Nat) (h1 : Heap), h' = h1.lay [] h1.low ∧ Ext h h1 ∧ (n = s.size - i ∧ i ≤ s.size ∧ ∀ j, j < i → lowCh (byteAt s j)) ∧ ∃ J : Nat → Value, e = (.string s :: jr J 1 2 (.int .i64 i :: jr J 4 37 ([])))) := ⟨_, rfl⟩
  refine W_loopN I1 _ (by rw [hI1]; exact ⟨0, _, rfl, z, ⟨rfl, by omega, fun j hj => by omega⟩, junk (by kernel_rfl)⟩) ?_
  intro n e h' hin
  rw [hI1] at hin
  obtain ⟨i, h1', rfl, z, hinv, J, rfl⟩ := hin
  obtain ⟨rfl, hi, hall⟩ := hinv
  have hw : IntKind.i64.wrap ((i : Int) + 1) = ((i + 1 : Nat) : Int) := by rw [wrap_i64 (by omega) (by omega)]; omega
  simp -implicitDefEqProofs only [syms, symx, seval, c174, hw]
  repeat' ((first | ((with_reducible first | apply forkD | apply forkB | apply forkN | apply forkNP | apply forkNot) <;> intro _) | with_reducible_and_instances refine ok_small _ _ _ (fun _ => ?_) (fun _ => ?_) | with_reducible_and_instances refine ok_digit _ _ _ (fun _ => ?_) (fun _ => ?_) | with_reducible_and_instances refine ok_great _ _ _ (fun _ => ?_) (fun _ => ?_) | ((with_reducible_and_instances apply index_str); (· exact Try.underlying9); (· rfl); (· rfl); (· omega); (· first | omega | exact str_pos (by assumption))) | ((with_reducible_and_instances apply unop_not); (· rfl))) <;> simp -implicitDefEqProofs only [syms, symx, seval, c174, hw])
  all_goals first
    | with_reducible exact h2 _ (z.upW _ _ (by omega))
    | (with_reducible refine h1 ?_ _ (z.upW _ _ (by omega))
       exact ⟨by omega, fun j hj => hall j (by omega)⟩)
    | (have hnx : ∀ j, j < i + 1 → lowCh (byteAt s j) := by
         intro j hj
         by_cases hji : j < i
         · exact hall j hji
         · have : j = i := by omega
           subst this
           unfold lowCh
           omega
       (rw [hI1]; with_reducible refine loopN_normal (m := _) ?_ ⟨i + 1, _, rfl, z, ⟨rfl, by omega, hnx⟩, junk (by kernel_rfl)⟩; omega))
theorem ok_variable (s : ByteArray) (h : Heap) (K : Value → Heap → Prop) (h1 : varName s → ∀ h', Ext h h' → K (.bool true) h') (h2 : ∀ h', Ext h h' → K (.bool false) h') : Ok Try.prog tab ov 144 [.string s] h K := by
  rw [lay_nil h]
  have z := Ext.refl h
  refine Ok.into rfl tab_fn144 (bodyF N144) rfl (m := 48) rfl ?_
  simp -implicitDefEqProofs only [syms, symx, seval, c144]
  refine forkD (fun c => ?_) (fun c1 => ?_)
  · simp -implicitDefEqProofs only [syms, symx, seval, c144]
    exact h2 _ (z.upW _ _ (by omega))
  simp -implicitDefEqProofs only [syms, symx, seval, c144]
  refine forkD (fun c => ?_) (fun c2 => ?_)
  · simp -implicitDefEqProofs only [syms, symx, seval, c144]
    exact h2 _ (z.upW _ _ (by omega))
  simp -implicitDefEqProofs only [syms, symx, seval, c144]
  refine index_str Try.underlying9 rfl rfl (by omega) (by omega) ?_
  simp -implicitDefEqProofs only [syms, symx, seval, c144]
  refine ok_great _ _ _ (fun cg => ?_) (fun cg => ?_)
  rotate_left
  · repeat' (first | simp -implicitDefEqProofs only [syms, symx, seval, c144] | ((with_reducible first | apply forkD | apply forkB | apply forkN | apply forkNP | apply forkNot) <;> intro _) | with_reducible_and_instances refine ok_small _ _ _ (fun _ => ?_) (fun _ => ?_) | with_reducible_and_instances refine ok_digit _ _ _ (fun _ => ?_) (fun _ => ?_) | with_reducible_and_instances refine ok_great _ _ _ (fun _ => ?_) (fun _ => ?_) | ((with_reducible_and_instances apply index_str); (· exact Try.underlying9); (· rfl); (· rfl); (· omega); (· first | omega | exact str_pos (by assumption))) | ((with_reducible_and_instances apply unop_not); (· rfl)))
    exact h2 _ (z.upW _ _ (by omega))
  repeat' (first | simp -implicitDefEqProofs only [syms, symx, seval, c144] | ((with_reducible first | apply forkD | apply forkB | apply forkN | apply forkNP | apply forkNot) <;> intro _) | with_reducible_and_instances refine ok_small _ _ _ (fun _ => ?_) (fun _ => ?_) | with_reducible_and_instances refine ok_digit _ _ _ (fun _ => ?_) (fun _ => ?_) | with_reducible_and_instances refine ok_great _ _ _ (fun _ => ?_) (fun _ => ?_) | ((with_reducible_and_instances apply index_str); (· exact Try.underlying9); (· rfl); (· rfl); (· omega); (· first | omega | exact str_pos (by assumption))) | ((with_reducible_and_instances apply unop_not); (· rfl)))
  obtain ⟨I1, hI1⟩ : ∃ I : Nat → Env → Heap → Prop, I = (fun n e h' => ∃ (i : Nat) (h1 : Heap), h' = h1.lay [] h1.low ∧ Ext h h1 ∧ (n = s.size - i ∧ i ≤ s.size ∧ ∀ j, j < i → okCh (byteAt s j)) ∧ ∃ J : Nat → Value, e = (.string s :: jr J 1 2 (.int .i64 i :: jr J 4 45 ([])))) := ⟨_, rfl⟩
  refine W_loopN I1 _ (by rw [hI1]; exact ⟨0, _, rfl, z, ⟨rfl, by omega, fun j hj => by omega⟩, junk (by kernel_rfl)⟩) ?_
  intro n e h' hin
  rw [hI1] at hin
  obtain ⟨i, h1', rfl, z, hinv, J, rfl⟩ := hin
  obtain ⟨rfl, hi, hall⟩ := hinv
  have hw : IntKind.i64.wrap ((i : Int) + 1) = ((i + 1 : Nat) : Int) := by rw [wrap_i64 (by omega) (by omega)]; omega
  simp -implicitDefEqProofs only [syms, symx, seval, c144, hw]
  repeat' ((first | ((with_reducible first | apply forkD | apply forkB | apply forkN | apply forkNP | apply forkNot) <;> intro _) | with_reducible_and_instances refine ok_small _ _ _ (fun _ => ?_) (fun _ => ?_) | with_reducible_and_instances refine ok_digit _ _ _ (fun _ => ?_) (fun _ => ?_) | with_reducible_and_instances refine ok_great _ _ _ (fun _ => ?_) (fun _ => ?_) | ((with_reducible_and_instances apply index_str); (· exact Try.underlying9); (· rfl); (· rfl); (· omega); (· first | omega | exact str_pos (by assumption))) | ((with_reducible_and_instances apply unop_not); (· rfl))) <;> simp -implicitDefEqProofs only [syms, symx, seval, c144, hw])
  all_goals first
    | with_reducible exact h2 _ (z.upW _ _ (by omega))
    | (with_reducible refine h1 ?_ _ (z.upW _ _ (by omega))
       exact ⟨by omega, by simpa using cg, fun j hj => hall j (by omega)⟩)
    | (have hnx : ∀ j, j < i + 1 → okCh (byteAt s j) := by
         intro j hj
         by_cases hji : j < i
         · exact hall j hji
         · have : j = i := by omega
           subst this
           unfold okCh
           omega
       (rw [hI1]; with_reducible refine loopN_normal (m := _) ?_ ⟨i + 1, _, rfl, z, ⟨rfl, by omega, hnx⟩, junk (by kernel_rfl)⟩; omega))
theorem ok_reserved (s : ByteArray) (h : Heap) (K : Value → Heap → Prop) (hk : ∀ b h', Ext h h' → K (.bool b) h') : Ok Try.prog tab ov 175 [.string s] h K := by
  rw [lay_nil h]
  have z := Ext.refl h
  refine Ok.into rfl tab_fn175 (bodyF N175) rfl (m := 17) rfl ?_
  simp -implicitDefEqProofs only [syms, symx, seval, c175, c210]
  refine Ok.into rfl tab_fn210 (bodyF N210) rfl (m := 2) rfl ?_
  simp -implicitDefEqProofs only [syms, symx, seval, c175, c210]
  repeat' ((first | ((with_reducible first | apply forkD | apply forkB | apply forkN | apply forkNP | apply forkNot) <;> intro _) | with_reducible_and_instances refine W_unroll ?_) <;> simp -implicitDefEqProofs only [syms, symx, seval, c175, c210])
  all_goals exact hk _ _ (z.upW _ _ (by omega))
theorem ok_const (s : ByteArray) (h : Heap) (K : Value → Heap → Prop) (h1 : lowName s → ∀ h', Ext h h' → K (.bool true) h') (h2 : ∀ h', Ext h h' → K (.bool false) h') : Ok Try.prog tab ov 142 [.string s] h K := by
  rw [lay_nil h]
  have z := Ext.refl h
  refine Ok.into rfl tab_fn142 (bodyF N142) rfl (m := 9) rfl ?_
  simp -implicitDefEqProofs only [syms, symx, seval, c142]
  refine ok_constant _ _ _ (fun hs h' x => ?_) (fun h' x => ?_)
  · ((skip); replace z := z.overW x (by (try simp only [lsz]); omega); rw [lay_nil h'])
    simp -implicitDefEqProofs only [syms, symx, seval, c142]
    refine ok_reserved _ _ _ (fun b h' x => ?_)
    ((skip); replace z := z.overW x (by (try simp only [lsz]); omega); rw [lay_nil h'])
    cases b
    all_goals
      repeat' (first | simp -implicitDefEqProofs only [syms, symx, seval, c142] | ((with_reducible first | apply forkD | apply forkB | apply forkN | apply forkNP | apply forkNot) <;> intro _) | with_reducible_and_instances refine W_unroll ?_ | ((with_reducible_and_instances apply unop_not); (· rfl)))
      first
        | with_reducible exact h1 hs _ (z.upW _ _ (by omega))
        | with_reducible exact h2 _ (z.upW _ _ (by omega))
  · ((skip); replace z := z.overW x (by (try simp only [lsz]); omega); rw [lay_nil h'])
    simp -implicitDefEqProofs only [syms, symx, seval, c142]
    exact h2 _ (z.upW _ _ (by omega))
theorem ok_principal (s : ByteArray) (h : Heap) (K : Value → Heap → Prop) (h1 : lowName s → ∀ h', Ext h h' → K (.bool true) h') (h2 : ∀ h', Ext h h' → K (.bool false) h') : Ok Try.prog tab ov 86 [.string s] h K := by
  rw [lay_nil h]
  have z := Ext.refl h
  refine Ok.into rfl tab_fn86 (bodyF N86) rfl (m := 9) rfl ?_
  simp -implicitDefEqProofs only [syms, symx, seval, c86]
  refine ok_const _ _ _ (fun hs h' x => ?_) (fun h' x => ?_)
  · ((skip); replace z := z.overW x (by (try simp only [lsz]); omega); rw [lay_nil h'])
    have := hs.1
    simp -implicitDefEqProofs only [syms, symx, seval, c86]
    repeat' ((first | ((with_reducible first | apply forkD | apply forkB | apply forkN | apply forkNP | apply forkNot) <;> intro _) | with_reducible_and_instances refine ok_small _ _ _ (fun _ => ?_) (fun _ => ?_) | ((with_reducible_and_instances apply index_str); (· exact Try.underlying9); (· rfl); (· rfl); (· omega); (· first | omega | exact str_pos (by assumption)))) <;> simp -implicitDefEqProofs only [syms, symx, seval, c86])
    all_goals first
      | with_reducible exact h1 hs _ (z.upW _ _ (by omega))
      | with_reducible exact h2 _ (z.upW _ _ (by omega))
  · ((skip); replace z := z.overW x (by (try simp only [lsz]); omega); rw [lay_nil h'])
    simp -implicitDefEqProofs only [syms, symx, seval, c86]
    exact h2 _ (z.upW _ _ (by omega))
theorem ok_predicate (s : ByteArray) (h : Heap) (K : Value → Heap → Prop) (h1 : lowName s → ∀ h', Ext h h' → K (.bool true) h') (h2 : ∀ h', Ext h h' → K (.bool false) h') : Ok Try.prog tab ov 87 [.string s] h K := by
  rw [lay_nil h]
  have z := Ext.refl h
  refine Ok.into rfl tab_fn87 (bodyF N87) rfl (m := 4) rfl ?_
  simp -implicitDefEqProofs only [syms, symx, seval, c87]
  refine ok_principal _ _ _ (fun hs h' x => ?_) (fun h' x => ?_)
  all_goals
    ((skip); replace z := z.overW x (by (try simp only [lsz]); omega); rw [lay_nil h'])
    simp -implicitDefEqProofs only [syms, symx, seval, c87]
    first
      | with_reducible exact h1 hs _ (z.upW _ _ (by omega))
      | with_reducible exact h2 _ (z.upW _ _ (by omega))
end Go.Proofs.Ytompindebndddaa

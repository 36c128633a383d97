/- Walks: plain atoms. Written out by fill2.py. No condition. -/
import Derived.Test.YtompindebndddaaG40
import Derived.Test.YtompindebndddaaG28
namespace Go.Proofs.Ytompindebndddaa
open Go.Am
set_option linter.unusedSimpArgs false
set_option linter.unusedVariables false
set_option maxRecDepth 100000
set_option maxHeartbeats 0
def OkT (a : AtomD) (k : Nat) : Prop := (a.n ≤ (k : Int) → a.arg k = noTermD) ∧ ((k : Int) < a.n → (a.arg k).v = greatB (a.arg k).s)
theorem okT_ge {a : AtomD} {k : Nat} (h : (k : Int) ≥ a.n) (e : TermD.mk (a.arg k).v (a.arg k).s = TermD.mk false ⟨#[]⟩) : OkT a k := ⟨fun _ => e, fun g => by omega⟩
theorem okT_lt {a : AtomD} {k : Nat} (h : (k : Int) < a.n) (e : (a.arg k).v = greatB (a.arg k).s) : OkT a k := ⟨fun g => by omega, fun _ => e⟩
theorem great_t {v : Bool} {s : ByteArray} (h1 : byteAt s 0 ≥ 65) (h2 : byteAt s 0 ≤ 90) (h3 : v = true) : v = greatB s := by
  unfold greatB
  rw [h3, decide_eq_true (show 65 ≤ byteAt s 0 from h1), decide_eq_true h2]
  rfl
theorem great_f {v : Bool} {s : ByteArray} (h2 : ¬ byteAt s 0 ≤ 90) (h3 : v = false) : v = greatB s := by
  unfold greatB
  rw [h3, decide_eq_false h2, Bool.and_false]
theorem great_g {v : Bool} {s : ByteArray} (h1 : ¬ byteAt s 0 ≥ 65) (h3 : v = false) : v = greatB s := by
  unfold greatB
  rw [h3, decide_eq_false (show ¬ 65 ≤ byteAt s 0 from h1), Bool.false_and]
def nmCh (c : Int) : Prop := ¬ c = 44 ∧ ¬ c = 32 ∧ ¬ c = 40 ∧ ¬ c = 41
theorem nmCh_mk {c : Int} (h1 : ¬ c = 44) (h2 : ¬ c = 32) (h3 : ¬ c = 40) (h4 : ¬ c = 41) : nmCh c := ⟨h1, h2, h3, h4⟩
def nmTo (s : ByteArray) (j : Nat) : Prop := ∀ i, i < j → nmCh (byteAt s i)
theorem nm_next {s : ByteArray} {j : Nat} (h : nmTo s j) (hc : nmCh (byteAt s j)) : nmTo s (j + 1) := fun i hi => by
  by_cases e : i < j
  · exact h i e
  · have : i = j := by omega
    subst this
    exact hc
theorem nm_word {s : ByteArray} (h : nmTo s s.size) : Word s.data.toList := by
  intro c hc
  obtain ⟨i, hi, he⟩ := byteAt_mem hc
  have := h i hi
  unfold nmCh at this
  unfold wordB
  omega
theorem word_parts {x y : List UInt8} (h : Word (x ++ y)) : Word x ∧ Word y := ⟨fun c hc => h c (List.mem_append_left _ hc), fun c hc => h c (List.mem_append_right _ hc)⟩
def OkTo (a : AtomD) (k : Nat) : Prop := ∀ i, i < k → OkT a i ∧ nmTo (a.arg i).s (a.arg i).s.size
theorem okTo_next {a : AtomD} {k : Nat} (h : OkTo a k) (h1 : OkT a k) (h2 : nmTo (a.arg k).s (a.arg k).s.size) : OkTo a (k + 1) := fun i hi => by
  by_cases e : i < k
  · exact h i e
  · have : i = k := by omega
    subst this
    exact ⟨h1, h2⟩
theorem plain_of {a : AtomD} {S : ByteArray} (h0 : 0 ≤ a.n) (h4 : a.n ≤ 4) (ht : OkTo a 4) (hS : S = a.says ++ a.pred) (hn : nmTo S S.size) : PlainD a := by
  have hw := nm_word hn
  rw [hS, ba_app] at hw
  obtain ⟨w1, w2⟩ := word_parts hw
  refine ⟨w1, w2, h0, h4, fun i hi => ?_, fun i h1 h2 => (ht i h2).1.1 h1⟩
  have := ht i (by omega)
  exact ⟨nm_word this.2, this.1.2 hi⟩
theorem ok_plainS (l : List AtomD) (v : Value) (h : Heap) (hl : Sl Rep.atom h v l) (hs : l.length ≤ 1000) (hlt : ∀ a ∈ l, a.light = true) (K : Value → Heap → Prop) (h1k : AllP l → ∀ h', Ext h h' → K (.bool true) h') (h2k : ∀ h', Ext h h' → K (.bool false) h') : Ok Try.prog tab ov 46 [v] h K := by
  rw [lay_nil h]
  have z := Ext.refl h
  have hle := hl.le
  refine Ok.into rfl tab_fn46 (bodyF N46) rfl (m := 152) rfl ?_
  simp -implicitDefEqProofs only [syms, symx, seval, c46]
  have hln := fun (hh : Heap) => hl.lenA ds23 hh
  have hva := vSelf v
  obtain ⟨I1, hI1⟩ : ∃ I : Nat → Env → Heap → Prop, I = (fun n e h' => ∃ (i : Nat) (h1 : Heap), h' = h1.lay [] h1.low ∧ Ext h h1 ∧ (n = l.length - i ∧ i ≤ l.length ∧ (∀ x ∈ l.take i, PlainD x)) ∧ ∃ J : Nat → Value, e = (v :: jr J 1 2 (.int .i64 i :: jr J 4 149 ([])))) := ⟨_, rfl⟩
  refine W_loopN I1 _ (by rw [hI1]; exact ⟨0, _, rfl, z, ⟨rfl, by omega, by simp⟩, junk (by kernel_rfl)⟩) ?_
  intro n e h' hin
  rw [hI1] at hin
  obtain ⟨i, h1', rfl, z, hinv, J, rfl⟩ := hin
  obtain ⟨rfl, hi, hall⟩ := hinv
  have hwi : IntKind.i64.wrap ((i : Int) + 1) = ((i + 1 : Nat) : Int) := by rw [wrap_i64 (by omega) (by omega)]; omega
  simp -implicitDefEqProofs only [syms, symx, seval, c46, hva, hln]
  refine forkD (fun hlt1 => ?_) (fun hlt1 => ?_)
  rotate_left
  · rw [List.take_of_length_le (by omega)] at hall
    repeat' (first | simp -implicitDefEqProofs only [syms, symx, seval, c46, hva] | ((with_reducible first | apply forkD | apply forkB | apply forkN | apply forkNP | apply forkNot) <;> intro _) | ((with_reducible_and_instances apply index_str); (· exact Try.underlying9); (· rfl); (· rfl); (· omega); (· first | omega | exact str_pos (by assumption))) | ((with_reducible refine ⟨z.grw.lay _ _, ?_⟩); (intro _ h' zz x _); (try simp only [lay_lay, List.append_nil] at x); (replace z := zz); (clear zz); rw [lay_nil h']))
    exact h1k hall _ (z.upW _ _ (by omega))
  have hr : l[(i : Int).toNat]? = some (l.getD i noAtomD) := getD_at (by omega)
  have hr' : l[i]? = some (l.getD i noAtomD) := getD_at (by omega)
  have hla := hlt _ (List.mem_of_getElem? hr)
  generalize l.getD i noAtomD = a at hr hr' hla
  repeat' (first | simp -implicitDefEqProofs only [syms, symx, seval, c46, hva] | ((with_reducible first | apply forkD | apply forkB | apply forkN | apply forkNP | apply forkNot) <;> intro _) | with_reducible_and_instances refine ixa_at (hl.mono z.inc) ds23 sz39 (by omega) hr (fun p hp => ?_) | with_reducible_and_instances refine fda2 hp fa39_2 (fun q hq => ?_) | with_reducible_and_instances refine ld_one hq ag3 ?_ | ((with_reducible_and_instances apply index_str); (· exact Try.underlying9); (· rfl); (· rfl); (· omega); (· first | omega | exact str_pos (by assumption))) | ((with_reducible refine ⟨z.grw.lay _ _, ?_⟩); (intro _ h' zz x _); (try simp only [lay_lay, List.append_nil] at x); (replace z := zz); (clear zz); rw [lay_nil h']))
  · exact h2k _ (z.upW _ _ (by omega))
  · exact h2k _ (z.upW _ _ (by omega))
  obtain ⟨I2, hI2⟩ : ∃ I : Nat → Env → Heap → Prop, I = (fun n e h' => ∃ (k : Nat) (h1 : Heap), h' = h1.lay [] h1.low ∧ Ext h h1 ∧ (n = 4 - k ∧ k ≤ 4 ∧ OkTo a k) ∧ ∃ J : Nat → Value, e = (v :: jr J 1 2 (.int .i64 i :: .int .i64 k :: jr J 5 148 ([])))) := ⟨_, rfl⟩
  refine W_loopN I2 _ (by rw [hI2]; exact ⟨0, _, rfl, z, ⟨rfl, by omega, fun i hi => by omega⟩, junk (by kernel_rfl)⟩) ?_
  intro n e h' hin
  rw [hI2] at hin
  obtain ⟨k, h2', rfl, z, hinv, J, rfl⟩ := hin
  obtain ⟨rfl, hk4, hto⟩ := hinv
  have hwk : IntKind.i64.wrap ((k : Int) + 1) = ((k + 1 : Nat) : Int) := by rw [wrap_i64 (by omega) (by omega)]; omega
  simp -implicitDefEqProofs only [syms, symx, seval, c46, hva]
  refine forkD (fun hlt2 => ?_) (fun hlt2 => ?_)
  · have hsz := light_arg hla k
    simp -implicitDefEqProofs only [syms, symx, seval, c46, hva]
    repeat' ((first | ((with_reducible first | apply forkD | apply forkB | apply forkN | apply forkNP | apply forkNot) <;> intro _) | with_reducible_and_instances refine ixa_at (hl.mono z.inc) ds23 sz39 (by omega) hr (fun p hp => ?_) | with_reducible_and_instances refine fda2 hp fa39_2 (fun q hq => ?_) | with_reducible_and_instances refine ld_one hq ag3 ?_ | with_reducible_and_instances refine fda3 hp fa39_3 (fun p hp => ?_) | with_reducible_and_instances refine ixg hp ix37 (by omega) (by omega) (fun p hp => ?_) | with_reducible_and_instances refine ldt hp ag36 sz36 ?_ | ((with_reducible_and_instances apply index_str); (· exact Try.underlying9); (· rfl); (· rfl); (· omega); (· first | omega | exact str_pos (by assumption))) | ((with_reducible refine ⟨z.grw.lay _ _, ?_⟩); (intro _ h' zz x _); (try simp only [lay_lay, List.append_nil] at x); (replace z := zz); (clear zz); rw [lay_nil h'])) <;> simp -implicitDefEqProofs only [syms, symx, seval, c46, lay_set, storeO_row, List.all_cons, List.all_nil, Am.one, Bool.and_true, Bool.true_and, Bool.and_self, List.set_cons_zero, List.set_cons_succ, st4, st3, st9, st36, st39, st47, st41, st192, TermD.val, TermD.cells, hva])
    refine W_fold (fun h' x hq => ?_)
    have q0 := hq 0 _ rfl
    clear hq
    (replace z := z.overW x (by (try simp only [lsz]); omega); rw [lay_nil h'])
    obtain ⟨R3, hR3⟩ : ∃ R : Env → Heap → Prop, R = (fun e h' => ∃ (h1 : Heap), h' = h1.lay [] h1.low ∧ Ext h h1 ∧ (Holds h1 (h2'.size + 0) (.row [.bool (a.arg k).v, .string (a.arg k).s] 36 false)) ∧ ∃ J : Nat → Value, e = (v :: jr J 1 2 (.int .i64 i :: .int .i64 k :: .pointer (some ⟨h2'.size + 0, 0, none⟩) :: jr J 6 147 ([]))) ∧ ∃ b : Bool, J 80 = .bool b ∧ (b = false → OkT a k)) := ⟨_, rfl⟩
    refine W_cut R3 ?cut ?rest
    case' rest =>
      intro e h' hin
      rw [hR3] at hin
      obtain ⟨h3', rfl, z, hinv, J, rfl, b, hJ, hOK⟩ := hin
    case cut =>
      repeat' ((first | ((with_reducible first | apply forkD | apply forkB | apply forkN | apply forkNP | apply forkNot) <;> intro _) | with_reducible_and_instances refine ixa_at (hl.mono z.inc) ds23 sz39 (by omega) hr (fun p hp => ?_) | with_reducible_and_instances refine fda2 hp fa39_2 (fun q hq => ?_) | with_reducible_and_instances refine ld_one hq ag3 ?_ | with_reducible_and_instances refine fda3 hp fa39_3 (fun p hp => ?_) | with_reducible_and_instances refine ixg hp ix37 (by omega) (by omega) (fun p hp => ?_) | with_reducible_and_instances refine ldt hp ag36 sz36 ?_ | with_reducible refine forkT (fun _ => ?_) (fun _ => ?_) | ((with_reducible_and_instances apply index_str); (· exact Try.underlying9); (· rfl); (· rfl); (· omega); (· first | omega | exact str_pos (by assumption))) | with_reducible refine drawN (by simp only [c46]) (z.upW _ _ (by omega)) ?_ | ((with_reducible refine ⟨z.grw.lay _ _, ?_⟩); (intro _ h' zz x _); (try simp only [lay_lay, List.append_nil] at x); (try replace q0 := q0.over x); (replace z := zz); (clear zz); rw [lay_nil h'])) <;> simp -implicitDefEqProofs only [syms, symx, seval, c46, q0.lay, bin_termN2, build_term2, bool_neq, hva])
      all_goals try (exfalso; omega)
      all_goals ((first | refine ⟨rfl, ?_⟩ | skip); rw [hR3]; exact ⟨_, rfl, z, q0, junk2 (by kernel_rfl) (⟨_, rfl, by first | exact (fun h => absurd h (by decide)) | exact fun _ => absurd (show (true != false) = false by assumption) (by decide) | exact fun _ => absurd (show (false != true) = false by assumption) (by decide) | exact fun _ => okT_ge (by assumption) (by assumption) | exact fun _ => okT_lt (by assumption) (great_t (by assumption) (by assumption) (by assumption)) | exact fun _ => okT_lt (by assumption) (great_f (by assumption) (by assumption)) | exact fun _ => okT_lt (by assumption) (great_g (by assumption) (by assumption))⟩)⟩)
    case rest =>
    have q0 := hinv
    cases b
    rotate_left
    · simp -implicitDefEqProofs only [syms, symx, seval, c46, hJ]
      exact h2k _ (z.upW _ _ (by omega))
    have hOK := hOK rfl
    repeat' (first | simp -implicitDefEqProofs only [syms, symx, seval, c46, hJ] | ((with_reducible first | apply forkD | apply forkB | apply forkN | apply forkNP | apply forkNot) <;> intro _) | with_reducible_and_instances refine ixa_at (hl.mono z.inc) ds23 sz39 (by omega) hr (fun p hp => ?_) | with_reducible_and_instances refine fda2 hp fa39_2 (fun q hq => ?_) | with_reducible_and_instances refine ld_one hq ag3 ?_ | with_reducible_and_instances refine fda3 hp fa39_3 (fun p hp => ?_) | with_reducible_and_instances refine ixg hp ix37 (by omega) (by omega) (fun p hp => ?_) | with_reducible_and_instances refine ldt hp ag36 sz36 ?_ | with_reducible refine forkT (fun _ => ?_) (fun _ => ?_) | ((with_reducible_and_instances apply index_str); (· exact Try.underlying9); (· rfl); (· rfl); (· omega); (· first | omega | exact str_pos (by assumption))) | ((with_reducible refine ⟨z.grw.lay _ _, ?_⟩); (intro _ h' zz x _); (try simp only [lay_lay, List.append_nil] at x); (try replace q0 := q0.over x); (replace z := zz); (clear zz); rw [lay_nil h']))
    obtain ⟨I4, hI4⟩ : ∃ I : Nat → Env → Heap → Prop, I = (fun n e h' => ∃ (j : Nat) (h1 : Heap), h' = h1.lay [] h1.low ∧ Ext h h1 ∧ (n = (a.arg k).s.size - j ∧ j ≤ (a.arg k).s.size ∧ nmTo (a.arg k).s j ∧ Holds h1 (h2'.size + 0) (.row [.bool (a.arg k).v, .string (a.arg k).s] 36 false)) ∧ ∃ J : Nat → Value, e = (v :: jr J 1 2 (.int .i64 i :: .int .i64 k :: .pointer (some ⟨h2'.size + 0, 0, none⟩) :: .int .i64 j :: jr J 7 146 ([])))) := ⟨_, rfl⟩
    refine W_loopN I4 _ (by rw [hI4]; exact ⟨0, _, rfl, z, ⟨rfl, by omega, fun i hi => by omega, q0⟩, junk (by kernel_rfl)⟩) ?_
    intro n e h' hin
    rw [hI4] at hin
    obtain ⟨j, h4', rfl, z, hinv, J, rfl⟩ := hin
    clear q0
    obtain ⟨rfl, hj, hnm, q0⟩ := hinv
    have hwj : IntKind.i64.wrap ((j : Int) + 1) = ((j + 1 : Nat) : Int) := by rw [wrap_i64 (by omega) (by omega)]; omega
    simp -implicitDefEqProofs only [syms, symx, seval, c46, q0.lay]
    refine forkD (fun hlt3 => ?_) (fun hlt3 => ?_)
    · repeat' (first | simp -implicitDefEqProofs only [syms, symx, seval, c46, q0.lay] | ((with_reducible first | apply forkD | apply forkB | apply forkN | apply forkNP | apply forkNot) <;> intro _) | with_reducible_and_instances refine ixa_at (hl.mono z.inc) ds23 sz39 (by omega) hr (fun p hp => ?_) | with_reducible_and_instances refine fda2 hp fa39_2 (fun q hq => ?_) | with_reducible_and_instances refine ld_one hq ag3 ?_ | with_reducible_and_instances refine fda3 hp fa39_3 (fun p hp => ?_) | with_reducible_and_instances refine ixg hp ix37 (by omega) (by omega) (fun p hp => ?_) | with_reducible_and_instances refine ldt hp ag36 sz36 ?_ | with_reducible refine forkT (fun _ => ?_) (fun _ => ?_) | ((with_reducible_and_instances apply index_str); (· exact Try.underlying9); (· rfl); (· rfl); (· omega); (· first | omega | exact str_pos (by assumption))) | ((with_reducible refine ⟨z.grw.lay _ _, ?_⟩); (intro _ h' zz x _); (try simp only [lay_lay, List.append_nil] at x); (try replace q0 := q0.over x); (replace z := zz); (clear zz); rw [lay_nil h']))
      all_goals first
        | with_reducible exact h2k _ (z.upW _ _ (by omega))
        | (rw [hwj]
           (rw [hI4]; with_reducible refine loopN_normal (m := _) ?_ ⟨j + 1, _, rfl, z, ⟨rfl, by omega, nm_next hnm (nmCh_mk (by assumption) (by assumption) (by assumption) (by assumption)), q0⟩, junk (by kernel_rfl)⟩; omega))
    · have hjs : j = (a.arg k).s.size := by omega
      subst hjs
      repeat' (first | simp -implicitDefEqProofs only [syms, symx, seval, c46] | ((with_reducible first | apply forkD | apply forkB | apply forkN | apply forkNP | apply forkNot) <;> intro _) | with_reducible_and_instances refine ixa_at (hl.mono z.inc) ds23 sz39 (by omega) hr (fun p hp => ?_) | with_reducible_and_instances refine fda2 hp fa39_2 (fun q hq => ?_) | with_reducible_and_instances refine ld_one hq ag3 ?_ | with_reducible_and_instances refine fda3 hp fa39_3 (fun p hp => ?_) | with_reducible_and_instances refine ixg hp ix37 (by omega) (by omega) (fun p hp => ?_) | with_reducible_and_instances refine ldt hp ag36 sz36 ?_ | with_reducible refine forkT (fun _ => ?_) (fun _ => ?_) | ((with_reducible_and_instances apply index_str); (· exact Try.underlying9); (· rfl); (· rfl); (· omega); (· first | omega | exact str_pos (by assumption))) | ((with_reducible refine ⟨z.grw.lay _ _, ?_⟩); (intro _ h' zz x _); (try simp only [lay_lay, List.append_nil] at x); (try replace q0 := q0.over x); (replace z := zz); (clear zz); rw [lay_nil h']))
      rw [hwk]
      (rw [hI2]; with_reducible refine loopN_normal (m := _) ?_ ⟨k + 1, _, rfl, z, ⟨rfl, by omega, okTo_next hto hOK hnm⟩, junk (by kernel_rfl)⟩; omega)
  have hk4' : k = 4 := by omega
  subst hk4'
  have hsz := light_says hla
  simp -implicitDefEqProofs only [syms, symx, seval, c46, hva]
  with_reducible first | refine drawN (by simp only [c46]) (z.upW _ _ (by omega)) ?_
  repeat' (first | simp -implicitDefEqProofs only [syms, symx, seval, c46, hva] | ((with_reducible first | apply forkD | apply forkB | apply forkN | apply forkNP | apply forkNot) <;> intro _) | with_reducible_and_instances refine ixa_at (hl.mono z.inc) ds23 sz39 (by omega) hr (fun p hp => ?_) | with_reducible_and_instances refine fda0 hp fa39_0 (fun q hq => ?_) | with_reducible_and_instances refine fda1 hp fa39_1 (fun q hq => ?_) | with_reducible_and_instances refine ld_one hq ag9 ?_ | ((with_reducible_and_instances apply index_str); (· exact Try.underlying9); (· rfl); (· rfl); (· omega); (· first | omega | exact str_pos (by assumption))) | ((with_reducible refine ⟨z.grw.lay _ _, ?_⟩); (intro _ h' zz x _); (try simp only [lay_lay, List.append_nil] at x); (try replace q0 := q0.over x); (replace z := zz); (clear zz); rw [lay_nil h']))
  refine cat_ruleX ?_ (fun S hS hSz => ?_)
  · omega
  repeat' (first | simp -implicitDefEqProofs only [syms, symx, seval, c46] | ((with_reducible first | apply forkD | apply forkB | apply forkN | apply forkNP | apply forkNot) <;> intro _) | with_reducible_and_instances refine ixa_at (hl.mono z.inc) ds23 sz39 (by omega) hr (fun p hp => ?_) | with_reducible_and_instances refine fda0 hp fa39_0 (fun q hq => ?_) | with_reducible_and_instances refine fda1 hp fa39_1 (fun q hq => ?_) | with_reducible_and_instances refine ld_one hq ag9 ?_ | ((with_reducible_and_instances apply index_str); (· exact Try.underlying9); (· rfl); (· rfl); (· omega); (· first | omega | exact str_pos (by assumption))) | ((with_reducible refine ⟨z.grw.lay _ _, ?_⟩); (intro _ h' zz x _); (try simp only [lay_lay, List.append_nil] at x); (try replace q0 := q0.over x); (replace z := zz); (clear zz); rw [lay_nil h']))
  obtain ⟨I5, hI5⟩ : ∃ I : Nat → Env → Heap → Prop, I = (fun n e h' => ∃ (j : Nat) (h1 : Heap), h' = h1.lay [] h1.low ∧ Ext h h1 ∧ (n = S.size - j ∧ j ≤ S.size ∧ nmTo S j) ∧ ∃ J : Nat → Value, e = (v :: jr J 1 2 (.int .i64 i :: jr J 4 3 (.string S :: .int .i64 j :: jr J 9 144 ([]))))) := ⟨_, rfl⟩
  refine W_loopN I5 _ (by rw [hI5]; exact ⟨0, _, rfl, z, ⟨rfl, by omega, fun i hi => by omega⟩, junk (by kernel_rfl)⟩) ?_
  intro n e h' hin
  rw [hI5] at hin
  obtain ⟨j, h5', rfl, z, hinv, J, rfl⟩ := hin
  obtain ⟨rfl, hj, hnm⟩ := hinv
  have hwj : IntKind.i64.wrap ((j : Int) + 1) = ((j + 1 : Nat) : Int) := by rw [wrap_i64 (by omega) (by omega)]; omega
  simp -implicitDefEqProofs only [syms, symx, seval, c46]
  refine forkD (fun hlt3 => ?_) (fun hlt3 => ?_)
  · repeat' (first | simp -implicitDefEqProofs only [syms, symx, seval, c46] | ((with_reducible first | apply forkD | apply forkB | apply forkN | apply forkNP | apply forkNot) <;> intro _) | with_reducible_and_instances refine ixa_at (hl.mono z.inc) ds23 sz39 (by omega) hr (fun p hp => ?_) | with_reducible_and_instances refine fda0 hp fa39_0 (fun q hq => ?_) | with_reducible_and_instances refine fda1 hp fa39_1 (fun q hq => ?_) | with_reducible_and_instances refine ld_one hq ag9 ?_ | ((with_reducible_and_instances apply index_str); (· exact Try.underlying9); (· rfl); (· rfl); (· omega); (· first | omega | exact str_pos (by assumption))) | ((with_reducible refine ⟨z.grw.lay _ _, ?_⟩); (intro _ h' zz x _); (try simp only [lay_lay, List.append_nil] at x); (try replace q0 := q0.over x); (replace z := zz); (clear zz); rw [lay_nil h']))
    all_goals first
      | with_reducible exact h2k _ (z.upW _ _ (by omega))
      | (rw [hwj]
         (rw [hI5]; with_reducible refine loopN_normal (m := _) ?_ ⟨j + 1, _, rfl, z, ⟨rfl, by omega, nm_next hnm (nmCh_mk (by assumption) (by assumption) (by assumption) (by assumption))⟩, junk (by kernel_rfl)⟩; omega))
  · have hjs : j = S.size := by omega
    subst hjs
    repeat' (first | simp -implicitDefEqProofs only [syms, symx, seval, c46] | ((with_reducible first | apply forkD | apply forkB | apply forkN | apply forkNP | apply forkNot) <;> intro _) | with_reducible_and_instances refine ixa_at (hl.mono z.inc) ds23 sz39 (by omega) hr (fun p hp => ?_) | with_reducible_and_instances refine fda0 hp fa39_0 (fun q hq => ?_) | with_reducible_and_instances refine fda1 hp fa39_1 (fun q hq => ?_) | with_reducible_and_instances refine ld_one hq ag9 ?_ | ((with_reducible_and_instances apply index_str); (· exact Try.underlying9); (· rfl); (· rfl); (· omega); (· first | omega | exact str_pos (by assumption))) | ((with_reducible refine ⟨z.grw.lay _ _, ?_⟩); (intro _ h' zz x _); (try simp only [lay_lay, List.append_nil] at x); (try replace q0 := q0.over x); (replace z := zz); (clear zz); rw [lay_nil h']))
    rw [hwi]
    (rw [hI1]; with_reducible refine loopN_normal (m := _) ?_ ⟨i + 1, _, rfl, z, ⟨rfl, by omega, take_all (i := i) (P := PlainD) hr' hall (plain_of (by omega) (by omega) hto hS hnm)⟩, junk (by kernel_rfl)⟩; omega)
theorem allP_one {a : AtomD} (h : AllP [a]) : PlainD a := h a (List.mem_cons_self ..)
structure PlainR (r : ReasonD) : Prop where
  light : r.atom.light = true
  plain : PlainD r.atom
  len : r.body.length ≤ 20
  lights : ∀ x ∈ r.body, x.light = true
  plains : AllP r.body
theorem ok_lightReasonsS (l : List ReasonD) (v : Value) (h : Heap) (hl : Sl Rep.reason h v l) (K : Value → Heap → Prop) (h1k : l.length ≤ 40 → (∀ r ∈ l, PlainR r) → ∀ h', Ext h h' → K (.bool true) h') (h2k : ∀ h', Ext h h' → K (.bool false) h') : Ok Try.prog tab ov 15 [v] h K := by
  rw [lay_nil h]
  have z := Ext.refl h
  have hva := vSelf v
  have hln := fun (hh : Heap) => hl.lenA ds24 hh
  refine Ok.into rfl tab_fn15 (bodyF N15) rfl (m := 47) rfl ?_
  simp -implicitDefEqProofs only [syms, symx, seval, c15, hva, hln]
  refine forkD (fun hgt => ?_) (fun hgt => ?_)
  · repeat' ( simp -implicitDefEqProofs only [syms, symx, seval, c15])
    exact h2k _ (z.upW _ _ (by omega))
  repeat' ( simp -implicitDefEqProofs only [syms, symx, seval, c15])
  obtain ⟨I1, hI1⟩ : ∃ I : Nat → Env → Heap → Prop, I = (fun n e h' => ∃ (i : Nat) (h1 : Heap), h' = h1.lay [] h1.low ∧ Ext h h1 ∧ (n = l.length - i ∧ i ≤ l.length ∧ ∀ r ∈ l.take i, PlainR r) ∧ ∃ J : Nat → Value, e = (v :: jr J 1 2 (.int .i64 i :: jr J 4 44 ([])))) := ⟨_, rfl⟩
  refine W_loopN I1 _ (by rw [hI1]; exact ⟨0, _, rfl, z, ⟨rfl, by omega, by simp⟩, junk (by kernel_rfl)⟩) ?_
  intro n e h' hin
  rw [hI1] at hin
  obtain ⟨i, h1', rfl, z, hinv, J, rfl⟩ := hin
  obtain ⟨rfl, hi, hall⟩ := hinv
  have hwi : IntKind.i64.wrap ((i : Int) + 1) = ((i + 1 : Nat) : Int) := by rw [wrap_i64 (by omega) (by omega)]; omega
  simp -implicitDefEqProofs only [syms, symx, seval, c15, hva, hln]
  refine forkD (fun hlt1 => ?_) (fun hlt1 => ?_)
  rotate_left
  · rw [List.take_of_length_le (by omega)] at hall
    repeat' ( simp -implicitDefEqProofs only [syms, symx, seval, c15, hva])
    exact h1k (by omega) hall _ (z.upW _ _ (by omega))
  obtain ⟨r, hr, hr'⟩ := amElem (l := l) (i := i) (by omega)
  repeat' (first | simp -implicitDefEqProofs only [syms, symx, seval, c15, hva] | with_reducible_and_instances refine ixr_at (hl.mono z.inc) ds24 sz41 (by omega) hr (fun p bd hbd hp => ?_) | with_reducible_and_instances refine fdr0 hp fa41_0 (fun p hp => ?_) | with_reducible_and_instances refine lda hp ag39 sz39 ?_)
  refine ok_light _ _ _ (fun hla h' x => ?_) (fun hla h' x => ?_)
  rotate_left
  · ((skip); replace z := z.overW x (by (try simp only [lsz]); omega); rw [lay_nil h'])
    repeat' (first | simp -implicitDefEqProofs only [syms, symx, seval, c15] | ((with_reducible_and_instances apply unop_not); (· rfl)))
    exact h2k _ (z.upW _ _ (by omega))
  ((skip); replace z := z.overW x (by (try simp only [lsz]); omega); rw [lay_nil h'])
  repeat' (first | simp -implicitDefEqProofs only [syms, symx, seval, c15, hva] | with_reducible_and_instances refine ixr_at (hl.mono z.inc) ds24 sz41 (by omega) hr (fun p bd hbd hp => ?_) | with_reducible_and_instances refine fdr2 hp fa41_2 (fun q hq => ?_) | with_reducible_and_instances refine ld_one hq ag23 ?_ | ((with_reducible_and_instances apply unop_not); (· rfl)))
  have hvb := vSelf bd
  skip
  refine ok_lights r.body _ 6 _ (hbd.lay _ _) _ (fun hlen hlb h' x => ?_) (fun h' x => ?_)
  rotate_left
  · ((skip); replace z := z.overW x (by (try simp only [lsz]); omega); rw [lay_nil h'])
    repeat' (first | simp -implicitDefEqProofs only [syms, symx, seval, c15] | ((with_reducible_and_instances apply unop_not); (· rfl)))
    exact h2k _ (z.upW _ _ (by omega))
  ((skip); replace z := z.overW x (by (try simp only [lsz]); omega); rw [lay_nil h'])
  repeat' (first | simp -implicitDefEqProofs only [syms, symx, seval, c15, hva, fill_atom] | with_reducible_and_instances refine ixr_at (hl.mono z.inc) ds24 sz41 (by omega) hr (fun p bd hbd hp => ?_) | with_reducible_and_instances refine fdr0 hp fa41_0 (fun p hp => ?_) | with_reducible_and_instances refine lda hp ag39 sz39 ?_ | ((with_reducible_and_instances apply unop_not); (· rfl)))
  refine ok_plainS [r.atom] _ _ sl_laid1 (by simp) (light_one hla) _ (fun hp1 h' x => ?_) (fun h' x => ?_)
  rotate_left
  · ((skip); replace z := z.overW x (by (try simp only [lsz]); omega); rw [lay_nil h'])
    repeat' (first | simp -implicitDefEqProofs only [syms, symx, seval, c15] | ((with_reducible_and_instances apply unop_not); (· rfl)))
    exact h2k _ (z.upW _ _ (by omega))
  ((skip); replace z := z.overW x (by (try simp only [lsz]); omega); rw [lay_nil h'])
  repeat' (first | simp -implicitDefEqProofs only [syms, symx, seval, c15, hva] | with_reducible_and_instances refine ixr_at (hl.mono z.inc) ds24 sz41 (by omega) hr (fun p bd hbd hp => ?_) | with_reducible_and_instances refine fdr2 hp fa41_2 (fun q hq => ?_) | with_reducible_and_instances refine ld_one hq ag23 ?_ | ((with_reducible_and_instances apply unop_not); (· rfl)))
  have hvb := vSelf bd
  refine ok_plainS r.body _ _ (hbd.lay _ _) (by omega) hlb _ (fun hp2 h' x => ?_) (fun h' x => ?_)
  rotate_left
  · ((skip); replace z := z.overW x (by (try simp only [lsz]); omega); rw [lay_nil h'])
    repeat' (first | simp -implicitDefEqProofs only [syms, symx, seval, c15] | ((with_reducible_and_instances apply unop_not); (· rfl)))
    exact h2k _ (z.upW _ _ (by omega))
  ((skip); replace z := z.overW x (by (try simp only [lsz]); omega); rw [lay_nil h'])
  repeat' (first | simp -implicitDefEqProofs only [syms, symx, seval, c15] | ((with_reducible_and_instances apply unop_not); (· rfl)))
  rw [hwi]
  (rw [hI1]; with_reducible refine loopN_normal (m := _) ?_ ⟨i + 1, _, rfl, z, ⟨rfl, by omega, take_all (i := i) (P := PlainR) hr' hall ⟨hla, allP_one hp1, by omega, hlb, hp2⟩⟩, junk (by kernel_rfl)⟩; omega)
end Go.Proofs.Ytompindebndddaa

/- A region that draws its order: what the plain machine comes to by the text is what the model comes to in whatever order. No condition. -/
import Derived.Test.YtpnnbjakbplgeaaGDraw2
import Derived.OrdersIn
namespace Go.Am
open Go.RowKit

theorem countP_lt {p p' : Nat → Bool} : ∀ (l : List Nat), (∀ k ∈ l, p' k = true → p k = true) → (∃ x ∈ l, p x = true ∧ p' x = false) → l.countP p' < l.countP p
  | [], _, h => by obtain ⟨x, hx, _⟩ := h; simp at hx
  | a :: l, hle, h => by
    have hmono : l.countP p' ≤ l.countP p := List.countP_mono_left fun k hk => hle k (by simp [hk])
    obtain ⟨x, hx, hp, hp'⟩ := h
    rw [List.countP_cons, List.countP_cons]
    rcases List.mem_cons.1 hx with rfl | hx
    · simp only [hp, hp', if_true, Bool.false_eq_true, if_false]
      omega
    · have ih := countP_lt l (fun k hk => hle k (by simp [hk])) ⟨x, hx, hp, hp'⟩
      by_cases ha : p' a = true
      · rw [if_pos ha, if_pos (hle a (by simp) ha)]; omega
      · rw [if_neg ha]; split <;> omega

section
variable {P : Program} {T : Tab} {C : Fn → List Value → Heap → Option (Value × Heap)}

theorem Heap.get_low (h : Heap) (x A : Nat) : Heap.get { h with low := x } A = h.get A := rfl

theorem StepAt.keeps (hg : Grows C) {ops : Array Oper} {o : Oper} {e e1 : Env} {h h1 : Heap} {v : Value} {k : Nat} (hs : StepAt P T C ops o e e1 h h1 v k) : Keeps h h1 := by
  rcases hs with ⟨_, h2, hev, rfl, _, _⟩ | ⟨_, _, rfl, _, _⟩
  · have hk := evalOp_keeps hg hev
    exact ⟨hk.size, Nat.min_le_left _ _, fun A h3 h4 => hk.get A h3 (Nat.lt_of_lt_of_le h4 (Nat.min_le_right _ _))⟩
  · exact .refl _
theorem kindA_blind {o : Oper} {e : Env} {h h' : Heap} (hb : opBlind T o = true) : kindA T o e h h' = 0 := by unfold kindA; rw [if_pos hb]
theorem kindA_grow {o : Oper} {e : Env} {h h' : Heap} (hb : ¬ opBlind T o = true) (hl : h.size ≤ h'.low) : kindA T o e h h' % 3 ≠ 2 ∧ kindA T o e h h' ≠ 0 ∧
    (kindA T o e h h' = 1 ∨ (∃ t a x, o.op = .load t a ∧ evalOperand e a = .pointer (some x) ∧ kindA T o e h h' = 3 + 3 * x.block) ∨ ((∃ t n ps, o.op = .buildSlice t n ps) ∧ kindA T o e h h' = 4 + 3 * h.size)) := by
  unfold kindA
  rw [if_neg hb, if_pos hl]
  split
  · rename_i t a hop
    split
    · rename_i x hx
      exact ⟨by omega, by omega, .inr (.inl ⟨t, a, x, hop, hx, rfl⟩)⟩
    · exact ⟨by omega, by omega, .inl rfl⟩
  · rename_i t n ps hop
    exact ⟨by omega, by omega, .inr (.inr ⟨⟨t, n, ps, hop⟩, rfl⟩)⟩
  · exact ⟨by omega, by omega, .inl rfl⟩
theorem kindA_turn {o : Oper} {e : Env} {h h' : Heap} (hb : ¬ opBlind T o = true) (hl : ¬ h.size ≤ h'.low) : kindA T o e h h' % 3 = 2 ∧
    (kindA T o e h h' = 2 ∨ ∃ t a y x, o.op = .store t a y ∧ evalOperand e a = .pointer (some x) ∧ kindA T o e h h' = 5 + 3 * x.block) := by
  unfold kindA
  rw [if_neg hb, if_neg hl]
  split
  · rename_i t a y hop
    split
    · rename_i x hx
      exact ⟨by omega, .inr ⟨t, a, y, x, hop, hx, rfl⟩⟩
    · exact ⟨rfl, .inl rfl⟩
  · exact ⟨rfl, .inl rfl⟩
theorem kOk_left {a b : Nat} (ha : a % 3 = 2) (hk : kOk a b = true) : b = 0 := by
  unfold kOk at hk
  simp only [Bool.or_eq_true, Bool.and_eq_true, beq_iff_eq, bne_iff_ne] at hk
  omega
theorem kOk_right {a b : Nat} (hb : b % 3 = 2) (hk : kOk a b = true) : a = 0 ∨ (5 ≤ b ∧ ((a % 3 = 0 ∧ 3 ≤ a ∧ a + 2 ≠ b) ∨ (a % 3 = 1 ∧ 3 ≤ a ∧ b + 2 ≤ a))) := by
  unfold kOk at hk
  simp only [Bool.or_eq_true, Bool.and_eq_true, beq_iff_eq, bne_iff_ne, Nat.ble_eq] at hk
  omega
theorem StepAt.same (hg : Grows C) {ops : Array Oper} {o : Oper} {e e1 : Env} {h h1 : Heap} {v : Value} {k : Nat} (hs : StepAt P T C ops o e e1 h h1 v k) (hk2 : k % 3 ≠ 2) : ∀ A, A < h.size → h1.get A = h.get A := by
  rcases hs with ⟨_, h2, hev, rfl, _, hk⟩ | ⟨_, _, rfl, _, _⟩
  · intro A hA
    by_cases hb : opBlind T o = true
    · rw [Heap.get_low, (evalOp_blind hb hev).1]; rfl
    · by_cases hl : h.size ≤ h2.low
      · exact (evalOp_keeps hg hev).get A hA (by omega)
      · exact (hk2 (by rw [hk]; exact (kindA_turn hb hl).1)).elim
  · intro A _; rfl
theorem StepAt.still {ops : Array Oper} {o : Oper} {e e1 : Env} {h h1 : Heap} {v : Value} {k : Nat} (hs : StepAt P T C ops o e e1 h h1 v k) (hk0 : k = 0) : h1.size = h.size ∧ ∀ A, h1.get A = h.get A := by
  rcases hs with ⟨_, h2, hev, rfl, _, hk⟩ | ⟨_, _, rfl, _, _⟩
  · by_cases hb : opBlind T o = true
    · obtain ⟨rfl, _⟩ := evalOp_blind hb hev
      exact ⟨rfl, fun _ => rfl⟩
    · exfalso
      by_cases hl : h.size ≤ h2.low
      · exact (kindA_grow hb hl).2.1 (by rw [← hk, hk0])
      · have := (kindA_turn (e := e) hb hl).1
        omega
  · exact ⟨rfl, fun _ => rfl⟩
/-- A write to one block turns no other. -/
theorem StepAt.other {ops : Array Oper} {o : Oper} {e e1 : Env} {h h1 : Heap} {v : Value} {k : Nat} (hs : StepAt P T C ops o e e1 h h1 v k) (hk2 : k % 3 = 2) (hk5 : 5 ≤ k) : ∀ A, 5 + 3 * A ≠ k → h1.get A = h.get A := by
  rcases hs with ⟨_, h2, hev, rfl, _, hk⟩ | ⟨_, _, rfl, _, _⟩
  · intro A hA
    by_cases hb : opBlind T o = true
    · rw [kindA_blind hb] at hk; omega
    · by_cases hl : h.size ≤ h2.low
      · have := (kindA_grow (e := e) hb hl).1
        omega
      · rcases (kindA_turn (e := e) hb hl).2 with h3 | ⟨t, a, y, x, hop, hx, h3⟩
        · omega
        · have hne : A ≠ x.block := fun e' => by subst e'; omega
          unfold evalOp at hev
          simp only [hop, hx, Option.map_eq_some_iff, Prod.mk.injEq] at hev
          obtain ⟨h4, hr, _, rfl⟩ := hev
          rw [Heap.get_low]
          obtain ⟨B, off, sp⟩ := x
          unfold storeA at hr
          split at hr
          · rename_i B' o' heq
            cases heq
            simp only [Option.bind_eq_some_iff] at hr
            obtain ⟨n, _, hr⟩ := hr
            split at hr
            · unfold writeA at hr
              split at hr
              · rename_i cs e' hg
                split at hr
                · cases hr
                  rw [Heap.get_set _ _ _ _ (Heap.lt_of_get hg), if_neg hne]
                  rfl
                · cases hr
              · cases hr
            · cases hr
          · cases hr
  · intro A _; rfl

/-- The same contents, on what is named: a heap may stand for another. -/
theorem Sim.swap {ρ : Rho} {h h1 : Heap} {w : World} (hs : Sim ρ h w) (hget : ∀ A L, ρ A = some L → h1.get A = h.get A ∨ h1.get A = none) : Sim ρ h1 w := by
  refine ⟨fun A L hA => ?_, fun A A' L L' hA hA' hne hb => ?_⟩
  · rcases hget A L hA with h2 | h2
    · rw [h2]; exact hs.blk A L hA
    · rw [h2]; exact hs.lt hA
  · have hlv : ∀ B M, ρ B = some M → ¬ live h B → ¬ live h1 B := by
      rintro B M hB hn ⟨b, h3, h4⟩
      rcases hget B M hB with h2 | h2
      · exact hn ⟨b, by rw [← h2]; exact h3, h4⟩
      · rw [h2] at h3; cases h3
    rcases hs.inj A A' L L' hA hA' hne hb with h2 | h2 | ⟨⟨c1, e1, h2⟩, ⟨c2, e2, h3⟩⟩
    · exact .inl (hlv _ _ hA h2)
    · exact .inr (.inl (hlv _ _ hA' h2))
    · rcases hget A L hA with h4 | h4
      · rcases hget A' L' hA' with h5 | h5
        · exact .inr (.inr ⟨⟨c1, e1, by rw [h4]; exact h2⟩, ⟨c2, e2, by rw [h5]; exact h3⟩⟩)
        · exact .inr (.inl (by rintro ⟨b, h6, _⟩; rw [h5] at h6; cases h6))
      · exact .inl (by rintro ⟨b, h6, _⟩; rw [h4] at h6; cases h6)

theorem Fr.step {ρ0 ρ ρ' : Rho} {h0 hf hi hj : Heap} {w0 w w' : World} (f : Fr ρ0 ρ h0 hf w0 w) (g : Fr ρ ρ' hi hj w w') (h1 : hf.low ≤ hj.low) (h2 : hj.size ≤ hf.size) (h3 : h0.size ≤ hi.size) : Fr ρ0 ρ' h0 hf w0 w' := by
  refine ⟨fun A L hA => g.grow A L (f.grow A L hA), ?_, g.os.trans f.os, g.tape.trans f.tape, g.output.trans f.output, Nat.le_trans f.size g.size, f.hsize, f.low, ?_, f.akeep⟩
  · intro A L hA hn
    cases hρ : ρ A with
    | some L1 =>
      have e : L1 = L := by have := g.grow A L1 hρ; rw [hA] at this; exact (Option.some.inj this).symm
      subst e
      exact f.fresh A L1 hρ hn
    | none =>
      obtain ⟨k1, k2, k3⟩ := g.fresh A L hA hρ
      refine ⟨by omega, by omega, ?_⟩
      rcases k3 with k3 | ⟨A0, L0, h5, he, hl, hl'⟩
      · exact .inl (Nat.le_trans f.size k3)
      · cases hρ0 : ρ0 A0 with
        | some L1 =>
          have e : L1 = L0 := by have := f.grow A0 L1 hρ0; rw [h5] at this; exact (Option.some.inj this).symm
          subst e
          exact .inr ⟨A0, L1, hρ0, he, by omega, by omega⟩
        | none =>
          rcases (f.fresh A0 L0 h5 hρ0).2.2 with h6 | ⟨A1, L1, h6, he6, hl6, hl6'⟩
          · exact .inl (by omega)
          · exact .inr ⟨A1, L1, h6, he6.trans he, hl6, hl6'⟩
  · intro b hb hall
    rw [g.keep b (Nat.lt_of_lt_of_le hb f.size) ?_, f.keep b hb hall]
    intro A L hA hL
    cases hρ : ρ0 A with
    | some L0 =>
      have e : L0 = L := by have := f.grow A L0 hρ; rw [hA] at this; exact (Option.some.inj this).symm
      subst e
      have := hall A L0 hρ hL
      omega
    | none =>
      rcases (f.fresh A L hA hρ).2.2 with k1 | ⟨A0, L0, h5, he, hl, hl'⟩
      · omega
      · have := hall A0 L0 h5 (he.trans hL)
        omega

theorem loadA_congr {t : TypeId} {x : Addr} {h hh : Heap} (hg : hh.get x.block = h.get x.block) : loadA T t (.pointer (some x)) hh = loadA T t (.pointer (some x)) h := by
  obtain ⟨B, o, s⟩ := x
  cases s <;> simp only [loadA, cellsAt, hg]
theorem loadA_lt {t : TypeId} {x : Addr} {h : Heap} {v : Value} (hl : loadA T t (.pointer (some x)) h = some v) : x.block < h.size := by
  rcases Nat.lt_or_ge x.block h.size with h1 | h1
  · exact h1
  · exfalso
    have hn : h.get x.block = none := by unfold Heap.get; rw [if_neg (by omega)]
    obtain ⟨B, o, s⟩ := x
    simp only at hn
    cases s with
    | some q => cases hl
    | none =>
      simp only [loadA, cellsAt, hn, Option.bind_eq_some_iff] at hl
      obtain ⟨g, _, hl⟩ := hl
      cases g <;> simp at hl
theorem buildSliceA_any {t : TypeId} {n : Nat} {ps : List (Nat × Value)} {h h1 h2 : Heap} {v : Value} (hb : buildSliceA T t n ps h = some (v, h2)) (hs : h1.size = h.size) : ∃ b, h2 = h.push b ∧ buildSliceA T t n ps h1 = some (v, h1.push b) := by
  unfold buildSliceA at hb ⊢
  split at hb
  · rename_i e hd
    simp only [Option.bind_eq_some_iff, Prod.exists] at hb
    obtain ⟨k, by', z, hi, hb⟩ := hb
    split at hb
    · cases hb
    · rename_i hc
      simp only [Option.map_eq_some_iff, Prod.mk.injEq] at hb
      obtain ⟨cs, hcs, rfl, rfl⟩ := hb
      refine ⟨_, rfl, ?_⟩
      simp only [hi, Option.bind_some]
      rw [if_neg hc, hcs, hs]
      rfl
  · cases hb
theorem mem_looksAt {ops : Array Oper} {o : Oper} {t : Nat} (h : Operand.tmp t ∈ o.op.operands.toList) : t ∈ o.looksAt ops := by
  unfold Oper.looksAt
  rw [List.mem_append]
  left
  rw [List.mem_filterMap]
  exact ⟨_, h, rfl⟩

set_option maxHeartbeats 1000000 in
theorem evalDraw_sound (hmix : P.follows .mixedOrders = true) (hT : T.Fits P) {gs : List Nat} (hC : CS P gs C) (hg : Grows C) : DS P gs (evalDraw P T C) := by
  intro rl id ops e0 e' h0 h' ρ0 a0 w0 Q hev hok hG0 hs0 hf0 he0 hQ
  unfold evalDraw at hev
  split at hev
  case h_2 => cases hev
  rename_i ks ee hh hrun
  split at hev
  case isFalse => cases hev
  rename_i hcomp
  cases hev
  obtain ⟨E, H, V, hE0, hH0, hEn, hHn, hkl, htr⟩ := trace_of ops.toList e0 e' h0 h' ks hrun
  rw [Array.length_toList] at hEn hHn
  have htr' : ∀ i o, ops[i]? = some o → StepAt P T C ops o (E i) (E (i + 1)) (H i) (H (i + 1)) (V i) (ks.getD i 2) := fun i o ho => htr i o (by simpa using ho)
  have hopAt : ∀ i, i < ops.size → ∃ o, ops[i]? = some o := fun i hi => ⟨_, Array.getElem?_eq_getElem hi⟩
  have hkeeps : ∀ i j, i ≤ j → j ≤ ops.size → Keeps (H i) (H j) := by
    intro i j hij
    induction hij with
    | refl => intro _; exact .refl _
    | step hij ih =>
      rename_i k
      intro hj
      obtain ⟨o, ho⟩ := hopAt k (by omega)
      exact (ih (by omega)).trans ((htr' k o ho).keeps hg)
  have hsame : ∀ i j, i ≤ j → j ≤ ops.size → (∀ k, i ≤ k → k < j → ks.getD k 2 % 3 ≠ 2) → ∀ A, A < (H i).size → (H j).get A = (H i).get A := by
    intro i j hij
    induction hij with
    | refl => intro _ _ A _; rfl
    | step hij ih =>
      rename_i k
      intro hj hk A hA
      obtain ⟨o, ho⟩ := hopAt k (by omega)
      have h1 := (htr' k o ho).same hg (hk k (by omega) (Nat.lt_succ_self _)) A (Nat.lt_of_lt_of_le hA (hkeeps i k (by omega) (by omega)).size)
      exact h1.trans (ih (by omega) (fun q h2 h3 => hk q h2 (by omega)) A hA)
  have hc1 : ∀ j, j < ops.size → compat1 ops ks (masks ops.toList []) j = true := fun j hj => List.all_eq_true.1 hcomp j (List.mem_range.2 hj)
  have hback : ∀ (j : Nat) (o : Oper), ops[j]? = some o → ∀ e ∈ o.after.toList, Region.binds .any e = true → e.on < j := by
    intro j o ho e he hb
    have := hc1 j (Array.getElem?_eq_some_iff.1 ho).1
    simp only [compat1, ho, Bool.and_eq_true, List.all_eq_true] at this
    have h2 := this.1 e he
    simpa [hb] using h2
  have hpair : ∀ (i j : Nat) (oi oj : Oper), i < j → ops[i]? = some oi → ops[j]? = some oj → ((masks ops.toList []).getD j 0).testBit i = true ∨ (oi.apart ops oj = true ∧ kOk (ks.getD i 2) (ks.getD j 2) = true) := by
    intro i j oi oj hij hoi hoj
    have := hc1 j (Array.getElem?_eq_some_iff.1 hoj).1
    simp only [compat1, hoj, Bool.and_eq_true, List.all_eq_true] at this
    have h2 := this.2 i (List.mem_range.2 hij)
    simpa [hoi] using h2
  clear hcomp hc1
  let dst : Nat → Option Tmp := fun k => (ops[k]?).bind (·.dst)
  refine wpIn_region_any hmix ?_
  have hElen : ∀ k, k ≤ ops.size → (E k).length = e0.length := by
    intro k
    induction k with
    | zero => intro _; rw [hE0]
    | succ k ih =>
      intro hk
      obtain ⟨o, ho⟩ := hopAt k (by omega)
      rcases htr' k o ho with ⟨_, _, _, _, h1, _⟩ | ⟨_, _, _, h1, _⟩ <;> rw [h1, put_length, ih (by omega)]
  have hEput : ∀ k o, ops[k]? = some o → E (k + 1) = put (E k) (dst k) (V k) := by
    intro k o ho
    have hd : dst k = o.dst := by simp [dst, ho]
    rw [hd]
    rcases htr' k o ho with ⟨_, _, _, _, h1, _⟩ | ⟨_, h2, _, h1, _⟩
    · exact h1
    · rw [h1, h2]
  have fin : ∀ (listed : Array Bool) (ρ : Rho) (a : Act) (w : World), (∀ k, k < ops.size → listed.getD k false = true) → EnvR ρ (eS e0 dst V (fun k => listed.getD k false) ops.size) a.tmps → a.defers = a0.defers →
      (∃ m, m ≤ ops.size ∧ Sim ρ (H m) w ∧ (∀ k, k < m → ks.getD k 2 % 3 = 2 → listed.getD k false = true) ∧ (m = ops.size ∨ (ks.getD m 2 % 3 = 2 ∧ listed.getD m false = false))) → Fr ρ0 ρ h0 h' w0 w → Q .normal a w := by
    intro listed ρ a w hall henv hdef hseg hfr
    obtain ⟨m, hm1, hm2, hm3, hm4⟩ := hseg
    have hmn : m = ops.size := by
      rcases hm4 with h1 | ⟨_, h1⟩
      · exact h1
      · rcases Nat.lt_or_ge m ops.size with h2 | h2
        · rw [hall m h2] at h1; cases h1
        · omega
    subst hmn
    rw [hHn] at hm2
    have heq : ∀ k, k ≤ ops.size → eS e0 dst V (fun k => listed.getD k false) k = E k := by
      intro k
      induction k with
      | zero => intro _; exact hE0.symm
      | succ k ih =>
        intro hk
        obtain ⟨o, ho⟩ := hopAt k (by omega)
        simp only [eS]
        rw [if_pos (hall k (by omega)), ih (by omega), hEput k o ho]
    rw [heq _ (Nat.le_refl _), hEn] at henv
    exact hQ ρ a w hfr hm2 henv hdef
  have readyNil : ∀ (listed : Array Bool), listed.size = ops.size → Region.ready .any ops listed = [] → ∀ k, k < ops.size → listed.getD k false = true := by
    intro listed hls hr k
    induction k using Nat.strongRecOn with
    | _ k ih =>
      intro hk
      cases hb : listed.getD k false with
      | true => rfl
      | false =>
        exfalso
        obtain ⟨o, ho⟩ := hopAt k hk
        have hmem : k ∈ Region.ready .any ops listed := by
          rw [mem_ready]
          refine ⟨?_, o, ho, fun e he hbd => ?_⟩
          · have : k < listed.size := by omega
            simp [this] at hb ⊢
            exact hb
          · have hlt := hback k o ho e (by simpa using he) hbd
            exact ih e.on hlt (by omega)
        rw [hr] at hmem
        cases hmem
  have main : ∀ (fuel : Nat) (listed : Array Bool) (ρ : Rho) (a : Act) (w : World), listed.size = ops.size → (List.range ops.size).countP (fun k => !listed.getD k false) ≤ fuel →
      (∀ (j : Nat) (o : Oper), ops[j]? = some o → listed.getD j false = true → ∀ e ∈ o.after.toList, Region.binds .any e = true → listed.getD e.on false = true) →
      EnvR ρ (eS e0 dst V (fun k => listed.getD k false) ops.size) a.tmps → a.defers = a0.defers →
      (∃ m, m ≤ ops.size ∧ Sim ρ (H m) w ∧ (∀ k, k < m → ks.getD k 2 % 3 = 2 → listed.getD k false = true) ∧ (m = ops.size ∨ (ks.getD m 2 % 3 = 2 ∧ listed.getD m false = false))) →
      (∀ A L, ρ A = some L → ρ0 A = some L ∨ ∃ j, j < ops.size ∧ listed.getD j false = true ∧ (H j).size ≤ A ∧ A < (H (j + 1)).size) →
      Fr ρ0 ρ h0 h' w0 w → wpAnyIn (WR rl) 0 P .any ops Q fuel listed a w := by
    intro fuel
    induction fuel with
    | zero =>
      intro listed ρ a w hls hcnt hdown henv hdef hseg hdom hfr
      have hall : ∀ k, k < ops.size → listed.getD k false = true := by
        intro k hk
        have h1 := List.countP_eq_zero.1 (Nat.le_zero.1 hcnt) k (List.mem_range.2 hk)
        simpa using h1
      refine ⟨?_, fin listed ρ a w hall henv hdef hseg hfr⟩
      apply List.eq_nil_iff_forall_not_mem.2
      intro i hi
      rw [mem_ready] at hi
      obtain ⟨h1, o, ho, _⟩ := hi
      have hlt : i < ops.size := (Array.getElem?_eq_some_iff.1 ho).1
      have h2 := hall i hlt
      have : i < listed.size := by omega
      simp [this] at h1 h2
      rw [h2] at h1
      cases h1
    | succ fuel ih =>
      intro listed ρ a w hls hcnt hdown henv hdef hseg hdom hfr
      refine ⟨fun hr => fin listed ρ a w (readyNil listed hls hr) henv hdef hseg hfr, ?_⟩
      intro i hi
      rw [mem_ready] at hi
      obtain ⟨hi0, o, ho, hpre⟩ := hi
      have hilt : i < ops.size := (Array.getElem?_eq_some_iff.1 ho).1
      have hSi : listed.getD i false = false := by
        have : i < listed.size := by omega
        simp [this] at hi0 ⊢
        exact hi0
      have hpre' : ∀ e ∈ o.after.toList, Region.binds .any e = true → listed.getD e.on false = true := fun e he hb => hpre e (by simpa using he) hb
      have hS' : ∀ k, (listed.setIfInBounds i true).getD k false = (decide (k = i) || listed.getD k false) := by
        intro k
        by_cases hk : k = i
        · subst hk
          have : k < listed.size := by omega
          simp [this]
        · simp [Array.getElem?_setIfInBounds_ne (Ne.symm hk), hk]
      have hcmpLow : ∀ k ok, k < i → ops[k]? = some ok → listed.getD k false = false → ok.apart ops o = true ∧ kOk (ks.getD k 2) (ks.getD i 2) = true := by
        intro k ok hki hok' hk
        rcases hpair k i ok o hki hok' ho with h1 | h1
        · have := mask_done (S := fun j => listed.getD j false = true) hback hdown i i o k (Nat.le_refl _) ho hpre' h1
          rw [hk] at this
          cases this
        · exact h1
      have hcmpHigh : ∀ j oj, i < j → ops[j]? = some oj → listed.getD j false = true → o.apart ops oj = true ∧ kOk (ks.getD i 2) (ks.getD j 2) = true := by
        intro j oj hij hoj hj
        rcases hpair i j o oj hij ho hoj with h1 | h1
        · have := mask_done (S := fun j => listed.getD j false = true) hback hdown j j oj i (Nat.le_refl _) hoj (hdown j oj hoj hj) h1
          rw [hSi] at this
          cases this
        · exact h1
      have hlook : ∀ t, t ∈ o.looksAt ops → (eS e0 dst V (fun k => listed.getD k false) ops.size).get t = (E i).get t := by
        intro t ht
        have p1 : ∀ k, k ≤ i → (eS e0 dst V (fun k => listed.getD k false) k).get t = (E k).get t := by
          intro k
          induction k with
          | zero => intro _; rw [hE0]; rfl
          | succ k ihk =>
            intro hk
            obtain ⟨ok, hok'⟩ := hopAt k (by omega)
            rw [hEput k ok hok']
            simp only [eS]
            split
            · exact put_get_congr (by rw [eS_length, hElen k (by omega)]) (ihk (by omega))
            · rename_i hk'
              rw [ihk (by omega), put_get_ne]
              intro hd
              have hap := (Oper.apart_spec (hcmpLow k ok (by omega) hok' (by simpa using hk')).1).1
              exact hap t (by simpa [dst, hok'] using hd) ht
        have p2 : ∀ k, i ≤ k → k ≤ ops.size → (eS e0 dst V (fun k => listed.getD k false) k).get t = (eS e0 dst V (fun k => listed.getD k false) i).get t := by
          intro k hik
          induction hik with
          | refl => intro _; rfl
          | step hik ihk =>
            rename_i k
            intro hk
            obtain ⟨ok, hok'⟩ := hopAt k (by omega)
            simp only [eS]
            split
            · rename_i hk'
              rw [put_get_ne, ihk (by omega)]
              intro hd
              have hne : i ≠ k := fun e => by subst e; rw [hSi] at hk'; cases hk'
              have hik2 : i ≤ k := hik
              have hap := (Oper.apart_spec (hcmpHigh k ok (by omega) hok' hk').1).2.2
              exact hap t (by simpa [dst, hok'] using hd) ht
            · exact ihk (by omega)
        rw [p2 _ (by omega) (Nat.le_refl _), p1 i (Nat.le_refl _)]
      have hoper : ∀ x ∈ o.op.operands.toList, evalOperand (eS e0 dst V (fun k => listed.getD k false) ops.size) x = evalOperand (E i) x := by
        intro x hx
        cases x with
        | tmp t => exact hlook t (mem_looksAt hx)
        | _ => rfl
      have hwant : wantedA ops o (eS e0 dst V (fun k => listed.getD k false) ops.size) = wantedA ops o (E i) := by
        unfold wantedA
        cases hgd : o.guard with
        | none => rfl
        | some g =>
          obtain ⟨j, b⟩ := g
          simp only
          cases hdj : (ops[j]?).bind (·.dst) with
          | none => rfl
          | some t =>
            simp only
            rw [hlook t (by unfold Oper.looksAt; rw [List.mem_append]; right; simp [hgd, hdj])]
      have hget' : ∀ t, (eS e0 dst V (fun k => (listed.setIfInBounds i true).getD k false) ops.size).get t = (put (eS e0 dst V (fun k => listed.getD k false) ops.size) o.dst (V i)).get t := by
        intro t
        have hdi : dst i = o.dst := by simp [dst, ho]
        have p1 : ∀ k, k ≤ i → eS e0 dst V (fun k => (listed.setIfInBounds i true).getD k false) k = eS e0 dst V (fun k => listed.getD k false) k := by
          intro k
          induction k with
          | zero => intro _; rfl
          | succ k ihk =>
            intro hk
            have hki : decide (k = i) = false := by simp; omega
            cases hk' : listed.getD k false with
            | true => rw [eS_pos (S := fun k => (listed.setIfInBounds i true).getD k false) (by show (listed.setIfInBounds i true).getD k false = true; rw [hS' k, hk']; simp), eS_pos (S := fun k => listed.getD k false) hk', ihk (by omega)]
            | false => rw [eS_neg (S := fun k => (listed.setIfInBounds i true).getD k false) (by show (listed.setIfInBounds i true).getD k false = false; rw [hS' k, hk', hki]; rfl), eS_neg (S := fun k => listed.getD k false) hk', ihk (by omega)]
        have p2 : ∀ k, i + 1 ≤ k → k ≤ ops.size → (eS e0 dst V (fun k => (listed.setIfInBounds i true).getD k false) k).get t = (put (eS e0 dst V (fun k => listed.getD k false) k) o.dst (V i)).get t := by
          intro k hik
          induction hik with
          | refl =>
            intro _
            rw [eS_pos (S := fun k => (listed.setIfInBounds i true).getD k false) (by show (listed.setIfInBounds i true).getD i false = true; rw [hS' i]; simp), p1 i (Nat.le_refl _), eS_neg (S := fun k => listed.getD k false) hSi, hdi]
          | step hik ihk =>
            rename_i k
            intro hk
            have hik2 : i + 1 ≤ k := hik
            obtain ⟨ok, hok'⟩ := hopAt k (by omega)
            have hki : decide (k = i) = false := by simp; omega
            have ihk' := ihk (by omega)
            cases hk' : listed.getD k false with
            | true =>
              rw [eS_pos (S := fun k => (listed.setIfInBounds i true).getD k false) (by show (listed.setIfInBounds i true).getD k false = true; rw [hS' k, hk']; simp), eS_pos (S := fun k => listed.getD k false) hk']
              have hap := (Oper.apart_spec (hcmpHigh k ok (by omega) hok' hk').1).2.1
              have hdk : dst k = ok.dst := by simp [dst, hok']
              have hlen : (eS e0 dst V (fun k => (listed.setIfInBounds i true).getD k false) k).length = (eS e0 dst V (fun k => listed.getD k false) k).length := by rw [eS_length, eS_length]
              by_cases hdt : o.dst = some t
              · have hne : dst k ≠ some t := by rw [hdk]; exact fun e => hap t hdt e
                rw [put_get_ne hne, ihk']
                exact put_get_congr (by rw [put_length]) (put_get_ne hne).symm
              · rw [put_get_ne hdt] at ihk'
                rw [put_get_ne hdt]
                exact put_get_congr hlen ihk'
            | false =>
              rw [eS_neg (S := fun k => (listed.setIfInBounds i true).getD k false) (by show (listed.setIfInBounds i true).getD k false = false; rw [hS' k, hk', hki]; rfl), eS_neg (S := fun k => listed.getD k false) hk']
              exact ihk'
        exact p2 _ (by omega) (Nat.le_refl _)
      have hls' : (listed.setIfInBounds i true).size = ops.size := by simp [hls]
      have hcnt' : (List.range ops.size).countP (fun k => !(listed.setIfInBounds i true).getD k false) ≤ fuel := by
        have := countP_lt (p := fun k => !listed.getD k false) (p' := fun k => !(listed.setIfInBounds i true).getD k false) (List.range ops.size)
          (fun k _ hk => by rw [hS' k] at hk; simp at hk ⊢; exact hk.2) ⟨i, List.mem_range.2 hilt, by rw [hSi]; rfl, by rw [hS' i]; simp⟩
        omega
      have hdown' : ∀ (j : Nat) (oj : Oper), ops[j]? = some oj → (listed.setIfInBounds i true).getD j false = true → ∀ e ∈ oj.after.toList, Region.binds .any e = true → (listed.setIfInBounds i true).getD e.on false = true := by
        intro j oj hoj hj e he hb
        rw [hS' e.on]
        rw [hS' j] at hj
        by_cases hji : j = i
        · subst hji
          rw [ho] at hoj
          cases hoj
          rw [hpre' e he hb]
          simp
        · have hj' : listed.getD j false = true := by simpa [hji] using hj
          rw [hdown j oj hoj hj' e he hb]
          simp
      have henv' : ∀ (ρ' : Rho) (u : Value), (∀ A L, ρ A = some L → ρ' A = some L) → VR ρ' (V i) u → EnvR ρ' (eS e0 dst V (fun k => (listed.setIfInBounds i true).getD k false) ops.size) (a.put o.dst u).tmps := by
        intro ρ' u hgr hv
        have h1 := (henv.mono hgr).put hv o.dst
        exact ⟨by rw [eS_length, ← h1.1, put_length, eS_length], fun t => by rw [hget' t]; exact h1.2 t⟩
      have hdef' : ∀ u, (a.put o.dst u).defers = a0.defers := fun u => by cases o.dst <;> exact hdef
      obtain ⟨m, hm1, hm2, hm3, hm4⟩ := hseg
      /- an operation that looks at no memory -/
      have segBlind : ks.getD i 2 % 3 ≠ 2 → ∀ (ρ' : Rho) (w' : World), Sim ρ' (H m) w' → ∃ m, m ≤ ops.size ∧ Sim ρ' (H m) w' ∧ (∀ k, k < m → ks.getD k 2 % 3 = 2 → (listed.setIfInBounds i true).getD k false = true) ∧ (m = ops.size ∨ (ks.getD m 2 % 3 = 2 ∧ (listed.setIfInBounds i true).getD m false = false)) := by
        intro hk0 ρ' w' hsim
        refine ⟨m, hm1, hsim, fun k h1 h2 => by rw [hS' k, hm3 k h1 h2]; simp, ?_⟩
        rcases hm4 with h1 | ⟨h1, h2⟩
        · exact .inl h1
        · refine .inr ⟨h1, ?_⟩
          have : m ≠ i := fun e => by rw [e] at h1; exact hk0 h1
          rw [hS' m, h2]
          simp [this]
      have domMono : ∀ (ρ' : Rho), (∀ A L, ρ' A = some L → ρ A = some L ∨ ((H i).size ≤ A ∧ A < (H (i + 1)).size)) →
          ∀ A L, ρ' A = some L → ρ0 A = some L ∨ ∃ j, j < ops.size ∧ (listed.setIfInBounds i true).getD j false = true ∧ (H j).size ≤ A ∧ A < (H (j + 1)).size := by
        intro ρ' hρ' A L hA
        rcases hρ' A L hA with h1 | h1
        · rcases hdom A L h1 with h2 | ⟨j, h2, h3, h4⟩
          · exact .inl h2
          · exact .inr ⟨j, h2, by rw [hS' j, h3]; simp, h4⟩
        · exact .inr ⟨i, hilt, by rw [hS' i]; simp, h1⟩
      have hfreeI : ∀ A, (H i).size ≤ A → A < (H (i + 1)).size → ρ A = none := by
        intro A h1 h2
        cases hA : ρ A with
        | none => rfl
        | some L =>
          exfalso
          rcases hdom A L hA with h3 | ⟨j, h3, h4, h5, h6⟩
          · have h7 := (hkeeps 0 i (by omega) (by omega)).size
            have h8 := (hkeeps (i + 1) ops.size (by omega) (Nat.le_refl _)).size
            rw [hH0] at h7
            rw [hHn] at h8
            rw [hf0 A (by omega) (by omega)] at h3
            cases h3
          · have hji : j ≠ i := fun e => by subst e; rw [hSi] at h4; cases h4
            rcases Nat.lt_or_ge j i with hlt | hge
            · have := (hkeeps (j + 1) i (by omega) (by omega)).size
              omega
            · have := (hkeeps (i + 1) j (by omega) (by omega)).size
              omega
      unfold wpOpIn
      simp only [ho]
      rw [wanted_eq henv, hwant]
      rcases htr' i o ho with ⟨hwt, h2, hevi, hH1, _, hk⟩ | ⟨hwt, hv, hH1, _, hk⟩
      · rw [if_pos hwt]
        have hopOk : OpOk ρ o := (hok o (by simpa using Array.mem_of_getElem? ho)).mono hfr.grow
        have hG := hG0.mono hfr.grow
        have hevS : ∀ hx, evalOp P T C (eS e0 dst V (fun k => listed.getD k false) ops.size) o hx = evalOp P T C (E i) o hx := fun hx => evalOp_congr hx hoper
        by_cases hb : opBlind T o = true
        · rw [kindA_blind hb] at hk
          have hev' := (evalOp_blind hb hevi).2 (H m)
          have hk' : ks.getD i 2 % 3 ≠ 2 := by omega
          have hsd := evalOp_sound (h' := H m) hT hC hG hm2 henv hopOk (fun A h1 h2 => by omega) (by rw [hevS]; exact hev')
          refine hsd.wp (evalOp_noDefer hevi) fun ρ' u w' f1 s1 v1 => ?_
          have hsame : ∀ A L, ρ' A = some L → ρ A = some L := by
            intro A L hA
            cases hρ : ρ A with
            | some L1 => have := f1.grow A L1 hρ; rw [hA] at this; exact this.symm
            | none => have := f1.fresh A L hA hρ; omega
          refine ih _ ρ' _ w' hls' hcnt' hdown' (henv' ρ' u f1.grow v1) (hdef' u) (segBlind hk' ρ' w' s1) (domMono ρ' fun A L hA => .inl (hsame A L hA)) ?_
          have k1 := hkeeps m ops.size hm1 (Nat.le_refl _)
          have k2 := hkeeps 0 m (by omega) hm1
          rw [hHn] at k1
          rw [hH0] at k2
          exact hfr.step f1 k1.low k1.size k2.size
        · have kI := hkeeps i ops.size (by omega) (Nat.le_refl _)
          have kI1 := hkeeps (i + 1) ops.size (by omega) (Nat.le_refl _)
          have k0i := hkeeps 0 i (by omega) (by omega)
          rw [hHn] at kI kI1
          rw [hH0] at k0i
          have hsz1 : (H (i + 1)).size = h2.size := by rw [hH1]
          have hlow1 : h'.low ≤ h2.low := by
            have h3 := kI1.low
            rw [hH1] at h3
            exact Nat.le_trans h3 (Nat.min_le_right _ _)
          have hget1 : ∀ A, (H (i + 1)).get A = h2.get A := fun A => by rw [hH1]; rfl
          by_cases hgrow : (H i).size ≤ h2.low
          · /- it turns nothing that is there -/
            obtain ⟨hk3, hk0, hkinds⟩ := kindA_grow (T := T) (e := E i) hb hgrow
            rw [← hk] at hk3 hk0 hkinds
            have him : i < m := by
              rcases hm4 with h3 | ⟨h3, h4⟩
              · omega
              · rcases Nat.lt_or_ge i m with h5 | h5
                · exact h5
                · exfalso
                  have hne : m ≠ i := fun e => by rw [e] at h3; exact hk3 h3
                  obtain ⟨om, hom⟩ := hopAt m (by omega)
                  exact hk0 (kOk_left h3 (hcmpLow m om (by omega) hom h4).2)
            have hturn : ∀ k, i ≤ k → k < m → ks.getD k 2 % 3 = 2 → 5 ≤ ks.getD k 2 ∧ ((ks.getD i 2 % 3 = 0 ∧ 3 ≤ ks.getD i 2 ∧ ks.getD i 2 + 2 ≠ ks.getD k 2) ∨ (ks.getD i 2 % 3 = 1 ∧ 3 ≤ ks.getD i 2 ∧ ks.getD k 2 + 2 ≤ ks.getD i 2)) := by
              intro k h3 h4 h5
              have hne : k ≠ i := fun e => by rw [e] at h5; exact hk3 h5
              have h6 := hm3 k h4 h5
              obtain ⟨ok, hok'⟩ := hopAt k (by omega)
              rcases kOk_right h5 (hcmpHigh k ok (by omega) hok' h6).2 with h8 | h8
              · exact (hk0 h8).elim
              · exact h8
            have hblk : ∀ (B j : Nat), i ≤ j → j ≤ m → B < (H j).size → (∀ k, i ≤ k → k < m → ks.getD k 2 % 3 = 2 → 5 + 3 * B ≠ ks.getD k 2) → (H m).get B = (H j).get B := by
              intro B j h3 h4 h5 h6
              have hx : ∀ d, j + d ≤ m → (H (j + d)).get B = (H j).get B := by
                intro d
                induction d with
                | zero => intro _; rfl
                | succ d ihd =>
                  intro hd
                  obtain ⟨ok, hok'⟩ := hopAt (j + d) (by omega)
                  have h7 := ihd (by omega)
                  have h8 : B < (H (j + d)).size := Nat.lt_of_lt_of_le h5 (hkeeps j (j + d) (by omega) (by omega)).size
                  rw [← h7]
                  by_cases h9 : ks.getD (j + d) 2 % 3 = 2
                  · exact (htr' (j + d) ok hok').other h9 (hturn (j + d) (by omega) (by omega) h9).1 B (h6 (j + d) (by omega) (by omega) h9)
                  · exact (htr' (j + d) ok hok').same hg h9 B h8
              have h7 := hx (m - j) (by omega)
              rwa [show j + (m - j) = m by omega] at h7
            by_cases hread : ∃ t a x, o.op = .load t a ∧ evalOperand (E i) a = .pointer (some x) ∧ ks.getD i 2 = 3 + 3 * x.block
            · obtain ⟨t, a', x, hop, hx, hkv⟩ := hread
              have hev' : evalOp P T C (E i) o (H m) = some (V i, H m) := by
                unfold evalOp at hevi ⊢
                simp only [hop, hx, Option.map_eq_some_iff, Prod.mk.injEq] at hevi ⊢
                obtain ⟨r, hr, h3, _⟩ := hevi
                refine ⟨r, ?_, h3, trivial⟩
                have hlt : x.block < (H i).size := loadA_lt hr
                rw [loadA_congr (h := { H i with low := (H i).size }) (by rw [Heap.get_low]; exact hblk x.block i (Nat.le_refl _) (by omega) hlt (fun k h4 h5 h6 => by have := (hturn k h4 h5 h6).2; omega))]
                exact hr
              have hsd := evalOp_sound (h' := H m) hT hC hG hm2 henv hopOk (fun A h1 h2 => by omega) (by rw [hevS]; exact hev')
              refine hsd.wp (evalOp_noDefer hevi) fun ρ' u w' f1 s1 v1 => ?_
              have hsame : ∀ A L, ρ' A = some L → ρ A = some L := by
                intro A L hA
                cases hρ : ρ A with
                | some L1 => have := f1.grow A L1 hρ; rw [hA] at this; exact this.symm
                | none => have := f1.fresh A L hA hρ; omega
              refine ih _ ρ' _ w' hls' hcnt' hdown' (henv' ρ' u f1.grow v1) (hdef' u) (segBlind hk3 ρ' w' s1) (domMono ρ' fun A L hA => .inl (hsame A L hA)) ?_
              have k1 := hkeeps m ops.size hm1 (Nat.le_refl _)
              have k2 := hkeeps 0 m (by omega) hm1
              rw [hHn] at k1
              rw [hH0] at k2
              exact hfr.step f1 k1.low k1.size k2.size
            have hmid : ∃ hx h2x : Heap, hx.size = (H i).size ∧ Sim ρ hx w ∧ evalOp P T C (E i) o hx = some (V i, h2x) ∧ h2x.size = h2.size ∧ h'.low ≤ h2x.low ∧ (H i).size ≤ h2x.low ∧ ∀ A, (H i).size ≤ A → A < h2.size → (H m).get A = h2x.get A := by
              rcases hkinds with h3 | h3 | ⟨⟨t, n, ps, hop⟩, hkv⟩
              · have hno : ∀ k, i ≤ k → k < m → ks.getD k 2 % 3 ≠ 2 := by
                  intro k h4 h5 h6
                  have := (hturn k h4 h5 h6).2
                  omega
                have hgI : ∀ A, A < (H i).size → (H m).get A = (H i).get A := hsame i m (by omega) hm1 hno
                have hgI1 : ∀ A, A < (H (i + 1)).size → (H m).get A = (H (i + 1)).get A := hsame (i + 1) m (by omega) hm1 (fun k h3 h4 => hno k (by omega) h4)
                refine ⟨{ H i with low := (H i).size }, h2, rfl, ?_, hevi, rfl, hlow1, hgrow, fun A h4 h5 => by rw [hgI1 A (by omega), hget1 A]⟩
                refine hm2.swap fun A L hA => ?_
                rw [Heap.get_low]
                rcases Nat.lt_or_ge A (H i).size with h3 | h3
                · exact .inl (hgI A h3).symm
                · right
                  unfold Heap.get
                  rw [if_neg (by omega)]
              · exact (hread h3).elim
              · have hszm := (hkeeps i m (by omega) hm1).size
                have hev2 := hevi
                unfold evalOp at hev2
                simp only [hop] at hev2
                obtain ⟨b, hb2, hb3⟩ := buildSliceA_any (h1 := (⟨(H i).size, (H m).tr, (H i).size⟩ : Heap)) hev2 rfl
                have hlow2 : h2.low = (H i).size := by rw [hb2]; rfl
                have hsz2 : h2.size = (H i).size + 1 := by rw [hb2]; rfl
                refine ⟨⟨(H i).size, (H m).tr, (H i).size⟩, _, rfl, ?_, by unfold evalOp; simp only [hop]; exact hb3, by rw [hsz2]; rfl, by rw [hlow2] at hlow1; exact hlow1, Nat.le_refl _, fun A h4 h5 => ?_⟩
                · refine hm2.swap fun A L hA => ?_
                  unfold Heap.get
                  rcases Nat.lt_or_ge A (H i).size with h3 | h3
                  · left
                    rw [if_pos h3, if_pos (by omega)]
                  · right
                    rw [if_neg (show ¬ A < (H i).size by omega)]
                · have hA : A = (H i).size := by omega
                  subst hA
                  rw [hblk _ (i + 1) (by omega) (by omega) (by rw [hsz1, hsz2]; omega) (fun k h6 h7 h8 => by have := (hturn k h6 h7 h8).2; omega), hget1, hb2, Heap.get_push, Heap.get_push, if_pos rfl, if_pos rfl]
            obtain ⟨hx, h2x, hxs, hsimI, hevx, h2s, hlow2, hgrow2, hN⟩ := hmid
            have hsd := evalOp_sound (h' := h2x) hT hC hG hsimI henv hopOk (fun A h3 h4 => hfreeI A (by omega) (by omega)) (by rw [hevS]; exact hevx)
            refine hsd.wp (evalOp_noDefer hevi) fun ρ' u w' f1 s1 v1 => ?_
            have hnew : ∀ A L, ρ' A = some L → ρ A = none → (H i).size ≤ A ∧ A < h2.size ∧ w.heap.size ≤ L.b := by
              intro A L hA hn
              obtain ⟨h3, h4, h5⟩ := f1.fresh A L hA hn
              refine ⟨by omega, by omega, ?_⟩
              rcases h5 with h5 | ⟨A0, L0, h6, _, h7, h8⟩
              · exact h5
              · rw [hfreeI A0 (by omega) (by omega)] at h6
                cases h6
            have hwkeep : ∀ b, b < w.heap.size → w'.heap[b]? = w.heap[b]? := by
              intro b hb'
              refine f1.keep b hb' fun A L hA _ => ?_
              rcases Nat.lt_or_ge A (H i).size with h3 | h3
              · left; omega
              · right
                rcases Nat.lt_or_ge A h2.size with h4 | h4
                · rw [hfreeI A h3 (by omega)] at hA; cases hA
                · omega
            have hsim' : Sim ρ' (H m) w' := by
              refine ⟨fun A L hA => ?_, fun A A' L L' hA hA' hne hbb => ?_⟩
              · cases hρ : ρ A with
                | none =>
                  obtain ⟨h3, h4, _⟩ := hnew A L hA hρ
                  rw [hN A h3 h4]
                  exact s1.blk A L hA
                | some L1 =>
                  have e : L1 = L := by have := f1.grow A L1 hρ; rw [hA] at this; exact (Option.some.inj this).symm
                  subst e
                  exact (hm2.blk A L1 hρ).keep f1.grow f1.size fun _ => hwkeep L1.b (hm2.lt hρ)
              · cases hρ : ρ A with
                | none =>
                  obtain ⟨h3, h4, h5⟩ := hnew A L hA hρ
                  cases hρ' : ρ A' with
                  | none =>
                    obtain ⟨h6, h7, h8⟩ := hnew A' L' hA' hρ'
                    have hx := s1.inj A A' L L' hA hA' hne hbb
                    unfold live isRo at hx ⊢
                    rw [hN A h3 h4, hN A' h6 h7]
                    exact hx
                  | some L1 =>
                    have e : L1 = L' := by have := f1.grow A' L1 hρ'; rw [hA'] at this; exact (Option.some.inj this).symm
                    subst e
                    have := hm2.lt hρ'
                    omega
                | some L1 =>
                  have e : L1 = L := by have := f1.grow A L1 hρ; rw [hA] at this; exact (Option.some.inj this).symm
                  subst e
                  cases hρ' : ρ A' with
                  | none =>
                    obtain ⟨h6, h7, h8⟩ := hnew A' L' hA' hρ'
                    have := hm2.lt hρ
                    omega
                  | some L2 =>
                    have e : L2 = L' := by have := f1.grow A' L2 hρ'; rw [hA'] at this; exact (Option.some.inj this).symm
                    subst e
                    exact hm2.inj A A' L1 L2 hρ hρ' hne hbb
            refine ih _ ρ' _ w' hls' hcnt' hdown' (henv' ρ' u f1.grow v1) (hdef' u) ?_ (domMono ρ' fun A L hA => ?_) (hfr.step f1 hlow2 (by have := kI1.size; omega) (by rw [hxs]; exact k0i.size))
            · refine ⟨m, hm1, hsim', fun k h3 h4 => by rw [hS' k, hm3 k h3 h4]; simp, ?_⟩
              rcases hm4 with h3 | ⟨h3, h4⟩
              · exact .inl h3
              · refine .inr ⟨h3, ?_⟩
                rw [hS' m, h4, show decide (m = i) = false by simp; omega]
                rfl
            · cases hρ : ρ A with
              | none => right; have := hnew A L hA hρ; omega
              | some L1 => left; have := f1.grow A L1 hρ; rw [hA] at this; rw [this]
          · obtain ⟨hk3, _⟩ := kindA_turn (T := T) (e := E i) hb hgrow
            rw [← hk] at hk3
            /- it may turn what is there: it stands between all others -/
            have hmi : m = i := by
              rcases Nat.lt_trichotomy m i with h3 | h3 | h3
              · exfalso
                rcases hm4 with h4 | ⟨h4, h5⟩
                · omega
                · obtain ⟨om, hom⟩ := hopAt m (by omega)
                  have := kOk_left h4 (hcmpLow m om h3 hom h5).2
                  omega
              · exact h3
              · have := hm3 i h3 hk3
                rw [hSi] at this
                cases this
            subst hmi
            have hsimI : Sim ρ { H m with low := (H m).size } w := hm2.swap fun A L _ => .inl rfl
            have hsd := evalOp_sound (h' := h2) hT hC hG hsimI henv hopOk (fun A h3 h4 => hfreeI A h3 (by omega)) (by rw [hevS]; exact hevi)
            refine hsd.wp (evalOp_noDefer hevi) fun ρ' u w' f1 s1 v1 => ?_
            /- the next that may turn something -/
            have hnext : ∃ m', m + 1 ≤ m' ∧ m' ≤ ops.size ∧ (∀ k, m + 1 ≤ k → k < m' → ks.getD k 2 % 3 ≠ 2) ∧ (m' = ops.size ∨ ks.getD m' 2 % 3 = 2) := by
              have hx : ∀ d, d ≤ ops.size - (m + 1) → (∀ k, m + 1 ≤ k → k < m + 1 + d → ks.getD k 2 % 3 ≠ 2) ∨ ∃ m', m + 1 ≤ m' ∧ m' ≤ ops.size ∧ (∀ k, m + 1 ≤ k → k < m' → ks.getD k 2 % 3 ≠ 2) ∧ (m' = ops.size ∨ ks.getD m' 2 % 3 = 2) := by
                intro d
                induction d with
                | zero => intro _; left; intro k h3 h4; omega
                | succ d ihd =>
                  intro hd
                  rcases ihd (by omega) with h3 | h3
                  · by_cases h4 : ks.getD (m + 1 + d) 2 % 3 = 2
                    · exact .inr ⟨m + 1 + d, by omega, by omega, h3, .inr h4⟩
                    · left
                      intro k h5 h6
                      by_cases h7 : k = m + 1 + d
                      · rw [h7]; exact h4
                      · exact h3 k h5 (by omega)
                  · exact .inr h3
              rcases hx (ops.size - (m + 1)) (Nat.le_refl _) with h3 | h3
              · exact ⟨ops.size, by omega, Nat.le_refl _, fun k h4 h5 => h3 k h4 (by omega), .inl rfl⟩
              · exact h3
            obtain ⟨m', hm'1, hm'2, hm'3, hm'4⟩ := hnext
            have hgI1 : ∀ A, A < (H (m + 1)).size → (H m').get A = (H (m + 1)).get A := hsame (m + 1) m' hm'1 hm'2 hm'3
            have hdomOld : ∀ A L, ρ A = some L → A < h2.size ∨ (ρ0 A = some L ∧ h'.size ≤ A) := by
              intro A L hA
              rcases hdom A L hA with h3 | ⟨j, h3, h4, h5, h6⟩
              · rcases Nat.lt_or_ge A h2.size with h7 | h7
                · exact .inl h7
                · rcases Nat.lt_or_ge A h'.size with h8 | h8
                  · have h9 := k0i.size
                    have h10 := (hkeeps m (m + 1) (by omega) (by omega)).size
                    rw [hf0 A (by omega) h8] at h3
                    cases h3
                  · exact .inr ⟨h3, h8⟩
              · left
                rcases Nat.lt_or_ge j (m + 1) with h7 | h7
                · have := (hkeeps (j + 1) (m + 1) (by omega) (by omega)).size
                  omega
                · exfalso
                  obtain ⟨oj, hoj⟩ := hopAt j h3
                  have h9 : ks.getD j 2 = 0 := kOk_left hk3 (hcmpHigh j oj (by omega) hoj h4).2
                  have := ((htr' j oj hoj).still h9).1
                  omega
            have hsim' : Sim ρ' (H m') w' := by
              refine s1.swap fun A L hA => ?_
              have hA' : A < h2.size ∨ h'.size ≤ A := by
                cases hρ : ρ A with
                | none => left; exact (f1.fresh A L hA hρ).2.1
                | some L1 =>
                  rcases hdomOld A L1 hρ with h3 | h3
                  · exact .inl h3
                  · exact .inr h3.2
              rcases hA' with h3 | h3
              · left
                rw [hgI1 A (by omega), hget1 A]
              · right
                have h4 := (hkeeps m' ops.size hm'2 (Nat.le_refl _)).size
                rw [hHn] at h4
                unfold Heap.get
                rw [if_neg (by omega)]
            refine ih _ ρ' _ w' hls' hcnt' hdown' (henv' ρ' u f1.grow v1) (hdef' u) ⟨m', hm'2, hsim', ?_, ?_⟩ (domMono ρ' fun A L hA => ?_) (hfr.step f1 hlow1 (by have := kI1.size; omega) k0i.size)
            · intro k h3 h4
              rw [hS' k]
              rcases Nat.lt_or_ge k (m + 1) with h5 | h5
              · by_cases h6 : k = m
                · simp [h6]
                · rw [hm3 k (by omega) h4]; simp
              · exact (hm'3 k h5 h3 h4).elim
            · rcases hm'4 with h3 | h3
              · exact .inl h3
              · rcases Nat.lt_or_ge m' ops.size with h4 | h4
                · refine .inr ⟨h3, ?_⟩
                  rw [hS' m', show decide (m' = m) = false by simp; omega, Bool.false_or]
                  cases hb' : listed.getD m' false with
                  | false => rfl
                  | true =>
                    exfalso
                    obtain ⟨om, hom⟩ := hopAt m' h4
                    have := kOk_left hk3 (hcmpHigh m' om (by omega) hom hb').2
                    omega
                · exact .inl (by omega)
            · cases hρ : ρ A with
              | none =>
                right
                obtain ⟨h3, h4, _⟩ := f1.fresh A L hA hρ
                have h3' : (H m).size ≤ A := h3
                omega
              | some L1 => left; have := f1.grow A L1 hρ; rw [hA] at this; rw [this]
      · rw [if_neg (by rw [hwt]; simp)]
        refine ⟨fun _ _ => trivial, ?_⟩
        have hu : VR ρ (V i) undef := by rw [hv]; exact .undef ρ
        exact ih _ ρ _ w hls' hcnt' hdown' (henv' ρ undef (fun _ _ h => h) hu) (hdef' undef) (segBlind (by omega) ρ w hm2) (domMono ρ fun A L hA => .inl hA) hfr
  have hk0 := hkeeps 0 ops.size (by omega) (Nat.le_refl _)
  rw [hH0, hHn] at hk0
  have hfalse : ∀ k, (Array.replicate ops.size false).getD k false = false := by
    intro k
    rcases Nat.lt_or_ge k ops.size with h1 | h1 <;> simp [h1]
  have hinit : ∀ k, eS e0 dst V (fun k => (Array.replicate ops.size false).getD k false) k = e0 := by
    intro k
    induction k with
    | zero => rfl
    | succ k ih => rw [eS_neg (S := fun k => (Array.replicate ops.size false).getD k false) (hfalse k), ih]
  refine main ops.size _ ρ0 a0 _ (by simp) (by have := List.countP_le_length (p := fun k => !(Array.replicate ops.size false).getD k false) (l := List.range ops.size); simpa using this) ?_ ?_ rfl ?_ ?_ ?_
  · intro j o _ hj
    rw [hfalse j] at hj
    cases hj
  · rw [hinit]; exact he0
  · /- the first that may turn something -/
    have hfirst : ∃ m, m ≤ ops.size ∧ (∀ k, k < m → ks.getD k 2 % 3 ≠ 2) ∧ (m = ops.size ∨ ks.getD m 2 % 3 = 2) := by
      have hx : ∀ d, d ≤ ops.size → (∀ k, k < d → ks.getD k 2 % 3 ≠ 2) ∨ ∃ m, m ≤ ops.size ∧ (∀ k, k < m → ks.getD k 2 % 3 ≠ 2) ∧ (m = ops.size ∨ ks.getD m 2 % 3 = 2) := by
        intro d
        induction d with
        | zero => intro _; left; intro k h4; omega
        | succ d ihd =>
          intro hd
          rcases ihd (by omega) with h3 | h3
          · by_cases h4 : ks.getD d 2 % 3 = 2
            · exact .inr ⟨d, by omega, h3, .inr h4⟩
            · left
              intro k h6
              by_cases h7 : k = d
              · rw [h7]; exact h4
              · exact h3 k (by omega)
          · exact .inr h3
      rcases hx ops.size (Nat.le_refl _) with h3 | h3
      · exact ⟨ops.size, Nat.le_refl _, h3, .inl rfl⟩
      · exact h3
    obtain ⟨m, hm1, hm2, hm3⟩ := hfirst
    refine ⟨m, hm1, ?_, fun k h1 h2 => (hm2 k h1 h2).elim, ?_⟩
    · have hs1 : Sim ρ0 h0 { w0 with drawn := w0.drawn + 1 } := hs0.same rfl
      refine hs1.swap fun A L hA => ?_
      rcases Nat.lt_or_ge A h0.size with h1 | h1
      · left
        have := hsame 0 m (by omega) hm1 (fun k _ h3 => hm2 k h3) A (by rw [hH0]; exact h1)
        rw [this, hH0]
      · rcases Nat.lt_or_ge A h'.size with h2 | h2
        · rw [hf0 A h1 h2] at hA; cases hA
        · right
          have h4 := (hkeeps m ops.size hm1 (Nat.le_refl _)).size
          rw [hHn] at h4
          unfold Heap.get
          rw [if_neg (by omega)]
    · rcases hm3 with h1 | h1
      · exact .inl h1
      · exact .inr ⟨h1, hfalse m⟩
  · intro A L hA; exact .inl hA
  · exact ⟨fun _ _ h => h, fun A L h1 h2 => (by rw [h1] at h2; cases h2), rfl, rfl, rfl, Nat.le_refl _, hk0.size, hk0.low, fun _ _ _ => rfl, hk0.get⟩
end
#print axioms evalDraw_sound
end Go.Am

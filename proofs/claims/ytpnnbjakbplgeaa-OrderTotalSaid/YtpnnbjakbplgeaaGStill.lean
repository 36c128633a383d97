/- Regions that draw their order, in which nothing that is there is turned. No condition. -/
import Derived.Test.YtpnnbjakbplgeaaGSym3
import Derived.Test.YtpnnbjakbplgeaaGFast
namespace Go.Am
section
variable (P : Program) (T : Tab) (ov : Ov)
def WOpsN (ops : Array Oper) : List Oper → Env → Heap → (Env → Heap → Prop) → Prop
  | [], e, h, Q => Q e h
  | o :: l, e, h, Q => wantE (wantedA ops o e) (WOp P T ov o e { h with low := h.size } fun v h' => (opBlind T o = true ∨ h.size ≤ h'.low) ∧ WOpsN ops l (put e o.dst v) { h' with low := min h.low h'.low } Q) (WOpsN ops l (put e o.dst undef) h Q)
def KOpsN (ops : Array Oper) (o : Oper) (l : List Oper) (d : Option Tmp) (Q : Env → Heap → Prop) (e : Env) (h : Heap) : Value → Heap → Prop :=
  fun v h' => Hid ((opBlind T o = true ∨ h.size ≤ h'.low) ∧ WOpsN P T ov ops l (put e d v) { h' with low := min h.low h'.low } Q)
def stepEN (ops : Array Oper) (o : Oper) (l : List Oper) (e : Env) (h : Heap) (Q : Env → Heap → Prop) (b : Bool) : Prop :=
  if b = true then WOp P T ov o e { h with low := h.size } (KOpsN P T ov ops o l o.dst Q e h) else WOpsN P T ov ops l (put e o.dst undef) h Q
end
section
variable {P : Program} {T : Tab} {ov : Ov}
theorem compat_still {ops : Array Oper} {ms ks : List Nat} (h1 : apartAll ops ms = true) (h2 : ∀ i, i < ops.size → ks.getD i 2 % 3 ≠ 2) : compat ops ks ms = true := by
  unfold compat
  rw [List.all_eq_true]
  intro j hj
  have hjs : j < ops.size := List.mem_range.1 hj
  unfold apartAll at h1
  have h1 := List.all_eq_true.1 h1 j hj
  unfold compat1
  split
  · rename_i oj hoj
    rw [hoj] at h1
    simp only [Bool.and_eq_true] at h1 ⊢
    refine ⟨h1.1, ?_⟩
    rw [List.all_eq_true]
    intro i hi
    have hij : i < j := List.mem_range.1 hi
    have h4 := List.all_eq_true.1 h1.2 i hi
    cases ht : (ms.getD j 0).testBit i with
    | true => rfl
    | false =>
      rw [ht] at h4
      simp only [Bool.false_or] at h4 ⊢
      split at h4
      · rename_i oi hoi
        rw [hoi]
        simp only
        rw [Bool.and_eq_true]
        refine ⟨h4, ?_⟩
        have key : ∀ x y : Nat, x % 3 ≠ 2 → y % 3 ≠ 2 → kOk x y = true := by
          intro x y h5 h6
          unfold kOk
          simp [h5, h6]
        exact key _ _ (h2 i (by omega)) (h2 j hjs)
      · rename_i hoi; rw [hoi]
  · rfl
theorem kindA_still {o : Oper} {e : Env} {h h' : Heap} (hb : opBlind T o = true ∨ h.size ≤ h'.low) : kindA T o e h h' % 3 ≠ 2 := by
  unfold kindA
  split
  · decide
  · rename_i hnb
    rcases hb with hb | hb
    · exact (hnb hb).elim
    · rw [if_pos hb]
      split
      · split <;> omega
      · omega
      · omega
theorem WOpsN.toK {ops : Array Oper} : ∀ (l : List Oper) (ks : List Nat) (e : Env) (h : Heap) (Q : Env → Heap → Prop), (∀ i, i < ks.length → ks.getD i 2 % 3 ≠ 2) → WOpsN P T ov ops l e h Q →
    WOpsK P T ov ops l ks e h fun ks' e' h' => (ks'.length = ks.length + l.length ∧ ∀ i, i < ks'.length → ks'.getD i 2 % 3 ≠ 2) ∧ Q e' h'
  | [], ks, e, h, Q, hks, hw => ⟨⟨rfl, hks⟩, hw⟩
  | o :: l, ks, e, h, Q, hks, hw => by
    have hks' : ∀ c : Nat, c % 3 ≠ 2 → ∀ i, i < (ks ++ [c]).length → (ks ++ [c]).getD i 2 % 3 ≠ 2 := by
      intro c hc i hi
      rw [List.length_append, List.length_singleton] at hi
      by_cases hlt : i < ks.length
      · have := hks i hlt
        rw [List.getD_eq_getElem?_getD] at this ⊢
        rw [List.getElem?_append_left hlt]
        exact this
      · have : i = ks.length := by omega
        subst this
        rw [List.getD_eq_getElem?_getD, List.getElem?_append_right (by omega), Nat.sub_self]
        simpa using hc
    have fin : ∀ (c : Nat) (Q' : List Nat → Env → Heap → Prop) (ks' : List Nat) (e' : Env) (h' : Heap), (ks'.length = (ks ++ [c]).length + l.length ∧ ∀ i, i < ks'.length → ks'.getD i 2 % 3 ≠ 2) ∧ Q e' h' → (ks'.length = ks.length + (o :: l).length ∧ ∀ i, i < ks'.length → ks'.getD i 2 % 3 ≠ 2) ∧ Q e' h' := by
      intro c Q' ks' e' h' ⟨⟨h1, h2⟩, h3⟩
      refine ⟨⟨?_, h2⟩, h3⟩
      simp only [List.length_append, List.length_cons, List.length_nil] at h1 ⊢
      omega
    simp only [WOpsN, WOpsK, wantE] at hw ⊢
    split at hw
    · rename_i hwt
      rw [if_pos hwt]
      refine WOp.mono (fun v h' ⟨hb, hw⟩ => ?_) hw
      refine WOpsK.mono _ _ _ _ _ _ (fun ks' e' h' hq => fin _ (fun _ _ _ => True) ks' e' h' hq) (WOpsN.toK l (ks ++ [kindA T o e h h']) _ _ Q (hks' _ (kindA_still hb)) hw)
    · rename_i hwt
      rw [if_neg hwt]
      exact WOpsK.mono _ _ _ _ _ _ (fun ks' e' h' hq => fin 0 (fun _ _ _ => True) ks' e' h' hq) (WOpsN.toK l (ks ++ [0]) _ _ Q (hks' 0 (by decide)) hw)
theorem W_still {rd : Option Nat} {id : Nat} {ops : List Oper} {e : Env} {h : Heap} {Q : Ex → Env → Heap → Prop} (ht : apartAll ⟨ops⟩ (masks ops []) = true) (hw : WOpsN P T ov ⟨ops⟩ ops e h (normE Q)) : W P T ov rd (.region id ⟨ops⟩ true) e h Q := by
  simp only [W]
  refine WOpsK.mono _ _ _ _ _ _ (fun ks' e' h' hq => ?_) (WOpsN.toK ops [] e h (normE Q) (fun i hi => by simp at hi) hw)
  refine ⟨compat_still ht fun i hi => hq.1.2 i ?_, hq.2⟩
  rw [hq.1.1]
  simpa using hi
theorem WOpsN_nil (ops : Array Oper) (e : Env) (h : Heap) (Q : Env → Heap → Prop) : WOpsN P T ov ops [] e h Q = Q e h := rfl
theorem WOpsN_cons (ops : Array Oper) (o : Oper) (l : List Oper) (e : Env) (h : Heap) (Q : Env → Heap → Prop) : WOpsN P T ov ops (o :: l) e h Q = stepEN P T ov ops o l e h Q (wantedA ops o e) := by
  simp only [WOpsN, wantE, stepEN]
  split
  · exact propext ⟨WOp.mono fun _ _ hw => ⟨hw⟩, WOp.mono fun _ _ hw => hw.out⟩
  · rfl
theorem stepEN_true (ops : Array Oper) (o : Oper) (l : List Oper) (e : Env) (h : Heap) (Q : Env → Heap → Prop) : stepEN P T ov ops o l e h Q true = WOp P T ov o e (h.lay [] h.size) (KOpsN P T ov ops o l o.dst Q e h) := rfl
theorem stepEN_false (ops : Array Oper) (o : Oper) (l : List Oper) (e : Env) (h : Heap) (Q : Env → Heap → Prop) : stepEN P T ov ops o l e h Q false = WOpsN P T ov ops l (put e o.dst undef) h Q := rfl
theorem KOpsN_app (ops : Array Oper) (o : Oper) (l : List Oper) (d : Option Tmp) (Q : Env → Heap → Prop) (e : Env) (h : Heap) (v : Value) (h' : Heap) :
    KOpsN P T ov ops o l d Q e h v h' = ((opBlind T o = true ∨ h.size ≤ h'.low) ∧ WOpsN P T ov ops l (put e d v) (h'.lay [] (min h.low h'.low)) Q) := hid_eq _
theorem lay_lay (h : Heap) (l m : List Blk) (w v : Nat) : (h.lay l w).lay m v = h.lay (l ++ m) v := by
  simp only [Heap.lay, List.foldl_append]
  congr 1
  · simp only [foldl_size]
  · have key : ∀ (m : List Blk) (a b : Heap), a.size = b.size → a.tr = b.tr → (m.foldl Heap.push a).tr = (m.foldl Heap.push b).tr := by
      intro m
      induction m with
      | nil => intro a b _ h2; exact h2
      | cons c m ih =>
        intro a b h1 h2
        rw [List.foldl_cons, List.foldl_cons]
        exact ih _ _ (by simp [Heap.push, h1]) (by simp [Heap.push, h1, h2])
    exact key m _ _ rfl rfl
end
theorem Ext.overW {h h1 h2 : Heap} {l : List Blk} {w : Nat} (z : Ext h h1) (x : Ext (h1.lay l w) h2) (hw : min h1.low h1.size ≤ w) : Ext h h2 := (z.trans (lay_ext _ _ _ hw)).trans x
theorem Ext.upW {h h1 : Heap} (z : Ext h h1) (l : List Blk) (w : Nat) (hw : min h1.low h1.size ≤ w) : Ext h (h1.lay l w) := z.trans (lay_ext _ _ _ hw)
theorem Ext.upL {h h2 : Heap} (z : Ext h h2) (l : List Blk) (w : Nat) (hw : min h.low h.size ≤ w) : Ext h (h2.lay l w) :=
  ⟨by rw [lay_size]; have := z.size; omega, fun A hA => (lay_get_old h2 l w (Nat.lt_of_lt_of_le hA z.size)).trans (z.get A hA), hw⟩
theorem Ext.lowW {h h2 : Heap} {l : List Blk} {w : Nat} (x : Ext (h.lay l w) h2) : min w (h.size + l.length) ≤ h2.low := by
  have := x.low
  rw [lay_low, lay_size] at this
  exact this
#print axioms W_still
end Go.Am

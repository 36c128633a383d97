/- Regions whose order is drawn, with kinds told for each operation: a store to what the region laid, a load of what it did not lay. No condition. -/
import Derived.Test.YtemapihoobmonaaGreatDoorG17
import Derived.Test.YtemapihoobmonaaGreatDoorG18
import Derived.Test.YtemapihoobmonaaGreatDoorGFast2
import Derived.Test.YtemapihoobmonaaGreatDoorG45
namespace Go.Am
set_option linter.unusedVariables false
inductive KC where
  | plain
  | load (a : Operand)
  | build
  | store (a : Operand)
def kcOf (o : Oper) : KC := match o.op with
  | .load _ a => .load a
  | .buildSlice _ _ _ => .build
  | .store _ a _ => .store a
  | _ => .plain
def zx1 : Value → Nat
  | .pointer (some x) => 3 + 3 * x.block
  | _ => 1
def zyq : Value → Nat
  | .pointer (some x) => 5 + 3 * x.block
  | _ => 2
def zhg (c : KC) (e : Env) (n : Nat) : Nat := match c with
  | .load a => zx1 (zab e a)
  | .build => 4 + 3 * n
  | _ => 1
def zqL (c : KC) (e : Env) : Nat := match c with
  | .store a => zyq (zab e a)
  | _ => 2
theorem ztm (A o : Nat) : zx1 (.pointer (some ⟨A, o, none⟩)) = 3 + 3 * A := rfl
theorem zsK (A o : Nat) : zyq (.pointer (some ⟨A, o, none⟩)) = 5 + 3 * A := rfl
theorem zpL (a : Operand) (e : Env) (n : Nat) : zhg (.load a) e n = zx1 (zab e a) := rfl
theorem zoC (e : Env) (n : Nat) : zhg .build e n = 4 + 3 * n := rfl
theorem znQ (e : Env) (n : Nat) : zhg .plain e n = 1 := rfl
theorem znj (a : Operand) (e : Env) (n : Nat) : zhg (.store a) e n = 1 := rfl
theorem zoj (a : Operand) (e : Env) : zqL (.store a) e = zyq (zab e a) := rfl
section
variable {T : Tab}
theorem zjI {o : Oper} {e : Env} {h h' : Heap} (hb : za9 T o = false) (hl : h.size ≤ h'.low) : zbW T o e h h' = zhg (kcOf o) e h.size := by
  unfold zbW
  rw [if_neg (by rw [hb]; decide), if_pos hl]
  unfold zhg kcOf
  obtain ⟨dst, op, ty, pos, after, guard⟩ := o
  cases op <;> rfl
theorem zqj {o : Oper} {e : Env} {h h' : Heap} (hb : za9 T o = false) (hl : ¬ h.size ≤ h'.low) : zbW T o e h h' = zqL (kcOf o) e := by
  unfold zbW
  rw [if_neg (by rw [hb]; decide), if_neg hl]
  unfold zqL kcOf
  obtain ⟨dst, op, ty, pos, after, guard⟩ := o
  cases op <;> rfl
end
section
variable (P : Program) (T : Tab) (ov : Ov)
def WOpsG (b : Nat) (ops : Array Oper) : List Oper → List Nat → Env → Heap → (List Nat → Env → Heap → Prop) → Prop
  | [], ks, e, h, Q => Q ks e h
  | o :: l, ks, e, h, Q => zdO (zaU ops o e)
      (if zak o = true then WOp P T ov o e h fun v _ => WOpsG b ops l (ks ++ [zhg (kcOf o) e h.size]) (put e o.dst v) h Q
        else WOp P T ov o e { h with low := h.size } fun v h' => (b ≤ h'.low ∧ h.size ≤ h'.size) ∧ ((h.size ≤ h'.low ∧ WOpsG b ops l (ks ++ [zhg (kcOf o) e h.size]) (put e o.dst v) h' Q) ∨ (¬ h.size ≤ h'.low ∧ WOpsG b ops l (ks ++ [zqL (kcOf o) e]) (put e o.dst v) h' Q)))
      (WOpsG b ops l (ks ++ [0]) (put e o.dst undef) h Q)
def zst (b : Nat) (ops : Array Oper) (l : List Oper) (ks : List Nat) (d : Option Tmp) (Q : List Nat → Env → Heap → Prop) (e : Env) (h : Heap) (k : Nat) : Value → Heap → Prop := fun v _ => Hid (WOpsG P T ov b ops l (ks ++ [k]) (put e d v) h Q)
def zvT (b : Nat) (ops : Array Oper) (l : List Oper) (ks : List Nat) (d : Option Tmp) (Q : List Nat → Env → Heap → Prop) (e : Env) (h : Heap) (k1 k2 : Nat) : Value → Heap → Prop := fun v h' =>
  Hid ((b ≤ h'.low ∧ h.size ≤ h'.size) ∧ ((h.size ≤ h'.low ∧ WOpsG P T ov b ops l (ks ++ [k1]) (put e d v) h' Q) ∨ (¬ h.size ≤ h'.low ∧ WOpsG P T ov b ops l (ks ++ [k2]) (put e d v) h' Q)))
def zgt (b : Nat) (ops : Array Oper) (o : Oper) (l : List Oper) (ks : List Nat) (d : Option Tmp) (e : Env) (h : Heap) (Q : List Nat → Env → Heap → Prop) (c : KC) (w q : Bool) : Prop :=
  if w = true then (if q = true then WOp P T ov o e h (zst P T ov b ops l ks d Q e h (zhg c e h.size)) else WOp P T ov o e (h.lay [] h.size) (zvT P T ov b ops l ks d Q e h (zhg c e h.size) (zqL c e))) else WOpsG P T ov b ops l (ks ++ [0]) (put e d undef) h Q
end
section
variable {P : Program} {T : Tab} {ov : Ov}
theorem zng (b : Nat) (ops : Array Oper) (o : Oper) (l : List Oper) (ks : List Nat) (e : Env) (h : Heap) (Q : List Nat → Env → Heap → Prop) : WOpsG P T ov b ops (o :: l) ks e h Q = zgt P T ov b ops o l ks o.dst e h Q (kcOf o) (zaU ops o e) (zak o) := by
  simp only [WOpsG, zdO, zgt]
  split
  · split
    · exact propext ⟨WOp.mono fun _ _ hw => ⟨hw⟩, WOp.mono fun _ _ hw => hw.out⟩
    · exact propext ⟨WOp.mono fun _ _ hw => ⟨hw⟩, WOp.mono fun _ _ hw => hw.out⟩
  · rfl
theorem zk5 (b : Nat) (ops : Array Oper) (o : Oper) (l : List Oper) (ks : List Nat) (d : Option Tmp) (e : Env) (h : Heap) (Q : List Nat → Env → Heap → Prop) (c : KC) : zgt P T ov b ops o l ks d e h Q c true true = WOp P T ov o e h (zst P T ov b ops l ks d Q e h (zhg c e h.size)) := rfl
theorem zmz (b : Nat) (ops : Array Oper) (o : Oper) (l : List Oper) (ks : List Nat) (d : Option Tmp) (e : Env) (h : Heap) (Q : List Nat → Env → Heap → Prop) (c : KC) : zgt P T ov b ops o l ks d e h Q c true false = WOp P T ov o e (h.lay [] h.size) (zvT P T ov b ops l ks d Q e h (zhg c e h.size) (zqL c e)) := rfl
theorem zlZ (b : Nat) (ops : Array Oper) (o : Oper) (l : List Oper) (ks : List Nat) (d : Option Tmp) (e : Env) (h : Heap) (Q : List Nat → Env → Heap → Prop) (c : KC) (q : Bool) : zgt P T ov b ops o l ks d e h Q c false q = WOpsG P T ov b ops l (ks ++ [0]) (put e d undef) h Q := rfl
theorem zp4 (b : Nat) (ops : Array Oper) (l : List Oper) (ks : List Nat) (d : Option Tmp) (Q : List Nat → Env → Heap → Prop) (e : Env) (h : Heap) (k : Nat) (v : Value) (h' : Heap) : zst P T ov b ops l ks d Q e h k v h' = WOpsG P T ov b ops l (ks ++ [k]) (put e d v) h Q := zse _
theorem zi1 {b : Nat} {ops : Array Oper} {l : List Oper} {ks : List Nat} {d : Option Tmp} {Q : List Nat → Env → Heap → Prop} {e : Env} {hh : Heap} {bs0 bs : List Blk} {w s k1 k2 : Nat} {v : Value} (hl : bs0.length ≤ bs.length) (hb : b ≤ s) (hs : hh.size + bs0.length ≤ s)
    (hk : WOpsG P T ov b ops l (ks ++ [k1]) (put e d v) (hh.lay bs s) Q) : zvT P T ov b ops l ks d Q e (hh.lay bs0 w) k1 k2 v (hh.lay bs s) :=
  ⟨⟨⟨hb, by rw [zad, zad]; omega⟩, .inl ⟨by rw [zad]; exact hs, hk⟩⟩⟩
theorem znM {b : Nat} {ops : Array Oper} {l : List Oper} {ks : List Nat} {d : Option Tmp} {Q : List Nat → Env → Heap → Prop} {e : Env} {hh : Heap} {bs0 bs : List Blk} {w s k1 k2 : Nat} {v : Value} (hl : bs0.length = bs.length) (hb : b ≤ s) (hs : s < hh.size + bs0.length)
    (hk : WOpsG P T ov b ops l (ks ++ [k2]) (put e d v) (hh.lay bs s) Q) : zvT P T ov b ops l ks d Q e (hh.lay bs0 w) k1 k2 v (hh.lay bs s) :=
  ⟨⟨⟨hb, by rw [zad, zad]; omega⟩, .inr ⟨by rw [zad]; show ¬ _ ≤ s; omega, hk⟩⟩⟩
structure Told (T : Tab) (ops : Array Oper) (k0 ks : List Nat) : Prop where
  len : k0.length = ks.length
  blind : ∀ i, i < k0.length → zaW T ops i = true → k0.getD i 2 = 0
  same : ∀ i, i < k0.length → zaW T ops i = false → k0.getD i 2 = ks.getD i 2
theorem zf1 (l : List Nat) (c i : Nat) (hi : i < (l ++ [c]).length) : (i < l.length ∧ (l ++ [c]).getD i 2 = l.getD i 2) ∨ (i = l.length ∧ (l ++ [c]).getD i 2 = c) := by
  rw [List.length_append, List.length_singleton] at hi
  by_cases hlt : i < l.length
  · refine .inl ⟨hlt, ?_⟩
    rw [List.getD_eq_getElem?_getD, List.getD_eq_getElem?_getD, List.getElem?_append_left hlt]
  · have : i = l.length := by omega
    subst this
    refine .inr ⟨rfl, ?_⟩
    rw [List.getD_eq_getElem?_getD, List.getElem?_append_right (by omega), Nat.sub_self]
    rfl
theorem Told.snoc {ops : Array Oper} {k0 ks : List Nat} {c d : Nat} (h : Told T ops k0 ks) (hb : zaW T ops k0.length = true → c = 0) (hs : zaW T ops k0.length = false → c = d) : Told T ops (k0 ++ [c]) (ks ++ [d]) := by
  refine ⟨by simp [h.len], fun i hi hbl => ?_, fun i hi hbl => ?_⟩
  · rcases zf1 k0 c i hi with ⟨g1, g2⟩ | ⟨g1, g2⟩
    · rw [g2]; exact h.blind i g1 hbl
    · rw [g2]; rw [g1] at hbl; exact hb hbl
  · rcases zf1 k0 c i hi with ⟨g1, g2⟩ | ⟨g1, g2⟩
    · rcases zf1 ks d i (by simp [← h.len]; omega) with ⟨f1, f2⟩ | ⟨f1, f2⟩
      · rw [g2, f2]; exact h.same i g1 hbl
      · have := h.len; omega
    · rcases zf1 ks d i (by simp [← h.len]; omega) with ⟨f1, f2⟩ | ⟨f1, f2⟩
      · have := h.len; omega
      · rw [g2, f2]; rw [g1] at hbl; exact hs hbl
theorem WOpsG.toK {ops : Array Oper} {b : Nat} : ∀ (l : List Oper) (k0 ks : List Nat) (e : Env) (h : Heap) (m : Nat) (Q : List Nat → Env → Heap → Prop), b ≤ h.size → b ≤ m → ops.toList.drop k0.length = l → Told T ops k0 ks → WOpsG P T ov b ops l ks e h Q →
    WOpsK P T ov ops l k0 e { h with low := m } fun k0' e' h' => ∃ ks' h1 m', k0'.length = k0.length + l.length ∧ Told T ops k0' ks' ∧ Q ks' e' h1 ∧ b ≤ m' ∧ h' = { h1 with low := m' }
  | [], k0, ks, e, h, m, Q, hb, hm, hd, hks, hw => ⟨ks, h, m, rfl, hks, hw, hm, rfl⟩
  | o :: l, k0, ks, e, h, m, Q, hb, hm, hd, hks, hw => by
    have hbl : zaW T ops k0.length = za9 T o := by
      have : ops[k0.length]? = some o := by
        have h1 : (ops.toList.drop k0.length)[0]? = some o := by rw [hd]; rfl
        rw [List.getElem?_drop] at h1
        simpa using h1
      simp only [zaW, this]
    have hd' : ∀ c, ops.toList.drop (k0 ++ [c]).length = l := by
      intro c
      rw [List.length_append, List.length_singleton, ← List.drop_drop, hd]
      rfl
    have fin : ∀ (c : Nat) (k0' : List Nat) (e' : Env) (h' : Heap), (∃ ks' h1 m', k0'.length = (k0 ++ [c]).length + l.length ∧ Told T ops k0' ks' ∧ Q ks' e' h1 ∧ b ≤ m' ∧ h' = { h1 with low := m' }) →
        ∃ ks' h1 m', k0'.length = k0.length + (o :: l).length ∧ Told T ops k0' ks' ∧ Q ks' e' h1 ∧ b ≤ m' ∧ h' = { h1 with low := m' } := by
      rintro c k0' e' h' ⟨ks', h1, m', g1, g2⟩
      refine ⟨ks', h1, m', ?_, g2⟩
      simp only [List.length_append, List.length_cons, List.length_nil] at g1 ⊢
      omega
    have kz : ∀ h1 h2 : Heap, zaW T ops k0.length = true → zbW T o e h1 h2 = 0 := by
      intro h1 h2 hb
      unfold zbW
      rw [if_pos (hbl ▸ hb)]
    simp only [WOpsG, WOpsK, zdO] at hw ⊢
    split at hw
    · rename_i hwt
      rw [if_pos hwt]
      split at hw
      · rename_i hq
        have h0 := WOp.quiet hq hw h.size
        refine WOp.mono (fun v h' ⟨he, hw⟩ => ?_) h0
        subst he
        refine WOpsK.mono _ _ _ _ _ _ (fun ks' e' h' hq' => fin _ ks' e' h' hq') (WOpsG.toK l _ _ _ h (min m h.size) Q hb (by omega) (hd' _) (hks.snoc (fun hb => kz _ _ hb) (fun hb => zjI (h := { h with low := m }) (by rw [← hbl]; exact hb) (Nat.le_refl _))) hw)
      · refine WOp.mono (fun v h' ⟨⟨h2, h3⟩, hw⟩ => ?_) hw
        rcases hw with ⟨h1, hw⟩ | ⟨h1, hw⟩
        · exact WOpsK.mono _ _ _ _ _ _ (fun ks' e' h' hq' => fin _ ks' e' h' hq') (WOpsG.toK l _ _ _ h' (min m h'.low) Q (by omega) (by omega) (hd' _) (hks.snoc (fun hb => kz _ _ hb) (fun hb => zjI (h := { h with low := m }) (by rw [← hbl]; exact hb) h1)) hw)
        · exact WOpsK.mono _ _ _ _ _ _ (fun ks' e' h' hq' => fin _ ks' e' h' hq') (WOpsG.toK l _ _ _ h' (min m h'.low) Q (by omega) (by omega) (hd' _) (hks.snoc (fun hb => kz _ _ hb) (fun hb => zqj (h := { h with low := m }) (by rw [← hbl]; exact hb) h1)) hw)
    · rename_i hwt
      rw [if_neg hwt]
      exact WOpsK.mono _ _ _ _ _ _ (fun ks' e' h' hq' => fin 0 ks' e' h' hq') (WOpsG.toK l _ _ _ h m Q hb hm (hd' _) (hks.snoc (fun _ => rfl) (fun _ => rfl)) hw)
theorem zt0 {ops : Array Oper} {ms : List Nat} {p : Nat × Nat} (h : p ∈ zm9 T ops ms) : p.1 < ops.size ∧ p.2 < ops.size ∧ zaW T ops p.1 = false ∧ zaW T ops p.2 = false := by
  unfold zm9 at h
  obtain ⟨j, hj, h⟩ := List.mem_flatMap.1 h
  obtain ⟨i, hi, h⟩ := List.mem_filterMap.1 h
  have hj := List.mem_range.1 hj
  have hi := List.mem_range.1 hi
  split at h
  · cases h
  · rename_i hc
    cases h
    simp only [Bool.or_eq_true, not_or, Bool.not_eq_true] at hc
    exact ⟨by omega, hj, hc.1.2, hc.2⟩
theorem zj1 {ops : Array Oper} {k0 ks : List Nat} (h : Told T ops k0 ks) (hn : k0.length = ops.size) : ∀ {ps : List (Nat × Nat)}, (∀ p ∈ ps, p.1 < ops.size ∧ p.2 < ops.size ∧ zaW T ops p.1 = false ∧ zaW T ops p.2 = false) → zdf ks ps = true → zdf k0 ps = true
  | [], _, _ => rfl
  | (i, j) :: ps, hp, hl => by
    obtain ⟨h1, h2, h3, h4⟩ := hp (i, j) List.mem_cons_self
    unfold zdf at hl ⊢
    rw [Bool.and_eq_true] at hl ⊢
    rw [h.same i (by rw [hn]; exact h1) h3, h.same j (by rw [hn]; exact h2) h4]
    exact ⟨hl.1, zj1 h hn (fun p hm => hp p (List.mem_cons_of_mem _ hm)) hl.2⟩
theorem zyb {K : Code} (hd : zjs K = true) {rd : Option Nat} {e : Env} {h0 h : Heap} {Q : Ex → Env → Heap → Prop} {ps : List (Nat × Nat)} (hps : zm9 T (rops K) (zcG (rops K).toList []) = ps) (z : Ext h0 h)
    (hw : WOpsG P T ov (min h0.low h0.size) (rops K) (zcL (rops K) 0) [] e h fun ks e' h1 => zdf ks ps = true ∧ Grw h0 h1 ∧ endZ h0 Q e' h1) : W P T ov rd K e h Q := by
  unfold zjs at hd
  split at hd
  · rename_i i A
    have hps : zm9 T A (zcG A.toList []) = ps := hps
    have hw : WOpsG P T ov (min h0.low h0.size) A A.toList [] e h fun ks e' h1 => zdf ks ps = true ∧ Grw h0 h1 ∧ endZ h0 Q e' h1 := hw
    show WOpsK P T ov A A.toList [] e h (zzO A Q)
    have key := WOpsG.toK (T := T) A.toList [] [] e h h.low _ (show min h0.low h0.size ≤ h.size by have := z.size; omega) z.low rfl ⟨rfl, fun i hi => absurd hi (Nat.not_lt_zero _), fun i hi => absurd hi (Nat.not_lt_zero _)⟩ hw
    refine WOpsK.mono _ _ _ _ _ _ (fun k0 e' h' hq => ?_) key
    obtain ⟨ks, h1, m, hlen, ht, ⟨hl, hi, hq⟩, hm, rfl⟩ := hq
    have hn : k0.length = A.size := by simpa using hlen
    refine ⟨zmr (T := T) hd ?_ (fun i hi hb => ht.blind i (by rw [hn]; exact hi) hb), ?_⟩
    · rw [hps]
      refine zj1 ht hn (fun p hp => ?_) hl
      rw [← hps] at hp
      exact zt0 hp
    · refine hq hi { h1 with low := m } ⟨hi.size, hi.get, hm⟩ ⟨Nat.le_refl _, fun _ _ => rfl, ?_⟩ rfl
      show min m h1.size ≤ m
      omega
  · cases hd
end
/-! ### What each operation is -/
def opsG (A : Array Oper) (L : List Oper) : List Oper → Nat → Prop
  | [], n => ∀ (P : Program) (T : Tab) (ov : Ov) (b : Nat) (ks : List Nat) (e : Env) (h : Heap) (Q : List Nat → Env → Heap → Prop), WOpsG P T ov b A (zcL A n) ks e h Q = Q ks e h
  | o :: l, n => (∀ (P : Program) (T : Tab) (ov : Ov) (b : Nat) (ks : List Nat) (e : Env) (h : Heap) (Q : List Nat → Env → Heap → Prop), WOpsG P T ov b A (zcL A n) ks e h Q = zgt P T ov b A o (zcL A (n + 1)) ks o.dst e h Q (kcOf o) (zaz L e o.guard) (zak o)) ∧ opsG A L l (n + 1)
theorem zpk (A : Array Oper) (h : ∀ o ∈ A.toList, zgJ A.toList o = true) : ∀ (l : List Oper) (n : Nat), zcL A n = l → (∀ o ∈ l, o ∈ A.toList) → opsG A A.toList l n
  | [], n, hl, _ => fun P T ov b ks e h Q => by rw [hl]; rfl
  | o :: l, n, hl, hm => by
    have hl2 : zcL A (n + 1) = l := by
      unfold zcL at hl ⊢
      have := congrArg (List.drop 1) hl
      rw [List.drop_drop] at this
      exact this
    refine ⟨fun P T ov b ks e h' Q => ?_, zpk A h l (n + 1) hl2 (fun x hx => hm x (List.mem_cons_of_mem _ hx))⟩
    rw [hl, hl2, zng, zkl (h o (hm o (List.mem_cons_self ..)))]
def zef (N : Nat → Code) (m : Nat) : Code → Nat → Prop
  | .seq a b, n => zef N m a (n + 1) ∧ zef N m b (n + 1 + zag a)
  | .cond _ a b, n => zef N m a (n + 1) ∧ zef N m b (n + 1 + zag a)
  | .rangeFunc _ _ a b, n => zef N m a (n + 1) ∧ zef N m b (n + 1 + zag a)
  | .block _ a, n => zef N m a (n + 1)
  | .loop a, n => zef N m a (n + 1)
  | .scope a, n => zef N m a (n + 1)
  | .region _ A true, n => n = m → opsG (rops (N n)) A.toList A.toList 0
  | _, _ => True
theorem zbD (N : Nat → Code) (m : Nat) : ∀ (c : Code) (n : Nat), zbY c = true → (∀ k, k < zag c → N (n + k) = zaL c k) → zef N m c n
  | .seq a b, n, hw, h => by
    simp only [zbY, Bool.and_eq_true] at hw
    obtain ⟨e1, e2, f1, f2⟩ := zdW (a := a) (b := b) h (fun k h1 h2 => by simp only [zaL]; rw [if_neg (by omega), if_pos h2]) (fun k h1 => by simp only [zaL]; rw [if_neg (by omega), if_neg (by omega)]) (zaD _) (zaD _)
    exact ⟨zbD N m a _ hw.1 f1, zbD N m b _ hw.2 f2⟩
  | .cond o a b, n, hw, h => by
    simp only [zbY, Bool.and_eq_true] at hw
    obtain ⟨e1, e2, f1, f2⟩ := zdW (a := a) (b := b) h (fun k h1 h2 => by simp only [zaL]; rw [if_neg (by omega), if_pos h2]) (fun k h1 => by simp only [zaL]; rw [if_neg (by omega), if_neg (by omega)]) (zaD _) (zaD _)
    exact ⟨zbD N m a _ hw.1 f1, zbD N m b _ hw.2 f2⟩
  | .rangeFunc g ps a b, n, hw, h => by
    simp only [zbY, Bool.and_eq_true] at hw
    obtain ⟨e1, e2, f1, f2⟩ := zdW (a := a) (b := b) h (fun k h1 h2 => by simp only [zaL]; rw [if_neg (by omega), if_pos h2]) (fun k h1 => by simp only [zaL]; rw [if_neg (by omega), if_neg (by omega)]) (zaD _) (zaD _)
    exact ⟨zbD N m a _ hw.1 f1, zbD N m b _ hw.2 f2⟩
  | .block i a, n, hw, h => by
    obtain ⟨e1, f1⟩ := ze9 (a := a) h (fun k h1 => by simp only [zaL]; rw [if_neg (by omega)])
    exact zbD N m a _ hw f1
  | .loop a, n, hw, h => by
    obtain ⟨e1, f1⟩ := ze9 (a := a) h (fun k h1 => by simp only [zaL]; rw [if_neg (by omega)])
    exact zbD N m a _ hw f1
  | .scope a, n, hw, h => by
    obtain ⟨e1, f1⟩ := ze9 (a := a) h (fun k h1 => by simp only [zaL]; rw [if_neg (by omega)])
    exact zbD N m a _ hw f1
  | .region i A true, n, hw, h => by
    have h0 : N n = .region i A true := h 0 (zaD _)
    have hr : rops (N n) = A := by rw [h0]; rfl
    simp only [zbY, Bool.and_eq_true, List.all_eq_true, Bool.not_true, Bool.false_or] at hw
    intro _
    rw [hr]
    exact zpk A hw.1 _ 0 rfl (fun o ho => ho)
  | .region i A false, n, hw, h => trivial
  | .exit i, n, hw, h => trivial
  | .ret, n, hw, h => trivial
  | .skip, n, hw, h => trivial
  | .label l, n, hw, h => trivial
  | .goto l, n, hw, h => trivial
  | .refuse w, n, hw, h => trivial
theorem zwu (N : Nat → Code) (m : Nat) (f : Func) (hN : N = zaA f := by rfl) (hw : zbY (zao f) = true := by kernel_rfl) : zef N m (zao f) 0 :=
  zbD N m _ 0 hw (fun k _ => by rw [hN, Nat.zero_add]; rfl)
theorem zyM {a b : Nat} (ha : a % 3 ≠ 2) (hb : b % 3 ≠ 2) : kOk a b = true := by
  unfold kOk
  simp [ha, hb]
theorem zyQ {x y : Nat} (h : x ≠ y) : kOk (3 + 3 * x) (5 + 3 * y) = true := by
  unfold kOk
  simp only [Bool.or_eq_true, Bool.and_eq_true, Nat.ble_eq, beq_iff_eq, bne_iff_ne]
  right
  refine ⟨⟨⟨by omega, by omega⟩, by omega⟩, .inl ⟨by omega, by omega⟩⟩
noncomputable def ysymg := PLift.up (And.intro @zk5 <| And.intro @zmz <| And.intro @zlZ <| And.intro @zp4 <| And.intro @zpL <| And.intro @zoC <| And.intro @znQ <| And.intro @znj <| And.intro @zoj <| And.intro @ztm <| @zsK)
theorem symg : type_of% ysymg.down := ysymg.down
end Go.Am
namespace Go.Proofs.YtemapihoobmonaaGreatDoor
open Go.Am
set_option linter.unusedSimpArgs false
set_option linter.unusedVariables false
set_option maxRecDepth 100000
set_option maxHeartbeats 0
noncomputable def xG := PLift.up (by have c := zwu N15 51 Tryz.f15; simp only [zao, Tryz.f15, Option.getD_some, zef, opsG, zag, zaz, dstL, zak, kcOf, List.append_eq, List.cons_append, List.nil_append, Nat.zero_add, Nat.reduceAdd, Nat.reduceEqDiff, false_implies, true_implies, and_true, true_and] at c; exact c)
theorem cG : type_of% xG.down := xG.down
theorem zw8 (l : List BindD) (v : Value) (p g : AtomD) (h : Heap) (hl : Sl Rep.bind h v l) (hs : l.length ≤ 890) (K : Value → Heap → Prop)
    (hk : ∀ h' w b, Ext h h' → (extD l p g = none → b = false) → (∀ m, extD l p g = some m → b = true ∧ ∃ A, Ow Rep.bind h h' 141 A w m) → K (.tuple #[w, .bool b]) h') : Ok Tryz.prog tab ov 15 [v, p.val, g.val] h K := by
  rw [zaa h]
  have z := Ext.refl h
  have hva := zaI v
  refine Ok.into rfl zvm (zaB N15) rfl (m := 112) rfl ?_
  repeat' ( simp -implicitDefEqProofs only [syms, symx, seval, c15, zay])
  refine zlP l _ _ ((hl.mono z.inc).lay _ _) (by omega) _ (fun h' e x he => ?_)
  have q0 := Holds.top (i := 0) x rfl
  have q1 := Holds.top (i := 1) x rfl
  (( skip); replace z := z.overW x (by (try simp only [lsz]); omega); rw [zaa h'])
  simp -implicitDefEqProofs only [syms, symx, seval, c15]
  refine zp1 ?_ ?_
  · intro hne
    repeat' ( simp -implicitDefEqProofs only [syms, symx, seval, c15])
    have hn : extD l p g = none := by unfold extD; rw [if_pos (.inl (fun hh => hne (he.2 hh)))]
    exact hk _ _ _ (z.upW _ _ (by omega)) (fun _ => rfl) (fun m hm => by rw [hn] at hm; cases hm)
  intro he0
  have hC := he.1 he0
  simp -implicitDefEqProofs only [syms, symx, seval, c15, q0.lay, q1.lay, ↓zau, zar, zai]
  refine ztO p g _ _ (fun h' x => ?_)
  (( skip); replace z := z.overW x (by (try simp only [lsz]); omega); (try replace q0 := q0.over x); (try replace q1 := q1.over x); rw [zaa h'])
  cases hal : zbv p g
  · repeat' (first | simp -implicitDefEqProofs only [syms, symx, seval, c15] | ((with_reducible_and_instances apply zaf); (· rfl)))
    have hn : extD l p g = none := by unfold extD; rw [if_pos (.inr (.inl hal))]
    exact hk _ _ _ (z.upW _ _ (by omega)) (fun _ => rfl) (fun m hm => by rw [hn] at hm; cases hm)
  repeat' (first | simp -implicitDefEqProofs only [syms, symx, seval, c15, q0.lay, q1.lay, ↓zau, zar, zai] | ((with_reducible_and_instances apply zaf); (· rfl)))
  refine zjH g _ _ (fun h' x => ?_)
  (( skip); replace z := z.overW x (by (try simp only [lsz]); omega); (try replace q0 := q0.over x); (try replace q1 := q1.over x); rw [zaa h'])
  cases hgr : g.ground
  · repeat' (first | simp -implicitDefEqProofs only [syms, symx, seval, c15] | ((with_reducible_and_instances apply zaf); (· rfl)))
    have hn : extD l p g = none := by unfold extD; rw [if_pos (.inr (.inr hgr))]
    exact hk _ _ _ (z.upW _ _ (by omega)) (fun _ => rfl) (fun m hm => by rw [hn] at hm; cases hm)
  repeat' (first | simp -implicitDefEqProofs only [syms, symx, seval, c15] | ((with_reducible_and_instances apply zaf); (· rfl)))
  have hp4 : 0 ≤ p.n ∧ p.n ≤ 4 := by
    unfold zbv at hal
    simp only [Bool.and_eq_true, decide_eq_true_eq] at hal
    exact hal.2.2.2
  have hz0 := z.size
  obtain ⟨A0, hA0⟩ : ∃ A0, A0 = h.size + 0 := ⟨_, rfl⟩
  obtain ⟨A1, hA1⟩ : ∃ A1, A1 = h.size + 1 := ⟨_, rfl⟩
  rw [← hA0] at q0
  rw [← hA1] at q1
  rw [← hA0, ← hA1]
  obtain ⟨I1, hI1⟩ : ∃ I : Nat → Env → Heap → Prop, I = (fun n e h' => ∃ (k : Nat) (h1 : Heap), h' = h1.lay [] h1.low ∧ Ext h h1 ∧ (n = 4 - k ∧ (k : Int) ≤ p.n ∧ (∀ i, i < k → (i : Int) < p.n → barD l (p.arg i) = false) ∧ Holds h1 A0 (.row p.cells 26 false) ∧ Holds h1 A1 (.row g.cells 26 false)) ∧ ∃ J : Nat → Value, e = (v :: jr J 1 3 (.pointer (some ⟨A0, 0, none⟩) :: .pointer (some ⟨A1, 0, none⟩) :: jr J 6 2 (.int .i64 k :: jr J 9 106 ([]))))) := ⟨_, rfl⟩
  refine zat I1 _ (by rw [hI1]; exact ⟨0, _, rfl, z, ⟨rfl, by omega, by intro i hi; omega, q0, q1⟩, junk (by kernel_rfl)⟩) ?_
  intro n e h' hin
  rw [hI1] at hin
  obtain ⟨k, h1', rfl, z, hinv, J, rfl⟩ := hin
  clear q0 q1
  obtain ⟨rfl, hk4, hbar, q0, q1⟩ := hinv
  have hw : IntKind.i64.wrap ((k : Int) + 1) = ((k + 1 : Nat) : Int) := by rw [zae (by omega) (by omega)]; omega
  have hz := z.size
  simp -implicitDefEqProofs only [syms, symx, seval, c15, q0.lay, q1.lay, zrK]
  refine zaw (fun hlt => ?_) (fun hlt => ?_)
  rotate_left
  · have hkk : p.n = (k : Int) := by omega
    have hbar4 : ¬ ∃ i : Nat, i < 4 ∧ (i : Int) < p.n ∧ barD l (p.arg i) = true := by
      rintro ⟨i, g1, g2, g3⟩
      rw [hbar i (by omega) g2] at g3
      cases g3
    have hext : extD l p g = zbx p g p.n.toNat l := by
      unfold extD
      rw [if_neg (by simp [hC, hal, hgr]), if_neg hbar4]
    repeat' ( simp -implicitDefEqProofs only [syms, symx, seval, c15, hva])
    simp -implicitDefEqProofs only [syms, symx, seval, c15, zbg, zij]
    have q0l := q0.lt
    have q1l := q1.lt
    obtain ⟨news, hs2, hsr⟩ := zjR (A := h1'.size + 1) (r := Rep.bind) (by decide) ((hl.mono z.inc).lay [.row [] 141 false] h1'.low) (fun cs y hr => hr)
    have f : Ow Rep.bind h (h1'.lay [.row [] 141 false] h1'.low) 141 (h1'.size + 1) (.slice (some ⟨h1'.size + 0, 0, none⟩) 0 0) [] :=
      .inl ⟨by omega, rfl, .inr ⟨h1'.size + 0, 0, rfl, by omega, by rw [zad]; simp, [], 141, false, by rw [za4]; rfl⟩⟩
    obtain ⟨w, h2, A', e1, e2, e3, e4, e5⟩ := zfK (t := 36) ds36 za0 rfl (by decide) (by rw [zad]; omega) f hs2 hsr (by simp only [List.length_nil]; omega) (by simp only [List.length_nil]; omega)
    rw [e1]
    have q0' := q0.stepL e3 (by omega)
    have q1' := q1.stepL e3 (by omega)
    replace z := (z.upW _ _ (by omega)).step e3 (by omega)
    have hout0 : Ow Rep.bind h h2 141 A' w l := by simpa using e2
    clear q0 q1
    rw [zaa h2]
    have hvw := zaI w
    repeat' ( simp -implicitDefEqProofs only [syms, symx, seval, c15, hvw])
    obtain ⟨I2, hI2⟩ : ∃ I : Nat → Env → Heap → Prop, I = (fun n e h' => ∃ (k : Nat) (out : List BindD) (w : Value) (A : Nat) (h1 : Heap), h' = h1.lay [] h1.low ∧ Ext h h1 ∧ (n = 4 - k ∧ (k : Int) ≤ p.n ∧ zbx p g k l = some out ∧ Ow Rep.bind h h1 141 A w out ∧ out.length ≤ l.length + k ∧ Holds h1 A0 (.row p.cells 26 false) ∧ Holds h1 A1 (.row g.cells 26 false)) ∧ ∃ J : Nat → Value, e = (jr J 0 4 (.pointer (some ⟨A0, 0, none⟩) :: .pointer (some ⟨A1, 0, none⟩) :: jr J 6 6 (w :: .int .i64 k :: jr J 14 101 ([]))))) := ⟨_, rfl⟩
    refine zat I2 _ (by rw [hI2]; exact ⟨0, l, w, A', _, rfl, z, ⟨rfl, by omega, rfl, hout0, by omega, q0', q1'⟩, junk (by kernel_rfl)⟩) ?_
    intro n e h' hin
    rw [hI2] at hin
    obtain ⟨k, out, w, A, h2', rfl, z, hinv, J, rfl⟩ := hin
    clear q0' q1' hout0 hvw
    obtain ⟨rfl, hkn, hpl, hout, hlen, q0, q1⟩ := hinv
    have hw : IntKind.i64.wrap ((k : Int) + 1) = ((k + 1 : Nat) : Int) := by rw [zae (by omega) (by omega)]; omega
    have hvw := zaI w
    have hz := z.size
    simp -implicitDefEqProofs only [syms, symx, seval, c15, q0.lay, q1.lay, zrK]
    refine zaw (fun hlt => ?_) (fun hlt => ?_)
    rotate_left
    · repeat' ( simp -implicitDefEqProofs only [syms, symx, seval, c15, hvw])
      have hkk : p.n.toNat = k := by omega
      rw [hext, hkk, hpl] at hk
      exact hk _ _ _ (z.upW _ _ (by omega)) (fun hm => by cases hm) (fun m hm => by cases hm; exact ⟨rfl, _, hout.mono (Inc.lay _ _ _)⟩)
    have hin4 : (0 : Int) ≤ (k : Int) ∧ (k : Int) < 4 := by omega
    have hca := zfB p k (by omega)
    have hcb := zfB g k (by omega)
    have hnext : zbx p g (k + 1) l = zbL out (p.arg k) (g.arg k) := by
      conv => lhs; unfold zbx
      rw [hpl]
      rfl
    simp -implicitDefEqProofs only [syms, symx, seval, c15, q0.lay, q1.lay]
    refine zyb (K := (N15 51)) (by simp only [c15]) (ps := [(3, 7), (3, 8), (7, 8), (3, 9), (7, 9), (8, 9), (7, 10)]) (by kernel_rfl) (z.upW _ _ (by omega)) ?_
    repeat' (first | simp -implicitDefEqProofs only [syms, symx, seval, c15, symg, cG, zaF, zaq, List.all_cons, List.all_nil, Am.one, Bool.and_true, Bool.true_and, Bool.and_self, List.set_cons_zero, List.set_cons_succ, st4, st3, st9, st23, st26, st29, zbF, q0.lay, q1.lay, hin4, and_self, if_true, ↓hca, ↓hcb, zbI, zaK, TermD.val, TermD.cells] | ((with_reducible refine zi1 (Nat.zero_le _) ?_ ?_ ?_); (· omega); (·  (simp only [List.length_cons, List.length_nil]; omega))) | ((with_reducible refine zi1 (by simp only [List.length_cons, List.length_nil]; omega) ?_ ?_ ?_); (· omega); (·  (simp only [List.length_cons, List.length_nil]; omega))) | ((with_reducible refine znM (by simp only [List.length_cons, List.length_nil]) ?_ ?_ ?_); (· omega); (· (simp only [List.length_cons, List.length_nil]; omega))))
    have q0l2 := q0.lt
    have q1l2 := q1.lt
    refine ⟨by (simp only [zdf, List.getD_cons_zero, List.getD_cons_succ, Bool.and_true, Bool.and_eq_true]; (repeat' apply And.intro) <;> first | exact zyM (by omega) (by omega) | exact zyQ (by omega)), ?_⟩
    ((with_reducible refine ⟨z.grw.lay _ _, ?_⟩); (intro _ h' zz x _); (try simp only [zas, List.append_nil] at x); (try replace q0 := q0.over x); (try replace q1 := q1.over x); (try replace hout := hout.over x); (replace z := zz); (clear zz); rw [zaa h'])
    have q2 := Holds.top (i := 0) x rfl
    have q3 := Holds.top (i := 1) x rfl
    rcases hg : zaC out (p.arg k).s with ⟨⟨tv, ts⟩, pb⟩
    rcases hpk : p.arg k with ⟨pv, ps⟩
    rcases hgk : g.arg k with ⟨gv, gs⟩
    rw [hpk] at q2 hg hnext
    rw [hgk] at q3 hnext
    have hb32 : ∀ (Q : Ex → Env → Heap → Prop) (e : Env) (h : Heap), zeP 3 Q (.exit 3) e h = Q .normal e h := fun Q e h => rfl
    simp only at q2 q3 hg
    cases pv
    · repeat' (first | simp -implicitDefEqProofs only [syms, symx, seval, c15, q2.lay, q3.lay, zgH, Bool.not_false] | ((with_reducible  apply zgb ) <;> intro _) | ((with_reducible_and_instances apply zaf); (· rfl)))
      all_goals first
        | ((with_reducible refine hk _ _ _ (z.upW _ _ (by omega)) (fun _ => rfl) (fun m hm => ?_))
           have hpd : zbL out ⟨false, ps⟩ ⟨gv, gs⟩ = none := by
             unfold zbL
             rw [if_pos rfl, if_neg (by assumption)]
           have hn : extD l p g = none := by
             rw [hext]
             exact zcH (k := k + 1) (by rw [hnext, hpd]) (by omega)
           rw [hn] at hm
           cases hm)
        | (have hpd : zbL out ⟨false, ps⟩ ⟨gv, gs⟩ = some out := by
             unfold zbL
             rw [if_pos rfl, if_pos (by assumption)]
           rw [hw]
           (rw [hI2]; with_reducible refine zac (m := _) ?_ ⟨k + 1, out, w, A, _, rfl, z, ⟨rfl, by omega, by rw [hnext, hpd], hout, by omega, q0, q1⟩, junk (by kernel_rfl)⟩; omega))
    · repeat' (first | simp -implicitDefEqProofs only [syms, symx, seval, c15, q2.lay, q3.lay, Bool.not_true] | ((with_reducible_and_instances apply zaf); (· rfl)))
      refine ziS out w ps _ ((hout.sl (by decide)).lay _ _) (by omega) _ (fun h' x => ?_)
      rw [hg]
      (( skip); replace z := z.overW x (by (try simp only [lsz]); omega); (try replace q0 := q0.over x); (try replace q1 := q1.over x); (try replace q2 := q2.over x); (try replace q3 := q3.over x); (try replace hout := hout.over x); rw [zaa h'])
      cases pb
      all_goals
        repeat' (first | simp -implicitDefEqProofs only [syms, symx, seval, c15, zaF, zaq, List.all_cons, List.all_nil, Am.one, Bool.and_true, Bool.true_and, Bool.and_self, List.set_cons_zero, List.set_cons_succ, st4, st3, st9, st23, st26, st29, zbF, q2.lay, q3.lay, TermD.val, TermD.cells, zgH] | ((with_reducible  apply zgb ) <;> intro _) | ((with_reducible_and_instances apply zaf); (· rfl)))
      · have hpd : zbL out ⟨true, ps⟩ ⟨gv, gs⟩ = zd9 out ps ⟨gv, gs⟩ := by
          unfold zbL
          rw [if_neg (by simp), hg, if_neg (by simp)]
        have hzb := z.size
        refine zvk out w ps ⟨gv, gs⟩ _ ((hout.sl (by decide)).lay _ _) (by omega) _ (fun h' w2 e x hbn hbs => ?_)
        (( skip); replace z := z.overW x (by (try simp only [lsz]); omega); (try replace q0 := q0.over x); (try replace q1 := q1.over x); (try replace q2 := q2.over x); (try replace q3 := q3.over x); (try replace hout := hout.over x); rw [zaa h'])
        have hvw2 := zaI w2
        simp -implicitDefEqProofs only [syms, symx, seval, c15, hvw2]
        refine zp1 ?_ ?_
        · intro he2
          repeat' ( simp -implicitDefEqProofs only [syms, symx, seval, c15])
          have hn : extD l p g = none := by
            rw [hext]
            refine zcH (k := k + 1) ?_ (by omega)
            rw [hnext, hpd]
            cases hbd : zd9 out ps ⟨gv, gs⟩ with
            | none => rfl
            | some m => exact absurd (hbs m hbd).1 he2
          exact hk _ _ _ (z.upW _ _ (by omega)) (fun _ => rfl) (fun m hm => by rw [hn] at hm; cases hm)
        · intro he2
          repeat' ( simp -implicitDefEqProofs only [syms, symx, seval, c15, hvw2])
          cases hbd : zd9 out ps ⟨gv, gs⟩ with
          | none => exact absurd he2 (hbn hbd)
          | some m =>
            obtain ⟨_, A2, hsl⟩ := hbs m hbd
            replace hsl := zrx (h0 := h) hsl (by rw [zad]; omega)
            have hml := zew hbd
            rw [hw]
            (rw [hI2]; with_reducible refine zac (m := _) ?_ ⟨k + 1, m, w2, A2, _, rfl, z, ⟨rfl, by omega, by rw [hnext, hpd, hbd], hsl, by omega, q0, q1⟩, junk (by kernel_rfl)⟩; omega)
      · have hpd : zbL out ⟨true, ps⟩ ⟨gv, gs⟩ = none := by
          unfold zbL
          rw [if_neg (by simp), hg, if_pos rfl, if_neg (by assumption)]
        have hn : extD l p g = none := by
          rw [hext]
          exact zcH (k := k + 1) (by rw [hnext, hpd]) (by omega)
        exact hk _ _ _ (z.upW _ _ (by omega)) (fun _ => rfl) (fun m hm => by rw [hn] at hm; cases hm)
      · have hpd : zbL out ⟨true, ps⟩ ⟨gv, gs⟩ = some out := by
          unfold zbL
          rw [if_neg (by simp), hg, if_pos rfl, if_pos (by assumption)]
        rw [hw]
        refine zcu (z.upW _ _ (by omega)) (fun H z hO hI => ?_)
        (rw [hI2]; with_reducible refine zac (m := _) ?_ ⟨k + 1, out, w, A, _, rfl, z, ⟨rfl, by omega, by rw [hnext, hpd], hout.mono hI, by omega, hO _ _ q0, hO _ _ q1⟩, junk (by kernel_rfl)⟩; omega)
  rcases hg : zaC l (p.arg k).s with ⟨⟨tv, ts⟩, pb⟩
  have hin4 : (0 : Int) ≤ (k : Int) ∧ (k : Int) < 4 := by omega
  have hca := zfB p k (by omega)
  repeat' ( simp -implicitDefEqProofs only [syms, symx, seval, c15, zaF, zaq, List.all_cons, List.all_nil, Am.one, Bool.and_true, Bool.true_and, Bool.and_self, List.set_cons_zero, List.set_cons_succ, st4, st3, st9, st23, st26, st29, zbF, q0.lay, q1.lay, hin4, ↓hca, zbI, zaK, and_self, if_true, hva, TermD.val, TermD.cells])
  refine ziS l v (p.arg k).s _ ((hl.mono z.inc).lay _ _) (by omega) _ (fun h' x => ?_)
  rw [hg]
  have q2 := Holds.top (i := 0) x rfl
  (( skip); replace z := z.overW x (by (try simp only [lsz]); omega); (try replace q0 := q0.over x); (try replace q1 := q1.over x); (try replace q2 := q2.over x); (try replace q3 := q3.over x); (try replace hout := hout.over x); rw [zaa h'])
  cases pb
  all_goals
    simp -implicitDefEqProofs only [syms, symx, seval, c15, zaF, zaq, List.all_cons, List.all_nil, Am.one, Bool.and_true, Bool.true_and, Bool.and_self, List.set_cons_zero, List.set_cons_succ, st4, st3, st9, st23, st26, st29, zbF, q0.lay, q2.lay, TermD.val, TermD.cells]
    repeat' ((first | ((with_reducible  apply zaw ) <;> intro _) | with_reducible refine zfU (fun _ => ?_) (fun _ => ?_)) <;> simp -implicitDefEqProofs only [syms, symx, seval, c15, zaF, zaq, List.all_cons, List.all_nil, Am.one, Bool.and_true, Bool.true_and, Bool.and_self, List.set_cons_zero, List.set_cons_succ, st4, st3, st9, st23, st26, st29, zbF, q0.lay, q2.lay, TermD.val, TermD.cells])
  all_goals first
    | ((with_reducible refine hk _ _ _ (z.upW _ _ (by omega)) (fun _ => rfl) (fun m hm => ?_))
       have hb : barD l (p.arg k) = true := by (unfold barD; rw [hg]; simp [*])
       have hn : extD l p g = none := by
         unfold extD
         split
         · rfl
         · rw [if_pos ⟨k, by omega, by omega, hb⟩]
       rw [hn] at hm
       cases hm)
    | (have hnx : ∀ i, i < k + 1 → (i : Int) < p.n → barD l (p.arg i) = false := by
         intro i hi hin
         by_cases hik : i = k
         · subst hik
           first | (exfalso; omega) | (unfold barD; rw [hg]; simp [*])
         · exact hbar i (by omega) hin
       rw [hw]
       refine zcu (z.upW _ _ (by omega)) (fun H z hO _ => ?_)
       (rw [hI1]; with_reducible refine zac (m := _) ?_ ⟨k + 1, _, rfl, z, ⟨rfl, by omega, hnx, hO _ _ q0, hO _ _ q1⟩, junk (by kernel_rfl)⟩; omega))
end Go.Proofs.YtemapihoobmonaaGreatDoor

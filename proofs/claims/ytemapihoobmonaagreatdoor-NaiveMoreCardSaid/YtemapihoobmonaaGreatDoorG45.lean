/- Regions whose order is drawn, with kinds told for each operation: a store to what the region laid, a load of what it did not lay. No condition. -/
import Derived.Test.YtemapihoobmonaaGreatDoorG17
import Derived.Test.YtemapihoobmonaaGreatDoorG18
import Derived.Test.YtemapihoobmonaaGreatDoorGFast2
import Derived.Test.YtemapihoobmonaaGreatDoorG44
import Derived.Test.YtemapihoobmonaaGreatDoorG38
import Derived.Test.YtemapihoobmonaaGreatDoorG43
import Derived.Test.YtemapihoobmonaaGreatDoorG31
namespace Go.Am
set_option linter.unusedVariables false
inductive KC where
  | plain
  | load (a : Operand)
  | build
  | store (a : Operand)
def kcOf (o : Oper) : KC := match o.op with
  | .load _ a => .load a
  | .buildSlice _ _ _ => .build
  | .store _ a _ => .store a
  | _ => .plain
def zy5 : Value → Nat
  | .pointer (some x) => 3 + 3 * x.block
  | _ => 1
def zzc : Value → Nat
  | .pointer (some x) => 5 + 3 * x.block
  | _ => 2
def zu6 (c : KC) (e : Env) (n : Nat) : Nat := match c with
  | .load a => zy5 (zab e a)
  | .build => 4 + 3 * n
  | _ => 1
def zwl (c : KC) (e : Env) : Nat := match c with
  | .store a => zzc (zab e a)
  | _ => 2
section
variable {T : Tab}
theorem zi7 {o : Oper} {e : Env} {h h' : Heap} (hb : za7 T o = false) (hl : h.size ≤ h'.low) : zbR T o e h h' = zu6 (kcOf o) e h.size := by
  unfold zbR
  rw [if_neg (by rw [hb]; decide), if_pos hl]
  unfold zu6 kcOf
  obtain ⟨dst, op, ty, pos, after, guard⟩ := o
  cases op <;> rfl
theorem zqK {o : Oper} {e : Env} {h h' : Heap} (hb : za7 T o = false) (hl : ¬ h.size ≤ h'.low) : zbR T o e h h' = zwl (kcOf o) e := by
  unfold zbR
  rw [if_neg (by rw [hb]; decide), if_neg hl]
  unfold zwl kcOf
  obtain ⟨dst, op, ty, pos, after, guard⟩ := o
  cases op <;> rfl
end
section
variable (P : Program) (T : Tab) (ov : Ov)
def WOpsG (b : Nat) (ops : Array Oper) : List Oper → List Nat → Env → Heap → (List Nat → Env → Heap → Prop) → Prop
  | [], ks, e, h, Q => Q ks e h
  | o :: l, ks, e, h, Q => zd2 (zaX ops o e)
      (if zam o = true then WOp P T ov o e h fun v _ => WOpsG b ops l (ks ++ [zu6 (kcOf o) e h.size]) (put e o.dst v) h Q
        else WOp P T ov o e { h with low := h.size } fun v h' => (b ≤ h'.low ∧ h.size ≤ h'.size) ∧ ((h.size ≤ h'.low ∧ WOpsG b ops l (ks ++ [zu6 (kcOf o) e h.size]) (put e o.dst v) h' Q) ∨ (¬ h.size ≤ h'.low ∧ WOpsG b ops l (ks ++ [zwl (kcOf o) e]) (put e o.dst v) h' Q)))
      (WOpsG b ops l (ks ++ [0]) (put e o.dst undef) h Q)
end
section
variable {P : Program} {T : Tab} {ov : Ov}
structure Told (T : Tab) (ops : Array Oper) (k0 ks : List Nat) : Prop where
  len : k0.length = ks.length
  blind : ∀ i, i < k0.length → za9 T ops i = true → k0.getD i 2 = 0
  same : ∀ i, i < k0.length → za9 T ops i = false → k0.getD i 2 = ks.getD i 2
theorem zf1 (l : List Nat) (c i : Nat) (hi : i < (l ++ [c]).length) : (i < l.length ∧ (l ++ [c]).getD i 2 = l.getD i 2) ∨ (i = l.length ∧ (l ++ [c]).getD i 2 = c) := by
  rw [List.length_append, List.length_singleton] at hi
  by_cases hlt : i < l.length
  · refine .inl ⟨hlt, ?_⟩
    rw [List.getD_eq_getElem?_getD, List.getD_eq_getElem?_getD, List.getElem?_append_left hlt]
  · have : i = l.length := by omega
    subst this
    refine .inr ⟨rfl, ?_⟩
    rw [List.getD_eq_getElem?_getD, List.getElem?_append_right (by omega), Nat.sub_self]
    rfl
theorem Told.snoc {ops : Array Oper} {k0 ks : List Nat} {c d : Nat} (h : Told T ops k0 ks) (hb : za9 T ops k0.length = true → c = 0) (hs : za9 T ops k0.length = false → c = d) : Told T ops (k0 ++ [c]) (ks ++ [d]) := by
  refine ⟨by simp [h.len], fun i hi hbl => ?_, fun i hi hbl => ?_⟩
  · rcases zf1 k0 c i hi with ⟨g1, g2⟩ | ⟨g1, g2⟩
    · rw [g2]; exact h.blind i g1 hbl
    · rw [g2]; rw [g1] at hbl; exact hb hbl
  · rcases zf1 k0 c i hi with ⟨g1, g2⟩ | ⟨g1, g2⟩
    · rcases zf1 ks d i (by simp [← h.len]; omega) with ⟨f1, f2⟩ | ⟨f1, f2⟩
      · rw [g2, f2]; exact h.same i g1 hbl
      · have := h.len; omega
    · rcases zf1 ks d i (by simp [← h.len]; omega) with ⟨f1, f2⟩ | ⟨f1, f2⟩
      · have := h.len; omega
      · rw [g2, f2]; rw [g1] at hbl; exact hs hbl
theorem WOpsG.toK {ops : Array Oper} {b : Nat} : ∀ (l : List Oper) (k0 ks : List Nat) (e : Env) (h : Heap) (m : Nat) (Q : List Nat → Env → Heap → Prop), b ≤ h.size → b ≤ m → ops.toList.drop k0.length = l → Told T ops k0 ks → WOpsG P T ov b ops l ks e h Q →
    WOpsK P T ov ops l k0 e { h with low := m } fun k0' e' h' => ∃ ks' h1 m', k0'.length = k0.length + l.length ∧ Told T ops k0' ks' ∧ Q ks' e' h1 ∧ b ≤ m' ∧ h' = { h1 with low := m' }
  | [], k0, ks, e, h, m, Q, hb, hm, hd, hks, hw => ⟨ks, h, m, rfl, hks, hw, hm, rfl⟩
  | o :: l, k0, ks, e, h, m, Q, hb, hm, hd, hks, hw => by
    have hbl : za9 T ops k0.length = za7 T o := by
      have : ops[k0.length]? = some o := by
        have h1 : (ops.toList.drop k0.length)[0]? = some o := by rw [hd]; rfl
        rw [List.getElem?_drop] at h1
        simpa using h1
      simp only [za9, this]
    have hd' : ∀ c, ops.toList.drop (k0 ++ [c]).length = l := by
      intro c
      rw [List.length_append, List.length_singleton, ← List.drop_drop, hd]
      rfl
    have fin : ∀ (c : Nat) (k0' : List Nat) (e' : Env) (h' : Heap), (∃ ks' h1 m', k0'.length = (k0 ++ [c]).length + l.length ∧ Told T ops k0' ks' ∧ Q ks' e' h1 ∧ b ≤ m' ∧ h' = { h1 with low := m' }) →
        ∃ ks' h1 m', k0'.length = k0.length + (o :: l).length ∧ Told T ops k0' ks' ∧ Q ks' e' h1 ∧ b ≤ m' ∧ h' = { h1 with low := m' } := by
      rintro c k0' e' h' ⟨ks', h1, m', g1, g2⟩
      refine ⟨ks', h1, m', ?_, g2⟩
      simp only [List.length_append, List.length_cons, List.length_nil] at g1 ⊢
      omega
    have kz : ∀ h1 h2 : Heap, za9 T ops k0.length = true → zbR T o e h1 h2 = 0 := by
      intro h1 h2 hb
      unfold zbR
      rw [if_pos (hbl ▸ hb)]
    simp only [WOpsG, WOpsK, zd2] at hw ⊢
    split at hw
    · rename_i hwt
      rw [if_pos hwt]
      split at hw
      · rename_i hq
        have h0 := WOp.quiet hq hw h.size
        refine WOp.mono (fun v h' ⟨he, hw⟩ => ?_) h0
        subst he
        refine WOpsK.mono _ _ _ _ _ _ (fun ks' e' h' hq' => fin _ ks' e' h' hq') (WOpsG.toK l _ _ _ h (min m h.size) Q hb (by omega) (hd' _) (hks.snoc (fun hb => kz _ _ hb) (fun hb => zi7 (h := { h with low := m }) (by rw [← hbl]; exact hb) (Nat.le_refl _))) hw)
      · refine WOp.mono (fun v h' ⟨⟨h2, h3⟩, hw⟩ => ?_) hw
        rcases hw with ⟨h1, hw⟩ | ⟨h1, hw⟩
        · exact WOpsK.mono _ _ _ _ _ _ (fun ks' e' h' hq' => fin _ ks' e' h' hq') (WOpsG.toK l _ _ _ h' (min m h'.low) Q (by omega) (by omega) (hd' _) (hks.snoc (fun hb => kz _ _ hb) (fun hb => zi7 (h := { h with low := m }) (by rw [← hbl]; exact hb) h1)) hw)
        · exact WOpsK.mono _ _ _ _ _ _ (fun ks' e' h' hq' => fin _ ks' e' h' hq') (WOpsG.toK l _ _ _ h' (min m h'.low) Q (by omega) (by omega) (hd' _) (hks.snoc (fun hb => kz _ _ hb) (fun hb => zqK (h := { h with low := m }) (by rw [← hbl]; exact hb) h1)) hw)
    · rename_i hwt
      rw [if_neg hwt]
      exact WOpsK.mono _ _ _ _ _ _ (fun ks' e' h' hq' => fin 0 ks' e' h' hq') (WOpsG.toK l _ _ _ h m Q hb hm (hd' _) (hks.snoc (fun _ => rfl) (fun _ => rfl)) hw)
end
/-! ### What each operation is -/
end Go.Am
namespace Go.Proofs.YtemapihoobmonaaGreatDoor
open Go.Am
set_option linter.unusedSimpArgs false
set_option linter.unusedVariables false
set_option maxRecDepth 100000
set_option maxHeartbeats 0
theorem zwS (l : List AtomD) (a : AtomD) (v : Value) (h : Heap) (hl : Sl Rep.atom h v l) (hn : l.length ≤ 100000) (hlt : ∀ x ∈ l, x.light = true) (ha : a.light = true) (K : Value → Heap → Prop)
    (hk : ∀ h', Ext h h' → K (.bool (hasA l a)) h') : Ok Tryz.prog tab ov 17 [v, a.val] h K := by
  rw [zaa h]
  have z := Ext.refl h
  have hva := zaH v
  have hln := fun (hh : Heap) => hl.lenA ds27 hh
  refine Ok.into rfl zuC (zaB N17) rfl (m := 17) rfl ?_
  simp -implicitDefEqProofs only [syms, symx, seval, c17, zay, hva]
  refine zf8 (fun h' x hq => ?_)
  have q0 := hq 0 _ rfl
  clear hq
  (replace z := z.overW x (by (try simp only [lsz]); omega); rw [zaa h'])
  obtain ⟨I1, hI1⟩ : ∃ I : Nat → Env → Heap → Prop, I = (fun n e h' => ∃ (i : Nat) (h1 : Heap), h' = h1.lay [] h1.low ∧ Ext h h1 ∧ (n = l.length - i ∧ i ≤ l.length ∧ (∀ x ∈ l.take i, ¬ zaK x = zaK a) ∧ Holds h1 (h.size + 0) (.row a.cells 26 false)) ∧ ∃ J : Nat → Value, e = (v :: jr J 1 2 (.pointer (some ⟨h.size + 0, 0, none⟩) :: J 4 :: .int .i64 i :: jr J 6 13 ([])))) := ⟨_, rfl⟩
  refine zas I1 _ (by rw [hI1]; exact ⟨0, _, rfl, z, ⟨rfl, by omega, by simp, q0⟩, junk (by kernel_rfl)⟩) ?_
  intro n e h' hin
  rw [hI1] at hin
  obtain ⟨i, h1', rfl, z, hinv, J, rfl⟩ := hin
  clear q0
  obtain ⟨rfl, hi, hno, q0⟩ := hinv
  have hwi : IntKind.i64.wrap ((i : Int) + 1) = ((i + 1 : Nat) : Int) := by rw [zae (by omega) (by omega)]; omega
  simp -implicitDefEqProofs only [syms, symx, seval, c17, hva, hln]
  refine zaw (fun hlt1 => ?_) (fun hlt1 => ?_)
  rotate_left
  · rw [List.take_of_length_le (by omega)] at hno
    have e : hasA l a = false := by
      cases e : hasA l a
      · rfl
      · obtain ⟨x, hx, e2⟩ := hasA_iff.1 e
        exact absurd e2 (hno x hx)
    rw [e] at hk
    repeat' ( simp -implicitDefEqProofs only [syms, symx, seval, c17, hva])
    exact hk _ (z.upW _ _ (by omega))
  have hr : l[(i : Int).toNat]? = some (l.getD i noAtomD) := zaU (by omega)
  have hmem : l.getD i noAtomD ∈ l := List.mem_of_getElem? hr
  simp -implicitDefEqProofs only [syms, symx, seval, c17, hva]
  with_reducible first | refine zbP (by simp only [c17]) (z.upW _ _ (by omega)) ?_
  simp -implicitDefEqProofs only [syms, symx, seval, c17, hva]
  repeat' ((first | with_reducible_and_instances refine zdN (hl.mono z.inc) ds27 sz26 (by omega) hr (fun p hp => ?_) | with_reducible_and_instances refine lda hp ag26 sz26 ?_) <;> simp -implicitDefEqProofs only [syms, symx, seval, c17, hva, q0.lay, zay, ↓zax, zau, zaj])
  refine zxF _ a (hlt _ hmem) ha _ _ (fun h' x => ?_)
  (( ((with_reducible refine zar ?_ ?_ ?_); (· exact (by (try simp only [lsz]); have := z.size; omega)); (·  exact x )) ); replace z := z.overW x (by (try simp only [lsz]); omega); (try replace q0 := q0.over x); rw [zaa h'])
  simp -implicitDefEqProofs only [syms, symx, seval, c17]
  refine zdA (fun hc => ?_) (fun hc => ?_)
  · have e : hasA l a = true := hasA_iff.2 ⟨_, hmem, cmpD_zero.1 hc⟩
    rw [e] at hk
    repeat' (first | simp -implicitDefEqProofs only [syms, symx, seval, c17] | ((with_reducible refine ⟨z.grw.lay _ _, ?_⟩); (intro _ h' zz x _); (try simp only [zap, List.append_nil] at x); (try replace q0 := q0.over x); (replace z := zz); (clear zz); rw [zaa h']))
    exact hk _ (z.upW _ _ (by omega))
  · have hc2 : ¬ zaK (l.getD i noAtomD) = zaK a := fun e => absurd (cmpD_zero.2 e) hc
    have hno2 := zbp (i := i) (P := fun x : AtomD => ¬ zaK x = zaK a) (zaU (l := l) (i := i) (by omega)) hno hc2
    repeat' (first | simp -implicitDefEqProofs only [syms, symx, seval, c17] | ((with_reducible refine ⟨z.grw.lay _ _, ?_⟩); (intro _ h' zz x _); (try simp only [zap, List.append_nil] at x); (try replace q0 := q0.over x); (replace z := zz); (clear zz); rw [zaa h']))
    rw [hwi]
    (rw [hI1]; with_reducible refine zac (m := _) ?_ ⟨i + 1, _, rfl, z, ⟨rfl, by omega, hno2, q0⟩, junk (by kernel_rfl)⟩; omega)
end Go.Proofs.YtemapihoobmonaaGreatDoor

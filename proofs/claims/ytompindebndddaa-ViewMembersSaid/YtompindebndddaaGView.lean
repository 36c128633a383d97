/- Slices of strings, sorted and without repetition. No condition. -/
import Derived.Test.YtompindebndddaaGSrt
import Derived.Test.YtompindebndddaaG11
import Derived.Test.YtompindebndddaaG17
import Derived.Test.YtompindebndddaaGPol
import Derived.Test.YtompindebndddaaG15
namespace Go.Am
open Go.Proofs
set_option linter.unusedVariables false
set_option linter.unusedSimpArgs false
def StrRow (h : Heap) (A : Nat) (e : TypeId) (v : Value) (l : List ByteArray) : Prop := ∃ c, v = .slice (some ⟨A, 0, none⟩) l.length c ∧ capOk 1 l.length c ∧ Holds h A (.row (l.map Value.string) e false)
theorem StrRow.sl {h : Heap} {A : Nat} {e : TypeId} {v : Value} {l : List ByteArray} (f : StrRow h A e v l) (hn : l.length ≤ 1000) : Sl Rep.str h v l := by
  obtain ⟨c, rfl, hc, q⟩ := f
  have hM : (1000 : Nat) ≤ maxLen := by decide
  refine .inr ⟨A, 0, c, l.map Value.string, e, false, rfl, by omega, hc, q.lt, q.get, fun i x hx => ⟨[.string x], ?_, rfl⟩⟩
  have hi := (List.getElem?_eq_some_iff.1 hx).1
  show cut (l.map Value.string) (0 + i * 1) 1 = _
  rw [Nat.zero_add, Nat.mul_one]
  unfold cut
  rw [if_pos (by rw [List.length_map]; omega), ← List.map_drop, ← List.map_take, List.drop_eq_getElem_cons hi]
  simp only [List.take_succ_cons, List.take_zero, List.map_cons, List.map_nil]
  rw [(List.getElem?_eq_some_iff.1 hx).2]
theorem row_of_cells {row : List Value} {l : List ByteArray} (hr : row.length = l.length) (h : ∀ (i : Nat) (x : ByteArray), l[i]? = some x → ∃ cs, cut row (i * 1) 1 = some cs ∧ cs = [.string x]) : row = l.map Value.string := by
  apply List.ext_getElem?
  intro i
  by_cases hi : i < l.length
  · obtain ⟨cs, h1, rfl⟩ := h i _ (List.getElem?_eq_getElem hi)
    rw [Nat.mul_one] at h1
    unfold cut at h1
    split at h1
    · rw [List.drop_eq_getElem_cons (by omega)] at h1
      simp only [List.take_succ_cons, List.take_zero, Option.some.injEq, List.cons.injEq, and_true] at h1
      rw [List.getElem?_eq_getElem (by omega), h1, List.getElem?_map, List.getElem?_eq_getElem hi]
      rfl
    · cases h1
  · rw [List.getElem?_eq_none (by omega), List.getElem?_eq_none (by rw [List.length_map]; omega)]
theorem Ow.strRow {h0 h : Heap} {e : TypeId} {A : Nat} {v : Value} {l : List ByteArray} (f : Ow Rep.str h0 h e A v l) (hl : l ≠ []) (hn : l.length ≤ 1000) : StrRow h A e v l := by
  rcases f with ⟨_, f, _⟩ | ⟨row, rfl, _, f0, f1, f2, f3, f4, f5⟩
  · exact absurd f hl
  · have hr : row = l.map Value.string := row_of_cells (by rw [f3]; exact Nat.mul_one _) f5
    subst hr
    have hG := G_big
    obtain ⟨d1, d2, d3⟩ := openCap2 (k := 1) (q := l.length) (by decide) (by omega)
    exact ⟨_, rfl, .inr ⟨d1, d2, by rw [d3]; exact Nat.le_refl _⟩, ⟨f1, f2⟩⟩
theorem strs_map2 (xs : List ByteArray) : strs (xs.map Value.string) = some xs := by
  induction xs with
  | nil => rfl
  | cons x xs ih => simp only [List.map_cons, strs, ih, Option.map_some]
theorem cells_all {h : Heap} {A : Nat} {e : TypeId} {l : List ByteArray} (q : Holds h A (.row (l.map Value.string) e false)) : cellsAt A 0 l.length h = some (l.map Value.string) := by
  unfold cellsAt
  rw [q.get]
  simp only [cut, Nat.zero_add, List.length_map, Nat.le_refl, if_true, List.drop_zero]
  rw [List.take_of_length_le (by rw [List.length_map]; omega)]
theorem write_all {h : Heap} {A : Nat} {e : TypeId} {l m : List ByteArray} (q : Holds h A (.row (l.map Value.string) e false)) (hm : m.length = l.length) :
    writeA A 0 (m.map Value.string) h = some (h.set A (.row (m.map Value.string) e false)) := by
  unfold writeA
  rw [q.get]
  simp only
  have h1 : (m.map Value.string).all one = true := by rw [List.all_map]; exact List.all_eq_true.2 (fun _ _ => rfl)
  have h2 : splice (l.map Value.string) 0 (m.map Value.string) = m.map Value.string := by
    unfold splice
    rw [List.take_zero, List.nil_append, List.drop_eq_nil_of_le (by simp [hm]), List.append_nil]
  rw [h1, h2, if_pos (by simp [hm])]
theorem chg_set {h : Heap} {A : Nat} {b : Blk} (hA : A < h.size) : Chg A h (h.set A b) := ⟨by rw [Heap.size_set]; exact Nat.le_refl _, fun B hB hne => by rw [Heap.get_set _ _ _ _ hA, if_neg hne], by rw [Heap.low_set]; omega⟩
theorem holds_set {h : Heap} {A : Nat} {b : Blk} (hA : A < h.size) : Holds (h.set A b) A b := ⟨by rw [Heap.size_set]; exact hA, by rw [Heap.get_set _ _ _ _ hA, if_pos rfl]⟩
theorem sort_strRow {h : Heap} {A : Nat} {e : TypeId} {v : Value} {l : List ByteArray} (f : StrRow h A e v l) (hl : l ≠ []) (hn : l.length ≤ 1000) : ∃ h', sortSA [v] h = some (.tuple #[], h') ∧ StrRow h' A e v (sortS l) ∧ Chg A h h' := by
  obtain ⟨c, rfl, hc, q⟩ := f
  have hne : l.length ≠ 0 := fun e => hl (List.length_eq_zero_iff.1 e)
  have hlt := sortS_length l
  refine ⟨_, ?_, ⟨c, by rw [hlt], by rw [hlt]; exact hc, holds_set q.lt⟩, chg_set q.lt⟩
  unfold sortSA
  simp only [if_neg hne, cells_all q, Option.bind_some, strs_map2]
  rw [if_pos (by omega), write_all q hlt]
  rfl
theorem compL_nodup {xs : List ByteArray} (h : xs.Nodup) : compL xs = xs := by
  unfold compL
  have hx : (xs.map (·.data.toList)).Nodup := by
    refine List.Pairwise.map _ ?_ h
    intro a b hab e
    exact hab (ba_ext e)
  have e1 : Lib.compact (xs.map (·.data.toList)) = xs.map (·.data.toList) := by
    refine Lib.compact_all _ ?_
    intro j hj
    unfold Lib.keeps
    rw [decide_eq_true_iff]
    by_cases h0 : j = 0
    · exact .inl h0
    · refine .inr (fun e => ?_)
      rw [List.length_map] at hj
      have h1 : (xs.map (·.data.toList)).toArray[j]! = (xs.map (·.data.toList))[j]'(by rw [List.length_map]; omega) := by simp [hj]
      have h2 : (xs.map (·.data.toList)).toArray[j - 1]! = (xs.map (·.data.toList))[j - 1]'(by rw [List.length_map]; omega) := by simp [show j - 1 < xs.length by omega]
      rw [h1, h2] at e
      have := (List.getElem_inj hx).1 e
      omega
  rw [e1, List.map_map]
  have e : (fun l : List UInt8 => (⟨l.toArray⟩ : ByteArray)) ∘ (fun x : ByteArray => x.data.toList) = id := by
    funext x
    exact ba_ext (by simp)
  rw [e, List.map_id]
theorem comp_strRow {h : Heap} {A : Nat} {e : TypeId} {v : Value} {l : List ByteArray} (f : StrRow h A e v l) (hl : l ≠ []) (hn : l.length ≤ 1000) (hd : l.Nodup) : ∃ h', compSA [v] h = some (v, h') ∧ StrRow h' A e v l ∧ Chg A h h' := by
  obtain ⟨c, rfl, hc, q⟩ := f
  have hne : l.length ≠ 0 := fun e => hl (List.length_eq_zero_iff.1 e)
  have hcl := compL_nodup hd
  have hcs : compS l = l := by unfold compS; rw [hcl, Nat.sub_self, List.replicate_zero, List.append_nil]
  refine ⟨_, ?_, ⟨c, rfl, hc, holds_set q.lt⟩, chg_set q.lt⟩
  unfold compSA
  simp only [if_neg hne, cells_all q, Option.bind_some, strs_map2]
  rw [hcl, hcs, if_pos ⟨by omega, Nat.le_refl _⟩, write_all q rfl]
  rfl
theorem app_who {T : Tab} {t e : TypeId} {bytes : Nat} {z : List Value} (hd : T.desc t = some (.slice e)) (hi : T.info e = some (1, bytes, z)) (hby : bytes ≤ 1000) {h : Heap} {B : Nat} {who : ByteArray} {x : Value} {reads : List ByteArray} (q : Holds h B (.row [.string who] e false)) (f : Sl Rep.str h x reads) (hn : reads.length ≤ 900) :
    ∃ v' h' A', appendA T t (.slice (some ⟨B, 0, none⟩) 1 1) x h = some (v', h') ∧ StrRow h' A' e v' (who :: reads) ∧ Ext h h' ∧ (A' = B ∨ A' = h.size) := by
  have hG := G_big
  by_cases hr : reads = []
  · subst hr
    obtain ⟨news, s1, s2⟩ := src_sl (A := h.size) (by decide) f (fun cs y hr => hr)
    refine ⟨_, h, B, ?_, ⟨1, rfl, .inl ⟨by omega, Nat.le_refl _⟩, q⟩, Ext.refl h, .inl rfl⟩
    unfold appendA
    simp only [hd, hi, s1, Option.bind_some]
    rfl
  · have hp : 0 < reads.length := List.length_pos_iff.2 hr
    obtain ⟨news, s1, s2⟩ := src_sl (A := h.size) (by decide) f (fun cs y hr => hr)
    rw [kill_ge (Nat.le_refl _)] at s2
    have f1 : Sl Rep.str h (.slice (some ⟨B, 0, none⟩) [who].length [who].length) [who] := StrRow.sl ⟨1, rfl, .inl ⟨by omega, Nat.le_refl _⟩, q⟩ (by simp only [List.length_cons, List.length_nil]; omega)
    obtain ⟨v', h', e1, e2, e3⟩ := app_full (h0 := h) hd hi rfl (by decide) (Nat.le_refl _) f1 s1 s2 hp (by
      have : ([who].length + reads.length) * bytes ≤ 901 * 1000 := Nat.mul_le_mul (by simp only [List.length_cons, List.length_nil]; omega) hby
      omega) (by simp only [List.length_cons, List.length_nil]; omega)
    exact ⟨v', h', h.size, e1, e2.strRow (by simp) (by simp only [List.length_append, List.length_cons, List.length_nil]; omega), e3, .inr rfl⟩
/-! ### Members -/
def readsD (l : List ClearD) (who : ByteArray) : List ByteArray := match l.find? (fun c => decide (c.who = who)) with
  | some c => c.reads
  | none => []
def ClearsOk (ps : List ByteArray) (l : List ClearD) : Prop := (∀ (i k : Nat) (c e : ClearD), l[i]? = some c → l[k]? = some e → c.who = e.who → i = k) ∧ ∀ c ∈ l, c.who ∈ ps ∧ c.reads.Nodup ∧ (∀ x ∈ c.reads, x ∈ ps ∧ x ≠ c.who)
theorem readsD_ok {ps : List ByteArray} {l : List ClearD} {who : ByteArray} (h : ClearsOk ps l) : (readsD l who).Nodup ∧ ∀ x ∈ readsD l who, x ∈ ps ∧ x ≠ who := by
  unfold readsD
  cases hf : l.find? (fun c => decide (c.who = who)) with
  | none => simp
  | some c =>
    have h1 := List.mem_of_find?_eq_some hf
    have h2 := List.find?_some hf
    have h3 : c.who = who := of_decide_eq_true h2
    obtain ⟨_, g2, g3⟩ := h.2 c h1
    exact ⟨g2, fun x hx => ⟨(g3 x hx).1, h3 ▸ (g3 x hx).2⟩⟩
theorem readsD_le {l : List ClearD} {who : ByteArray} {n : Nat} (h : ∀ c ∈ l, c.reads.length ≤ n) : (readsD l who).length ≤ n := by
  unfold readsD
  cases hf : l.find? (fun c => decide (c.who = who)) with
  | none => simp
  | some c => exact h c (List.mem_of_find?_eq_some hf)
theorem readsD_idx (l : List ClearD) (who : ByteArray) : (∃ (i : Nat) (c : ClearD), idxP (fun c : ClearD => decide (c.who = who)) l = i ∧ l[i]? = some c ∧ readsD l who = c.reads) ∨ (idxP (fun c : ClearD => decide (c.who = who)) l = -1 ∧ readsD l who = []) := by
  cases hf : l.find? (fun c => decide (c.who = who)) with
  | none =>
    refine .inr ⟨idx_none (fun y hy => ?_), by unfold readsD; rw [hf]⟩
    have := List.find?_eq_none.1 hf y hy
    simpa using this
  | some c =>
    obtain ⟨h1, us, ws, rfl, h2⟩ := List.find?_eq_some_iff_append.1 hf
    refine .inl ⟨us.length, c, idx_found (x := c) (by simp) (fun y hy => ?_) h1, by simp, by unfold readsD; rw [hf]⟩
    rw [List.take_left] at hy
    simpa using h2 y hy
def membersD (d : PolicyD) (who : ByteArray) : List ByteArray := sortS (who :: readsD d.clears who)
theorem membersD_length (d : PolicyD) (who : ByteArray) : (membersD d who).length = 1 + (readsD d.clears who).length := by
  unfold membersD
  rw [sortS_length, List.length_cons, Nat.add_comm]
theorem membersD_mem {d : PolicyD} {who x : ByteArray} : x ∈ membersD d who ↔ x = who ∨ x ∈ readsD d.clears who := by
  unfold membersD
  rw [(sortS_perm _).mem_iff, List.mem_cons]
theorem membersD_nodup {d : PolicyD} {who : ByteArray} (h : ClearsOk d.principals d.clears) : (membersD d who).Nodup := by
  unfold membersD
  obtain ⟨h1, h2⟩ := readsD_ok (who := who) h
  refine (sortS_perm _).nodup_iff.2 (List.nodup_cons.2 ⟨fun hm => (h2 who hm).2 rfl, h1⟩)
theorem readsD_snoc {ps : List ByteArray} {l : List ClearD} {who : ByteArray} {i : Nat} {c : ClearD} (h : ClearsOk ps l) (hc : l[i]? = some c) (hw : c.who = who) : readsD (l.take i) who = [] ∧ readsD (l.take (i + 1)) who = c.reads := by
  have hi := (List.getElem?_eq_some_iff.1 hc).1
  have hf : (l.take i).find? (fun c : ClearD => decide (c.who = who)) = none := by
    rw [List.find?_eq_none]
    intro e he
    obtain ⟨j, hj, hj2⟩ := List.mem_iff_getElem.1 he
    have hj3 : j < i := by rw [List.length_take] at hj; omega
    rw [List.getElem_take] at hj2
    intro hd
    have := h.1 j i e c (by rw [← hj2]; exact List.getElem?_eq_getElem (by omega)) hc ((of_decide_eq_true hd).trans hw.symm)
    omega
  refine ⟨by unfold readsD; rw [hf], ?_⟩
  unfold readsD
  rw [List.take_add_one, hc, List.find?_append, hf]
  simp [hw]
theorem readsD_skip {l : List ClearD} {who : ByteArray} {i : Nat} {c : ClearD} (hc : l[i]? = some c) (hw : ¬ c.who = who) : readsD (l.take (i + 1)) who = readsD (l.take i) who := by
  unfold readsD
  rw [List.take_add_one, hc, List.find?_append]
  simp [hw]
def PolV (h : Heap) (v : Value) (d : PolicyD) : Prop := ∃ p0 p1 p2 p5 p6 q b, v = polVal p0 p1 p2 p5 p6 q b ∧ PolH h p0 p1 p2 p5 p6 d
end Go.Am

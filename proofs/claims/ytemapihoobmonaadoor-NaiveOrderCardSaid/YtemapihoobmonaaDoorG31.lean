/- Words by the program's own rules: as the document's. No condition. -/
import Derived.Test.YtemapihoobmonaaDoorG30
import Derived.Test.YtemapihoobmonaaDoorG10
import Derived.Test.YtemapihoobmonaaDoorG24
import Derived.Test.YtemapihoobmonaaDoorG25
namespace Go.Am
set_option linter.unusedVariables false
theorem SpaceAt.ext {g : Nat} {h h' : Heap} (s : SpaceAt g h) (x : Ext h h') : SpaceAt g h' := Holds.ext s x
theorem SpaceAt.lay {g : Nat} {h : Heap} (s : SpaceAt g h) (bs : List Blk) (w : Nat) : SpaceAt g (h.lay bs w) := Holds.on s bs w
theorem SpaceAt.over {g : Nat} {h1 h2 : Heap} {bs : List Blk} {w : Nat} (s : SpaceAt g h1) (x : Ext (h1.lay bs w) h2) : SpaceAt g h2 := Holds.over s x
def wordsL : List ByteArray := [⟨#[115, 97, 121, 115]⟩, ⟨#[105, 102]⟩, ⟨#[99, 97, 110, 115, 97, 121]⟩, ⟨#[112, 114, 105, 110, 99, 105, 112, 97, 108]⟩, ⟨#[112, 114, 101, 100]⟩, ⟨#[99, 108, 101, 97, 114]⟩, ⟨#[113, 117, 111, 116, 97]⟩, ⟨#[98, 117, 100, 103, 101, 116]⟩]
theorem resP_iff {s : ByteArray} : resP s ↔ s ∈ wordsL := by
  unfold resP wordsL
  simp only [List.mem_cons, List.not_mem_nil, or_false, eq_comm (a := s)]
def wordsT : ByteArray := ⟨#[115, 97, 121, 115, 32, 105, 102, 32, 99, 97, 110, 115, 97, 121, 32, 112, 114, 105, 110, 99, 105, 112, 97, 108, 32, 112, 114, 101, 100, 32, 99, 108, 101, 97, 114, 32, 113, 117, 111, 116, 97, 32, 98, 117, 100, 103, 101, 116]⟩
theorem words_fields : fieldsV wordsT.data.toList = wordsL.map Value.string := by kernel_rfl
theorem fields_at {g st : Nat} {h : Heap} (hs : SpaceAt g h) : fieldsA g st [.string wordsT] h = some (.slice (some ⟨h.size, 0, none⟩) 8 8, h.push (.row (wordsL.map Value.string) st false)) := by
  unfold fieldsA
  simp only
  rw [hs.get]
  simp only
  have e1 : (fieldsV wordsT.data.toList).length = 8 := by rw [words_fields]; rfl
  rw [if_pos (by
    rw [e1]
    have h1 : wordsT.data.toList.all (fun b => Nat.blt b.toNat 128) = true := by kernel_rfl
    have h2 : Nat.blt wordsT.size 4294967281 = true := by kernel_rfl
    have h3 : Nat.beq spaceMark spaceMark = true := Nat.beq_refl _
    rw [h1, h2, h3]
    rfl), e1, words_fields]
theorem sl_words {h : Heap} {st : TypeId} {w : Nat} : Sl Rep.str (h.push (.row (wordsL.map Value.string) st false)) (.slice (some ⟨h.size, 0, none⟩) 8 8) wordsL := by
  refine .inr ⟨h.size, 0, 8, wordsL.map Value.string, st, false, rfl, (by show 8 ≤ maxLen; decide), .inl ⟨by decide, Nat.le_refl _⟩, by rw [Heap.size_push]; omega, by rw [Heap.get_push, if_pos rfl], fun i x hx => ?_⟩
  refine ⟨[.string x], ?_, rfl⟩
  have hi : i < 8 := (List.getElem?_eq_some_iff.1 hx).1
  have : i = 0 ∨ i = 1 ∨ i = 2 ∨ i = 3 ∨ i = 4 ∨ i = 5 ∨ i = 6 ∨ i = 7 := by omega
  rcases this with rfl | rfl | rfl | rfl | rfl | rfl | rfl | rfl <;> (cases hx; rfl)
structure SpelledX (first more : Int → Prop) (s : ByteArray) : Prop where
  pos : 1 ≤ s.size
  len : s.size ≤ 255
  first : first (byteAt s 0)
  more : ∀ i, 1 ≤ i → i < s.size → more (byteAt s i)
def smallC (c : Int) : Prop := 97 ≤ c ∧ c ≤ 122
def greatC (c : Int) : Prop := 65 ≤ c ∧ c ≤ 90
def digitC (c : Int) : Prop := 48 ≤ c ∧ c ≤ 57
theorem prinX_iff {s : ByteArray} : prinX s ↔ SpelledX smallC lowCh s ∧ ¬ resP s := by
  constructor
  · rintro ⟨⟨h, hr⟩, hs⟩
    exact ⟨⟨h.pos, h.len, hs, fun i _ hi => h.all i hi⟩, hr⟩
  · rintro ⟨h, hr⟩
    have hf := h.first
    unfold smallC at hf
    refine ⟨⟨⟨h.pos, h.len, by omega, fun i hi => ?_⟩, hr⟩, hf⟩
    by_cases hi0 : i = 0
    · subst hi0
      exact .inl hf
    · exact h.more i (by omega) hi
theorem constX_iff {s : ByteArray} : constX s ↔ SpelledX (fun c => smallC c ∨ digitC c) lowCh s ∧ ¬ resP s := by
  constructor
  · rintro ⟨h, hr⟩
    refine ⟨⟨h.pos, h.len, ?_, fun i _ hi => h.all i hi⟩, hr⟩
    have h0 := h.all 0 h.pos
    have h1 := h.first
    unfold lowCh at h0
    rcases h0 with h0 | h0 | h0
    · exact .inl h0
    · exact .inr h0
    · exact absurd h0 h1
  · rintro ⟨h, hr⟩
    have hf := h.first
    unfold smallC digitC at hf
    refine ⟨⟨h.pos, h.len, by omega, fun i hi => ?_⟩, hr⟩
    by_cases hi0 : i = 0
    · subst hi0
      rcases hf with hf | hf
      · exact .inl hf
      · exact .inr (.inl hf)
    · exact h.more i (by omega) hi
theorem varX_iff {s : ByteArray} : varX s ↔ SpelledX greatC okCh s := by
  constructor
  · intro h
    exact ⟨h.pos, h.len, h.first, fun i _ hi => h.all i hi⟩
  · intro h
    refine ⟨h.pos, h.len, h.first, fun i hi => ?_⟩
    by_cases hi0 : i = 0
    · subst hi0
      exact .inr (.inl h.first)
    · exact h.more i (by omega) hi
end Go.Am
namespace Go.Proofs.YtemapihoobmonaaDoor
open Go.Am
set_option linter.unusedSimpArgs false
set_option linter.unusedVariables false
set_option maxRecDepth 100000
set_option maxHeartbeats 0
theorem ok_smallM (c : Int) (h : Heap) (K : Value → Heap → Prop) (h1 : smallC c → K (.bool true) h) (h2 : ¬ smallC c → K (.bool false) h) : Ok Tryd.prog tab ov 65 [.int .u8 c] h K := by
  unfold smallC at h1 h2
  refine Ok.into rfl tab_fn65 (bodyF N65) rfl (m := 8) rfl ?_
  simp -implicitDefEqProofs only [syms, symx, seval, c65]
  repeat' (refine forkD (fun c => ?_) (fun c => ?_) <;> simp -implicitDefEqProofs only [syms, symx, seval, c65])
  all_goals first | exact h1 (by omega) | exact h2 (by omega)
theorem ok_greatM (c : Int) (h : Heap) (K : Value → Heap → Prop) (h1 : greatC c → K (.bool true) h) (h2 : ¬ greatC c → K (.bool false) h) : Ok Tryd.prog tab ov 81 [.int .u8 c] h K := by
  unfold greatC at h1 h2
  refine Ok.into rfl tab_fn81 (bodyF N81) rfl (m := 8) rfl ?_
  simp -implicitDefEqProofs only [syms, symx, seval, c81]
  repeat' (refine forkD (fun c => ?_) (fun c => ?_) <;> simp -implicitDefEqProofs only [syms, symx, seval, c81])
  all_goals first | exact h1 (by omega) | exact h2 (by omega)
theorem ok_digitM (c : Int) (h : Heap) (K : Value → Heap → Prop) (h1 : digitC c → K (.bool true) h) (h2 : ¬ digitC c → K (.bool false) h) : Ok Tryd.prog tab ov 78 [.int .u8 c] h K := by
  unfold digitC at h1 h2
  refine Ok.into rfl tab_fn78 (bodyF N78) rfl (m := 8) rfl ?_
  simp -implicitDefEqProofs only [syms, symx, seval, c78]
  repeat' (refine forkD (fun c => ?_) (fun c => ?_) <;> simp -implicitDefEqProofs only [syms, symx, seval, c78])
  all_goals first | exact h1 (by omega) | exact h2 (by omega)
theorem ok_lowM (c : Int) (h : Heap) (K : Value → Heap → Prop) (h1 : lowCh c → K (.bool true) h) (h2 : ¬ lowCh c → K (.bool false) h) : Ok Tryd.prog tab ov 66 [.int .u8 c] h K := by
  unfold lowCh at h1 h2
  refine Ok.into rfl tab_fn66 (bodyF N66) rfl (m := 12) rfl ?_
  simp -implicitDefEqProofs only [syms, symx, seval, c66]
  refine ok_smallM c _ _ (fun g1 => ?_) (fun g1 => ?_)
  · simp -implicitDefEqProofs only [syms, symx, seval, c66]
    exact h1 (.inl g1)
  simp -implicitDefEqProofs only [syms, symx, seval, c66]
  refine ok_digitM c _ _ (fun g2 => ?_) (fun g2 => ?_)
  · simp -implicitDefEqProofs only [syms, symx, seval, c66]
    exact h1 (.inr (.inl g2))
  simp -implicitDefEqProofs only [syms, symx, seval, c66]
  refine forkB (fun g3 => ?_) (fun g3 => ?_)
  · simp -implicitDefEqProofs only [syms, symx, seval, c66]
    exact h1 (.inr (.inr g3))
  · simp -implicitDefEqProofs only [syms, symx, seval, c66]
    exact h2 (fun g => g.elim g1 (fun g => g.elim g2 g3))
theorem ok_const1M (c : Int) (h : Heap) (K : Value → Heap → Prop) (h1 : (smallC c ∨ digitC c) → K (.bool true) h) (h2 : ¬ (smallC c ∨ digitC c) → K (.bool false) h) : Ok Tryd.prog tab ov 83 [.int .u8 c] h K := by
  refine Ok.into rfl tab_fn83 (bodyF N83) rfl (m := 8) rfl ?_
  simp -implicitDefEqProofs only [syms, symx, seval, c83]
  refine ok_smallM c _ _ (fun g1 => ?_) (fun g1 => ?_)
  · simp -implicitDefEqProofs only [syms, symx, seval, c83]
    exact h1 (.inl g1)
  simp -implicitDefEqProofs only [syms, symx, seval, c83]
  refine ok_digitM c _ _ (fun g2 => ?_) (fun g2 => ?_)
  · simp -implicitDefEqProofs only [syms, symx, seval, c83]
    exact h1 (.inr g2)
  · simp -implicitDefEqProofs only [syms, symx, seval, c83]
    exact h2 (fun g => g.elim g1 g2)
theorem ok_var1M (c : Int) (h : Heap) (K : Value → Heap → Prop) (h1 : okCh c → K (.bool true) h) (h2 : ¬ okCh c → K (.bool false) h) : Ok Tryd.prog tab ov 82 [.int .u8 c] h K := by
  refine Ok.into rfl tab_fn82 (bodyF N82) rfl (m := 8) rfl ?_
  simp -implicitDefEqProofs only [syms, symx, seval, c82]
  refine ok_lowM c _ _ (fun g1 => ?_) (fun g1 => ?_)
  · simp -implicitDefEqProofs only [syms, symx, seval, c82]
    exact h1 (by unfold lowCh at g1; unfold okCh; omega)
  simp -implicitDefEqProofs only [syms, symx, seval, c82]
  refine ok_greatM c _ _ (fun g2 => ?_) (fun g2 => ?_)
  · simp -implicitDefEqProofs only [syms, symx, seval, c82]
    exact h1 (by unfold greatC at g2; unfold okCh; omega)
  · simp -implicitDefEqProofs only [syms, symx, seval, c82]
    exact h2 (by unfold lowCh at g1; unfold greatC at g2; unfold okCh; omega)
theorem ok_spelledM (s : ByteArray) (f1 f2 : Value) (p1 p2 : Int → Prop) (h : Heap) (hf1 : ∀ (c : Int) (hc : Heap) (K : Value → Heap → Prop), (p1 c → K (.bool true) hc) → (¬ p1 c → K (.bool false) hc) → callE Tryd.prog tab ov [.int .u8 c] hc K f1) (hf2 : ∀ (c : Int) (hc : Heap) (K : Value → Heap → Prop), (p2 c → K (.bool true) hc) → (¬ p2 c → K (.bool false) hc) → callE Tryd.prog tab ov [.int .u8 c] hc K f2)
    (K : Value → Heap → Prop) (h1k : SpelledX p1 p2 s → ∀ h', Ext h h' → K (.bool true) h') (h2k : ¬ SpelledX p1 p2 s → ∀ h', Ext h h' → K (.bool false) h') : Ok Tryd.prog tab ov 64 [.string s, f1, f2] h K := by
  rw [lay_nil h]
  have z := Ext.refl h
  refine Ok.into rfl tab_fn64 (bodyF N64) rfl (m := 31) rfl ?_
  simp -implicitDefEqProofs only [syms, symx, seval, c64]
  refine forkD (fun he => ?_) (fun he => ?_)
  · simp -implicitDefEqProofs only [syms, symx, seval, c64]
    exact h2k (fun x => by have := x.pos; rw [he] at this; exact absurd this (by decide)) _ (z.upW _ _ (by omega))
  have hpos : 1 ≤ s.size := by
    apply Nat.lt_of_not_le
    intro hh
    apply he
    apply ba_ext
    have h0 : s.size = 0 := by omega
    have : s.data.toList.length = 0 := by rw [Array.length_toList]; exact h0
    rw [List.length_eq_zero_iff.1 this]
  simp -implicitDefEqProofs only [syms, symx, seval, c64]
  refine forkD (fun hl => ?_) (fun hl => ?_)
  · simp -implicitDefEqProofs only [syms, symx, seval, c64]
    exact h2k (fun x => by have := x.len; omega) _ (z.upW _ _ (by omega))
  simp -implicitDefEqProofs only [syms, symx, seval, c64]
  refine index_str Tryd.underlying9 rfl rfl (by omega) (by omega) ?_
  simp -implicitDefEqProofs only [syms, symx, seval, c64]
  refine hf1 _ _ _ (fun g1 => ?_) (fun g1 => ?_)
  rotate_left
  · repeat' (first | simp -implicitDefEqProofs only [syms, symx, seval, c64] | ((with_reducible_and_instances apply unop_not); (· rfl)))
    exact h2k (fun x => g1 (by simpa using x.first)) _ (z.upW _ _ (by omega))
  repeat' (first | simp -implicitDefEqProofs only [syms, symx, seval, c64] | ((with_reducible_and_instances apply unop_not); (· rfl)))
  obtain ⟨I1, hI1⟩ : ∃ I : Nat → Env → Heap → Prop, I = (fun n e h' => ∃ (i : Nat) (h1 : Heap), h' = h1.lay [] h1.low ∧ Ext h h1 ∧ (n = s.size - i ∧ 1 ≤ i ∧ i ≤ s.size ∧ ∀ j, 1 ≤ j → j < i → p2 (byteAt s j)) ∧ ∃ J : Nat → Value, e = (.string s :: J 1 :: f2 :: jr J 3 4 (.int .i64 i :: jr J 8 26 ([])))) := ⟨_, rfl⟩
  refine W_loopN I1 _ (by rw [hI1]; exact ⟨1, _, rfl, z, ⟨rfl, by omega, by omega, fun j hj hj2 => by omega⟩, junk (by kernel_rfl)⟩) ?_
  intro n e h' hin
  rw [hI1] at hin
  obtain ⟨i, h1', rfl, z, hinv, J, rfl⟩ := hin
  obtain ⟨rfl, hi1, hi, hall⟩ := hinv
  have hw : IntKind.i64.wrap ((i : Int) + 1) = ((i + 1 : Nat) : Int) := by rw [wrap_i64 (by omega) (by omega)]; omega
  simp -implicitDefEqProofs only [syms, symx, seval, c64]
  refine forkD (fun hlt => ?_) (fun hlt => ?_)
  rotate_left
  · simp -implicitDefEqProofs only [syms, symx, seval, c64]
    exact h1k ⟨hpos, by omega, by simpa using g1, fun j hj hj2 => hall j hj (by omega)⟩ _ (z.upW _ _ (by omega))
  simp -implicitDefEqProofs only [syms, symx, seval, c64]
  refine index_str Tryd.underlying9 rfl rfl (by omega) (by omega) ?_
  simp -implicitDefEqProofs only [syms, symx, seval, c64]
  refine hf2 _ _ _ (fun g2 => ?_) (fun g2 => ?_)
  · repeat' (first | simp -implicitDefEqProofs only [syms, symx, seval, c64] | ((with_reducible_and_instances apply unop_not); (· rfl)))
    rw [hw]
    have hnx : ∀ j, 1 ≤ j → j < i + 1 → p2 (byteAt s j) := by
      intro j hj1 hj
      by_cases hji : j < i
      · exact hall j hj1 hji
      · have : j = i := by omega
        subst this
        simpa using g2
    (rw [hI1]; with_reducible refine loopN_normal (m := _) ?_ ⟨i + 1, _, rfl, z, ⟨rfl, by omega, by omega, hnx⟩, junk (by kernel_rfl)⟩; omega)
  · repeat' (first | simp -implicitDefEqProofs only [syms, symx, seval, c64] | ((with_reducible_and_instances apply unop_not); (· rfl)))
    exact h2k (fun x => g2 (by simpa using x.more i hi1 (by omega))) _ (z.upW _ _ (by omega))
theorem ok_wordsM (h : Heap) (hsp : SpaceAt 1 h) (K : Value → Heap → Prop) (hk : ∀ h' w, Ext h h' → Sl Rep.str h' w wordsL → K w h') : Ok Tryd.prog tab ov 80 [] h K := by
  rw [lay_nil h]
  have z := Ext.refl h
  refine Ok.into rfl tab_fn80 (bodyF N80) rfl (m := 2) rfl ?_
  simp -implicitDefEqProofs only [syms, symx, seval, c80]
  refine Ok.over (g := fieldsA 1 9) rfl (fields_at (hsp.lay _ _)) ?_
  have hx : Ext (h.lay [] h.low) ((h.lay [] h.low).push (.row (wordsL.map Value.string) 9 false)) := Ext.push _ _
  have hsw : Sl Rep.str ((h.lay [] h.low).push (.row (wordsL.map Value.string) 9 false)) (.slice (some ⟨(h.lay [] h.low).size, 0, none⟩) 8 8) wordsL := sl_words (w := 0)
  generalize (h.lay [] h.low).push (.row (wordsL.map Value.string) 9 false) = h2 at hx hsw ⊢
  replace z := z.overW hx (by omega)
  rw [lay_nil h2]
  simp -implicitDefEqProofs only [syms, symx, seval, c80]
  exact hk _ _ (z.upW _ _ (by omega)) (hsw.lay _ _)
theorem ok_indexSM (l : List ByteArray) (v : Value) (s : ByteArray) (h : Heap) (hl : Sl Rep.str h v l) (hs : l.length ≤ 1000) (K : Value → Heap → Prop)
    (hk : ∀ h', Ext h h' → K (.int .i64 (idxP (fun x => decide (s = x)) l)) h') : Ok Tryd.prog tab ov 87 [v, .string s] h K := by
  rw [lay_nil h]
  have z := Ext.refl h
  have hva := vSelf v
  have hlv := fun (hh : Heap) => hl.lenA ds84 hh
  refine Ok.into rfl tab_fn87 (bodyF N87) rfl (m := 17) rfl ?_
  simp -implicitDefEqProofs only [syms, symx, seval, c87, hva, hlv]
  obtain ⟨I1, hI1⟩ : ∃ I : Nat → Env → Heap → Prop, I = (fun n e h' => ∃ (i : Nat) (h1 : Heap), h' = h1.lay [] h1.low ∧ Ext h h1 ∧ (n = l.length - i ∧ i ≤ l.length ∧ ∀ x ∈ l.take i, decide (s = x) = false) ∧ ∃ J : Nat → Value, e = (v :: .string s :: jr J 2 5 (.int .i64 l.length :: .int .i64 i :: jr J 9 10 ([])))) := ⟨_, rfl⟩
  refine W_loopN I1 _ (by rw [hI1]; exact ⟨0, _, rfl, z, ⟨rfl, by omega, by simp⟩, junk (by kernel_rfl)⟩) ?_
  intro n e h' hin
  rw [hI1] at hin
  obtain ⟨i, h1', rfl, z, hinv, J, rfl⟩ := hin
  obtain ⟨rfl, hi, hall⟩ := hinv
  have hw : IntKind.i64.wrap ((i : Int) + 1) = ((i + 1 : Nat) : Int) := by rw [wrap_i64 (by omega) (by omega)]; omega
  simp -implicitDefEqProofs only [syms, symx, seval, c87]
  refine forkD (fun hlt => ?_) (fun hlt => ?_)
  rotate_left
  · rw [List.take_of_length_le (by omega)] at hall
    rw [idx_none hall] at hk
    repeat' ( simp -implicitDefEqProofs only [syms, symx, seval, c87])
    exact hk _ (z.upW _ _ (by omega))
  obtain ⟨r, hr, hr'⟩ := amElem (l := l) (i := i) (by omega)
  repeat' (first | simp -implicitDefEqProofs only [syms, symx, seval, c87, hva] | ((with_reducible  apply forkD ) <;> intro _) | with_reducible_and_instances refine ixs_at (hl.mono z.inc) ds84 sz9 (by omega) hr (fun p hp => ?_) | with_reducible_and_instances refine ld_one hp ag9 ?_)
  · rw [idx_found hr' hall (by simpa using (by assumption))] at hk
    exact hk _ (z.upW _ _ (by omega))
  · rw [hw]
    (rw [hI1]; with_reducible refine loopN_normal (m := _) ?_ ⟨i + 1, _, rfl, z, ⟨rfl, by omega, take_all (i := i) (P := fun x : ByteArray => decide (s = x) = false) hr' hall (by simpa using (by assumption))⟩, junk (by kernel_rfl)⟩; omega)
theorem ok_containsSM (l : List ByteArray) (v : Value) (s : ByteArray) (h : Heap) (hl : Sl Rep.str h v l) (hs : l.length ≤ 1000) (K : Value → Heap → Prop)
    (hk : ∀ h', Ext h h' → K (.bool (l.any fun x => decide (s = x))) h') : Ok Tryd.prog tab ov 79 [v, .string s] h K := by
  refine Ok.into rfl tab_fn79 (bodyF N79) rfl (m := 7) rfl ?_
  simp -implicitDefEqProofs only [syms, symx, seval, c79]
  refine ok_indexSM l v s h hl hs _ (fun h' x => ?_)
  simp -implicitDefEqProofs only [syms, symx, seval, c79, idx_any]
  refine forkT (fun hh => ?_) (fun hh => ?_)
  all_goals
    simp -implicitDefEqProofs only [syms, symx, seval, c79]
    rw [hh] at hk
    exact hk _ x
theorem ok_reservedM (s : ByteArray) (h : Heap) (hsp : SpaceAt 1 h) (K : Value → Heap → Prop) (h1 : resP s → ∀ h', Ext h h' → K (.bool true) h') (h2 : ¬ resP s → ∀ h', Ext h h' → K (.bool false) h') : Ok Tryd.prog tab ov 67 [.string s] h K := by
  rw [lay_nil h]
  have z := Ext.refl h
  refine Ok.into rfl tab_fn67 (bodyF N67) rfl (m := 5) rfl ?_
  simp -implicitDefEqProofs only [syms, symx, seval, c67]
  refine ok_wordsM _ (hsp.lay _ _) _ (fun h' w x sw => ?_)
  ((skip); replace z := z.overW x (by (try simp only [lsz]); omega); rw [lay_nil h'])
  have hvw := vSelf w
  simp -implicitDefEqProofs only [syms, symx, seval, c67, hvw]
  refine ok_containsSM wordsL w s _ (sw.lay _ _) (by decide) _ (fun h' x => ?_)
  ((skip); replace z := z.overW x (by (try simp only [lsz]); omega); rw [lay_nil h'])
  rw [resP_iff] at h1 h2
  cases hd : wordsL.any fun x => decide (s = x)
  · simp -implicitDefEqProofs only [syms, symx, seval, c67]
    exact h2 (fun hm => by rw [List.any_eq_false] at hd; exact hd s hm (by simp)) _ (z.upW _ _ (by omega))
  · simp -implicitDefEqProofs only [syms, symx, seval, c67]
    exact h1 (by obtain ⟨x, hx, e⟩ := List.any_eq_true.1 hd; rw [of_decide_eq_true e]; exact hx) _ (z.upW _ _ (by omega))
theorem ok_prinM (s : ByteArray) (h : Heap) (hsp : SpaceAt 1 h) (K : Value → Heap → Prop) (h1 : prinX s → ∀ h', Ext h h' → K (.bool true) h') (h2 : ¬ prinX s → ∀ h', Ext h h' → K (.bool false) h') : Ok Tryd.prog tab ov 45 [.string s] h K := by
  rw [lay_nil h]
  have z := Ext.refl h
  rw [prinX_iff] at h1 h2
  refine Ok.into rfl tab_fn45 (bodyF N45) rfl (m := 9) rfl ?_
  simp -implicitDefEqProofs only [syms, symx, seval, c45]
  refine ok_spelledM s _ _ smallC lowCh _ (fun c hc K' a b => by rw [callE_func]; exact ok_smallM c hc K' a b) (fun c hc K' a b => by rw [callE_func]; exact ok_lowM c hc K' a b) _ (fun g h' x => ?_) (fun g h' x => ?_)
  · ((skip); replace z := z.overW x (by (try simp only [lsz]); omega); rw [lay_nil h'])
    repeat' ( simp -implicitDefEqProofs only [syms, symx, seval, c45])
    refine ok_reservedM s _ ((hsp.ext z).lay _ _) _ (fun r h' x => ?_) (fun r h' x => ?_)
    · ((skip); replace z := z.overW x (by (try simp only [lsz]); omega); rw [lay_nil h'])
      repeat' (first | simp -implicitDefEqProofs only [syms, symx, seval, c45] | ((with_reducible_and_instances apply unop_not); (· rfl)))
      exact h2 (fun q => q.2 r) _ (z.upW _ _ (by omega))
    · ((skip); replace z := z.overW x (by (try simp only [lsz]); omega); rw [lay_nil h'])
      repeat' (first | simp -implicitDefEqProofs only [syms, symx, seval, c45] | ((with_reducible_and_instances apply unop_not); (· rfl)))
      exact h1 ⟨g, r⟩ _ (z.upW _ _ (by omega))
  · ((skip); replace z := z.overW x (by (try simp only [lsz]); omega); rw [lay_nil h'])
    repeat' ( simp -implicitDefEqProofs only [syms, symx, seval, c45])
    exact h2 (fun q => g q.1) _ (z.upW _ _ (by omega))
theorem ok_predM (s : ByteArray) (h : Heap) (hsp : SpaceAt 1 h) (K : Value → Heap → Prop) (h1 : prinX s → ∀ h', Ext h h' → K (.bool true) h') (h2 : ¬ prinX s → ∀ h', Ext h h' → K (.bool false) h') : Ok Tryd.prog tab ov 46 [.string s] h K := by
  rw [lay_nil h]
  have z := Ext.refl h
  refine Ok.into rfl tab_fn46 (bodyF N46) rfl (m := 4) rfl ?_
  simp -implicitDefEqProofs only [syms, symx, seval, c46]
  refine ok_prinM s _ (hsp.lay _ _) _ (fun g h' x => ?_) (fun g h' x => ?_)
  · ((skip); replace z := z.overW x (by (try simp only [lsz]); omega); rw [lay_nil h'])
    simp -implicitDefEqProofs only [syms, symx, seval, c46]
    exact h1 g _ (z.upW _ _ (by omega))
  · ((skip); replace z := z.overW x (by (try simp only [lsz]); omega); rw [lay_nil h'])
    simp -implicitDefEqProofs only [syms, symx, seval, c46]
    exact h2 g _ (z.upW _ _ (by omega))
theorem ok_constM (s : ByteArray) (h : Heap) (hsp : SpaceAt 1 h) (K : Value → Heap → Prop) (h1 : constX s → ∀ h', Ext h h' → K (.bool true) h') (h2 : ¬ constX s → ∀ h', Ext h h' → K (.bool false) h') : Ok Tryd.prog tab ov 70 [.string s] h K := by
  rw [lay_nil h]
  have z := Ext.refl h
  rw [constX_iff] at h1 h2
  refine Ok.into rfl tab_fn70 (bodyF N70) rfl (m := 9) rfl ?_
  simp -implicitDefEqProofs only [syms, symx, seval, c70]
  refine ok_spelledM s _ _ (fun c => smallC c ∨ digitC c) lowCh _ (fun c hc K' a b => by rw [callE_func]; exact ok_const1M c hc K' a b) (fun c hc K' a b => by rw [callE_func]; exact ok_lowM c hc K' a b) _ (fun g h' x => ?_) (fun g h' x => ?_)
  · ((skip); replace z := z.overW x (by (try simp only [lsz]); omega); rw [lay_nil h'])
    repeat' ( simp -implicitDefEqProofs only [syms, symx, seval, c70])
    refine ok_reservedM s _ ((hsp.ext z).lay _ _) _ (fun r h' x => ?_) (fun r h' x => ?_)
    · ((skip); replace z := z.overW x (by (try simp only [lsz]); omega); rw [lay_nil h'])
      repeat' (first | simp -implicitDefEqProofs only [syms, symx, seval, c70] | ((with_reducible_and_instances apply unop_not); (· rfl)))
      exact h2 (fun q => q.2 r) _ (z.upW _ _ (by omega))
    · ((skip); replace z := z.overW x (by (try simp only [lsz]); omega); rw [lay_nil h'])
      repeat' (first | simp -implicitDefEqProofs only [syms, symx, seval, c70] | ((with_reducible_and_instances apply unop_not); (· rfl)))
      exact h1 ⟨g, r⟩ _ (z.upW _ _ (by omega))
  · ((skip); replace z := z.overW x (by (try simp only [lsz]); omega); rw [lay_nil h'])
    repeat' ( simp -implicitDefEqProofs only [syms, symx, seval, c70])
    exact h2 (fun q => g q.1) _ (z.upW _ _ (by omega))
theorem ok_varM (s : ByteArray) (h : Heap) (K : Value → Heap → Prop) (h1 : varX s → ∀ h', Ext h h' → K (.bool true) h') (h2 : ¬ varX s → ∀ h', Ext h h' → K (.bool false) h') : Ok Tryd.prog tab ov 69 [.string s] h K := by
  rw [lay_nil h]
  have z := Ext.refl h
  rw [varX_iff] at h1 h2
  refine Ok.into rfl tab_fn69 (bodyF N69) rfl (m := 4) rfl ?_
  simp -implicitDefEqProofs only [syms, symx, seval, c69]
  refine ok_spelledM s _ _ greatC okCh _ (fun c hc K' a b => by rw [callE_func]; exact ok_greatM c hc K' a b) (fun c hc K' a b => by rw [callE_func]; exact ok_var1M c hc K' a b) _ (fun g h' x => ?_) (fun g h' x => ?_)
  · ((skip); replace z := z.overW x (by (try simp only [lsz]); omega); rw [lay_nil h'])
    simp -implicitDefEqProofs only [syms, symx, seval, c69]
    exact h1 g _ (z.upW _ _ (by omega))
  · ((skip); replace z := z.overW x (by (try simp only [lsz]); omega); rw [lay_nil h'])
    simp -implicitDefEqProofs only [syms, symx, seval, c69]
    exact h2 g _ (z.upW _ _ (by omega))
theorem ok_termM (t : TermD) (h : Heap) (hsp : SpaceAt 1 h) (K : Value → Heap → Prop) (h1 : termX t → ∀ h', Ext h h' → K (.bool true) h') (h2 : ¬ termX t → ∀ h', Ext h h' → K (.bool false) h') : Ok Tryd.prog tab ov 50 [t.val] h K := by
  rw [lay_nil h]
  have z := Ext.refl h
  rcases t with ⟨tv, ts⟩
  unfold termX at h1 h2
  cases tv
  · refine Ok.into rfl tab_fn50 (bodyF N50) rfl (m := 10) rfl ?_
    repeat' ( simp -implicitDefEqProofs only [syms, symx, seval, c50, TermD.val, TermD.cells])
    refine ok_constM _ _ (hsp.lay _ _) _ (fun hs h' x => ?_) (fun hs h' x => ?_)
    all_goals
      ((skip); replace z := z.overW x (by (try simp only [lsz]); omega); rw [lay_nil h'])
      simp -implicitDefEqProofs only [syms, symx, seval, c50]
      first
        | exact h1 hs _ (z.upW _ _ (by omega))
        | exact h2 hs _ (z.upW _ _ (by omega))
  · refine Ok.into rfl tab_fn50 (bodyF N50) rfl (m := 10) rfl ?_
    repeat' ( simp -implicitDefEqProofs only [syms, symx, seval, c50, TermD.val, TermD.cells])
    refine ok_varM _ _ _ (fun hs h' x => ?_) (fun hs h' x => ?_)
    all_goals
      ((skip); replace z := z.overW x (by (try simp only [lsz]); omega); rw [lay_nil h'])
      simp -implicitDefEqProofs only [syms, symx, seval, c50]
      first
        | exact h1 hs _ (z.upW _ _ (by omega))
        | exact h2 hs _ (z.upW _ _ (by omega))
open Classical in
noncomputable def badT (t : TermD) : Bool := !decide (termX t)
theorem ok_check1M (t : TermD) (h : Heap) (hsp : SpaceAt 1 h) (K : Value → Heap → Prop) (hk : ∀ h', Ext h h' → K (.bool (badT t)) h') : Ok Tryd.prog tab ov 49 [t.val] h K := by
  rw [lay_nil h]
  have z := Ext.refl h
  refine Ok.into rfl tab_fn49 (bodyF N49) rfl (m := 5) rfl ?_
  repeat' ( simp -implicitDefEqProofs only [syms, symx, seval, c49, cells_term, ↓cut_term, agg_term, valE_term])
  refine ok_termM t _ (hsp.lay _ _) _ (fun hs h' x => ?_) (fun hs h' x => ?_)
  · have e : badT t = false := by unfold badT; simp [hs]
    rw [e] at hk
    ((skip); replace z := z.overW x (by (try simp only [lsz]); omega); rw [lay_nil h'])
    repeat' (first | simp -implicitDefEqProofs only [syms, symx, seval, c49] | ((with_reducible_and_instances apply unop_not); (· rfl)))
    exact hk _ (z.upW _ _ (by omega))
  · have e : badT t = true := by unfold badT; simp [hs]
    rw [e] at hk
    ((skip); replace z := z.overW x (by (try simp only [lsz]); omega); rw [lay_nil h'])
    repeat' (first | simp -implicitDefEqProofs only [syms, symx, seval, c49] | ((with_reducible_and_instances apply unop_not); (· rfl)))
    exact hk _ (z.upW _ _ (by omega))
end Go.Proofs.YtemapihoobmonaaDoor

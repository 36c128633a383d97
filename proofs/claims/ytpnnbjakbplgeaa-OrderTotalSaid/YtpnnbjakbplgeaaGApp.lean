/- append, copy, clear, make, build: the plain machine beside the model. No condition. -/
import Derived.Test.YtpnnbjakbplgeaaGMem
namespace Go.Am
open Go.RowKit

theorem toList_rangeMod (z : Array Value) (n : Nat) : ((Array.range (n * z.size)).map fun i => z[i % z.size]!).toList = zerosA z.toList n := by
  induction n with
  | zero => simp [zerosA]
  | succ n ih =>
    have hr : Array.range ((n + 1) * z.size) = Array.range (n * z.size) ++ (Array.range z.size).map (n * z.size + ·) := by
      apply Array.ext'
      simp only [Array.toList_range, Array.toList_append, Array.toList_map, Nat.add_mul, Nat.one_mul, List.range_add]
    rw [hr, Array.map_append, Array.toList_append, ih]
    simp only [zerosA, List.replicate_succ', List.flatten_append, List.flatten_singleton]
    congr 1
    apply List.ext_getElem?
    intro i
    by_cases hi : i < z.size
    · simp [hi, Nat.mod_eq_of_lt hi]
    · simp [hi]

theorem length_zerosA (z : List Value) (n : Nat) : (zerosA z n).length = n * z.length := by simp [zerosA]

theorem plain_zerosA {z : List Value} (h : z.all plain1 = true) (n : Nat) : (zerosA z n).all plain1 = true := by
  simp only [zerosA, List.all_eq_true, List.mem_flatten, List.mem_replicate] at *
  rintro x ⟨l, ⟨_, rfl⟩, hx⟩
  exact h x hx

theorem one_of_plain1 {v : Value} (h : plain1 v = true) : one v = true := by cases v <;> simp_all [plain1, one]

section
variable {P : Program} {T : Tab} {ρ : Rho} {h h' : Heap} {w : World}

theorem rangeAt_take {b o q : Nat} {m : List Value} (h : w.rangeAt b o m) : w.rangeAt b o (m.take q) := by
  intro j v hv
  rw [List.getElem?_take] at hv
  split at hv
  · exact h j v hv
  · cases hv

theorem run_firstCells_range {b o k q n c : Nat} {m : List Value} (h : w.rangeAt b o m) (hl : m.length = q * k) : (Builtin.firstCells k q (.slice (some ⟨b, o, none⟩) n c)).run P w = .ok m.toArray w :=
  run_firstCells_some w k q ⟨b, o, none⟩ n c m hl (fun j v hv => by rw [Addr.add_mid]; exact h j v hv)

/-- The cells of a slice, read on both sides, as many elements as are wanted. -/
theorem cellsA_sound (hs : Sim ρ h w) {a : Option Addr} {n c k : Nat} {y : Value} {l : List Value} (hxy : VR ρ (.slice a n c) y) (hc : cellsA (.slice a n c) k h = some l) :
    ∃ a' c' m, y = .slice a' n c' ∧ VRs ρ l m ∧ m.length = n * k ∧ ∀ W : World, W.heap = w.heap → ∀ q, q ≤ n → (Builtin.firstCells k q y).run P W = .ok (m.take (q * k)).toArray W := by
  have hzero : ∀ (q : Nat) (ad : Addr) (c' : Nat) (W : World), q * k = 0 → (Builtin.firstCells k q (.slice (some ad) n c')).run P W = .ok #[] W := by
    intro q ad c' W hq
    simp [Builtin.firstCells, hq, loadCells, loadCellsFrom]
  have hcases : ∀ {A o : Nat} {L : Loc} {ad : Addr} {c' : Nat}, ρ A = some L → (n ≠ 0 → ad = ⟨L.b, L.s + o, none⟩) → cellsA (.slice (some ⟨A, o, none⟩) n c) k h = some l →
      ∃ m, VRs ρ l m ∧ m.length = n * k ∧ ∀ W : World, W.heap = w.heap → ∀ q, q ≤ n → (Builtin.firstCells k q (.slice (some ad) n c')).run P W = .ok (m.take (q * k)).toArray W := by
    intro A o L ad c' hA had hc
    simp only [cellsA] at hc
    split at hc
    · rename_i h0
      cases hc
      refine ⟨[], .nil ρ, by simp [h0], fun W _ q hq => ?_⟩
      have h1 : q * k = 0 := by
        rcases Nat.mul_eq_zero.1 h0 with e | e
        · have : q = 0 := by omega
          simp [this]
        · simp [e]
      rw [hzero q ad c' W h1]
      simp
    · rename_i h0
      have hn : n ≠ 0 := fun e => h0 (by simp [e])
      obtain ⟨m, hm, hlen, hr⟩ := cellsAt_sound hs hA hc
      refine ⟨m, hm, hlen, fun W hW q hq => ?_⟩
      rw [had hn]
      have hr' : W.rangeAt L.b (L.s + o) m := fun j v hv => (World.cell?_of_block (by rw [hW])).trans (hr j v hv)
      refine run_firstCells_range (rangeAt_take hr') ?_
      rw [List.length_take, hlen]
      exact Nat.min_eq_left (Nat.mul_le_mul_right _ hq)
  cases hxy with
  | sliceNil =>
    simp only [cellsA] at hc
    cases hc
    refine ⟨none, 0, [], rfl, .nil ρ, by simp, fun W _ q hq => ?_⟩
    have : q = 0 := by omega
    subst this
    simp [Builtin.firstCells]
  | slice hA hc' hn had =>
    obtain ⟨m, h1, h2, h3⟩ := hcases hA (fun h0 => had (by omega)) hc
    exact ⟨_, _, m, rfl, h1, h2, h3⟩
  | sliceG hA hc' hlo hn hk hm had =>
    obtain ⟨m, h1, h2, h3⟩ := hcases hA (fun h0 => (had (by omega)).1) hc
    exact ⟨_, _, m, rfl, h1, h2, h3⟩

/-- What is appended or copied. -/
theorem srcA_sound (hs : Sim ρ h w) {x y : Value} {k m : Nat} {l : List Value} (hxy : VR ρ x y) (hc : srcA x k h = some (m, l)) :
    ∃ n, VRs ρ l n ∧ n.length = m * k ∧ Builtin.lenOf y = pure m ∧ ∀ W : World, W.heap = w.heap → ∀ q, q ≤ m → (Builtin.firstCells k q y).run P W = .ok (n.take (q * k)).toArray W := by
  cases x with
  | string b =>
    cases hxy
    simp only [srcA] at hc
    split at hc
    · rename_i hk
      subst hk
      cases hc
      refine ⟨_, VRs.plain ρ (by rw [List.all_eq_true]; intro x hx; rw [List.mem_map] at hx; obtain ⟨u, _, rfl⟩ := hx; rfl), by simp, rfl, fun W _ q hq => ?_⟩
      simp only [Builtin.firstCells, Sem.run_pure, Nat.mul_one]
      congr 1
      apply Array.ext'
      have hd : (b.extract 0 q).data = b.data.extract 0 q := by
        exact ByteArray.data_extract
      rw [hd]
      simp
    · cases hc
  | slice a n c =>
    simp only [srcA, Option.map_eq_some_iff, Prod.mk.injEq] at hc
    obtain ⟨l', hc, rfl, rfl⟩ := hc
    obtain ⟨a', c', m, rfl, h1, h2, h3⟩ := cellsA_sound (P := P) hs hxy hc
    exact ⟨m, h1, h2, rfl, h3⟩
  | _ => simp [srcA] at hc

/-- The second operand's type: a slice, or a string. -/
def SrcTy (P : Program) (u : TypeId) : Prop := (∃ e', P.underlying u = some (.slice e')) ∨ P.underlying u = some .string

theorem run_append_room2 {t u ty e : TypeId} {i : TypeInfo} (ht : P.underlying t = some (.slice e)) (hu : SrcTy P u) (hi : P.info? e = some i)
    {a : Addr} {n c m : Nat} {y : Value} {news : List Value} (hlen : Builtin.lenOf y = pure m) (hf : (Builtin.firstCells i.size m y).run P w = .ok news.toArray w) (hroom : n + m ≤ c) {w' : World}
    (hst : (storeCells (a.add (n * i.size)) news 0).run P w = .ok () w') :
    (Builtin.append_ #[t, u] ty #[.slice (some a) n c, y]).run P w = .ok (.slice (some a) (n + m) c) w' := by
  rcases hu with ⟨e', hd⟩ | hd
  · simp [Builtin.append_, run_underlying ht, run_underlying hd, sizeOf, typeInfo, hi, hlen, hroom, hf, hst]
  · simp [Builtin.append_, run_underlying ht, run_underlying hd, sizeOf, typeInfo, hi, hlen, hroom, hf, hst]

theorem run_append_zero {t u ty e : TypeId} {i : TypeInfo} (ht : P.underlying t = some (.slice e)) (hu : SrcTy P u) (hi : P.info? e = some i)
    {a : Option Addr} {n c : Nat} {y : Value} (hlen : Builtin.lenOf y = pure 0) (hf : (Builtin.firstCells i.size 0 y).run P w = .ok #[] w) (hroom : n ≤ c) :
    (Builtin.append_ #[t, u] ty #[.slice a n c, y]).run P w = .ok (.slice a n c) w := by
  rcases hu with ⟨e', hd⟩ | hd <;> cases a <;> simp [Builtin.append_, run_underlying ht, run_underlying hd, sizeOf, typeInfo, hi, hlen, hroom, hf, storeCells]

theorem run_append_grow2 {t u ty e : TypeId} {i : TypeInfo} {z : Value} (ht : P.underlying t = some (.slice e)) (hu : SrcTy P u) (hi : P.info? e = some i) (hz : i.zero = some z)
    {base : Option Addr} {n c m : Nat} {y : Value} {olds news : List Value} (hlen : Builtin.lenOf y = pure m) (hf : (Builtin.firstCells i.size m y).run P w.drew = .ok news.toArray w.drew)
    (ho : (Builtin.firstCells i.size n (.slice base n c)).run P w.drew = .ok olds.toArray w.drew)
    (hg : c < n + m) (h63 : n + m ≤ 1152921504606846976) (hfit : (n + m) * i.bytes ≤ 140737488355328) :
    (Builtin.append_ #[t, u] ty #[.slice base n c, y]).run P w =
      .ok (.slice (some ⟨w.heap.size, 0, none⟩) (n + m) (grownCap w (n + m) c e)) (w.drew.alloc (.cells ((olds ++ news) ++ (Builtin.zeroCells z.cells (grownCap w (n + m) c e - (n + m))).toList).toArray e)) := by
  have hn : ¬ (n + m ≤ c) := by omega
  have h63' : ¬ (9223372036854775807 < ((n : Int) + (m : Int))) := by omega
  have hfits := growslice_fits hg hfit
  have h48' : ¬ (281474976710656 < Builtin.nextslicecap (n + m) c * i.bytes) := by omega
  rcases hu with ⟨e', hd⟩ | hd
  · simp [Builtin.append_, run_underlying ht, run_underlying hd, sizeOf, typeInfo, zeroValue, hi, hz, hlen, hn, h63', h48', Question.forced, hf, ho, Go.newRow, grownCap]
    congr 2
    apply Array.ext'
    simp
  · simp [Builtin.append_, run_underlying ht, run_underlying hd, sizeOf, typeInfo, zeroValue, hi, hz, hlen, hn, h63', h48', Question.forced, hf, ho, Go.newRow, grownCap]
    congr 2
    apply Array.ext'
    simp

/-- A row that is seen no more. -/
theorem dead_sound (hs : Sim ρ h w) {A : Nat} {cs : List Value} {e : TypeId} (hg : h.get A = some (.row cs e false)) :
    Fr ρ ρ h (h.set A .dead) w w ∧ Sim ρ (h.set A .dead) w := by
  have hAs : A < h.size := Heap.lt_of_get hg
  refine ⟨⟨fun _ _ h => h, fun A' L' h1 h2 => (by rw [h1] at h2; cases h2), rfl, rfl, rfl, Nat.le_refl _, Nat.le_refl _, Nat.min_le_left _ _, fun _ _ _ => rfl, ?_⟩, ⟨?_, ?_⟩⟩
  · intro A' hA' hl
    rw [Heap.low_set] at hl
    rw [Heap.get_set _ _ _ _ hAs, if_neg (by omega)]
  · intro A' L' hA'
    rw [Heap.get_set _ _ _ _ hAs]
    by_cases e' : A' = A
    · subst e'
      rw [if_pos rfl]
      exact hs.lt hA'
    · rw [if_neg e']
      exact hs.blk A' L' hA'
  · intro A1 A2 L1 L2 h1 h2 hne hb
    unfold live isRo
    rw [Heap.get_set _ _ _ _ hAs, Heap.get_set _ _ _ _ hAs]
    by_cases e1 : A1 = A
    · left; simp [e1]
    · by_cases e2 : A2 = A
      · right; left; simp [e2]
      · rw [if_neg e1, if_neg e2]
        exact hs.inj A1 A2 L1 L2 h1 h2 hne hb

theorem cut_append {cur us : List Value} {s n : Nat} {m : List Value} (hc : cut cur s n = some m) (hl : s + n + us.length ≤ cur.length) :
    cut (splice cur (s + n) us) s (n + us.length) = some (m ++ us) := by
  obtain ⟨h1, h2, h3⟩ := cut_some hc
  refine cut_mk (by rw [length_splice hl]; omega) (by simp [h2]) fun i hi => ?_
  rw [getElem?_splice _ _ _ _ hl, List.getElem?_append, h2]
  by_cases hi' : i < n
  · rw [if_pos hi', if_pos (by omega), h3 i hi']
  · rw [if_neg hi', if_neg (by omega), if_pos (by omega)]
    congr 1
    omega

/-- An append in place: the old row is seen no more, the new one lies where it lay. -/
theorem steal_sound (hs : Sim ρ h w) (hnone : ρ h.size = none) {A o : Nat} {L : Loc} {cs old news us m : List Value} {e : TypeId} {cur : Array Value} {fz : Nat × Nat} (hA : ρ A = some L) (hg : h.get A = some (.row cs e false))
    (hcur : w.heap[L.b]? = some (.cells cur e fz)) (hth : Thaw cur.size fz) (htot : cur.size = L.tot) (hm : cut cur.toList (L.s + o) old.length = some m) (hv : VRs ρ old m) (hn : VRs ρ news us)
    (hfit : L.s + o + old.length + us.length ≤ L.tot) :
    ∃ ρ', ρ' h.size = some ⟨L.b, L.s + o, L.tot⟩ ∧ Fr ρ ρ' h ((h.set A .dead).push (.row (old ++ news) e false)) w (w.setRow L.b (splice cur.toList (L.s + o + old.length) us).toArray) ∧
      Sim ρ' ((h.set A .dead).push (.row (old ++ news) e false)) (w.setRow L.b (splice cur.toList (L.s + o + old.length) us).toArray) := by
  have hAs : A < h.size := Heap.lt_of_get hg
  have hgrow : ∀ A L', ρ A = some L' → (fun A => if A = h.size then some (⟨L.b, L.s + o, L.tot⟩ : Loc) else ρ A) A = some L' := by
    intro A L' hA
    have hne : A ≠ h.size := fun e => by rw [e, hnone] at hA; cases hA
    simp only [if_neg hne]
    exact hA
  have hcur' := setRow_heap w L.b cur (splice cur.toList (L.s + o + old.length) us).toArray e _ hcur
  have hother : ∀ b, b ≠ L.b → (w.setRow L.b (splice cur.toList (L.s + o + old.length) us).toArray).heap[b]? = w.heap[b]? := fun b hb => setRow_other w L.b b _ hb
  have hsz : (w.setRow L.b (splice cur.toList (L.s + o + old.length) us).toArray).heap.size = w.heap.size := by simp [World.setRow]
  have hget : ∀ j, ((h.set A .dead).push (.row (old ++ news) e false)).get j = if j = h.size then some (.row (old ++ news) e false) else if j = A then some .dead else h.get j := by
    intro j
    rw [Heap.get_push, Heap.size_set, Heap.get_set _ _ _ _ hAs]
  have hne : ∀ A' L', ρ A' = some L' → A' ≠ A → live h A' → L'.b ≠ L.b := by
    intro A' L' hA' e' hlive heq
    rcases hs.inj A' A L' L hA' hA e' heq with h1 | h1 | h1
    · exact h1 hlive
    · exact h1 ⟨_, hg, by simp⟩
    · obtain ⟨_, cs2, e2, hg2⟩ := h1
      rw [hg] at hg2
      cases hg2
  refine ⟨fun A => if A = h.size then some ⟨L.b, L.s + o, L.tot⟩ else ρ A, by simp, ⟨hgrow, ?_, rfl, rfl, rfl, by rw [hsz]; exact Nat.le_refl _, ?_, Nat.min_le_left _ _, ?_, ?_⟩, ⟨?_, ?_⟩⟩
  · intro A' L' hA' hn'
    split at hA'
    · rename_i e1
      cases hA'
      refine ⟨by omega, by rw [Heap.size_push, Heap.size_set]; omega, .inr ⟨A, L, hA, rfl, ?_, by rw [Heap.size_push, Heap.size_set]; omega⟩⟩
      rw [Heap.low_push, Heap.low_set]
      omega
    · rw [hn'] at hA'; cases hA'
  · rw [Heap.size_push, Heap.size_set]; omega
  · intro b hb hall
    refine hother b fun e' => ?_
    subst e'
    have := hall A L hA rfl
    rw [Heap.low_push, Heap.low_set, Heap.size_push, Heap.size_set] at this
    omega
  · intro A' hA' hl
    rw [Heap.low_push, Heap.low_set] at hl
    rw [hget, if_neg (by omega), if_neg (by omega)]
  · intro A' L' hA'
    rw [hget]
    split at hA'
    · rename_i e1
      cases hA'
      rw [if_pos e1]
      refine ⟨_, fz, hcur', ?_, ?_, m ++ us, ?_, (hv.append hn).mono hgrow⟩
      · rw [List.size_toArray, length_splice (by simp; omega)]
        simpa using hth
      · show (splice cur.toList (L.s + o + old.length) us).toArray.size = L.tot
        rw [List.size_toArray, length_splice (by simp; omega)]
        simpa using htot
      · show cut (splice cur.toList (L.s + o + old.length) us) (L.s + o) (old ++ news).length = some (m ++ us)
        rw [List.length_append, hn.1]
        exact cut_append hm (by simp; omega)
    · rename_i e1
      rw [if_neg e1]
      by_cases e2 : A' = A
      · rw [if_pos e2]
        show L'.b < _
        rw [hsz]
        exact hs.lt hA'
      · rw [if_neg e2]
        exact (hs.blk A' L' hA').keep hgrow (by rw [hsz]; exact Nat.le_refl _) fun hl => hother L'.b (hne A' L' hA' e2 hl)
  · intro A1 A2 L1 L2 h1 h2 hne12 hb
    unfold live isRo
    rw [hget, hget]
    have hone : ∀ A' L', A' ≠ h.size → ρ A' = some L' → L.b = L'.b → ¬ ∃ b, (if A' = A then some Blk.dead else h.get A') = some b ∧ b ≠ .dead := by
      intro A' L' hh hA' hbb
      by_cases e2 : A' = A
      · simp [e2]
      · rw [if_neg e2]
        exact fun hlive => hne A' L' hA' e2 hlive hbb.symm
    split at h1
    · rename_i e1
      split at h2
      · omega
      · rename_i e2
        cases h1
        right; left
        rw [if_neg e2]
        exact hone A2 L2 e2 h2 hb
    · rename_i e1
      split at h2
      · rename_i e2
        cases h2
        left
        rw [if_neg e1]
        exact hone A1 L1 e1 h1 hb.symm
      · rename_i e2
        rw [if_neg e1, if_neg e2]
        by_cases f1 : A1 = A
        · left; simp [f1]
        · by_cases f2 : A2 = A
          · right; left; simp [f2]
          · rw [if_neg f1, if_neg f2]
            exact hs.inj A1 A2 L1 L2 h1 h2 hne12 hb

theorem openCap {k q : Nat} (hk : 0 < k) (hG : q < G) : G ≤ G * k + q ∧ (G * k + q) % G = q ∧ (G * k + q) / G = k := by
  refine ⟨?_, ?_, ?_⟩
  · calc G = G * 1 := (Nat.mul_one _).symm
      _ ≤ G * k := Nat.mul_le_mul_left _ hk
      _ ≤ G * k + q := Nat.le_add_right _ _
  · rw [Nat.mul_add_mod, Nat.mod_eq_of_lt hG]
  · rw [Nat.mul_add_div (by unfold G; omega), Nat.div_eq_of_lt hG, Nat.add_zero]

theorem appendA_sound (hT : T.Fits P) (hs : Sim ρ h w) (hfree : Free ρ h h') {t u ty : TypeId} {s s' x x' v : Value} (hu : SrcTy P u) (hss : VR ρ s s') (hx : VR ρ x x') (ha : appendA T t s x h = some (v, h')) :
    ∃ ρ' vc w', (Builtin.append_ #[t, u] ty #[s', x']).run P w = .ok vc w' ∧ Fr ρ ρ' h h' w w' ∧ Sim ρ' h' w' ∧ VR ρ' v vc := by
  unfold appendA at ha
  split at ha
  · rename_i e hd
    have ht := hT.desc _ _ hd
    simp only [Option.bind_eq_some_iff, Prod.exists] at ha
    obtain ⟨k, bytes, z, hinf, m, news, hsrc, ha⟩ := ha
    obtain ⟨i, zv, hi, rfl, rfl, hz, rfl, hzl, hzp⟩ := hT.info e k bytes z hinf
    obtain ⟨us, hus, husl, hlen, hrun⟩ := srcA_sound (P := P) hs hx hsrc
    have hfull : us.take (m * i.size) = us := List.take_of_length_le (by omega)
    have hf : ∀ W : World, W.heap = w.heap → (Builtin.firstCells i.size m x').run P W = .ok us.toArray W := fun W hW => by
      have := hrun W hW m (Nat.le_refl _)
      rwa [hfull] at this
    split at ha
    · rename_i base n c
      split at ha
      · rename_i hm
        subst hm
        cases ha
        have h0 := hrun w rfl 0 (Nat.le_refl _)
        simp only [Nat.zero_mul, List.take_zero] at h0
        have key : ∃ a' c', s' = .slice a' n c' ∧ n ≤ c' := by
          cases hss with
          | sliceNil => exact ⟨_, _, rfl, Nat.le_refl _⟩
          | slice hA hc hn had => exact ⟨_, _, rfl, hn⟩
          | sliceG hA hc hlo hn hk hm had => exact ⟨_, _, rfl, by omega⟩
        obtain ⟨a', c', rfl, hn⟩ := key
        exact ⟨ρ, _, w, run_append_zero ht hu hi hlen h0 hn, Fr.refl _ _ _, hs, hss⟩
      · rename_i hm
        split at ha
        · cases ha
        · rename_i hbad
          simp only [Bool.or_eq_true, decide_eq_true_eq, Bool.not_eq_true', not_or, Bool.not_eq_false] at hbad
          obtain ⟨⟨⟨hk0, hby⟩, h60⟩, hone⟩ := hbad
          have hkp : 0 < i.size := by omega
          split at ha
          · rename_i hroom
            split at ha
            · rename_i A o
              split at ha
              · rename_i hck
                simp only [Option.map_eq_some_iff, Prod.mk.injEq] at ha
                obtain ⟨h1, hwr, rfl, rfl⟩ := ha
                cases hss with
                | slice hA hc hn had =>
                  rename_i L ad
                  obtain rfl := had (by have := Nat.mod_eq_of_lt hc; omega)
                  obtain ⟨w', hst, hfr, hsim⟩ := writeA_sound (P := P) hs hA hus hwr
                  have hcc : c % G = c := Nat.mod_eq_of_lt hc
                  rw [← Nat.add_assoc] at hst
                  exact ⟨ρ, _, w', run_append_room2 ht hu hi hlen (hf w rfl) (by omega) (by rw [Addr.add_mid]; exact hst), hfr, hsim, .slice hA hc (by omega) (fun _ => rfl)⟩
                | sliceG hA hc hlo hn hk hmx had =>
                  rename_i c' L ad
                  obtain ⟨w', hst, hfr, hsim⟩ := writeA_sound (P := P) hs hA hus hwr
                  have hc0 : c' ≠ 0 := by omega
                  obtain ⟨rfl, hfit⟩ := had hc0
                  rw [← Nat.add_assoc] at hst
                  exact ⟨ρ, _, w', run_append_room2 ht hu hi hlen (hf w rfl) (by omega) (by rw [Addr.add_mid]; exact hst), hfr, hsim, .sliceG hA hc hlo (by omega) hk hmx (fun _ => ⟨rfl, hfit⟩)⟩
              · cases ha
            · cases ha
          · rename_i hroom
            simp only [Option.bind_eq_some_iff] at ha
            obtain ⟨old, hold, ha⟩ := ha
            obtain ⟨a', c', mo, rfl, hvo, hmol, hfo⟩ := cellsA_sound (P := P) hs hss hold
            have hfullo : mo.take (n * i.size) = mo := List.take_of_length_le (by omega)
            have hfo' : ∀ W : World, W.heap = w.heap → (Builtin.firstCells i.size n (.slice a' n c')).run P W = .ok mo.toArray W := fun W hW => by
              have := hfo W hW n (Nat.le_refl _)
              rwa [hfullo] at this
            have hoc := openCap (q := n + m) hkp (by unfold G; omega)
            /- a new row, on whatever plain heap -/
            have grown : ∀ (h2 : Heap), Sim ρ h2 w → ρ h2.size = none → c' < n + m → ∃ ρ' vc w', (Builtin.append_ #[t, u] ty #[.slice a' n c', x']).run P w = .ok vc w' ∧ Fr ρ ρ' h2 (h2.push (.row (old ++ news) e false)) w w' ∧ Sim ρ' (h2.push (.row (old ++ news) e false)) w' ∧
                VR ρ' (.slice (some ⟨h2.size, 0, none⟩) (n + m) (G * i.size + (n + m))) vc := by
              intro h2 hs2 hn2 hlt
              have hr := run_append_grow2 (w := w) (ty := ty) ht hu hi hz hlen (hf w.drew rfl) (hfo' w.drew rfl) hlt (by omega) (by omega)
              have hge := grownCap_ge w (n + m) c' e
              have hle := grownCap_le_maxLen w (n + m) c' e (by unfold maxLen; omega)
              have hzs : zv.cells.size = i.size := by rw [← Array.length_toList, hzl]
              have hlenc : ((mo ++ us) ++ (Builtin.zeroCells zv.cells (grownCap w (n + m) c' e - (n + m))).toList).length = grownCap w (n + m) c' e * i.size := by
                simp only [List.length_append, hmol, husl, Array.length_toList, size_zeroCells, hzs, ← Nat.add_mul]
                congr 1
                omega
              have hlon : (old ++ news).length = (mo ++ us).length := by simp [hvo.1, hus.1]
              obtain ⟨ρ', hρ, hfr, hsim⟩ := push_sound (W := w.drew.alloc (.cells ((mo ++ us) ++ (Builtin.zeroCells zv.cells (grownCap w (n + m) c' e - (n + m))).toList).toArray e)) (cs := old ++ news) (m := mo ++ us) hs2 hn2 rfl rfl rfl rfl
                (by rw [hlon]
                    refine cut_mk (by simp) rfl fun j hj => ?_
                    rw [Nat.zero_add]
                    exact (List.getElem?_append_left (l₂ := (Builtin.zeroCells zv.cells (grownCap w (n + m) c' e - (n + m))).toList) hj).symm)
                (hvo.append hus)
              refine ⟨ρ', _, _, hr, hfr, hsim, ?_⟩
              refine .sliceG hρ hoc.1 (by rw [hoc.2.1]; exact hge) (by rw [hoc.2.1]; exact Nat.le_refl _) (by rw [hoc.2.2]; exact hkp) hle (fun _ => ⟨by simp, ?_⟩)
              rw [hoc.2.2]
              simp only [List.size_toArray, hlenc]
              omega
            split at ha
            · rename_i hc
              cases ha
              have hcc : c % G = c := Nat.mod_eq_of_lt hc
              have hcc' : c' = c := by
                cases hss with
                | sliceNil => rfl
                | slice hA hc hn had => rfl
                | sliceG hA hc' hlo hn hk hm had => omega
              exact grown h hs (hfree _ (Nat.le_refl _) (by rw [Heap.size_push]; omega)) (by omega)
            · rename_i hc
              split at ha
              · rename_i A o
                split at ha
                · rename_i cs e' hg
                  split at ha
                  · rename_i hee
                    simp only [Bool.and_eq_true, decide_eq_true_eq] at hee
                    obtain ⟨rfl, hck⟩ := hee
                    cases ha
                    cases hss with
                    | slice hA hc' hn had => omega
                    | sliceG hA hc' hlo hn hk hmx had =>
                      rename_i L ad
                      by_cases hin : n + m ≤ c'
                      · have hc0 : c' ≠ 0 := by omega
                        obtain ⟨rfl, hfit⟩ := had hc0
                        have hb := hs.blk A L hA
                        rw [hg] at hb
                        obtain ⟨cur, fz, hcur, hth, htot, m0, hm0, hv0⟩ := hb
                        obtain ⟨k1, k2, k3⟩ := cut_some hm0
                        rw [hck] at hfit
                        have hmul : (n + m) * i.size ≤ c' * i.size := Nat.mul_le_mul_right _ hin
                        rw [Nat.add_mul] at hmul
                        have holdl : old.length = n * i.size := by rw [hvo.1]; exact hmol
                        have hcold : ∃ mm, cut cur.toList (L.s + o) old.length = some mm ∧ VRs ρ old mm := by
                          simp only [cellsA] at hold
                          split at hold
                          · cases hold
                            exact ⟨[], cut_mk (by simp; omega) rfl (by intro i hi; simp at hi), .nil ρ⟩
                          · simp only [cellsAt, hg] at hold
                            obtain ⟨d, hd2, hvd⟩ := hv0.cut hold
                            obtain ⟨d1, d2, d3⟩ := cut_some hd2
                            refine ⟨d, cut_mk (by simp at k1 ⊢; omega) (by rw [holdl]; exact d2) (fun j hj => ?_), hvd⟩
                            rw [d3 j (by omega), k3 (o + j) (by omega), Nat.add_assoc]
                        obtain ⟨mm, hmm, hvm⟩ := hcold
                        obtain ⟨ρ', hρ, hfr, hsim⟩ := steal_sound hs (hfree _ (Nat.le_refl _) (by rw [Heap.size_push, Heap.size_set]; omega)) hA hg hcur hth htot hmm hvm hus (by omega)
                        have hst := run_storeCells_thaw P L.b (L.s + o + old.length) e' fz us 0 cur w hcur hth (by simp; omega) (hus.one hone)
                        simp only [Nat.add_zero] at hst
                        refine ⟨ρ', _, _, run_append_room2 ht hu hi hlen (hf w rfl) hin (by rw [Addr.add_mid, ← holdl]; exact hst), hfr, hsim, ?_⟩
                        refine .sliceG hρ hoc.1 (by rw [hoc.2.1]; exact hin) (by rw [hoc.2.1]; exact Nat.le_refl _) (by rw [hoc.2.2]; exact hkp) hmx (fun _ => ⟨rfl, ?_⟩)
                        rw [hoc.2.2]
                        exact hfit
                      · obtain ⟨fr1, sim1⟩ := dead_sound hs hg
                        obtain ⟨ρ', vc, w', hr, fr2, sim2, hv2⟩ := grown _ sim1 (hfree _ (Nat.le_refl _) (by rw [Heap.size_push, Heap.size_set]; omega)) (by omega)
                        exact ⟨ρ', vc, w', hr, fr1.trans fr2, sim2, hv2⟩
                  · cases ha
                · cases ha
              · cases ha
    · cases ha
  · cases ha

end
#print axioms appendA_sound
end Go.Am

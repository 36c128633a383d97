/- Plain facts on lists; an atom's terms as a slice. No condition. -/
import Derived.Test.YtompindebndddaaGInt
import Derived.Test.YtompindebndddaaGOv
namespace Go.Am
set_option linter.unusedVariables false
def idxP {α : Type} (p : α → Bool) (l : List α) : Int := match l.findIdx? p with
  | some i => i
  | none => -1
theorem idx_found {α : Type} {p : α → Bool} {l : List α} {i : Nat} {x : α} (hx : l[i]? = some x) (hall : ∀ y ∈ l.take i, p y = false) (hp : p x = true) : idxP p l = i := by
  have : l.findIdx? p = some i := by
    induction l generalizing i with
    | nil => simp at hx
    | cons a l ih =>
      rw [List.findIdx?_cons]
      cases i with
      | zero =>
        simp at hx
        subst hx
        simp [hp]
      | succ i =>
        have ha := hall a (by simp)
        rw [ha]
        have := ih (i := i) (by simpa using hx) (fun y hy => hall y (by simp [hy]))
        simp [this]
  unfold idxP
  rw [this]
theorem idx_none {α : Type} {p : α → Bool} {l : List α} (hall : ∀ y ∈ l, p y = false) : idxP p l = -1 := by
  have : l.findIdx? p = none := by rw [List.findIdx?_eq_none_iff]; exact hall
  unfold idxP
  rw [this]
theorem idx_any {α : Type} (p : α → Bool) (l : List α) : decide (idxP p l ≥ 0) = l.any p := by
  unfold idxP
  cases h : l.findIdx? p with
  | none =>
    rw [List.findIdx?_eq_none_iff] at h
    have : l.any p = false := by rw [List.any_eq_false]; intro x hx; rw [h x hx]; decide
    rw [this]
    decide
  | some i =>
    have h2 : ∃ x ∈ l, p x = true := by
      have := List.findIdx?_isSome (xs := l) (p := p)
      rw [h] at this
      simp at this
      exact this
    have : l.any p = true := by rw [List.any_eq_true]; exact h2
    rw [this]
    simp
theorem cut_atom (a : AtomD) : cut a.cells 0 11 = some a.cells := rfl
theorem agg_atom (a : AtomD) : Value.agg a.cells.toArray = a.val := rfl
theorem cells_atom (a : AtomD) : a.val.cells.toList = a.cells := rfl
theorem valE_atom (a : AtomD) (h : Heap) (K : Value → Heap → Prop) : valE (some a.val) h K = K a.val h := rfl
theorem valE_term (a : TermD) (h : Heap) (K : Value → Heap → Prop) : valE (some a.val) h K = K a.val h := rfl
def AtomD.ground (a : AtomD) : Bool := !a.args.any (·.v)
end Go.Am
namespace Go.Am
set_option linter.unusedVariables false
section
variable {α : Type} {r : Rep α} {h0 h h1 : Heap} {v : Value} {l : List α} {t e : TypeId} {T : Tab} {bs : List Blk} {w : Nat} {K : Value → Heap → Prop}
def BndIs (x : Option Value) (d n : Nat) : Prop := (x = none ∧ n = d) ∨ ∃ kd, x = some (.int kd n)
theorem BndIs.no (n : Nat) : BndIs none n n := .inl ⟨rfl, rfl⟩
theorem bound_nat {kd : IntKind} {n hi : Nat} (hn : n ≤ hi) : bound (.int kd n) hi = some n := by
  have : (0 : Int) ≤ n ∧ (n : Int) ≤ hi := by omega
  simp only [bound, this, and_self, if_true, Int.toNat_natCast]
theorem boundsA_of {n c a b : Nat} {lo hi : Option Value} (hlo : BndIs lo 0 a) (hhi : BndIs hi n b) (hab : a ≤ b) (hbc : b ≤ c) : boundsA n c lo hi none = some (a, b, c) := by
  unfold boundsA
  rcases hlo with ⟨rfl, rfl⟩ | ⟨kd, rfl⟩ <;> rcases hhi with ⟨rfl, rfl⟩ | ⟨kd2, rfl⟩ <;> simp [bound_nat, hab, hbc]
theorem G_pos : 0 < G := by unfold G; omega
theorem openCap2 {k q : Nat} (hk : 0 < k) (hq : q < G) : G ≤ G * k + q ∧ (G * k + q) / G = k ∧ (G * k + q) % G = q := by
  obtain ⟨c1, c2, c3⟩ := openCap (k := k) (q := q) hk hq
  exact ⟨by omega, c3, c2⟩
theorem Sl.sub (f : Sl r h v l) (hk : 0 < r.k) (hd : T.desc t = some (.slice e)) (hs : sizeA T e = some r.k) {a b : Nat} {lo hi : Option Value} (hlo : BndIs lo 0 a) (hhi : BndIs hi l.length b) (hab : a ≤ b) (hb : b ≤ l.length) :
    ∃ v', sliceA T t v lo hi none = some v' ∧ Sl r h v' ((l.take b).drop a) := by
  have hlen : ((l.take b).drop a).length = b - a := by simp; omega
  have hel : ∀ (i : Nat) (x : α), ((l.take b).drop a)[i]? = some x → l[a + i]? = some x ∧ i < b - a := by
    intro i x hx
    have := (List.getElem?_eq_some_iff.1 hx).1
    rw [hlen] at this
    rw [List.getElem?_drop, List.getElem?_take_of_lt (by omega)] at hx
    exact ⟨hx, this⟩
  rcases f with ⟨rfl, rfl⟩ | ⟨A, o, c, row, u, ro, rfl, e2, e3, e4, e5, e6⟩
  · have hb0 : b = 0 := by simpa using hb
    subst hb0
    have ha0 : a = 0 := by omega
    subst ha0
    refine ⟨.slice none 0 0, ?_, by simpa using Sl.nil⟩
    unfold sliceA
    simp only [hd, hs, Option.bind_some, if_pos G_pos]
    have := boundsA_of (n := 0) (c := 0) hlo (by simpa using hhi) (Nat.le_refl 0) (Nat.le_refl 0)
    rw [this]
    rfl
  · rcases e3 with ⟨c1, c2⟩ | ⟨c1, c2, c3⟩
    · refine ⟨.slice (some ⟨A, if c = a then o else o + a * r.k, none⟩) (b - a) (c - a), ?_, ?_⟩
      · unfold sliceA
        simp only [hd, hs, Option.bind_some, if_pos c1]
        rw [boundsA_of hlo hhi hab (by omega)]
        rfl
      · refine .inr ⟨A, _, c - a, row, u, ro, by rw [hlen], by rw [hlen]; omega, .inl ⟨by omega, by rw [hlen]; omega⟩, e4, e5, fun i x hx => ?_⟩
        obtain ⟨hx, hi⟩ := hel i x hx
        obtain ⟨cs, g1, g2⟩ := e6 _ _ hx
        refine ⟨cs, ?_, g2⟩
        rw [if_neg (by omega), Nat.add_assoc, ← Nat.add_mul]
        exact g1
    · refine ⟨.slice (some ⟨A, o + a * r.k, none⟩) (b - a) (G * r.k + (c % G - a)), ?_, ?_⟩
      · unfold sliceA
        simp only [hd, hs, Option.bind_some, if_neg (show ¬ c < G by omega), if_pos c2]
        rw [boundsA_of hlo hhi hab (by omega)]
        rfl
      · have hm := Nat.mod_lt c G_pos
        obtain ⟨d1, d2, d3⟩ := openCap2 (k := r.k) (q := c % G - a) hk (by omega)
        refine .inr ⟨A, _, _, row, u, ro, by rw [hlen], by rw [hlen]; omega, .inr ⟨d1, d2, by rw [hlen, d3]; omega⟩, e4, e5, fun i x hx => ?_⟩
        obtain ⟨hx, hi⟩ := hel i x hx
        obtain ⟨cs, g1, g2⟩ := e6 _ _ hx
        refine ⟨cs, ?_, g2⟩
        rw [Nat.add_assoc, ← Nat.add_mul]
        exact g1
theorem app_full {k bytes : Nat} {z : List Value} {base : Option Addr} {x : Value} {l2 : List α} (hd : T.desc t = some (.slice e)) (hi : T.info e = some (k, bytes, z)) (hrk : r.k = k) (hk : 0 < k) (hz : h0.size ≤ h.size)
    (f : Sl r h (.slice base l.length l.length) l) {m : Nat} {news : List Value} (hs : srcA x k h = some (m, news)) (hsr : Src r h m news l2) (hm0 : 0 < m)
    (hb : (l.length + m) * bytes ≤ 140737488355328) (hl : l.length + m ≤ 1152921504606846976) :
    ∃ v' h', appendA T t (.slice base l.length l.length) x h = some (v', h') ∧ Ow r h0 h' e h.size v' (l ++ l2) ∧ Ext h h' := by
  subst hrk
  obtain ⟨hm, hnl, h1, hrep⟩ := hsr
  obtain ⟨olds, s1, so1, so2, so3, so4⟩ := src_sl (A := h.size) hk f (fun cs y hr => by rw [kill_ge (Nat.le_refl _)]; exact hr)
  rw [kill_ge (Nat.le_refl _)] at so4
  have hcells : cellsA (.slice base l.length l.length) r.k h = some olds := by
    simp only [srcA, Option.map_eq_some_iff, Prod.mk.injEq] at s1
    obtain ⟨a, ha, _, rfl⟩ := s1
    exact ha
  have hlG : l.length < G := by unfold G; omega
  have hmod : l.length % G = l.length := Nat.mod_eq_of_lt hlG
  refine ⟨.slice (some ⟨h.size, 0, none⟩) (l.length + m) (G * r.k + (l.length + m)), h.push (.row (olds ++ news) e false), ?_, ?_, ?_⟩
  · unfold appendA
    simp only [hd, hi, hs, Option.bind_some]
    rw [if_neg (by omega), if_neg, if_neg (by rw [hmod]; omega)]
    · simp only [hcells, Option.bind_some]
      rw [if_pos hlG]
    · simp only [Bool.or_eq_true, decide_eq_true_eq, Bool.not_eq_true', h1, not_or]
      exact ⟨⟨⟨by omega, by omega⟩, by omega⟩, by simp⟩
  · have hi2 : Inc h ((h.push (.row (olds ++ news) e false)).set h.size .dead) := ⟨by rw [Heap.size_set, Heap.size_push]; omega, fun B hB _ => by
      rw [Heap.get_set _ _ _ _ (by rw [Heap.size_push]; omega), if_neg (by omega), Heap.get_push, if_neg (by omega)]⟩
    refine .inr ⟨olds ++ news, by rw [List.length_append, hm], fun hh => ?_, hz, by rw [Heap.size_push]; omega, by rw [Heap.get_push, if_pos rfl], by rw [List.length_append, List.length_append, so2, hnl, hm, Nat.add_mul], by rw [List.length_append, hm]; exact hl, fun i y hy => ?_⟩
    · have := congrArg List.length hh
      rw [List.length_append, hm] at this
      simp at this
      omega
    · by_cases hi : i < l.length
      · rw [List.getElem?_append_left hi] at hy
        obtain ⟨cs, g1, g2⟩ := so4 i y hy
        exact ⟨cs, cut_app g1, r.mono _ _ _ _ hi2 g2⟩
      · rw [List.getElem?_append_right (by omega)] at hy
        obtain ⟨cs, g1, g2⟩ := hrep _ y hy
        refine ⟨cs, ?_, r.mono _ _ _ _ hi2 g2⟩
        have := cut_skip (a := olds) g1
        rwa [so2, ← Nat.add_mul, show l.length + (i - l.length) = i by omega] at this
  · refine ⟨by rw [Heap.size_push]; omega, fun A hA => by rw [Heap.get_push, if_neg (by omega)], by rw [Heap.low_push]; omega⟩
end
end Go.Am
namespace Go.Am
set_option linter.unusedVariables false
set_option linter.unusedSimpArgs false
section
variable {P : Program} {T : Tab} {ov : Ov} {d : Option Tmp} {ty : TypeId} {pos : String} {af : Array Edge} {g : Option (Nat × Bool)} {e : Env} {h : Heap} {K : Value → Heap → Prop}
end
def MapA (h : Heap) (A : Nat) (met : List AtomD) : Prop := ∃ es clock, ∃ ks : List AtomD, Holds h A (.map es clock) ∧ es.map (fun x : MapEntry => x.key) = ks.map AtomD.val ∧ (∀ a, a ∈ ks ↔ a ∈ met) ∧ ∀ x ∈ es, x.val = .agg ⟨[]⟩
section
variable {T : Tab} {t kt et : TypeId} {A : Nat} {met : List AtomD} {a : AtomD} {h1 : Heap} {bs : List Blk} {w : Nat} {K : Value → Heap → Prop} {z : Value}
theorem MapA.over (m : MapA h1 A met) {h2 : Heap} (x : Ext (h1.lay bs w) h2) : MapA h2 A met := by
  obtain ⟨es, cl, ks, m1, m2, m3⟩ := m
  exact ⟨es, cl, ks, m1.over x, m2, m3⟩
theorem MapA.ext (m : MapA h1 A met) {h2 : Heap} (x : Ext h1 h2) : MapA h2 A met := by
  obtain ⟨es, cl, ks, m1, m2, m3⟩ := m
  exact ⟨es, cl, ks, ⟨Nat.lt_of_lt_of_le m1.lt x.size, (x.get A m1.lt).trans m1.get⟩, m2, m3⟩
theorem MapA.top {h2 : Heap} {i : Nat} (x : Ext (h1.lay bs w) h2) (hi : bs[i]? = some (.map [] 0)) : MapA h2 (h1.size + i) [] := ⟨[], 0, [], Holds.top x hi, rfl, fun _ => Iff.rfl, fun _ hx => by simp at hx⟩
end
end Go.Am
namespace Go.Am
set_option linter.unusedVariables false
def saysB : List UInt8 := [32, 115, 97, 121, 115, 32]
def commaB : List UInt8 := [44, 32]
def namesL (a : AtomD) : List (List UInt8) := a.args.map fun t => t.s.data.toList
def textL (a : AtomD) : List UInt8 := a.says.data.toList ++ saysB ++ a.pred.data.toList ++ (if a.args = [] then [] else [40] ++ Lib.join (namesL a) commaB ++ [41])
def cmpD (a b : AtomD) : Int := Lib.compareBytes (textL a) (textL b)
theorem bsz2 (x : ByteArray) : x.data.toList.length = x.size := by rw [Array.length_toList]; rfl
end Go.Am

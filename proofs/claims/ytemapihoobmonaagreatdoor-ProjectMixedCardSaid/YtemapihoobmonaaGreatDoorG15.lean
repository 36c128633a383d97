/- Plain facts on lists; an atom's terms as a slice. No condition. -/
import Derived.Test.YtemapihoobmonaaGreatDoorG14
namespace Go.Am
set_option linter.unusedVariables false
def idxP {α : Type} (p : α → Bool) (l : List α) : Int := match l.findIdx? p with
  | some i => i
  | none => -1
theorem zdP {α : Type} {p : α → Bool} {l : List α} {i : Nat} {x : α} (hx : l[i]? = some x) (hall : ∀ y ∈ l.take i, p y = false) (hp : p x = true) : idxP p l = i := by
  have : l.findIdx? p = some i := by
    induction l generalizing i with
    | nil => simp at hx
    | cons a l ih =>
      rw [List.findIdx?_cons]
      cases i with
      | zero =>
        simp at hx
        subst hx
        simp [hp]
      | succ i =>
        have ha := hall a (by simp)
        rw [ha]
        have := ih (i := i) (by simpa using hx) (fun y hy => hall y (by simp [hy]))
        simp [this]
  unfold idxP
  rw [this]
theorem zd4 {α : Type} {p : α → Bool} {l : List α} (hall : ∀ y ∈ l, p y = false) : idxP p l = -1 := by
  have : l.findIdx? p = none := by rw [List.findIdx?_eq_none_iff]; exact hall
  unfold idxP
  rw [this]
theorem zoi {α : Type} (p : α → Bool) (l : List α) : decide (idxP p l ≥ 0) = l.any p := by
  unfold idxP
  cases h : l.findIdx? p with
  | none =>
    rw [List.findIdx?_eq_none_iff] at h
    have : l.any p = false := by rw [List.any_eq_false]; intro x hx; rw [h x hx]; decide
    rw [this]
    decide
  | some i =>
    have h2 : ∃ x ∈ l, p x = true := by
      have := List.findIdx?_isSome (xs := l) (p := p)
      rw [h] at this
      simp at this
      exact this
    have : l.any p = true := by rw [List.any_eq_true]; exact h2
    rw [this]
    simp
theorem zdd (a : AtomD) : a.args.length = a.cnt := by
  unfold AtomD.args AtomD.cnt
  rw [List.length_take]
  simp only [List.length_cons, List.length_nil]
  omega
theorem zxi {H : Heap} {A o : Nat} {a : AtomD} {u : TypeId} {ro : Bool} (q : Holds H A (.row a.cells u ro)) (ho : o = 3) : Sl Rep.term H (.slice (some ⟨A, o, none⟩) a.cnt 4) a.args := by
  subst ho
  have hc : a.cnt ≤ 4 := by unfold AtomD.cnt; omega
  refine .inr ⟨A, 3, 4, a.cells, u, ro, by rw [zdd], by rw [zdd]; unfold maxLen; omega, .inl ⟨by decide, by rw [zdd]; exact hc⟩, q.lt, q.get, fun i x hx => ?_⟩
  have hi : i < a.cnt := by have := (List.getElem?_eq_some_iff.1 hx).1; rw [zdd] at this; exact this
  unfold AtomD.args at hx
  rw [List.getElem?_take_of_lt hi] at hx
  have : i = 0 ∨ i = 1 ∨ i = 2 ∨ i = 3 := by omega
  rcases this with rfl | rfl | rfl | rfl <;> (simp at hx; subst hx; exact ⟨_, rfl, rfl⟩)
theorem za4 (a : AtomD) : cut a.cells 0 11 = some a.cells := rfl
theorem za5 (a : AtomD) : Value.agg a.cells.toArray = a.val := rfl
theorem zaK (a : AtomD) : a.val.cells.toList = a.cells := rfl
theorem zaz (a : AtomD) (h : Heap) (K : Value → Heap → Prop) : valE (some a.val) h K = K a.val h := rfl
theorem zt7 (a : TermD) (h : Heap) (K : Value → Heap → Prop) : valE (some a.val) h K = K a.val h := rfl
def AtomD.ground (a : AtomD) : Bool := !a.args.any (·.v)
end Go.Am
namespace Go.Am
set_option linter.unusedVariables false
section
variable {α : Type} {r : Rep α} {h0 h h1 : Heap} {v : Value} {l : List α} {t e : TypeId} {T : Tab} {bs : List Blk} {w : Nat} {K : Value → Heap → Prop}
def BndIs (x : Option Value) (d n : Nat) : Prop := (x = none ∧ n = d) ∨ ∃ kd, x = some (.int kd n)
theorem BndIs.no (n : Nat) : BndIs none n n := .inl ⟨rfl, rfl⟩
theorem BndIs.num (kd : IntKind) (d n : Nat) : BndIs (some (.int kd n)) d n := .inr ⟨kd, rfl⟩
theorem zmd {kd : IntKind} {n hi : Nat} (hn : n ≤ hi) : zfq (.int kd n) hi = some n := by
  have : (0 : Int) ≤ n ∧ (n : Int) ≤ hi := by omega
  simp only [zfq, this, and_self, if_true, Int.toNat_natCast]
theorem zdS {n c a b : Nat} {lo hi : Option Value} (hlo : BndIs lo 0 a) (hhi : BndIs hi n b) (hab : a ≤ b) (hbc : b ≤ c) : zbH n c lo hi none = some (a, b, c) := by
  unfold zbH
  rcases hlo with ⟨rfl, rfl⟩ | ⟨kd, rfl⟩ <;> rcases hhi with ⟨rfl, rfl⟩ | ⟨kd2, rfl⟩ <;> simp [zmd, hab, hbc]
theorem zeC {n c i : Nat} {kd kd2 : IntKind} (hi : i ≤ c) : zbH n c none (some (.int kd i)) (some (.int kd2 i)) = some (0, i, i) := by
  unfold zbH
  simp [zmd, hi]
theorem zx5 : 0 < G := by unfold G; omega
theorem zdm {k q : Nat} (hk : 0 < k) (hq : q < G) : G ≤ G * k + q ∧ (G * k + q) / G = k ∧ (G * k + q) % G = q := by
  obtain ⟨c1, c2, c3⟩ := zfa (k := k) (q := q) hk hq
  exact ⟨by omega, c3, c2⟩
theorem Sl.sub (f : Sl r h v l) (hk : 0 < r.k) (hd : T.desc t = some (.slice e)) (hs : zaH T e = some r.k) {a b : Nat} {lo hi : Option Value} (hlo : BndIs lo 0 a) (hhi : BndIs hi l.length b) (hab : a ≤ b) (hb : b ≤ l.length) :
    ∃ v', zbo T t v lo hi none = some v' ∧ Sl r h v' ((l.take b).drop a) := by
  have hlen : ((l.take b).drop a).length = b - a := by simp; omega
  have hel : ∀ (i : Nat) (x : α), ((l.take b).drop a)[i]? = some x → l[a + i]? = some x ∧ i < b - a := by
    intro i x hx
    have := (List.getElem?_eq_some_iff.1 hx).1
    rw [hlen] at this
    rw [List.getElem?_drop, List.getElem?_take_of_lt (by omega)] at hx
    exact ⟨hx, this⟩
  rcases f with ⟨rfl, rfl⟩ | ⟨A, o, c, row, u, ro, rfl, e2, e3, e4, e5, e6⟩
  · have hb0 : b = 0 := by simpa using hb
    subst hb0
    have ha0 : a = 0 := by omega
    subst ha0
    refine ⟨.slice none 0 0, ?_, by simpa using Sl.nil⟩
    unfold zbo
    simp only [hd, hs, Option.bind_some, if_pos zx5]
    have := zdS (n := 0) (c := 0) hlo (by simpa using hhi) (Nat.le_refl 0) (Nat.le_refl 0)
    rw [this]
    rfl
  · rcases e3 with ⟨c1, c2⟩ | ⟨c1, c2, c3⟩
    · refine ⟨.slice (some ⟨A, if c = a then o else o + a * r.k, none⟩) (b - a) (c - a), ?_, ?_⟩
      · unfold zbo
        simp only [hd, hs, Option.bind_some, if_pos c1]
        rw [zdS hlo hhi hab (by omega)]
        rfl
      · refine .inr ⟨A, _, c - a, row, u, ro, by rw [hlen], by rw [hlen]; omega, .inl ⟨by omega, by rw [hlen]; omega⟩, e4, e5, fun i x hx => ?_⟩
        obtain ⟨hx, hi⟩ := hel i x hx
        obtain ⟨cs, g1, g2⟩ := e6 _ _ hx
        refine ⟨cs, ?_, g2⟩
        rw [if_neg (by omega), Nat.add_assoc, ← Nat.add_mul]
        exact g1
    · refine ⟨.slice (some ⟨A, o + a * r.k, none⟩) (b - a) (G * r.k + (c % G - a)), ?_, ?_⟩
      · unfold zbo
        simp only [hd, hs, Option.bind_some, if_neg (show ¬ c < G by omega), if_pos c2]
        rw [zdS hlo hhi hab (by omega)]
        rfl
      · have hm := Nat.mod_lt c zx5
        obtain ⟨d1, d2, d3⟩ := zdm (k := r.k) (q := c % G - a) hk (by omega)
        refine .inr ⟨A, _, _, row, u, ro, by rw [hlen], by rw [hlen]; omega, .inr ⟨d1, d2, by rw [hlen, d3]; omega⟩, e4, e5, fun i x hx => ?_⟩
        obtain ⟨hx, hi⟩ := hel i x hx
        obtain ⟨cs, g1, g2⟩ := e6 _ _ hx
        refine ⟨cs, ?_, g2⟩
        rw [Nat.add_assoc, ← Nat.add_mul]
        exact g1
theorem Sl.full (f : Sl r h v l) (hd : T.desc t = some (.slice e)) (hs : zaH T e = some r.k) {i : Nat} {kd kd2 : IntKind} (hi : i ≤ l.length) :
    ∃ base, zbo T t v none (some (.int kd i)) (some (.int kd2 i)) = some (.slice base i i) ∧ Sl r h (.slice base i i) (l.take i) := by
  have hlen : (l.take i).length = i := by simp; omega
  rcases f with ⟨rfl, rfl⟩ | ⟨A, o, c, row, u, ro, rfl, e2, e3, e4, e5, e6⟩
  · have hb0 : i = 0 := by simpa using hi
    subst hb0
    refine ⟨none, ?_, by simpa using Sl.nil⟩
    unfold zbo
    simp only [hd, hs, Option.bind_some, if_pos zx5]
    rw [zeC (Nat.le_refl 0)]
    rfl
  · have hG : maxLen < G := by decide
    have hel : Sl r h (.slice (some ⟨A, o, none⟩) i i) (l.take i) := by
      refine .inr ⟨A, o, i, row, u, ro, by rw [hlen], by rw [hlen]; omega, .inl ⟨by omega, by rw [hlen]; omega⟩, e4, e5, fun j x hx => ?_⟩
      have hj := (List.getElem?_eq_some_iff.1 hx).1
      rw [hlen] at hj
      rw [List.getElem?_take_of_lt hj] at hx
      exact e6 _ _ hx
    refine ⟨some ⟨A, o, none⟩, ?_, hel⟩
    rcases e3 with ⟨c1, c2⟩ | ⟨c1, c2, c3⟩
    · unfold zbo
      simp only [hd, hs, Option.bind_some, if_pos c1]
      rw [zeC (by omega)]
      simp
    · unfold zbo
      simp only [hd, hs, Option.bind_some, if_neg (show ¬ c < G by omega), if_pos c2]
      rw [zeC (by omega)]
      simp
theorem zvc {k bytes : Nat} {z : List Value} {base : Option Addr} {x : Value} {l2 : List α} (hd : T.desc t = some (.slice e)) (hi : T.info e = some (k, bytes, z)) (hrk : r.k = k) (hk : 0 < k) (hz : h0.size ≤ h.size)
    (f : Sl r h (.slice base l.length l.length) l) {m : Nat} {news : List Value} (hs : srcA x k h = some (m, news)) (hsr : Src r h m news l2) (hm0 : 0 < m)
    (hb : (l.length + m) * bytes ≤ 140737488355328) (hl : l.length + m ≤ 1152921504606846976) :
    ∃ v' h', zbc T t (.slice base l.length l.length) x h = some (v', h') ∧ Ow r h0 h' e h.size v' (l ++ l2) ∧ Ext h h' := by
  subst hrk
  obtain ⟨hm, hnl, h1, hrep⟩ := hsr
  obtain ⟨olds, s1, so1, so2, so3, so4⟩ := zpp (A := h.size) hk f (fun cs y hr => by rw [zlg (Nat.le_refl _)]; exact hr)
  rw [zlg (Nat.le_refl _)] at so4
  have hcells : zc8 (.slice base l.length l.length) r.k h = some olds := by
    simp only [srcA, Option.map_eq_some_iff, Prod.mk.injEq] at s1
    obtain ⟨a, ha, _, rfl⟩ := s1
    exact ha
  have hlG : l.length < G := by unfold G; omega
  have hmod : l.length % G = l.length := Nat.mod_eq_of_lt hlG
  refine ⟨.slice (some ⟨h.size, 0, none⟩) (l.length + m) (G * r.k + (l.length + m)), h.push (.row (olds ++ news) e false), ?_, ?_, ?_⟩
  · unfold zbc
    simp only [hd, hi, hs, Option.bind_some]
    rw [if_neg (by omega), if_neg, if_neg (by rw [hmod]; omega)]
    · simp only [hcells, Option.bind_some]
      rw [if_pos hlG]
    · simp only [Bool.or_eq_true, decide_eq_true_eq, Bool.not_eq_true', h1, not_or]
      exact ⟨⟨⟨by omega, by omega⟩, by omega⟩, by simp⟩
  · have hi2 : Inc h ((h.push (.row (olds ++ news) e false)).set h.size .dead) := ⟨by rw [Heap.size_set, Heap.size_push]; omega, fun B hB _ => by
      rw [Heap.get_set _ _ _ _ (by rw [Heap.size_push]; omega), if_neg (by omega), Heap.get_push, if_neg (by omega)]⟩
    refine .inr ⟨olds ++ news, by rw [List.length_append, hm], fun hh => ?_, hz, by rw [Heap.size_push]; omega, by rw [Heap.get_push, if_pos rfl], by rw [List.length_append, List.length_append, so2, hnl, hm, Nat.add_mul], by rw [List.length_append, hm]; exact hl, fun i y hy => ?_⟩
    · have := congrArg List.length hh
      rw [List.length_append, hm] at this
      simp at this
      omega
    · by_cases hi : i < l.length
      · rw [List.getElem?_append_left hi] at hy
        obtain ⟨cs, g1, g2⟩ := so4 i y hy
        exact ⟨cs, zse g1, r.mono _ _ _ _ hi2 g2⟩
      · rw [List.getElem?_append_right (by omega)] at hy
        obtain ⟨cs, g1, g2⟩ := hrep _ y hy
        refine ⟨cs, ?_, r.mono _ _ _ _ hi2 g2⟩
        have := zo9 (a := olds) g1
        rwa [so2, ← Nat.add_mul, show l.length + (i - l.length) = i by omega] at this
  · refine ⟨by rw [Heap.size_push]; omega, fun A hA => by rw [Heap.get_push, if_neg (by omega)], by rw [Heap.low_push]; omega⟩
end
end Go.Am
namespace Go.Am
set_option linter.unusedVariables false
def slt (a b : ByteArray) : Bool := Op.bytesLess a.data.toList b.data.toList
theorem zxK : ∀ (x y : List UInt8), Op.bytesLess x y = decide (x < y)
  | [], [] => by simp [Op.bytesLess]
  | _ :: _, [] => by simp [Op.bytesLess]
  | [], _ :: _ => by simp [Op.bytesLess]
  | a :: x, b :: y => by
    rw [Op.bytesLess, zxK x y]
    simp only [List.cons_lt_cons_iff]
    by_cases h1 : a < b <;> by_cases h2 : a = b <;> by_cases h3 : x < y <;> simp [h1, h2, h3]
theorem znh {a b c : ByteArray} (h1 : slt a b = true) (h2 : slt b c = true) : slt a c = true := by
  unfold slt at *
  rw [zxK] at *
  simp only [decide_eq_true_eq] at *
  exact List.lt_trans h1 h2
theorem zur {a b : ByteArray} (h1 : slt a b = false) (h2 : slt b a = false) : a = b := by
  unfold slt at *
  rw [zxK] at *
  simp only [decide_eq_false_iff_not, List.not_lt] at *
  exact zfv (List.le_antisymm h2 h1)
def zio (l : List BindD) (m : Nat) : Prop := ∀ k x y, k + 1 < m → l[k]? = some x → l[k + 1]? = some y → slt x.var y.var = true
theorem zrG {l : List BindD} {m : Nat} (h : m ≤ 1) : zio l m := by
  intro k x y hk
  omega
theorem zte {l : List BindD} (h : zio l l.length) {i j : Nat} {x y : BindD} (hij : i < j) (hx : l[i]? = some x) (hy : l[j]? = some y) : slt x.var y.var = true := by
  induction j generalizing y with
  | zero => omega
  | succ j ih =>
    have hj := (List.getElem?_eq_some_iff.1 hy).1
    have hz : l[j]? = some l[j] := List.getElem?_eq_getElem (by omega)
    have h1 := h j l[j] y hj hz hy
    by_cases he : i = j
    · subst he
      rw [hz] at hx
      cases hx
      exact h1
    · exact znh (ih (by omega) hz) h1
def zaP (l : List BindD) (s : ByteArray) : TermD × Bool := match l.find? (fun x => decide (x.var = s)) with
  | some x => (x.term, true)
  | none => (zdh, false)
def ChkD (l : List BindD) : Prop := zio l l.length ∧ ∀ b ∈ l, b.term.s ≠ ⟨#[]⟩ ∧ ¬ (b.term.v = true ∧ (zaP l b.term.s).2 = true)
def zdz (l : List BindD) (t : TermD) : TermD := if (zaP l t.s).2 = true ∧ t.v = true then (zaP l t.s).1 else t
def zs4 (l m : List BindD) : List BindD := l.map fun b => ⟨b.var, zdz m b.term⟩
def ownD (b : BindD) : Bool := b.term.v && decide (b.term.s = b.var)
def zhm (l : List BindD) (b : BindD) : List BindD := l.takeWhile (fun x => !slt b.var x.var) ++ b :: l.dropWhile (fun x => !slt b.var x.var)
open Classical in
noncomputable def ztN (l : List BindD) (v : ByteArray) (t : TermD) : Option (List BindD) :=
  if ¬ ChkD l then none
  else if v = ⟨#[]⟩ ∨ t.s = ⟨#[]⟩ then none
  else if (zaP l v).2 = true then none
  else if ownD ⟨v, zdz l t⟩ = true then none
  else some (zhm (zs4 l [⟨v, zdz l t⟩]) ⟨v, zdz l t⟩)
def ziO (a b : AtomD) : Bool := decide (a.says = b.says) && (decide (a.pred = b.pred) && (decide (a.n = b.n) && (decide (0 ≤ a.n) && decide (a.n ≤ 4))))
noncomputable def zpm (out : List BindD) (x y : TermD) : Option (List BindD) :=
  if x.v = false then (if x = y then some out else none)
  else if (zaP out x.s).2 = true then (if (zaP out x.s).1 = y then some out else none)
  else ztN out x.s y
noncomputable def zhP (p g : AtomD) : Nat → List BindD → Option (List BindD)
  | 0, out => some out
  | n + 1, out => (zhP p g n out).bind fun o => zpm o (p.arg n) (g.arg n)
def barD (l : List BindD) (x : TermD) : Bool := x.v && (decide (x.s = ⟨#[]⟩) || ((zaP l x.s).2 && (zaP l x.s).1.v))
open Classical in
noncomputable def extD (l : List BindD) (p g : AtomD) : Option (List BindD) :=
  if ¬ ChkD l ∨ ziO p g = false ∨ g.ground = false then none
  else if ∃ i : Nat, i < 4 ∧ (i : Int) < p.n ∧ barD l (p.arg i) = true then none
  else zhP p g p.n.toNat l
noncomputable def zoS : List AtomD → List AtomD → List BindD → Option (List BindD)
  | p :: ps, g :: gs, l => (extD l p g).bind (zoS ps gs)
  | _, _, l => some l
end Go.Am

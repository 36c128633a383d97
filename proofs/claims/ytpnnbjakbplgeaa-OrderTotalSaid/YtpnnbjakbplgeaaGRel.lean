/- How a plain heap stands to a world of the model; small laws. No condition. -/
import Derived.Test.YtpnnbjakbplgeaaGDef
import Derived.Calls
import Derived.Below
import Derived.Laws.AppendOwn
import Derived.Laws.MakeOwn
import Derived.Laws.CopyRow
import Derived.Deep.MidRow
import Derived.Lib.Space
namespace Go.Am
open Go.RowKit

/-! ### The plain heap -/
theorem Tr.get_nil (i : Nat) : Tr.get .nil i = none := by cases i <;> rfl

theorem Tr.get_set : ∀ (n : Nat) (t : Tr) (i j : Nat) (o : Blk), i < n → (Tr.set n t i o).get j = if j = i then some o else t.get j
  | 0, _, _, _, _, h => by omega
  | n + 1, t, i, j, o, h => by
    cases t with
    | nil =>
      cases i with
      | zero => cases j with
        | zero => simp [Tr.set, Tr.get]
        | succ j => simp [Tr.set, Tr.get]
      | succ i =>
        have hi : i / 2 < n := by omega
        by_cases he : i % 2 = 0
        · cases j with
          | zero => simp [Tr.set, Tr.get, he]
          | succ j =>
            by_cases hj : j % 2 = 0
            · simp only [Tr.set, Tr.get, he, hj, beq_self_eq_true, if_true, Tr.get_set n .nil (i / 2) (j / 2) o hi]
              by_cases e : j = i
              · subst e; simp
              · rw [if_neg (by omega), if_neg (by omega)]
            · have hj1 : (j % 2 == 0) = false := by simpa using hj
              simp only [Tr.set, Tr.get, he, hj1, beq_self_eq_true, if_true, Bool.false_eq_true, if_false]
              rw [if_neg (by intro e; apply hj; have : j = i := by omega
                             subst this; exact he)]
        · have he1 : (i % 2 == 0) = false := by simpa using he
          cases j with
          | zero => simp [Tr.set, Tr.get, he1]
          | succ j =>
            by_cases hj : j % 2 = 0
            · simp only [Tr.set, Tr.get, he1, hj, beq_self_eq_true, if_true, Bool.false_eq_true, if_false]
              rw [if_neg (by intro e; apply he; have : j = i := by omega
                             subst this; exact hj)]
            · have hj1 : (j % 2 == 0) = false := by simpa using hj
              simp only [Tr.set, Tr.get, he1, hj1, Bool.false_eq_true, if_false, Tr.get_set n .nil (i / 2) (j / 2) o hi]
              by_cases e : j = i
              · subst e; simp
              · rw [if_neg (by omega), if_neg (by omega)]
    | node v l r =>
      cases i with
      | zero => cases j with
        | zero => simp [Tr.set, Tr.get]
        | succ j => simp [Tr.set, Tr.get]
      | succ i =>
        have hi : i / 2 < n := by omega
        by_cases he : i % 2 = 0
        · cases j with
          | zero => simp [Tr.set, Tr.get, he]
          | succ j =>
            by_cases hj : j % 2 = 0
            · simp only [Tr.set, Tr.get, he, hj, beq_self_eq_true, if_true, Tr.get_set n l (i / 2) (j / 2) o hi]
              by_cases e : j = i
              · subst e; simp
              · rw [if_neg (by omega), if_neg (by omega)]
            · have hj1 : (j % 2 == 0) = false := by simpa using hj
              simp only [Tr.set, Tr.get, he, hj1, beq_self_eq_true, if_true, Bool.false_eq_true, if_false]
              rw [if_neg (by intro e; apply hj; have : j = i := by omega
                             subst this; exact he)]
        · have he1 : (i % 2 == 0) = false := by simpa using he
          cases j with
          | zero => simp [Tr.set, Tr.get, he1]
          | succ j =>
            by_cases hj : j % 2 = 0
            · simp only [Tr.set, Tr.get, he1, hj, beq_self_eq_true, if_true, Bool.false_eq_true, if_false]
              rw [if_neg (by intro e; apply he; have : j = i := by omega
                             subst this; exact hj)]
            · have hj1 : (j % 2 == 0) = false := by simpa using hj
              simp only [Tr.set, Tr.get, he1, hj1, Bool.false_eq_true, if_false, Tr.get_set n r (i / 2) (j / 2) o hi]
              by_cases e : j = i
              · subst e; simp
              · rw [if_neg (by omega), if_neg (by omega)]

theorem Heap.size_push (h : Heap) (b : Blk) : (h.push b).size = h.size + 1 := rfl
theorem Heap.size_set (h : Heap) (A : Nat) (b : Blk) : (h.set A b).size = h.size := rfl
theorem Heap.low_push (h : Heap) (b : Blk) : (h.push b).low = h.low := rfl
theorem Heap.low_set (h : Heap) (A : Nat) (b : Blk) : (h.set A b).low = min h.low A := rfl
theorem Heap.get_push (h : Heap) (b : Blk) (j : Nat) : (h.push b).get j = if j = h.size then some b else h.get j := by
  simp only [Heap.get, Heap.push, Tr.get_set _ _ _ _ _ (Nat.lt_succ_self _)]
  by_cases e : j = h.size
  · subst e; simp
  · by_cases hl : j < h.size
    · rw [if_pos (by omega), if_neg e, if_pos hl, if_neg e]
    · rw [if_neg (by omega), if_neg e, if_neg hl]
theorem Heap.get_set (h : Heap) (A : Nat) (b : Blk) (j : Nat) (hA : A < h.size) : (h.set A b).get j = if j = A then some b else h.get j := by
  simp only [Heap.get, Heap.set, Tr.get_set _ _ _ _ _ (Nat.lt_succ_self _)]
  by_cases e : j = A
  · subst e; simp [hA]
  · by_cases hl : j < h.size
    · rw [if_pos hl, if_neg e, if_pos hl, if_neg e]
    · rw [if_neg hl, if_neg e, if_neg hl]
theorem Heap.lt_of_get {h : Heap} {A : Nat} {b : Blk} (hb : h.get A = some b) : A < h.size := by
  unfold Heap.get at hb
  split at hb
  · assumption
  · cases hb

theorem Env.length_set : ∀ (e : Env) (i : Nat) (v : Value), (Env.set e i v).length = e.length
  | [], _, _ => rfl
  | _ :: _, 0, _ => rfl
  | x :: r, n + 1, v => by simp [Env.set, Env.length_set r n v]
theorem Env.get_set : ∀ (e : Env) (i j : Nat) (v : Value), (Env.set e i v).get j = if j = i ∧ i < e.length then v else e.get j
  | [], _, _, _ => by simp [Env.set, Env.get]
  | x :: r, 0, j, v => by cases j <;> simp [Env.set, Env.get]
  | x :: r, i + 1, j, v => by
    cases j with
    | zero => simp [Env.set, Env.get]
    | succ j => simp [Env.set, Env.get, Env.get_set r i j v]
theorem Env.get_of_ge : ∀ (e : Env) (i : Nat), e.length ≤ i → e.get i = undef
  | [], _, _ => by simp [Env.get]
  | _ :: r, i + 1, h => by simp only [Env.get]; exact Env.get_of_ge r i (by simpa using h)
  | _ :: _, 0, h => by simp at h
theorem Env.get_eq : ∀ (e : Env) (i : Nat), e.get i = (e[i]?).getD undef
  | [], _ => by simp [Env.get]
  | _ :: _, 0 => by simp [Env.get]
  | _ :: r, i + 1 => by simp [Env.get, Env.get_eq r i]

/-! ### Values -/
structure Loc where
  b : Nat
  s : Nat
  tot : Nat

abbrev Rho := Nat → Option Loc

inductive VR (ρ : Rho) : Value → Value → Prop where
  | bool (b : Bool) : VR ρ (.bool b) (.bool b)
  | int (k : IntKind) (n : Int) : VR ρ (.int k n) (.int k n)
  | string (s : ByteArray) : VR ρ (.string s) (.string s)
  | ptrNil : VR ρ (.pointer none) (.pointer none)
  | ptr {A o : Nat} {L : Loc} (h : ρ A = some L) : VR ρ (.pointer (some ⟨A, o, none⟩)) (.pointer (some ⟨L.b, L.s + o, none⟩))
  | sliceNil : VR ρ (.slice none 0 0) (.slice none 0 0)
  | slice {A o n c : Nat} {L : Loc} {ad : Addr} (h : ρ A = some L) (hc : c < G) (hn : n ≤ c) (had : c ≠ 0 → ad = ⟨L.b, L.s + o, none⟩) : VR ρ (.slice (some ⟨A, o, none⟩) n c) (.slice (some ad) n c)
  | sliceG {A o n c c' : Nat} {L : Loc} {ad : Addr} (h : ρ A = some L) (hc : G ≤ c) (hlo : c % G ≤ c') (hn : n ≤ c % G) (hk : 0 < c / G)
      (hm : c' ≤ maxLen) (had : c' ≠ 0 → ad = ⟨L.b, L.s + o, none⟩ ∧ L.s + o + c' * (c / G) ≤ L.tot) : VR ρ (.slice (some ⟨A, o, none⟩) n c) (.slice (some ad) n c')
  | mapNil : VR ρ (.map none) (.map none)
  | nilFunc : VR ρ .nilFunc .nilFunc
  | map {A : Nat} {L : Loc} (h : ρ A = some L) : VR ρ (.map (some A)) (.map (some L.b))
  | yield {A : Nat} {L : Loc} (h : ρ A = some L) : VR ρ (.func (.yield A) #[] #[]) (.func (.yield L.b) #[] #[])
  | func (fn : FuncId) {f g c d : Array Value} (hf : f.size = g.size) (hc : c.size = d.size) (h1 : ∀ (i : Nat) (x y : Value), f[i]? = some x → g[i]? = some y → VR ρ x y)
      (h2 : ∀ (i : Nat) (x y : Value), c[i]? = some x → d[i]? = some y → VR ρ x y) : VR ρ (.func (.func fn) f c) (.func (.func fn) g d)
  | nilIface : VR ρ .nilIface .nilIface
  | iface (t : TypeId) {x y : Value} (h : VR ρ x y) : VR ρ (.iface t x) (.iface t y)
  | agg {c d : Array Value} (hc : c.size = d.size) (h : ∀ (i : Nat) (x y : Value), c[i]? = some x → d[i]? = some y → VR ρ x y) : VR ρ (.agg c) (.agg d)
  | tuple {c d : Array Value} (hc : c.size = d.size) (h : ∀ (i : Nat) (x y : Value), c[i]? = some x → d[i]? = some y → VR ρ x y) : VR ρ (.tuple c) (.tuple d)

theorem VR.mono {ρ ρ' : Rho} (hg : ∀ A L, ρ A = some L → ρ' A = some L) {v u : Value} (h : VR ρ v u) : VR ρ' v u := by
  induction h with
  | bool b => exact .bool b
  | int k n => exact .int k n
  | string s => exact .string s
  | ptrNil => exact .ptrNil
  | ptr h => exact .ptr (hg _ _ h)
  | sliceNil => exact .sliceNil
  | slice h hc hn had => exact .slice (hg _ _ h) hc hn had
  | sliceG h hc hlo hn hk hm had => exact .sliceG (hg _ _ h) hc hlo hn hk hm had
  | mapNil => exact .mapNil
  | map h => exact .map (hg _ _ h)
  | yield h => exact .yield (hg _ _ h)
  | nilFunc => exact .nilFunc
  | func fn hf hc h1 h2 i1 i2 => exact .func fn hf hc i1 i2
  | nilIface => exact .nilIface
  | iface t h ih => exact .iface t ih
  | agg hc h ih => exact .agg hc ih
  | tuple hc h ih => exact .tuple hc ih

theorem VR.undef (ρ : Rho) : VR ρ undef undef := .tuple rfl (by intro i x y hx; simp at hx)

theorem VR.of_plain1 (ρ : Rho) {v : Value} (h : plain1 v = true) : VR ρ v v := by
  cases v with
  | bool b => exact .bool b
  | int k n => exact .int k n
  | string s => exact .string s
  | pointer a => cases a with
    | none => exact .ptrNil
    | some a => simp [plain1] at h
  | slice a n c => cases a with
    | none =>
      simp [plain1] at h
      obtain ⟨rfl, rfl⟩ := h
      exact .sliceNil
    | some a => simp [plain1] at h
  | map r => cases r with
    | none => exact .mapNil
    | some r => simp [plain1] at h
  | func fn f c =>
    cases fn with
    | func fn =>
      simp [plain1] at h
      obtain ⟨rfl, rfl⟩ := h
      exact .func fn rfl rfl (by intro i x y hx; simp at hx) (by intro i x y hx; simp at hx)
    | _ => simp [plain1] at h
  | nilFunc => exact .nilFunc
  | nilIface => exact .nilIface
  | _ => simp [plain1] at h

theorem VR.eq_plain1 {ρ : Rho} {v u : Value} (hv : VR ρ v u) (h : plain1 v = true) : u = v := by
  cases hv with
  | func fn hf hc h1 h2 =>
    simp [plain1] at h
    obtain ⟨rfl, rfl⟩ := h
    have e1 : ∀ (a : Array Value), (#[] : Array Value).size = a.size → a = #[] := fun a ha => Array.eq_empty_of_size_eq_zero (by simpa using ha.symm)
    rw [e1 _ hf, e1 _ hc]
  | _ => first | rfl | simp [plain1] at h

theorem VR.of_plain (ρ : Rho) {v : Value} (h : plain v = true) : VR ρ v v := by
  cases v with
  | agg cs =>
    refine .agg rfl fun i x y hx hy => ?_
    have e : x = y := by rw [hx] at hy; exact Option.some.inj hy
    subst e
    simp only [plain, List.all_eq_true] at h
    exact .of_plain1 ρ (h x (by simpa using Array.mem_of_getElem? hx))
  | _ => exact .of_plain1 ρ h

theorem VR.eq_plain {ρ : Rho} {v u : Value} (hv : VR ρ v u) (h : plain v = true) : u = v := by
  cases hv with
  | agg hc hh =>
    rename_i c d
    congr 1
    refine Array.ext hc.symm fun i h1 h2 => ?_
    simp only [plain, List.all_eq_true] at h
    have hx : c[i]? = some c[i] := Array.getElem?_eq_getElem h2
    exact (hh i _ _ hx (Array.getElem?_eq_getElem h1)).eq_plain1 (h _ (by simp))
  | tuple hc hh => simp [plain, plain1] at h
  | func fn hf hc h1 h2 => exact (VR.func fn hf hc h1 h2).eq_plain1 h
  | _ => first | rfl | (simp [plain, plain1] at h; done)

theorem VR.one {ρ : Rho} {v u : Value} (hv : VR ρ v u) (h : one v = true) : u.oneCell' = true := by
  cases hv <;> first | rfl | simp [Am.one] at h

/-- Lists of values, one by one. -/
def VRs (ρ : Rho) (l m : List Value) : Prop := l.length = m.length ∧ ∀ (i : Nat) (x y : Value), l[i]? = some x → m[i]? = some y → VR ρ x y

theorem VRs.nil (ρ : Rho) : VRs ρ [] [] := ⟨rfl, by intro i x y hx; simp at hx⟩
theorem VRs.cons {ρ : Rho} {x y : Value} {l m : List Value} (h : VR ρ x y) (hl : VRs ρ l m) : VRs ρ (x :: l) (y :: m) :=
  ⟨by simp [hl.1], fun i a b ha hb => by
    cases i with
    | zero => simp at ha hb; subst ha hb; exact h
    | succ i => exact hl.2 i a b (by simpa using ha) (by simpa using hb)⟩
theorem VRs.of_cons {ρ : Rho} {x : Value} {l m : List Value} (h : VRs ρ (x :: l) m) : ∃ y m', m = y :: m' ∧ VR ρ x y ∧ VRs ρ l m' := by
  cases m with
  | nil => have := h.1; simp at this
  | cons y m =>
    exact ⟨y, m, rfl, h.2 0 x y rfl rfl, by have := h.1; simpa using this, fun i a b ha hb => h.2 (i + 1) a b (by simpa using ha) (by simpa using hb)⟩
theorem VRs.of_nil {ρ : Rho} {m : List Value} (h : VRs ρ [] m) : m = [] := by
  have := h.1
  simp at this
  exact List.eq_nil_of_length_eq_zero this.symm
theorem VRs.mono {ρ ρ' : Rho} (hg : ∀ A L, ρ A = some L → ρ' A = some L) {l m : List Value} (h : VRs ρ l m) : VRs ρ' l m := ⟨h.1, fun i x y hx hy => (h.2 i x y hx hy).mono hg⟩
theorem VRs.append {ρ : Rho} {l m l' m' : List Value} (h : VRs ρ l m) (h' : VRs ρ l' m') : VRs ρ (l ++ l') (m ++ m') := by
  induction l generalizing m with
  | nil => rw [h.of_nil]; exact h'
  | cons x l ih =>
    obtain ⟨y, m1, rfl, hx, hl⟩ := h.of_cons
    exact .cons hx (ih hl)
theorem VRs.take {ρ : Rho} {l m : List Value} (h : VRs ρ l m) (n : Nat) : VRs ρ (l.take n) (m.take n) := by
  refine ⟨by simp [h.1], fun i x y hx hy => ?_⟩
  rw [List.getElem?_take] at hx hy
  split at hx
  · rename_i hi; rw [if_pos hi] at hy; exact h.2 i x y hx hy
  · cases hx
theorem VRs.drop {ρ : Rho} {l m : List Value} (h : VRs ρ l m) (n : Nat) : VRs ρ (l.drop n) (m.drop n) :=
  ⟨by simp [h.1], fun i x y hx hy => h.2 (n + i) x y (by simpa using hx) (by simpa using hy)⟩
theorem VRs.splice {ρ : Rho} {l m l' m' : List Value} (h : VRs ρ l m) (o : Nat) (h' : VRs ρ l' m') : VRs ρ (splice l o l') (splice m o m') := by
  unfold Am.splice
  rw [← h'.1]
  exact ((h.take o).append h').append (h.drop _)
theorem VRs.cut {ρ : Rho} {l m c : List Value} (h : VRs ρ l m) {o n : Nat} (hc : cut l o n = some c) : ∃ d, cut m o n = some d ∧ VRs ρ c d := by
  unfold Am.cut at hc ⊢
  split at hc
  · rename_i hl
    rw [if_pos (by rw [← h.1]; exact hl)]
    cases hc
    exact ⟨_, rfl, (h.drop o).take n⟩
  · cases hc
theorem VRs.get {ρ : Rho} {l m : List Value} (h : VRs ρ l m) {i : Nat} {x : Value} (hx : l[i]? = some x) : ∃ y, m[i]? = some y ∧ VR ρ x y := by
  have hi : i < l.length := (List.getElem?_eq_some_iff.1 hx).1
  have hy : m[i]? = some (m[i]'(by rw [← h.1]; exact hi)) := List.getElem?_eq_getElem _
  exact ⟨_, hy, h.2 i x _ hx hy⟩
theorem VRs.plain (ρ : Rho) {l : List Value} (h : l.all plain1 = true) : VRs ρ l l := by
  refine ⟨rfl, fun i x y hx hy => ?_⟩
  rw [hx] at hy
  cases hy
  exact .of_plain1 ρ (List.all_eq_true.1 h x (List.mem_of_getElem? hx))
theorem VRs.one {ρ : Rho} {l m : List Value} (h : VRs ρ l m) (h1 : l.all one = true) : ∀ v ∈ m, v.oneCell' = true := by
  intro v hv
  obtain ⟨i, hi⟩ := List.getElem?_of_mem hv
  have hl : i < l.length := by rw [h.1]; exact (List.getElem?_eq_some_iff.1 hi).1
  exact (h.2 i _ v (List.getElem?_eq_getElem hl) hi).one (List.all_eq_true.1 h1 _ (List.getElem_mem hl))
theorem VRs.toArray {ρ : Rho} {l m : List Value} (h : VRs ρ l m) : VR ρ (.agg l.toArray) (.agg m.toArray) :=
  .agg (by simp [h.1]) (fun i x y hx hy => h.2 i x y (by simpa using hx) (by simpa using hy))
theorem VRs.toTuple {ρ : Rho} {l m : List Value} (h : VRs ρ l m) : VR ρ (.tuple l.toArray) (.tuple m.toArray) :=
  .tuple (by simp [h.1]) (fun i x y hx hy => h.2 i x y (by simpa using hx) (by simpa using hy))
theorem VR.aggs {ρ : Rho} {c d : Array Value} (h : VR ρ (.agg c) (.agg d)) : VRs ρ c.toList d.toList := by
  cases h with
  | agg hc hh => exact ⟨by simpa using hc, fun i x y hx hy => hh i x y (by simpa using hx) (by simpa using hy)⟩
theorem VR.cells {ρ : Rho} {v u : Value} (h : VR ρ v u) : VRs ρ v.cells.toList u.cells.toList := by
  cases h with
  | agg hc hh => exact (VR.agg hc hh).aggs
  | _ => exact .cons (by first | exact .bool _ | exact .int _ _ | exact .string _ | exact .ptrNil | exact .ptr ‹_› | exact .sliceNil | exact .slice ‹_› ‹_› ‹_› ‹_› | exact .sliceG ‹_› ‹_› ‹_› ‹_› ‹_› ‹_› ‹_› | exact .mapNil | exact .map ‹_› | exact .yield ‹_› | exact .nilFunc | exact .func _ ‹_› ‹_› ‹_› ‹_› | exact .nilIface | exact .iface _ ‹_› | exact .tuple ‹_› ‹_›) (.nil ρ)

def EnvR (ρ : Rho) (e : Env) (tmps : Array Value) : Prop := e.length = tmps.size ∧ ∀ i, VR ρ (e.get i) (tmps.getD i undef)
theorem EnvR.mono {ρ ρ' : Rho} {e : Env} {tmps : Array Value} (he : EnvR ρ e tmps) (hg : ∀ A L, ρ A = some L → ρ' A = some L) : EnvR ρ' e tmps := ⟨he.1, fun i => (he.2 i).mono hg⟩
/-- The entries of a map, one by one. -/
def EsR (ρ : Rho) (l m : List MapEntry) : Prop := l.length = m.length ∧ ∀ (i : Nat) (x y : MapEntry), l[i]? = some x → m[i]? = some y → VR ρ x.key y.key ∧ VR ρ x.val y.val ∧ x.born = y.born ∧ plain x.key = true
theorem EsR.mono {ρ ρ' : Rho} (hg : ∀ A L, ρ A = some L → ρ' A = some L) {l m : List MapEntry} (h : EsR ρ l m) : EsR ρ' l m :=
  ⟨h.1, fun i x y hx hy => ⟨(h.2 i x y hx hy).1.mono hg, (h.2 i x y hx hy).2.1.mono hg, (h.2 i x y hx hy).2.2⟩⟩

/-! ### What the text of a function must be, at the places that are known -/
def GlobOk (gs : List Nat) (ρ : Rho) : Prop := ∀ g ∈ gs, ∃ t, ρ g = some ⟨g, 0, t⟩
def OkX (ρ : Rho) : Operand → Prop
  | .const v => plain v = true
  | .global g => ∃ t, ρ g = some ⟨g, 0, t⟩
  | _ => True
def OpOk (ρ : Rho) (o : Oper) : Prop := ∀ x ∈ o.op.operands.toList, OkX ρ x
def CodeOk (ρ : Rho) : Code → Prop
  | .region _ ops _ => ∀ o ∈ ops.toList, OpOk ρ o
  | .seq a b => CodeOk ρ a ∧ CodeOk ρ b
  | .cond c a b => OkX ρ c ∧ CodeOk ρ a ∧ CodeOk ρ b
  | .block _ c => CodeOk ρ c
  | .loop c => CodeOk ρ c
  | .scope c => CodeOk ρ c
  | .rangeFunc g _ a b => OkX ρ g ∧ CodeOk ρ a ∧ CodeOk ρ b
  | _ => True
section
variable {ρ ρ' : Rho} (hg : ∀ A L, ρ A = some L → ρ' A = some L)
include hg
theorem GlobOk.mono {gs : List Nat} (h : GlobOk gs ρ) : GlobOk gs ρ' := fun g hh => let ⟨t, ht⟩ := h g hh; ⟨t, hg _ _ ht⟩
theorem OkX.mono {x : Operand} (h : OkX ρ x) : OkX ρ' x := by
  cases x with
  | global g => exact let ⟨t, ht⟩ := h; ⟨t, hg _ _ ht⟩
  | _ => exact h
theorem OpOk.mono {o : Oper} (h : OpOk ρ o) : OpOk ρ' o := fun x hx => (h x hx).mono hg
theorem CodeOk.mono : ∀ {c : Code}, CodeOk ρ c → CodeOk ρ' c := by
  intro c
  induction c with
  | region id ops d => exact fun h o ho => (h o ho).mono hg
  | seq a b iha ihb => exact fun h => ⟨iha h.1, ihb h.2⟩
  | cond c a b iha ihb => exact fun h => ⟨h.1.mono hg, iha h.2.1, ihb h.2.2⟩
  | block id c ih => exact fun h => ih h
  | loop c ih => exact fun h => ih h
  | scope c ih => exact fun h => ih h
  | rangeFunc g ps a b iha ihb => exact fun h => ⟨h.1.mono hg, iha h.2.1, ihb h.2.2⟩
  | _ => exact fun _ => trivial
end
theorem OkX.of {gs : List Nat} {ρ : Rho} (hG : GlobOk gs ρ) {x : Operand} (h : okOperand gs x = true) : OkX ρ x := by
  cases x with
  | global g => exact hG g (by simpa [okOperand] using h)
  | const v => exact h
  | _ => trivial
theorem OpOk.of {gs : List Nat} {ρ : Rho} (hG : GlobOk gs ρ) {o : Oper} (h : opOk gs o = true) : OpOk ρ o := fun x hx => .of hG (List.all_eq_true.1 h x hx)
theorem CodeOk.of {gs : List Nat} {ρ : Rho} (hG : GlobOk gs ρ) : ∀ {c : Code}, codeOk gs c = true → CodeOk ρ c := by
  intro c
  induction c with
  | region id ops d => exact fun h o ho => .of hG (List.all_eq_true.1 h o ho)
  | seq a b iha ihb => exact fun h => by simp only [codeOk, Bool.and_eq_true] at h; exact ⟨iha h.1, ihb h.2⟩
  | cond c a b iha ihb => exact fun h => by simp only [codeOk, Bool.and_eq_true] at h; exact ⟨.of hG h.1.1, iha h.1.2, ihb h.2⟩
  | block id c ih => exact fun h => ih h
  | loop c ih => exact fun h => ih h
  | scope c ih => exact fun h => ih h
  | rangeFunc g ps a b iha ihb => exact fun h => by simp only [codeOk, Bool.and_eq_true] at h; exact ⟨.of hG h.1.1, iha h.1.2, ihb h.2⟩
  | _ => exact fun _ => trivial

/-! ### Heaps -/
def live (h : Heap) (A : Nat) : Prop := ∃ b, h.get A = some b ∧ b ≠ .dead
def isRo (h : Heap) (A : Nat) : Prop := ∃ cs e, h.get A = some (.row cs e true)

/-- The mark of a row that holds strings.asciiSpace. -/
def spaceMark : TypeId := 1099511627776
def spaceCells : List Value := Lib.asciiSpaceTab.map fun z => Value.int .u8 z
/-- No cell of the row is frozen. -/
def Thaw (n : Nat) (fz : Nat × Nat) : Prop := ∀ j, j < n → ¬ (fz.1 ≤ j ∧ j < fz.2)
theorem Thaw.zero (n : Nat) : Thaw n (0, 0) := fun _ _ h => by have := h.2; simp at this
def BlkR (ρ : Rho) (w : World) (L : Loc) : Option Blk → Prop
  | some (.row cs e true) => (L.b < w.heap.size ∧ (e = spaceMark → cs = spaceCells)) ∧ ∀ (i : Nat) (v : Value), cs[i]? = some v → ∃ u, w.cell? ⟨L.b, L.s + i, none⟩ = some u ∧ VR ρ v u
  | some (.row cs e false) => ∃ (cur : Array Value) (fz : Nat × Nat), w.heap[L.b]? = some (.cells cur e fz) ∧ Thaw cur.size fz ∧ cur.size = L.tot ∧ ∃ m, cut cur.toList L.s cs.length = some m ∧ VRs ρ cs m
  | some (.map es clock) => ∃ ces : Array MapEntry, w.heap[L.b]? = some (.map ces clock) ∧ EsR ρ es ces.toList
  | some (.loop env ps assign body st pend) => ∃ l : Loop, w.heap[L.b]? = some (.loop l) ∧ l.state = st ∧ l.pending = pend ∧ l.params.toList = ps ∧ l.assign = assign ∧ l.body = body ∧ EnvR ρ env l.tmps ∧ CodeOk ρ assign ∧ CodeOk ρ body
  | some .dead => L.b < w.heap.size
  | none => L.b < w.heap.size

theorem BlkR.keep {ρ ρ' : Rho} {w w' : World} {L : Loc} {b : Option Blk} (hb : BlkR ρ w L b) (hg : ∀ A L, ρ A = some L → ρ' A = some L) (hsz : w.heap.size ≤ w'.heap.size)
    (hk : (∃ x, b = some x ∧ x ≠ .dead) → w'.heap[L.b]? = w.heap[L.b]?) : BlkR ρ' w' L b := by
  cases b with
  | none => exact Nat.lt_of_lt_of_le hb hsz
  | some b =>
    cases b with
    | dead => exact Nat.lt_of_lt_of_le hb hsz
    | map es clock =>
      obtain ⟨ces, hc, he⟩ := hb
      exact ⟨ces, (hk ⟨_, rfl, by simp⟩).trans hc, he.mono hg⟩
    | loop env ps assign body st pend =>
      obtain ⟨l, hc, h1, h2, h3, h4, h5, h6, h7⟩ := hb
      exact ⟨l, (hk ⟨_, rfl, by simp⟩).trans hc, h1, h2, h3, h4, h5, h6.mono hg, h7.1.mono hg, h7.2.mono hg⟩
    | row cs e ro =>
      have hkk := hk ⟨_, rfl, by simp⟩
      cases ro with
      | true =>
        refine ⟨⟨Nat.lt_of_lt_of_le hb.1.1 hsz, hb.1.2⟩, fun i v hi => ?_⟩
        obtain ⟨u, hu, hvu⟩ := hb.2 i v hi
        refine ⟨u, ?_, hvu.mono hg⟩
        rw [← hu]
        simp only [World.cell?, hkk]
      | false =>
        obtain ⟨cur, fz, hc, hth, ht, m, hm, hv⟩ := hb
        exact ⟨cur, fz, hkk.trans hc, hth, ht, m, hm, hv.mono hg⟩

structure Sim (ρ : Rho) (h : Heap) (w : World) : Prop where
  blk : ∀ A L, ρ A = some L → BlkR ρ w L (h.get A)
  inj : ∀ A A' L L', ρ A = some L → ρ A' = some L' → A ≠ A' → L.b = L'.b → ¬ live h A ∨ ¬ live h A' ∨ (isRo h A ∧ isRo h A')

theorem Sim.lt {ρ : Rho} {h : Heap} {w : World} (hs : Sim ρ h w) {A : Nat} {L : Loc} (hA : ρ A = some L) : L.b < w.heap.size := by
  have hb := hs.blk A L hA
  cases hg : h.get A with
  | none => rw [hg] at hb; exact hb
  | some b =>
    rw [hg] at hb
    cases b with
    | dead => exact hb
    | map es clock =>
      obtain ⟨ces, hc, _⟩ := hb
      exact (Array.getElem?_eq_some_iff.1 hc).1
    | loop env ps assign body st pend =>
      obtain ⟨l, hc, _⟩ := hb
      exact (Array.getElem?_eq_some_iff.1 hc).1
    | row cs e ro =>
      cases ro with
      | true => exact hb.1.1
      | false =>
        obtain ⟨cur, fz, hc, _⟩ := hb
        exact (Array.getElem?_eq_some_iff.1 hc).1

/-- The blocks that a step makes are not named yet. -/
def Free (ρ : Rho) (h h' : Heap) : Prop := ∀ A, h.size ≤ A → A < h'.size → ρ A = none

/-- What a step of the two machines keeps. -/
structure Fr (ρ ρ' : Rho) (h h' : Heap) (w w' : World) : Prop where
  grow : ∀ A L, ρ A = some L → ρ' A = some L
  fresh : ∀ A L, ρ' A = some L → ρ A = none → h.size ≤ A ∧ A < h'.size ∧ (w.heap.size ≤ L.b ∨ ∃ A0 L0, ρ A0 = some L0 ∧ L0.b = L.b ∧ h'.low ≤ A0 ∧ A0 < h'.size)
  os : w'.os = w.os
  tape : w'.tape = w.tape
  output : w'.output = w.output
  size : w.heap.size ≤ w'.heap.size
  hsize : h.size ≤ h'.size
  low : h'.low ≤ h.low
  keep : ∀ b, b < w.heap.size → (∀ A L, ρ A = some L → L.b = b → A < h'.low ∨ h'.size ≤ A) → w'.heap[b]? = w.heap[b]?
  akeep : ∀ A, A < h.size → A < h'.low → h'.get A = h.get A

theorem Fr.refl (ρ : Rho) (h : Heap) (w : World) : Fr ρ ρ h h w w :=
  ⟨fun _ _ h => h, fun A L h1 h2 => (by rw [h1] at h2; cases h2), rfl, rfl, rfl, Nat.le_refl _, Nat.le_refl _, Nat.le_refl _, fun _ _ _ => rfl, fun _ _ _ => rfl⟩

theorem Fr.trans {ρ ρ' ρ'' : Rho} {h h' h'' : Heap} {w w' w'' : World} (f : Fr ρ ρ' h h' w w') (g : Fr ρ' ρ'' h' h'' w' w'') : Fr ρ ρ'' h h'' w w'' := by
  refine ⟨fun A L hA => g.grow A L (f.grow A L hA), ?_, g.os.trans f.os, g.tape.trans f.tape, g.output.trans f.output, Nat.le_trans f.size g.size, Nat.le_trans f.hsize g.hsize, Nat.le_trans g.low f.low, ?_, ?_⟩
  · intro A L hA hn
    cases hρ : ρ' A with
    | some L1 =>
      have e : L1 = L := by have := g.grow A L1 hρ; rw [hA] at this; exact (Option.some.inj this).symm
      subst e
      obtain ⟨h1, h1', h2⟩ := f.fresh A L1 hρ hn
      refine ⟨h1, Nat.lt_of_lt_of_le h1' g.hsize, ?_⟩
      rcases h2 with h2 | ⟨A0, L0, h0, he, hl, hl'⟩
      · exact .inl h2
      · exact .inr ⟨A0, L0, h0, he, Nat.le_trans g.low hl, Nat.lt_of_lt_of_le hl' g.hsize⟩
    | none =>
      obtain ⟨h1, h1', h2⟩ := g.fresh A L hA hρ
      refine ⟨Nat.le_trans f.hsize h1, h1', ?_⟩
      rcases h2 with h2 | ⟨A0, L0, h0, he, hl, hl'⟩
      · exact .inl (Nat.le_trans f.size h2)
      · cases hρ0 : ρ A0 with
        | some L1 =>
          have e : L1 = L0 := by have := f.grow A0 L1 hρ0; rw [h0] at this; exact (Option.some.inj this).symm
          subst e
          exact .inr ⟨A0, L1, hρ0, he, hl, hl'⟩
        | none =>
          rcases (f.fresh A0 L0 h0 hρ0).2.2 with h3 | ⟨A1, L1, h3, he3, hl3, hl3'⟩
          · exact .inl (by omega)
          · exact .inr ⟨A1, L1, h3, he3.trans he, Nat.le_trans g.low hl3, Nat.lt_of_lt_of_le hl3' g.hsize⟩
  · intro b hb hall
    have hall' : ∀ A L, ρ A = some L → L.b = b → A < h'.low ∨ h'.size ≤ A := fun A L hA hL => by
      have h1 := hall A L hA hL
      have h2 := g.low
      have h3 := g.hsize
      omega
    rw [g.keep b (Nat.lt_of_lt_of_le hb f.size) ?_, f.keep b hb hall']
    intro A L hA hL
    cases hρ : ρ A with
    | some L0 =>
      have e : L0 = L := by have := f.grow A L0 hρ; rw [hA] at this; exact (Option.some.inj this).symm
      subst e
      exact hall A L0 hρ hL
    | none =>
      rcases (f.fresh A L hA hρ).2.2 with h1 | ⟨A0, L0, h0, he, hl, hl'⟩
      · omega
      · have h1 := hall A0 L0 h0 (he.trans hL)
        have h2 := g.low
        have h3 := g.hsize
        omega
  · intro A hA hl
    rw [g.akeep A (Nat.lt_of_lt_of_le hA f.hsize) hl, f.akeep A hA (Nat.lt_of_lt_of_le hl g.low)]

theorem Free.left {ρ : Rho} {h h1 h2 : Heap} (hf : Free ρ h h2) (hle : h1.size ≤ h2.size) : Free ρ h h1 := fun A h3 h4 => hf A h3 (Nat.lt_of_lt_of_le h4 hle)
theorem Free.right {ρ ρ' : Rho} {h h1 h2 : Heap} {w w' : World} (hf : Free ρ h h2) (fr : Fr ρ ρ' h h1 w w') : Free ρ' h1 h2 := by
  intro A h3 h4
  cases hA : ρ' A with
  | none => rfl
  | some L =>
    have hn := hf A (Nat.le_trans fr.hsize h3) h4
    have := (fr.fresh A L hA hn).2.1
    omega

#print axioms Fr.trans
end Go.Am

/- Walks: maps of atoms. No condition. -/
import Derived.Test.YtompindebndddaaG16
import Derived.Test.YtompindebndddaaGOv
namespace Go.Am
set_option linter.unusedVariables false
set_option linter.unusedSimpArgs false
section
variable {P : Program} {T : Tab} {ov : Ov} {d : Option Tmp} {ty : TypeId} {pos : String} {af : Array Edge} {g : Option (Nat × Bool)} {e : Env} {h : Heap} {K : Value → Heap → Prop}
theorem w_makeMap (t : TypeId) : WOp P T ov ⟨d, .makeMap t none, ty, pos, af, g⟩ e h K = K (.map (some h.size)) (h.push (.map [] 0)) := rfl
theorem w_lookup (t : TypeId) (x k : Operand) (ok : Bool) : WOp P T ov ⟨d, .lookup t x k ok, ty, pos, af, g⟩ e h K = valE (lookupA T t (evalOperand e x) (evalOperand e k) ok h) h K := by rw [← optE_map]; rfl
theorem w_mapUpdate (t : TypeId) (m k x : Operand) : WOp P T ov ⟨d, .mapUpdate t m k x, ty, pos, af, g⟩ e h K = memE (updateA T t (evalOperand e m) (evalOperand e k) (evalOperand e x) h) K := by
  show optE ((updateA T t (evalOperand e m) (evalOperand e k) (evalOperand e x) h).map fun h' => (undef, h')) K = _
  cases updateA T t (evalOperand e m) (evalOperand e k) (evalOperand e x) h <;> rfl
end
def MapA (h : Heap) (A : Nat) (met : List AtomD) : Prop := ∃ es clock, ∃ ks : List AtomD, Holds h A (.map es clock) ∧ es.map (fun x : MapEntry => x.key) = ks.map AtomD.val ∧ (∀ a, a ∈ ks ↔ a ∈ met) ∧ ∀ x ∈ es, x.val = .agg ⟨[]⟩
theorem plain_atom (a : AtomD) : plain a.val = true := rfl
theorem is_key {T : Tab} {kt : TypeId} (a : AtomD) (heq : ∀ x y : AtomD, eqIn T 20 kt x.val y.val = some (decide (x = y))) : isKey T kt a.val = true := by
  unfold isKey
  rw [plain_atom, heq]
  simp
section
variable {T : Tab} {t kt et : TypeId} {A : Nat} {met : List AtomD} {a : AtomD} {h1 : Heap} {bs : List Blk} {w : Nat} {K : Value → Heap → Prop} {z : Value}
theorem MapA.over (m : MapA h1 A met) {h2 : Heap} (x : Ext (h1.lay bs w) h2) : MapA h2 A met := by
  obtain ⟨es, cl, ks, m1, m2, m3⟩ := m
  exact ⟨es, cl, ks, m1.over x, m2, m3⟩
theorem MapA.ext (m : MapA h1 A met) {h2 : Heap} (x : Ext h1 h2) : MapA h2 A met := by
  obtain ⟨es, cl, ks, m1, m2, m3⟩ := m
  exact ⟨es, cl, ks, ⟨Nat.lt_of_lt_of_le m1.lt x.size, (x.get A m1.lt).trans m1.get⟩, m2, m3⟩
theorem MapA.top {h2 : Heap} {i : Nat} (x : Ext (h1.lay bs w) h2) (hi : bs[i]? = some (.map [] 0)) : MapA h2 (h1.size + i) [] := ⟨[], 0, [], Holds.top x hi, rfl, fun _ => Iff.rfl, fun _ hx => by simp at hx⟩
end
theorem sl_cells {α : Type} {r : Rep α} {h : Heap} {v : Value} {l : List α} (f : Sl r h v l) : v.cells.toList = [v] := by
  rcases f with ⟨rfl, _⟩ | ⟨A, o, c, row, u, ro, rfl, _⟩ <;> rfl
end Go.Am
namespace Go.Am
set_option linter.unusedVariables false
def saysB : List UInt8 := [32, 115, 97, 121, 115, 32]
def commaB : List UInt8 := [44, 32]
def namesL (a : AtomD) : List (List UInt8) := a.args.map fun t => t.s.data.toList
def textL (a : AtomD) : List UInt8 := a.says.data.toList ++ saysB ++ a.pred.data.toList ++ (if a.args = [] then [] else [40] ++ Lib.join (namesL a) commaB ++ [41])
def cmpD (a b : AtomD) : Int := Lib.compareBytes (textL a) (textL b)
theorem ba_app (a b : ByteArray) : (a ++ b).data.toList = a.data.toList ++ b.data.toList := by
  rw [ByteArray.data_append, Array.toList_append]
theorem bsz2 (x : ByteArray) : x.data.toList.length = x.size := by rw [Array.length_toList]; rfl
theorem strs_sl {row : List Value} : ∀ (xs : List ByteArray) (o : Nat), (∀ (i : Nat) (x : ByteArray), xs[i]? = some x → cut row (o + i) 1 = some [.string x]) → cut row o xs.length = some (xs.map Value.string) ∨ xs = []
  | [], o, h => .inr rfl
  | x :: xs, o, h => by
    left
    have h0 := h 0 x rfl
    rw [Nat.add_zero] at h0
    have hr := strs_sl xs (o + 1) (fun i y hy => by
      have := h (i + 1) y hy
      rwa [show o + (i + 1) = o + 1 + i by omega] at this)
    unfold cut at h0 hr ⊢
    split at h0
    · rename_i hle
      simp only [Option.some.injEq] at h0
      rcases hr with hr | rfl
      · split at hr
        · rename_i hle2
          simp only [Option.some.injEq] at hr
          rw [if_pos (by simp only [List.length_cons]; omega)]
          simp only [List.length_cons, List.map_cons, Option.some.injEq]
          have e1 : (row.drop o).take (xs.length + 1) = (row.drop o).take 1 ++ ((row.drop o).drop 1).take xs.length := by
            rw [Nat.add_comm, List.take_add]
          rw [e1, h0, List.drop_drop, hr]
          rfl
        · cases hr
      · rw [if_pos (by simp only [List.length_cons, List.length_nil]; omega)]
        simp only [List.length_cons, List.length_nil, List.map_cons, List.map_nil]
        rw [h0]
    · cases h0
theorem strs_map (xs : List ByteArray) : strs (xs.map Value.string) = some xs := by
  induction xs with
  | nil => rfl
  | cons x xs ih => simp only [List.map_cons, strs, ih, Option.map_some]
theorem join_sl {h : Heap} {v : Value} {xs : List ByteArray} {sep : ByteArray} (f : Sl Rep.str h v xs) (hne : xs ≠ []) (hl : xs.length ≤ 1000) (hj : (Lib.join (xs.map (·.data.toList)) sep.data.toList).length ≤ 100000) :
    joinA [v, .string sep] h = some (.string ⟨(Lib.join (xs.map (·.data.toList)) sep.data.toList).toArray⟩, h) := by
  rcases f with ⟨_, e⟩ | ⟨A, o, c, row, u, ro, rfl, _, _, _, hg, hel⟩
  · exact absurd e hne
  · have hpos : xs.length ≠ 0 := fun e => hne (List.length_eq_zero_iff.1 e)
    have hc : cut row o xs.length = some (xs.map Value.string) := by
      rcases strs_sl (row := row) xs o (fun i x hx => by
        obtain ⟨cs, g1, g2⟩ := hel i x hx
        have g2' : cs = [.string x] := g2
        rw [g2'] at g1
        have g1' : cut row (o + i * 1) 1 = some [.string x] := g1
        rwa [Nat.mul_one] at g1') with h1 | h1
      · exact h1
      · exact absurd h1 hne
    unfold joinA
    simp only [hpos, if_false, cellsAt, hg, hc, Option.bind_some, strs_map]
    rw [if_pos ⟨by omega, by omega⟩]
theorem inc_chg {a b d : Heap} {A : Nat} (i : Inc a b) (c : Chg A b d) (hA : a.size ≤ A) : Inc a d := ⟨Nat.le_trans i.size c.size, fun B hB hd => (c.get B (Nat.lt_of_lt_of_le hB i.size) (by omega)).trans (i.get B hB hd)⟩
theorem text_none {a : AtomD} (h : a.args.length = 0) : textL a = a.says.data.toList ++ saysB ++ a.pred.data.toList := by
  have : a.args = [] := List.length_eq_zero_iff.1 h
  unfold textL
  rw [if_pos this, List.append_nil]
theorem ba_mk {s : ByteArray} {l : List UInt8} (h : s.data.toList = l) : s = ⟨l.toArray⟩ := by
  apply ba_ext
  rw [h]
theorem join_len : ∀ (l : List (List UInt8)) (m : Nat), (∀ x ∈ l, x.length ≤ m) → (Lib.join l commaB).length ≤ l.length * (m + 2)
  | [], m, _ => by simp [Lib.join]
  | [x], m, h => by
    rw [Lib.join_one]
    have := h x (by simp)
    simp
    omega
  | x :: y :: l, m, h => by
    have e : (Lib.join (x :: y :: l) commaB).length = x.length + commaB.length + (Lib.join (y :: l) commaB).length := by simp [Lib.join, List.intercalate]; omega
    have h1 := join_len (y :: l) m (fun z hz => h z (by simp only [List.mem_cons] at hz ⊢; exact .inr hz))
    have h2 := h x (by simp)
    have h3 : commaB.length = 2 := rfl
    rw [e]
    simp only [List.length_cons, Nat.succ_mul] at h1 ⊢
    omega
theorem light_args {a : AtomD} (h : a.light = true) : ∀ t ∈ a.args, t.s.size ≤ 300 := by
  intro t ht
  have h1 := List.mem_of_mem_take ht
  simp only [List.mem_cons, List.not_mem_nil, or_false] at h1
  rcases h1 with rfl | rfl | rfl | rfl
  · exact light_arg h 0
  · exact light_arg h 1
  · exact light_arg h 2
  · exact light_arg h 3
theorem join_light {a : AtomD} (h : a.light = true) : (Lib.join (namesL a) commaB).length ≤ 1300 := by
  have h1 := join_len (namesL a) 300 (fun x hx => by
    unfold namesL at hx
    obtain ⟨t, ht, rfl⟩ := List.mem_map.1 hx
    rw [bsz2]
    exact light_args h t ht)
  have h2 : (namesL a).length ≤ 4 := by
    unfold namesL
    rw [List.length_map, args_length]
    unfold AtomD.cnt
    omega
  have h3 : (namesL a).length * (300 + 2) ≤ 4 * 302 := Nat.mul_le_mul_right _ h2
  omega
theorem text_some {a : AtomD} (h : ¬ a.args.length = 0) : textL a = a.says.data.toList ++ saysB ++ a.pred.data.toList ++ [40] ++ Lib.join (namesL a) commaB ++ [41] := by
  have : a.args ≠ [] := fun e => h (by rw [e]; rfl)
  unfold textL
  rw [if_neg this]
  simp only [List.append_assoc]
end Go.Am

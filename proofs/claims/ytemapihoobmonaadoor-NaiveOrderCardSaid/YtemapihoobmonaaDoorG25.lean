/- The code of some functions, node by node, for simp. Written by a program (mkcode.py). No condition. -/
import Derived.Test.YtemapihoobmonaaDoorG18
import Derived.Test.YtemapihoobmonaaDoorG15
import Derived.KernelRfl
import Derived.Test.YtemapihoobmonaaDoorGMapx
import Derived.Test.YtemapihoobmonaaDoorGOv
namespace Go.Proofs.YtemapihoobmonaaDoor
open Go.Am
set_option linter.unusedVariables false
set_option linter.unusedSimpArgs false
set_option maxRecDepth 100000
set_option maxHeartbeats 0
noncomputable def N65 := nodeF Tryd.f65
noncomputable def x65 := PLift.up (by have c := factsOf N65 Tryd.f65; simp only [codeOf, Tryd.f65, Option.getD_some, factsF, opsF, opsX, ncount, wantG, dstL, quietS, List.append_eq, List.cons_append, List.nil_append, seval] at c; exact nd c <| @fi65)
theorem c65 : type_of% x65.down := x65.down
noncomputable def N81 := nodeF Tryd.f81
noncomputable def x81 := PLift.up (by have c := factsOf N81 Tryd.f81; simp only [codeOf, Tryd.f81, Option.getD_some, factsF, opsF, opsX, ncount, wantG, dstL, quietS, List.append_eq, List.cons_append, List.nil_append, seval] at c; exact nd c <| @fi81)
theorem c81 : type_of% x81.down := x81.down
noncomputable def N78 := nodeF Tryd.f78
noncomputable def x78 := PLift.up (by have c := factsOf N78 Tryd.f78; simp only [codeOf, Tryd.f78, Option.getD_some, factsF, opsF, opsX, ncount, wantG, dstL, quietS, List.append_eq, List.cons_append, List.nil_append, seval] at c; exact nd c <| @fi78)
theorem c78 : type_of% x78.down := x78.down
noncomputable def N66 := nodeF Tryd.f66
noncomputable def x66 := PLift.up (by have c := factsOf N66 Tryd.f66; simp only [codeOf, Tryd.f66, Option.getD_some, factsF, opsF, opsX, ncount, wantG, dstL, quietS, List.append_eq, List.cons_append, List.nil_append, seval] at c; exact nd c <| @fi66)
theorem c66 : type_of% x66.down := x66.down
noncomputable def N64 := nodeF Tryd.f64
noncomputable def x64 := PLift.up (by have c := factsOf N64 Tryd.f64; simp only [codeOf, Tryd.f64, Option.getD_some, factsF, opsF, opsX, ncount, wantG, dstL, quietS, List.append_eq, List.cons_append, List.nil_append, seval] at c; exact nd c <| nd @ln9 <| @fi64)
theorem c64 : type_of% x64.down := x64.down
noncomputable def N80 := nodeF Tryd.f80
noncomputable def x80 := PLift.up (by have c := factsOf N80 Tryd.f80; simp only [codeOf, Tryd.f80, Option.getD_some, factsF, opsF, opsX, ncount, wantG, dstL, quietS, List.append_eq, List.cons_append, List.nil_append, seval] at c; exact nd c <| @fi80)
theorem c80 : type_of% x80.down := x80.down
noncomputable def N67 := nodeF Tryd.f67
noncomputable def x67 := PLift.up (by have c := factsOf N67 Tryd.f67; simp only [codeOf, Tryd.f67, Option.getD_some, factsF, opsF, opsX, ncount, wantG, dstL, quietS, List.append_eq, List.cons_append, List.nil_append, seval] at c; exact nd c <| @fi67)
theorem c67 : type_of% x67.down := x67.down
noncomputable def N45 := nodeF Tryd.f45
noncomputable def x45 := PLift.up (by have c := factsOf N45 Tryd.f45; simp only [codeOf, Tryd.f45, Option.getD_some, factsF, opsF, opsX, ncount, wantG, dstL, quietS, List.append_eq, List.cons_append, List.nil_append, seval] at c; exact nd c <| @fi45)
theorem c45 : type_of% x45.down := x45.down
noncomputable def N46 := nodeF Tryd.f46
noncomputable def x46 := PLift.up (by have c := factsOf N46 Tryd.f46; simp only [codeOf, Tryd.f46, Option.getD_some, factsF, opsF, opsX, ncount, wantG, dstL, quietS, List.append_eq, List.cons_append, List.nil_append, seval] at c; exact nd c <| @fi46)
theorem c46 : type_of% x46.down := x46.down
noncomputable def N70 := nodeF Tryd.f70
noncomputable def x70 := PLift.up (by have c := factsOf N70 Tryd.f70; simp only [codeOf, Tryd.f70, Option.getD_some, factsF, opsF, opsX, ncount, wantG, dstL, quietS, List.append_eq, List.cons_append, List.nil_append, seval] at c; exact nd c <| @fi70)
theorem c70 : type_of% x70.down := x70.down
noncomputable def N83 := nodeF Tryd.f83
noncomputable def x83 := PLift.up (by have c := factsOf N83 Tryd.f83; simp only [codeOf, Tryd.f83, Option.getD_some, factsF, opsF, opsX, ncount, wantG, dstL, quietS, List.append_eq, List.cons_append, List.nil_append, seval] at c; exact nd c <| @fi83)
theorem c83 : type_of% x83.down := x83.down
noncomputable def N69 := nodeF Tryd.f69
noncomputable def x69 := PLift.up (by have c := factsOf N69 Tryd.f69; simp only [codeOf, Tryd.f69, Option.getD_some, factsF, opsF, opsX, ncount, wantG, dstL, quietS, List.append_eq, List.cons_append, List.nil_append, seval] at c; exact nd c <| @fi69)
theorem c69 : type_of% x69.down := x69.down
noncomputable def N82 := nodeF Tryd.f82
noncomputable def x82 := PLift.up (by have c := factsOf N82 Tryd.f82; simp only [codeOf, Tryd.f82, Option.getD_some, factsF, opsF, opsX, ncount, wantG, dstL, quietS, List.append_eq, List.cons_append, List.nil_append, seval] at c; exact nd c <| @fi82)
theorem c82 : type_of% x82.down := x82.down
noncomputable def N79 := nodeF Tryd.f79
noncomputable def x79 := PLift.up (by have c := factsOf N79 Tryd.f79; simp only [codeOf, Tryd.f79, Option.getD_some, factsF, opsF, opsX, ncount, wantG, dstL, quietS, List.append_eq, List.cons_append, List.nil_append, seval] at c; exact nd c <| @fi79)
theorem c79 : type_of% x79.down := x79.down
noncomputable def N87 := nodeF Tryd.f87
noncomputable def x87 := PLift.up (by have c := factsOf N87 Tryd.f87; simp only [codeOf, Tryd.f87, Option.getD_some, factsF, opsF, opsX, ncount, wantG, dstL, quietS, List.append_eq, List.cons_append, List.nil_append, seval] at c; exact nd c <| nd @ix84 <| nd @ld9 <| nd @ln84 <| @fi87)
theorem c87 : type_of% x87.down := x87.down
noncomputable def N50 := nodeF Tryd.f50
noncomputable def x50 := PLift.up (by have c := factsOf N50 Tryd.f50; simp only [codeOf, Tryd.f50, Option.getD_some, factsF, opsF, opsX, ncount, wantG, dstL, quietS, List.append_eq, List.cons_append, List.nil_append, seval] at c; exact nd c <| nd @fa33_0 <| nd @fa33_1 <| nd @ld4 <| nd @ld9 <| @fi50)
theorem c50 : type_of% x50.down := x50.down
noncomputable def N33 := nodeF Tryd.f33
noncomputable def x33 := PLift.up (by have c := factsOf N33 Tryd.f33; simp only [codeOf, Tryd.f33, Option.getD_some, factsF, opsF, opsX, ncount, wantG, dstL, quietS, List.append_eq, List.cons_append, List.nil_append, seval] at c; exact nd c <| nd @al33 <| nd @fa36_0 <| nd @fa36_1 <| nd @fa36_2 <| nd @fa36_3 <| nd @ix79 <| nd @ld3 <| nd @ld33 <| nd @ld36 <| nd @ld9 <| nd @ln79 <| @fi33)
theorem c33 : type_of% x33.down := x33.down
noncomputable def N49 := nodeF Tryd.f49
noncomputable def x49 := PLift.up (by have c := factsOf N49 Tryd.f49; simp only [codeOf, Tryd.f49, Option.getD_some, factsF, opsF, opsX, ncount, wantG, dstL, quietS, List.append_eq, List.cons_append, List.nil_append, seval] at c; exact nd c <| nd @ld33 <| @fi49)
theorem c49 : type_of% x49.down := x49.down
noncomputable def N52 := nodeF Tryd.f52
noncomputable def x52 := PLift.up (by have c := factsOf N52 Tryd.f52; simp only [codeOf, Tryd.f52, Option.getD_some, factsF, opsF, opsX, ncount, wantG, dstL, quietS, List.append_eq, List.cons_append, List.nil_append, seval] at c; exact nd c <| nd @ld36 <| @fi52)
theorem c52 : type_of% x52.down := x52.down
noncomputable def N71 := nodeF Tryd.f71
noncomputable def x71 := PLift.up (by have c := factsOf N71 Tryd.f71; simp only [codeOf, Tryd.f71, Option.getD_some, factsF, opsF, opsX, ncount, wantG, dstL, quietS, List.append_eq, List.cons_append, List.nil_append, seval] at c; exact nd c <| nd @al33 <| nd @bs84 <| nd @fa33_0 <| nd @fa33_1 <| nd @ix79 <| nd @ld33 <| nd @ld36 <| nd @ld4 <| nd @ld9 <| nd @ln79 <| @fi71)
theorem c71 : type_of% x71.down := x71.down
end Go.Proofs.YtemapihoobmonaaDoor
namespace Go.Am
set_option linter.unusedVariables false
def saysB : List UInt8 := [32, 115, 97, 121, 115, 32]
def commaB : List UInt8 := [44, 32]
def namesL (a : AtomD) : List (List UInt8) := a.args.map fun t => t.s.data.toList
def textL (a : AtomD) : List UInt8 := a.says.data.toList ++ saysB ++ a.pred.data.toList ++ (if a.args = [] then [] else [40] ++ Lib.join (namesL a) commaB ++ [41])
def cmpD (a b : AtomD) : Int := Lib.compareBytes (textL a) (textL b)
theorem ba_app (a b : ByteArray) : (a ++ b).data.toList = a.data.toList ++ b.data.toList := by
  rw [ByteArray.data_append, Array.toList_append]
theorem bsz2 (x : ByteArray) : x.data.toList.length = x.size := by rw [Array.length_toList]; rfl
theorem strs_sl {row : List Value} : ∀ (xs : List ByteArray) (o : Nat), (∀ (i : Nat) (x : ByteArray), xs[i]? = some x → cut row (o + i) 1 = some [.string x]) → cut row o xs.length = some (xs.map Value.string) ∨ xs = []
  | [], o, h => .inr rfl
  | x :: xs, o, h => by
    left
    have h0 := h 0 x rfl
    rw [Nat.add_zero] at h0
    have hr := strs_sl xs (o + 1) (fun i y hy => by
      have := h (i + 1) y hy
      rwa [show o + (i + 1) = o + 1 + i by omega] at this)
    unfold cut at h0 hr ⊢
    split at h0
    · rename_i hle
      simp only [Option.some.injEq] at h0
      rcases hr with hr | rfl
      · split at hr
        · rename_i hle2
          simp only [Option.some.injEq] at hr
          rw [if_pos (by simp only [List.length_cons]; omega)]
          simp only [List.length_cons, List.map_cons, Option.some.injEq]
          have e1 : (row.drop o).take (xs.length + 1) = (row.drop o).take 1 ++ ((row.drop o).drop 1).take xs.length := by
            rw [Nat.add_comm, List.take_add]
          rw [e1, h0, List.drop_drop, hr]
          rfl
        · cases hr
      · rw [if_pos (by simp only [List.length_cons, List.length_nil]; omega)]
        simp only [List.length_cons, List.length_nil, List.map_cons, List.map_nil]
        rw [h0]
    · cases h0
theorem strs_map (xs : List ByteArray) : strs (xs.map Value.string) = some xs := by
  induction xs with
  | nil => rfl
  | cons x xs ih => simp only [List.map_cons, strs, ih, Option.map_some]
theorem join_sl {h : Heap} {v : Value} {xs : List ByteArray} {sep : ByteArray} (f : Sl Rep.str h v xs) (hne : xs ≠ []) (hl : xs.length ≤ 1000) (hj : (Lib.join (xs.map (·.data.toList)) sep.data.toList).length ≤ 100000) :
    joinA [v, .string sep] h = some (.string ⟨(Lib.join (xs.map (·.data.toList)) sep.data.toList).toArray⟩, h) := by
  rcases f with ⟨_, e⟩ | ⟨A, o, c, row, u, ro, rfl, _, _, _, hg, hel⟩
  · exact absurd e hne
  · have hpos : xs.length ≠ 0 := fun e => hne (List.length_eq_zero_iff.1 e)
    have hc : cut row o xs.length = some (xs.map Value.string) := by
      rcases strs_sl (row := row) xs o (fun i x hx => by
        obtain ⟨cs, g1, g2⟩ := hel i x hx
        have g2' : cs = [.string x] := g2
        rw [g2'] at g1
        have g1' : cut row (o + i * 1) 1 = some [.string x] := g1
        rwa [Nat.mul_one] at g1') with h1 | h1
      · exact h1
      · exact absurd h1 hne
    unfold joinA
    simp only [hpos, if_false, cellsAt, hg, hc, Option.bind_some, strs_map]
    rw [if_pos ⟨by omega, by omega⟩]
theorem inc_chg {a b d : Heap} {A : Nat} (i : Inc a b) (c : Chg A b d) (hA : a.size ≤ A) : Inc a d := ⟨Nat.le_trans i.size c.size, fun B hB hd => (c.get B (Nat.lt_of_lt_of_le hB i.size) (by omega)).trans (i.get B hB hd)⟩
theorem text_none {a : AtomD} (h : a.args.length = 0) : textL a = a.says.data.toList ++ saysB ++ a.pred.data.toList := by
  have : a.args = [] := List.length_eq_zero_iff.1 h
  unfold textL
  rw [if_pos this, List.append_nil]
theorem ba_mk {s : ByteArray} {l : List UInt8} (h : s.data.toList = l) : s = ⟨l.toArray⟩ := by
  apply ba_ext
  rw [h]
theorem join_len : ∀ (l : List (List UInt8)) (m : Nat), (∀ x ∈ l, x.length ≤ m) → (Lib.join l commaB).length ≤ l.length * (m + 2)
  | [], m, _ => by simp [Lib.join]
  | [x], m, h => by
    rw [Lib.join_one]
    have := h x (by simp)
    simp
    omega
  | x :: y :: l, m, h => by
    have e : (Lib.join (x :: y :: l) commaB).length = x.length + commaB.length + (Lib.join (y :: l) commaB).length := by simp [Lib.join, List.intercalate]; omega
    have h1 := join_len (y :: l) m (fun z hz => h z (by simp only [List.mem_cons] at hz ⊢; exact .inr hz))
    have h2 := h x (by simp)
    have h3 : commaB.length = 2 := rfl
    rw [e]
    simp only [List.length_cons, Nat.succ_mul] at h1 ⊢
    omega
theorem light_args {a : AtomD} (h : a.light = true) : ∀ t ∈ a.args, t.s.size ≤ 300 := by
  intro t ht
  have h1 := List.mem_of_mem_take ht
  simp only [List.mem_cons, List.not_mem_nil, or_false] at h1
  rcases h1 with rfl | rfl | rfl | rfl
  · exact light_arg h 0
  · exact light_arg h 1
  · exact light_arg h 2
  · exact light_arg h 3
theorem join_light {a : AtomD} (h : a.light = true) : (Lib.join (namesL a) commaB).length ≤ 1300 := by
  have h1 := join_len (namesL a) 300 (fun x hx => by
    unfold namesL at hx
    obtain ⟨t, ht, rfl⟩ := List.mem_map.1 hx
    rw [bsz2]
    exact light_args h t ht)
  have h2 : (namesL a).length ≤ 4 := by
    unfold namesL
    rw [List.length_map, args_length]
    unfold AtomD.cnt
    omega
  have h3 : (namesL a).length * (300 + 2) ≤ 4 * 302 := Nat.mul_le_mul_right _ h2
  omega
theorem text_some {a : AtomD} (h : ¬ a.args.length = 0) : textL a = a.says.data.toList ++ saysB ++ a.pred.data.toList ++ [40] ++ Lib.join (namesL a) commaB ++ [41] := by
  have : a.args ≠ [] := fun e => h (by rw [e]; rfl)
  unfold textL
  rw [if_neg this]
  simp only [List.append_assoc]
end Go.Am

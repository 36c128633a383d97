/- The code of some functions, node by node, for simp. Written by a program (mkcode.py). No condition. -/
import Derived.Test.YtemapihoobmonaaGreatDoorG17
import Derived.Test.YtemapihoobmonaaGreatDoorG15
import Derived.KernelRfl
import Derived.Test.YtemapihoobmonaaGreatDoorG21
import Derived.Test.YtemapihoobmonaaGreatDoorGOv
namespace Go.Proofs.YtemapihoobmonaaGreatDoor
open Go.Am
set_option linter.unusedVariables false
set_option linter.unusedSimpArgs false
set_option maxRecDepth 100000
set_option maxHeartbeats 0
noncomputable def N186 := zaz Tryz.f186
noncomputable def x186 := PLift.up (by have c := zah N186 Tryz.f186; simp only [zao, Tryz.f186, Option.getD_some, zal, opsF, opsX, zag, zaA, dstL, zam, List.append_eq, List.cons_append, List.nil_append, seval] at c; exact nd c <| @zy4)
theorem c186 : type_of% x186.down := x186.down
noncomputable def N217 := zaz Tryz.f217
noncomputable def x217 := PLift.up (by have c := zah N217 Tryz.f217; simp only [zao, Tryz.f217, Option.getD_some, zal, opsF, opsX, zag, zaA, dstL, zam, List.append_eq, List.cons_append, List.nil_append, seval] at c; exact nd c <| @zzx)
theorem c217 : type_of% x217.down := x217.down
noncomputable def N215 := zaz Tryz.f215
noncomputable def x215 := PLift.up (by have c := zah N215 Tryz.f215; simp only [zao, Tryz.f215, Option.getD_some, zal, opsF, opsX, zag, zaA, dstL, zam, List.append_eq, List.cons_append, List.nil_append, seval] at c; exact nd c <| @zyF)
theorem c215 : type_of% x215.down := x215.down
noncomputable def N187 := zaz Tryz.f187
noncomputable def x187 := PLift.up (by have c := zah N187 Tryz.f187; simp only [zao, Tryz.f187, Option.getD_some, zal, opsF, opsX, zag, zaA, dstL, zam, List.append_eq, List.cons_append, List.nil_append, seval] at c; exact nd c <| @zzo)
theorem c187 : type_of% x187.down := x187.down
noncomputable def N185 := zaz Tryz.f185
noncomputable def x185 := PLift.up (by have c := zah N185 Tryz.f185; simp only [zao, Tryz.f185, Option.getD_some, zal, opsF, opsX, zag, zaA, dstL, zam, List.append_eq, List.cons_append, List.nil_append, seval] at c; exact nd c <| nd @ln9 <| @zzj)
theorem c185 : type_of% x185.down := x185.down
noncomputable def N216 := zaz Tryz.f216
noncomputable def x216 := PLift.up (by have c := zah N216 Tryz.f216; simp only [zao, Tryz.f216, Option.getD_some, zal, opsF, opsX, zag, zaA, dstL, zam, List.append_eq, List.cons_append, List.nil_append, seval] at c; exact nd c <| @zyw)
theorem c216 : type_of% x216.down := x216.down
noncomputable def N188 := zaz Tryz.f188
noncomputable def x188 := PLift.up (by have c := zah N188 Tryz.f188; simp only [zao, Tryz.f188, Option.getD_some, zal, opsF, opsX, zag, zaA, dstL, zam, List.append_eq, List.cons_append, List.nil_append, seval] at c; exact nd c <| @zzz)
theorem c188 : type_of% x188.down := x188.down
noncomputable def N159 := zaz Tryz.f159
noncomputable def x159 := PLift.up (by have c := zah N159 Tryz.f159; simp only [zao, Tryz.f159, Option.getD_some, zal, opsF, opsX, zag, zaA, dstL, zam, List.append_eq, List.cons_append, List.nil_append, seval] at c; exact nd c <| @zzH)
theorem c159 : type_of% x159.down := x159.down
noncomputable def N160 := zaz Tryz.f160
noncomputable def x160 := PLift.up (by have c := zah N160 Tryz.f160; simp only [zao, Tryz.f160, Option.getD_some, zal, opsF, opsX, zag, zaA, dstL, zam, List.append_eq, List.cons_append, List.nil_append, seval] at c; exact nd c <| @zzw)
theorem c160 : type_of% x160.down := x160.down
noncomputable def N191 := zaz Tryz.f191
noncomputable def x191 := PLift.up (by have c := zah N191 Tryz.f191; simp only [zao, Tryz.f191, Option.getD_some, zal, opsF, opsX, zag, zaA, dstL, zam, List.append_eq, List.cons_append, List.nil_append, seval] at c; exact nd c <| @zy3)
theorem c191 : type_of% x191.down := x191.down
noncomputable def N219 := zaz Tryz.f219
noncomputable def x219 := PLift.up (by have c := zah N219 Tryz.f219; simp only [zao, Tryz.f219, Option.getD_some, zal, opsF, opsX, zag, zaA, dstL, zam, List.append_eq, List.cons_append, List.nil_append, seval] at c; exact nd c <| @zzL)
theorem c219 : type_of% x219.down := x219.down
noncomputable def N190 := zaz Tryz.f190
noncomputable def x190 := PLift.up (by have c := zah N190 Tryz.f190; simp only [zao, Tryz.f190, Option.getD_some, zal, opsF, opsX, zag, zaA, dstL, zam, List.append_eq, List.cons_append, List.nil_append, seval] at c; exact nd c <| @zzB)
theorem c190 : type_of% x190.down := x190.down
noncomputable def N218 := zaz Tryz.f218
noncomputable def x218 := PLift.up (by have c := zah N218 Tryz.f218; simp only [zao, Tryz.f218, Option.getD_some, zal, opsF, opsX, zag, zaA, dstL, zam, List.append_eq, List.cons_append, List.nil_append, seval] at c; exact nd c <| @zyW)
theorem c218 : type_of% x218.down := x218.down
noncomputable def N108 := zaz Tryz.f108
noncomputable def x108 := PLift.up (by have c := zah N108 Tryz.f108; simp only [zao, Tryz.f108, Option.getD_some, zal, opsF, opsX, zag, zaA, dstL, zam, List.append_eq, List.cons_append, List.nil_append, seval] at c; exact nd c <| @zy7)
theorem c108 : type_of% x108.down := x108.down
noncomputable def N140 := zaz Tryz.f140
noncomputable def x140 := PLift.up (by have c := zah N140 Tryz.f140; simp only [zao, Tryz.f140, Option.getD_some, zal, opsF, opsX, zag, zaA, dstL, zam, List.append_eq, List.cons_append, List.nil_append, seval] at c; exact nd c <| nd @ix49 <| nd @ld9 <| nd @ln49 <| @zyz)
theorem c140 : type_of% x140.down := x140.down
noncomputable def N164 := zaz Tryz.f164
noncomputable def x164 := PLift.up (by have c := zah N164 Tryz.f164; simp only [zao, Tryz.f164, Option.getD_some, zal, opsF, opsX, zag, zaA, dstL, zam, List.append_eq, List.cons_append, List.nil_append, seval] at c; exact nd c <| nd @zem <| nd @zdr <| nd @ld4 <| nd @ld9 <| @zzQ)
theorem c164 : type_of% x164.down := x164.down
noncomputable def N125 := zaz Tryz.f125
noncomputable def x125 := PLift.up (by have c := zah N125 Tryz.f125; simp only [zao, Tryz.f125, Option.getD_some, zal, opsF, opsX, zag, zaA, dstL, zam, List.append_eq, List.cons_append, List.nil_append, seval] at c; exact nd c <| nd @al23 <| nd @zjf <| nd @zju <| nd @zgV <| nd @zee <| nd @zuu <| nd @ld23 <| nd @ld26 <| nd @ld3 <| nd @ld9 <| nd @zu0 <| @zyv)
theorem c125 : type_of% x125.down := x125.down
noncomputable def N163 := zaz Tryz.f163
noncomputable def x163 := PLift.up (by have c := zah N163 Tryz.f163; simp only [zao, Tryz.f163, Option.getD_some, zal, opsF, opsX, zag, zaA, dstL, zam, List.append_eq, List.cons_append, List.nil_append, seval] at c; exact nd c <| nd @ld23 <| @zzm)
theorem c163 : type_of% x163.down := x163.down
noncomputable def N165 := zaz Tryz.f165
noncomputable def x165 := PLift.up (by have c := zah N165 Tryz.f165; simp only [zao, Tryz.f165, Option.getD_some, zal, opsF, opsX, zag, zaA, dstL, zam, List.append_eq, List.cons_append, List.nil_append, seval] at c; exact nd c <| nd @ld26 <| @zyC)
theorem c165 : type_of% x165.down := x165.down
noncomputable def N192 := zaz Tryz.f192
noncomputable def x192 := PLift.up (by have c := zah N192 Tryz.f192; simp only [zao, Tryz.f192, Option.getD_some, zal, opsF, opsX, zag, zaA, dstL, zam, List.append_eq, List.cons_append, List.nil_append, seval] at c; exact nd c <| nd @al23 <| nd @bs49 <| nd @zem <| nd @zdr <| nd @zuu <| nd @ld23 <| nd @ld26 <| nd @ld4 <| nd @ld9 <| nd @zu0 <| @zyt)
theorem c192 : type_of% x192.down := x192.down
end Go.Proofs.YtemapihoobmonaaGreatDoor
namespace Go.Am
set_option linter.unusedVariables false
def zpH : List UInt8 := [32, 115, 97, 121, 115, 32]
def commaB : List UInt8 := [44, 32]
def za3 (a : AtomD) : List (List UInt8) := a.args.map fun t => t.s.data.toList
def zaK (a : AtomD) : List UInt8 := a.says.data.toList ++ zpH ++ a.pred.data.toList ++ (if a.args = [] then [] else [40] ++ Lib.join (za3 a) commaB ++ [41])
def cmpD (a b : AtomD) : Int := Lib.compareBytes (zaK a) (zaK b)
theorem zd7 (a b : ByteArray) : (a ++ b).data.toList = a.data.toList ++ b.data.toList := by
  rw [ByteArray.data_append, Array.toList_append]
theorem bsz2 (x : ByteArray) : x.data.toList.length = x.size := by rw [Array.length_toList]; rfl
theorem zrH {row : List Value} : ∀ (xs : List ByteArray) (o : Nat), (∀ (i : Nat) (x : ByteArray), xs[i]? = some x → cut row (o + i) 1 = some [.string x]) → cut row o xs.length = some (xs.map Value.string) ∨ xs = []
  | [], o, h => .inr rfl
  | x :: xs, o, h => by
    left
    have h0 := h 0 x rfl
    rw [Nat.add_zero] at h0
    have hr := zrH xs (o + 1) (fun i y hy => by
      have := h (i + 1) y hy
      rwa [show o + (i + 1) = o + 1 + i by omega] at this)
    unfold cut at h0 hr ⊢
    split at h0
    · rename_i hle
      simp only [Option.some.injEq] at h0
      rcases hr with hr | rfl
      · split at hr
        · rename_i hle2
          simp only [Option.some.injEq] at hr
          rw [if_pos (by simp only [List.length_cons]; omega)]
          simp only [List.length_cons, List.map_cons, Option.some.injEq]
          have e1 : (row.drop o).take (xs.length + 1) = (row.drop o).take 1 ++ ((row.drop o).drop 1).take xs.length := by
            rw [Nat.add_comm, List.take_add]
          rw [e1, h0, List.drop_drop, hr]
          rfl
        · cases hr
      · rw [if_pos (by simp only [List.length_cons, List.length_nil]; omega)]
        simp only [List.length_cons, List.length_nil, List.map_cons, List.map_nil]
        rw [h0]
    · cases h0
theorem zvf (xs : List ByteArray) : strs (xs.map Value.string) = some xs := by
  induction xs with
  | nil => rfl
  | cons x xs ih => simp only [List.map_cons, strs, ih, Option.map_some]
theorem zwJ {h : Heap} {v : Value} {xs : List ByteArray} {sep : ByteArray} (f : Sl Rep.str h v xs) (hne : xs ≠ []) (hl : xs.length ≤ 1000) (hj : (Lib.join (xs.map (·.data.toList)) sep.data.toList).length ≤ 100000) :
    znr [v, .string sep] h = some (.string ⟨(Lib.join (xs.map (·.data.toList)) sep.data.toList).toArray⟩, h) := by
  rcases f with ⟨_, e⟩ | ⟨A, o, c, row, u, ro, rfl, _, _, _, hg, hel⟩
  · exact absurd e hne
  · have hpos : xs.length ≠ 0 := fun e => hne (List.length_eq_zero_iff.1 e)
    have hc : cut row o xs.length = some (xs.map Value.string) := by
      rcases zrH (row := row) xs o (fun i x hx => by
        obtain ⟨cs, g1, g2⟩ := hel i x hx
        have g2' : cs = [.string x] := g2
        rw [g2'] at g1
        have g1' : cut row (o + i * 1) 1 = some [.string x] := g1
        rwa [Nat.mul_one] at g1') with h1 | h1
      · exact h1
      · exact absurd h1 hne
    unfold znr
    simp only [hpos, if_false, zbc, hg, hc, Option.bind_some, zvf]
    rw [if_pos ⟨by omega, by omega⟩]
theorem zxj {a b d : Heap} {A : Nat} (i : Inc a b) (c : Chg A b d) (hA : a.size ≤ A) : Inc a d := ⟨Nat.le_trans i.size c.size, fun B hB hd => (c.get B (Nat.lt_of_lt_of_le hB i.size) (by omega)).trans (i.get B hB hd)⟩
theorem zsI {a : AtomD} (h : a.args.length = 0) : zaK a = a.says.data.toList ++ zpH ++ a.pred.data.toList := by
  have : a.args = [] := List.length_eq_zero_iff.1 h
  unfold zaK
  rw [if_pos this, List.append_nil]
theorem zwx {s : ByteArray} {l : List UInt8} (h : s.data.toList = l) : s = ⟨l.toArray⟩ := by
  apply zhN
  rw [h]
theorem zpb : ∀ (l : List (List UInt8)) (m : Nat), (∀ x ∈ l, x.length ≤ m) → (Lib.join l commaB).length ≤ l.length * (m + 2)
  | [], m, _ => by simp [Lib.join]
  | [x], m, h => by
    rw [Lib.join_one]
    have := h x (by simp)
    simp
    omega
  | x :: y :: l, m, h => by
    have e : (Lib.join (x :: y :: l) commaB).length = x.length + commaB.length + (Lib.join (y :: l) commaB).length := by simp [Lib.join, List.intercalate]; omega
    have h1 := zpb (y :: l) m (fun z hz => h z (by simp only [List.mem_cons] at hz ⊢; exact .inr hz))
    have h2 := h x (by simp)
    have h3 : commaB.length = 2 := rfl
    rw [e]
    simp only [List.length_cons, Nat.succ_mul] at h1 ⊢
    omega
theorem zpT {a : AtomD} (h : a.light = true) : ∀ t ∈ a.args, t.s.size ≤ 300 := by
  intro t ht
  have h1 := List.mem_of_mem_take ht
  simp only [List.mem_cons, List.not_mem_nil, or_false] at h1
  rcases h1 with rfl | rfl | rfl | rfl
  · exact zez h 0
  · exact zez h 1
  · exact zez h 2
  · exact zez h 3
theorem zq0 {a : AtomD} (h : a.light = true) : (Lib.join (za3 a) commaB).length ≤ 1300 := by
  have h1 := zpb (za3 a) 300 (fun x hx => by
    unfold za3 at hx
    obtain ⟨t, ht, rfl⟩ := List.mem_map.1 hx
    rw [bsz2]
    exact zpT h t ht)
  have h2 : (za3 a).length ≤ 4 := by
    unfold za3
    rw [List.length_map, zbe]
    unfold AtomD.cnt
    omega
  have h3 : (za3 a).length * (300 + 2) ≤ 4 * 302 := Nat.mul_le_mul_right _ h2
  omega
theorem zrl {a : AtomD} (h : ¬ a.args.length = 0) : zaK a = a.says.data.toList ++ zpH ++ a.pred.data.toList ++ [40] ++ Lib.join (za3 a) commaB ++ [41] := by
  have : a.args ≠ [] := fun e => h (by rw [e]; rfl)
  unfold zaK
  rw [if_neg this]
  simp only [List.append_assoc]
end Go.Am

/- The code of some functions, node by node, for simp. Written by a program (mkcode.py). No condition. -/
import Derived.Test.YtemapihoobmonaaGreatDoorG23
import Derived.Test.YtemapihoobmonaaGreatDoorG26
import Derived.KernelRfl
import Derived.Test.YtemapihoobmonaaGreatDoorG25
import Derived.Test.YtemapihoobmonaaGreatDoorG18
namespace Go.Proofs.YtemapihoobmonaaGreatDoor
open Go.Am
set_option linter.unusedVariables false
set_option linter.unusedSimpArgs false
set_option maxRecDepth 100000
set_option maxHeartbeats 0
noncomputable def N147 := zaC Tryz.f147
noncomputable def x147 := PLift.up (by have c := zai N147 Tryz.f147; simp only [zaq, Tryz.f147, Option.getD_some, zao, opsF, opsX, zae, zaB, dstL, zan, List.append_eq, List.cons_append, List.nil_append, seval] at c; exact nd c <| nd @zx5 <| @zyk)
theorem c147 : type_of% x147.down := x147.down
noncomputable def N148 := zaC Tryz.f148
noncomputable def x148 := PLift.up (by have c := zai N148 Tryz.f148; simp only [zaq, Tryz.f148, Option.getD_some, zao, opsF, opsX, zae, zaB, dstL, zan, List.append_eq, List.cons_append, List.nil_append, seval] at c; exact nd c <| nd @ln9 <| @zyz)
theorem c148 : type_of% x148.down := x148.down
noncomputable def N76 := zaC Tryz.f76
noncomputable def x76 := PLift.up (by have c := zai N76 Tryz.f76; simp only [zaq, Tryz.f76, Option.getD_some, zao, opsF, opsX, zae, zaB, dstL, zan, List.append_eq, List.cons_append, List.nil_append, seval] at c; exact nd c <| nd @znj <| nd @zk5 <| nd @zh2 <| nd @ld3 <| nd @ld44 <| nd @ld9 <| nd @ln9 <| @fi76)
theorem c76 : type_of% x76.down := x76.down
noncomputable def N112 := zaC Tryz.f112
noncomputable def x112 := PLift.up (by have c := zai N112 Tryz.f112; simp only [zaq, Tryz.f112, Option.getD_some, zao, opsF, opsX, zae, zaB, dstL, zan, List.append_eq, List.cons_append, List.nil_append, seval] at c; exact nd c <| nd @znj <| nd @zk5 <| nd @zh2 <| nd @ld3 <| nd @ld44 <| nd @ld9 <| @zyd)
theorem c112 : type_of% x112.down := x112.down
noncomputable def N111 := zaC Tryz.f111
noncomputable def x111 := PLift.up (by have c := zai N111 Tryz.f111; simp only [zaq, Tryz.f111, Option.getD_some, zao, opsF, opsX, zae, zaB, dstL, zan, List.append_eq, List.cons_append, List.nil_append, seval] at c; exact nd c <| nd @znj <| nd @zk5 <| nd @zh2 <| nd @ld3 <| nd @ld44 <| nd @ld9 <| nd @ln9 <| @zyx)
theorem c111 : type_of% x111.down := x111.down
noncomputable def N77 := zaC Tryz.f77
noncomputable def x77 := PLift.up (by have c := zai N77 Tryz.f77; simp only [zaq, Tryz.f77, Option.getD_some, zao, opsF, opsX, zae, zaB, dstL, zan, List.append_eq, List.cons_append, List.nil_append, seval] at c; exact nd c <| nd @al26 <| nd @zh2 <| nd @ziF <| nd @zfn <| nd @ix24 <| nd @ld26 <| nd @ld44 <| @fi77)
theorem c77 : type_of% x77.down := x77.down
noncomputable def N72 := zaC Tryz.f72
noncomputable def x72 := PLift.up (by have c := zai N72 Tryz.f72; simp only [zaq, Tryz.f72, Option.getD_some, zao, opsF, opsX, zae, zaB, dstL, zan, List.append_eq, List.cons_append, List.nil_append, seval] at c; exact nd c <| nd @zjZ <| nd @zoO <| nd @ld26 <| nd @ld3 <| @fi72)
theorem c72 : type_of% x72.down := x72.down
noncomputable def N28 := zaC Tryz.f28
noncomputable def x28 := PLift.up (by have c := zai N28 Tryz.f28; simp only [zaq, Tryz.f28, Option.getD_some, zao, opsF, opsX, zae, zaB, dstL, zan, List.append_eq, List.cons_append, List.nil_append, seval] at c; exact nd c <| nd @al57 <| nd @zk5 <| nd @zh2 <| nd @ld3 <| nd @ld44 <| nd @ld57 <| nd @ln9 <| @fi28)
theorem c28 : type_of% x28.down := x28.down
end Go.Proofs.YtemapihoobmonaaGreatDoor
namespace Go.Am
set_option linter.unusedVariables false
set_option linter.unusedSimpArgs false
abbrev Rep.byte : Rep Nat := { k := 1, R := fun _ cs x => cs = [.int .u8 (x : Int)], len := by rintro _ _ _ rfl; rfl, mono := fun _ _ _ _ _ h => h, ones := by rintro _ _ _ rfl; rfl }
def zbj (l : List Nat) : ByteArray := ⟨(l.map UInt8.ofNat).toArray⟩
theorem zjY : ∀ l : List Nat, zio (l.map fun x : Nat => Value.int .u8 (x : Int)) = some (l.map UInt8.ofNat)
  | [] => rfl
  | x :: l => by
    show (zio (l.map fun x : Nat => Value.int .u8 (x : Int))).map (UInt8.ofNat (x : Int).toNat :: ·) = _
    rw [zjY l]
    rfl
theorem zmB {row : List Value} {l : List Nat} (hr : row.length = l.length) (h : ∀ (i : Nat) (x : Nat), l[i]? = some x → ∃ cs, cut row (i * 1) 1 = some cs ∧ cs = [.int .u8 (x : Int)]) : row = l.map fun x : Nat => Value.int .u8 (x : Int) := by
  apply List.ext_getElem?
  intro i
  by_cases hi : i < l.length
  · obtain ⟨cs, h1, rfl⟩ := h i _ (List.getElem?_eq_getElem hi)
    rw [Nat.mul_one] at h1
    unfold cut at h1
    split at h1
    · rw [List.drop_eq_getElem_cons (by omega)] at h1
      simp only [List.take_succ_cons, List.take_zero, Option.some.injEq, List.cons.injEq, and_true] at h1
      rw [List.getElem?_eq_getElem (by omega), h1, List.getElem?_map, List.getElem?_eq_getElem hi]
      rfl
    · cases h1
  · rw [List.getElem?_eq_none (by omega), List.getElem?_eq_none (by rw [List.length_map]; omega)]
theorem ztP {h0 h : Heap} {e : TypeId} {A : Nat} {v : Value} {l : List Nat} (f : Ow Rep.byte h0 h e A v l) (hl : l ≠ []) : ∃ c, v = .slice (some ⟨A, 0, none⟩) l.length c ∧ h.get A = some (.row (l.map fun x : Nat => Value.int .u8 (x : Int)) e false) := by
  rcases f with ⟨_, f, _⟩ | ⟨row, rfl, _, f0, f1, f2, f3, f4, f5⟩
  · exact absurd f hl
  · have hr := zmB (by rw [f3]; exact Nat.mul_one _) f5
    subst hr
    exact ⟨_, rfl, f2⟩
section
variable {P : Program} {T : Tab} {ov : Ov} {d : Option Tmp} {ty : TypeId} {pos : String} {af : Array Edge} {g : Option (Nat × Bool)} {e : Env} {K : Value → Heap → Prop}
theorem zwp {h0 h1 : Heap} {u s t eb : TypeId} {x : Operand} {A : Nat} {v : Value} {l : List Nat} (hs : T.desc s = some (.slice u)) (hu : T.desc u = some (.int .u8)) (ht : T.desc t = some .string) (hss : zba T s = true) (f : Ow Rep.byte h0 h1 eb A v l) (hl : l ≠ []) (hx : zab e x = v)
    (hK : K (.string (zbj l)) h1) : WOp P T ov ⟨d, .convert s t x, ty, pos, af, g⟩ e h1 K := by
  obtain ⟨c, rfl, hg⟩ := ztP f hl
  have hb : zbW T s t (.slice (some ⟨A, 0, none⟩) l.length c) h1 = some (.string (zbj l)) := by
    unfold zbW
    simp only [hs, ht, hu]
    have hc : zca (.slice (some ⟨A, 0, none⟩) l.length c) 1 h1 = some (l.map fun x : Nat => Value.int .u8 (x : Int)) := by
      have hne : l.length ≠ 0 := fun e => hl (List.length_eq_zero_iff.1 e)
      unfold zca
      simp only
      rw [if_neg (by omega)]
      unfold zaO
      rw [hg]
      simp only [cut, Nat.zero_add, Nat.mul_one, List.length_map, Nat.le_refl, if_true, List.drop_zero]
      rw [List.take_of_length_le (by rw [List.length_map]; omega)]
    rw [hc]
    simp only [Option.bind_some, zjY, Option.map_some]
    rfl
  show optE (if zba T s then (zbW T s t (zab e x) h1).map fun r => (r, h1) else if zba T t then (if zdu T s then zcE T t (zab e x) h1 else none) else zaL P e ⟨d, .convert s t x, ty, pos, af, g⟩ h1) K
  rw [hss, if_pos rfl, hx, hb]
  exact hK
end
/-! ### The bytes of a number, and of a part of a string -/
theorem zqd {l m : List Nat} (hl : ∀ x ∈ l, x < 256) (hm : ∀ x ∈ m, x < 256) : zbj l = zbj m ↔ l = m := by
  constructor
  · intro e
    have e1 : l.map UInt8.ofNat = m.map UInt8.ofNat := by
      have := congrArg ByteArray.data e
      unfold zbj at this
      exact List.toArray_inj this
    have e2 := congrArg (List.map UInt8.toNat) e1
    rw [List.map_map, List.map_map] at e2
    have e3 : ∀ l : List Nat, (∀ x ∈ l, x < 256) → l.map (UInt8.toNat ∘ UInt8.ofNat) = l := fun l h => by
      conv => rhs; rw [← List.map_id l]
      refine List.map_congr_left fun x hx => ?_
      show (UInt8.ofNat x).toNat = x
      rw [UInt8.toNat_ofNat']
      exact Nat.mod_eq_of_lt (h x hx)
    rwa [e3 l hl, e3 m hm] at e2
  · rintro rfl; rfl
theorem zqo {s : ByteArray} {k : Nat} (hk : k ≤ s.size) : s.extract 0 k = zbj (zbT s k) := by
  have h1 : (s.extract 0 k).size = (zbj (zbT s k)).size := by
    rw [ByteArray.size_extract]
    show min k s.size - 0 = ((zbT s k).map UInt8.ofNat).toArray.size
    unfold zbT
    simp
    omega
  refine ByteArray.ext_getElem h1 fun i hi hi2 => ?_
  rw [ByteArray.getElem_extract]
  have hik : i < k := by rw [ByteArray.size_extract] at hi; omega
  have e : (zbj (zbT s k))[i] = ((zbT s k).map UInt8.ofNat)[i]'(by unfold zbT; simp [hik]) := rfl
  rw [e]
  unfold zbT zay
  simp only [List.getElem_map, List.getElem_range, Nat.zero_add]
  rw [getElem?_pos s i (by omega)]
  simp
theorem zse : ∀ (n : Nat), ∀ x ∈ numB n, x < 256 := by
  intro n
  induction n using Nat.strongRecOn with
  | ind n ih =>
    intro x hx
    by_cases hn : n < 128
    · rw [za5 hn] at hx
      rw [List.mem_singleton.1 hx]
      omega
    · rw [zbL hn] at hx
      rcases List.mem_cons.1 hx with rfl | hx
      · omega
      · exact ih (n / 128) (by omega) x hx
theorem zv6 (n : Nat) : numB n ≠ [] := by
  by_cases hn : n < 128
  · rw [za5 hn]; simp
  · rw [zbL hn]; simp
theorem zxq {a : Nat} (h : a < 128) : a ||| 128 = a + 128 := by
  have := Nat.shiftLeft_add_eq_or_of_lt (i := 7) (b := a) h 1
  rw [Nat.or_comm]
  rw [show (1 : Nat) <<< 7 = 128 by decide] at this
  omega
theorem zu3 {s : ByteArray} {i : Nat} (hi : i < min s.size 5) (h : ∀ j, j < i → 128 ≤ zay s j) (hb : zay s i < 128) :
    numD s = if accN s (i + 1) > 4294967295 ∨ ¬ zbj (numB (accN s (i + 1))) = s.extract 0 (i + 1) then none else some (accN s (i + 1), i + 1) := by
  have e : (zbj (numB (accN s (i + 1))) = s.extract 0 (i + 1)) ↔ ¬ (0 < i ∧ zay s i = 0) := by
    rw [zqo (by omega), zqd (zse _) (fun x hx => ?_), zvE h hb]
    unfold zbT at hx
    obtain ⟨j, _, rfl⟩ := List.mem_map.1 hx
    exact zdp _ _
  unfold numD
  rw [ziq hi h hb]
  simp only
  by_cases h1 : accN s (i + 1) > 4294967295
  · rw [if_pos (.inl h1), if_pos (.inl h1)]
  · by_cases h2 : 0 < i ∧ zay s i = 0
    · rw [if_pos (.inr h2), if_pos (.inr (fun g => (e.1 g) h2))]
    · rw [if_neg (by rintro (g | g); exact h1 g; exact h2 g), if_neg (by rintro (g | g); exact h1 g; exact g (e.2 h2))]
def CurR (u : TypeId) (h : Heap) (C : Nat) (s : ByteArray) (st : Option Nat) : Prop := ∃ (o : Nat) (e : Int), o ≤ s.size ∧ (∀ p, st = some p → p = o ∧ e = 0) ∧ (st = none → e ≠ 0) ∧ Holds h C (.row [.string s, .int .i64 o, .int .i64 e] u false)
section
variable {u : TypeId} {h h2 : Heap} {C A : Nat} {s : ByteArray} {st : Option Nat} {bs : List Blk} {w : Nat}
theorem CurR.lay (q : CurR u h C s st) (bs : List Blk) (w : Nat) : CurR u (h.lay bs w) C s st := q.elim fun o x => x.elim fun e x => ⟨o, e, x.1, x.2.1, x.2.2.1, x.2.2.2.on bs w⟩
theorem CurR.over (q : CurR u h C s st) (x : Ext (h.lay bs w) h2) : CurR u h2 C s st := q.elim fun o y => y.elim fun e y => ⟨o, e, y.1, y.2.1, y.2.2.1, y.2.2.2.over x⟩
theorem CurR.sm (q : CurR u h C s st) (x : Sm A h h2) (hne : C ≠ A) : CurR u h2 C s st := q.elim fun o y => y.elim fun e y => ⟨o, e, y.1, y.2.1, y.2.2.1, y.2.2.2.sm x hne⟩
theorem CurR.stepL (q : CurR u h C s st) (c : Chg A (h.lay bs w) h2) (hne : C ≠ A) : CurR u h2 C s st := (q.lay bs w).sm c.sm hne
theorem CurR.lt (q : CurR u h C s st) : C < h.size := q.elim fun o y => y.elim fun e y => y.2.2.2.lt
theorem CurR.at {o : Nat} (ho : o ≤ s.size) (q : Holds h C (.row [.string s, .int .i64 o, .int .i64 0] u false)) : CurR u h C s (some o) := ⟨o, 0, ho, fun p e => ⟨(Option.some.inj e).symm, rfl⟩, nofun, q⟩
theorem CurR.bad {o : Nat} {e : Int} (ho : o ≤ s.size) (he : e ≠ 0) (q : Holds h C (.row [.string s, .int .i64 o, .int .i64 e] u false)) : CurR u h C s none := ⟨o, e, ho, nofun, fun _ => he, q⟩
theorem CurR.get_some {o : Nat} (q : CurR u h C s (some o)) : o ≤ s.size ∧ Holds h C (.row [.string s, .int .i64 o, .int .i64 0] u false) := by
  obtain ⟨o', e, h1, h2, h3, h4⟩ := q
  obtain ⟨rfl, rfl⟩ := h2 o rfl
  exact ⟨h1, h4⟩
theorem CurR.get_none (q : CurR u h C s none) : ∃ (o : Nat) (e : Int), o ≤ s.size ∧ e ≠ 0 ∧ Holds h C (.row [.string s, .int .i64 o, .int .i64 e] u false) := by
  obtain ⟨o', e, h1, h2, h3, h4⟩ := q
  exact ⟨o', e, h1, h3 rfl, h4⟩
end
def zmI (s : ByteArray) (o : Nat) : Option (Nat × Nat) := if o < s.size then some (zay s o, o + 1) else none
open Classical in
theorem zul {s : ByteArray} {k o3 : Nat} {x1 x2 : ByteArray} {r1 r2 : Option (ByteArray × Nat)} {st st1 st2 : Option Nat} (e1 : r1 = st.bind (zaW s)) (e2 : st1 = r1.map (·.2)) (e3 : r2 = st1.bind (zaW s)) (e4 : st2 = r2.map (·.2)) (e5 : some (k, o3) = st2.bind (numO s)) (f1 : x1 = (r1.map (·.1)).getD ⟨#[]⟩) (f2 : x2 = (r2.map (·.1)).getD ⟨#[]⟩) :
    st.bind (zbB s) = if k ≤ 4 then (zbE s { noAtomD with says := x1, pred := x2 } o3 k).bind fun w => if ValidX { w.1 with n := k } then some ({ w.1 with n := k }, w.2) else none else none := by
  cases st with
  | none =>
    have h1 : r1 = none := e1
    rw [h1] at e2
    have h2 : st1 = none := e2
    rw [h2] at e3
    have h3 : r2 = none := e3
    rw [h3] at e4
    have h4 : st2 = none := e4
    rw [h4] at e5
    have h5 : some (k, o3) = none := e5
    exact absurd h5 (by simp)
  | some o =>
    rw [Option.bind_some] at e1
    rw [Option.bind_some]
    exact zjL e1 e2 e3 e4 e5 f1 f2
theorem zi8 {s : ByteArray} {o : Nat} (h : ¬ o < s.size) : zbp s o = none := if_neg (fun g => h g.1)
theorem zkf {s : ByteArray} {o : Nat} (h : ¬ zay s o ≤ 1) : zbp s o = none := if_neg (fun g => h g.2)
theorem zmG {s : ByteArray} {o : Nat} (h : o < s.size) (h2 : zay s o ≤ 1) : zbp s o = some (decide (zay s o = 1), o + 1) := if_pos ⟨h, h2⟩
end Go.Am

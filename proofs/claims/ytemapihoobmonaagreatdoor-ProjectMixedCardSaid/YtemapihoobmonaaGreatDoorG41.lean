/- The code of some functions, node by node, for simp. Written by a program (mkcode.py). No condition. -/
import Derived.Test.YtemapihoobmonaaGreatDoorG24
import Derived.Test.YtemapihoobmonaaGreatDoorG28
import Derived.KernelRfl
import Derived.Test.YtemapihoobmonaaGreatDoorG18
import Derived.Test.YtemapihoobmonaaGreatDoorG16
import Derived.Test.YtemapihoobmonaaGreatDoorG21
import Derived.Lib.RowBridge
namespace Go.Proofs.YtemapihoobmonaaGreatDoor
open Go.Am
set_option linter.unusedVariables false
set_option linter.unusedSimpArgs false
set_option maxRecDepth 100000
set_option maxHeartbeats 0
noncomputable def N141 := zaB Tryz.f141
noncomputable def x141 := PLift.up (by have c := zak N141 Tryz.f141; simp only [zap, Tryz.f141, Option.getD_some, zao, opsF, opsX, zah, zaA, dstL, zam, List.append_eq, List.cons_append, List.nil_append, seval] at c; exact nd c <| nd @zwz <| nd @ld49 <| @zzG)
theorem c141 : type_of% x141.down := x141.down
noncomputable def N142 := zaB Tryz.f142
noncomputable def x142 := PLift.up (by have c := zak N142 Tryz.f142; simp only [zap, Tryz.f142, Option.getD_some, zao, opsF, opsX, zah, zaA, dstL, zam, List.append_eq, List.cons_append, List.nil_append, seval] at c; exact nd c <| nd @ix51 <| nd @zzO <| nd @ln51 <| @zzD)
theorem c142 : type_of% x142.down := x142.down
noncomputable def N143 := zaB Tryz.f143
noncomputable def x143 := PLift.up (by have c := zak N143 Tryz.f143; simp only [zap, Tryz.f143, Option.getD_some, zao, opsF, opsX, zah, zaA, dstL, zam, List.append_eq, List.cons_append, List.nil_append, seval] at c; exact nd c <| nd @zoj <| nd @ld9 <| @zz1)
theorem c143 : type_of% x143.down := x143.down
noncomputable def N109 := zaB Tryz.f109
noncomputable def x109 := PLift.up (by have c := zak N109 Tryz.f109; simp only [zap, Tryz.f109, Option.getD_some, zao, opsF, opsX, zah, zaA, dstL, zam, List.append_eq, List.cons_append, List.nil_append, seval] at c; exact nd c <| nd @bs49 <| nd @zkz <| nd @zsr <| nd @ix51 <| nd @ld49 <| nd @ld51 <| nd @ld55 <| nd @ld9 <| @zAl)
theorem c109 : type_of% x109.down := x109.down
noncomputable def N71 := zaB Tryz.f71
noncomputable def x71 := PLift.up (by have c := zak N71 Tryz.f71; simp only [zap, Tryz.f71, Option.getD_some, zao, opsF, opsX, zah, zaA, dstL, zam, List.append_eq, List.cons_append, List.nil_append, seval] at c; exact nd c <| nd @ld55 <| @fi71)
theorem c71 : type_of% x71.down := x71.down
end Go.Proofs.YtemapihoobmonaaGreatDoor
namespace Go.Am
open Go.Proofs
set_option linter.unusedVariables false
set_option linter.unusedSimpArgs false
theorem zeq {α : Type} [Inhabited α] [DecidableEq α] (d : Array α) (x : α) : ∀ m, x ∈ Lib.compactUpTo d m ↔ ∃ j, j < m ∧ d[j]! = x
  | 0 => by simp [Lib.compactUpTo]
  | m + 1 => by
    rw [Lib.compactUpTo_succ, List.mem_append, zeq d x m]
    constructor
    · rintro (⟨j, hj, e⟩ | h)
      · exact ⟨j, by omega, e⟩
      · split at h
        · rw [List.mem_singleton] at h
          exact ⟨m, by omega, h.symm⟩
        · cases h
    · rintro ⟨j, hj, e⟩
      by_cases hjm : j < m
      · exact .inl ⟨j, hjm, e⟩
      · have : j = m := by omega
        subst this
        by_cases hk : Lib.keeps d j = true
        · rw [if_pos hk]
          exact .inr (by rw [List.mem_singleton]; exact e.symm)
        · unfold Lib.keeps at hk
          rw [decide_eq_true_iff] at hk
          have h0 : j ≠ 0 := fun g => hk (.inl g)
          have h1 : d[j]! = d[j - 1]! := Classical.byContradiction fun g => hk (.inr g)
          exact .inl ⟨j - 1, by omega, by rw [← h1, e]⟩
theorem zhX {α : Type} [Inhabited α] [DecidableEq α] (zs : List α) (x : α) : x ∈ Lib.compact zs ↔ x ∈ zs := by
  unfold Lib.compact
  rw [zeq]
  constructor
  · rintro ⟨j, hj, e⟩
    rw [← e]
    have : zs.toArray[j]! = zs[j] := by simp [hj]
    rw [this]
    exact List.getElem_mem hj
  · intro h
    obtain ⟨j, hj, e⟩ := List.mem_iff_getElem.1 h
    exact ⟨j, hj, by simp [hj, e]⟩
theorem zty (xs : List ByteArray) (x : ByteArray) : x ∈ zep xs ↔ x ∈ xs := by
  unfold zep
  rw [List.mem_map]
  constructor
  · rintro ⟨l, h, rfl⟩
    rw [zhX, List.mem_map] at h
    obtain ⟨y, hy, rfl⟩ := h
    rwa [show (⟨y.data.toList.toArray⟩ : ByteArray) = y from zfv (by simp)]
  · intro h
    exact ⟨x.data.toList, by rw [zhX]; exact List.mem_map.2 ⟨x, h, rfl⟩, zfv (by simp)⟩
theorem zg5 (xs : List ByteArray) : (zep xs).length ≤ xs.length := by
  unfold zep
  rw [List.length_map]
  have := Lib.compact_length_le (xs.map (·.data.toList))
  rwa [List.length_map] at this
theorem zpH {h : Heap} {A : Nat} {e : TypeId} {v : Value} {l : List ByteArray} (f : StrRow h A e v l) (hl : l ≠ []) (hn : l.length ≤ 1000) : ∃ a n c h', zhY [v] h = some (.slice a n c, h') ∧ Sl Rep.str h' (.slice a n c) (zep l) ∧ Chg A h h' := by
  obtain ⟨c, rfl, hc, q⟩ := f
  have hne : l.length ≠ 0 := fun e => hl (List.length_eq_zero_iff.1 e)
  have hcl := zg5 l
  have hcs : (ziQ l).length = l.length := by unfold ziQ; rw [List.length_append, List.length_replicate]; omega
  have hM : (1000 : Nat) ≤ maxLen := by decide
  refine ⟨some ⟨A, 0, none⟩, (zep l).length, c, _, ?_, .inr ⟨A, 0, c, (ziQ l).map Value.string, e, false, rfl, by omega, ?_, (ziq q.lt).lt, (ziq q.lt).get, fun i x hx => ⟨[.string x], ?_, rfl⟩⟩, zsN q.lt⟩
  · unfold zhY
    simp only [if_neg hne, zm9 q, Option.bind_some, zmx]
    rw [if_pos ⟨by omega, hcl⟩, zlN q hcs]
    rfl
  · show zmc 1 _ c
    have hc' : zmc 1 l.length c := hc
    unfold zmc at hc' ⊢
    omega
  · have hi := (List.getElem?_eq_some_iff.1 hx).1
    have hx2 : (ziQ l)[i]? = some x := by
      unfold ziQ
      rw [List.getElem?_append_left hi]
      exact hx
    have hi2 := (List.getElem?_eq_some_iff.1 hx2).1
    show cut ((ziQ l).map Value.string) (0 + i * 1) 1 = _
    rw [Nat.zero_add, Nat.mul_one]
    unfold cut
    rw [if_pos (by rw [List.length_map]; omega), ← List.map_drop, ← List.map_take, List.drop_eq_getElem_cons hi2]
    simp only [List.take_succ_cons, List.take_zero, List.map_cons, List.map_nil]
    rw [(List.getElem?_eq_some_iff.1 hx2).2]
def hasB (l : List ByteArray) (x : ByteArray) : Bool := l.any (fun y => decide (y = x))
theorem zo6 {l : List ByteArray} {x : ByteArray} : hasB l x = true ↔ x ∈ l := by
  unfold hasB
  rw [List.any_eq_true]
  exact ⟨fun ⟨y, h1, h2⟩ => of_decide_eq_true h2 ▸ h1, fun h => ⟨x, h, decide_eq_true rfl⟩⟩
def zjb (d : PolicyD) (who other : ByteArray) : Bool := hasB d.principals who && (decide (who = other) || hasB (zeo d.clears who) other)
def ziK (d : PolicyD) (who : ByteArray) : List ByteArray := if hasB d.principals who = true then zep (zcS d who) else []
theorem ztv {d : PolicyD} {who : ByteArray} (h : ∀ c ∈ d.clears, c.reads.length ≤ 40) : (ziK d who).length ≤ 41 := by
  unfold ziK
  split
  · have h1 := zg5 (zcS d who)
    have h2 := zdk d who
    have h3 := zlF (who := who) h
    omega
  · simp
theorem zum (d : PolicyD) (who other : ByteArray) : hasB (ziK d who) other = zjb d who other := by
  have key : hasB (ziK d who) other = true ↔ zjb d who other = true := by
    rw [zo6]
    unfold ziK zjb
    by_cases h : hasB d.principals who = true
    · rw [if_pos h, zty, zmU, h, Bool.true_and, Bool.or_eq_true, decide_eq_true_iff, zo6]
      constructor
      · rintro (e | e)
        · exact .inl e.symm
        · exact .inr e
      · rintro (e | e)
        · exact .inl e.symm
        · exact .inr e
    · rw [if_neg h, show hasB d.principals who = false by simpa using h]
      simp
  cases h1 : hasB (ziK d who) other <;> cases h2 : zjb d who other <;> simp_all
structure PolK (h : Heap) (p0 p1 p2 p5 p6 : Value) (d : PolicyD) : Prop where
  s0 : Sl Rep.str h p0 d.principals
  s2 : Sl Rep.clear h p2 d.clears
theorem PolK.mono {h h' : Heap} {p0 p1 p2 p5 p6 : Value} {d : PolicyD} (f : PolK h p0 p1 p2 p5 p6 d) (i : Inc h h') : PolK h' p0 p1 p2 p5 p6 d := ⟨f.s0.mono i, f.s2.mono i⟩
theorem PolK.lay {h : Heap} {p0 p1 p2 p5 p6 : Value} {d : PolicyD} (f : PolK h p0 p1 p2 p5 p6 d) (bs : List Blk) (w : Nat) : PolK (h.lay bs w) p0 p1 p2 p5 p6 d := f.mono (Inc.lay h bs w)
theorem PolK.over {h1 h2 : Heap} {bs : List Blk} {w : Nat} {p0 p1 p2 p5 p6 : Value} {d : PolicyD} (f : PolK h1 p0 p1 p2 p5 p6 d) (x : Ext (h1.lay bs w) h2) : PolK h2 p0 p1 p2 p5 p6 d := f.mono x.inc.of_lay
theorem PolH.k {h : Heap} {p0 p1 p2 p5 p6 : Value} {d : PolicyD} (f : PolH h p0 p1 p2 p5 p6 d) : PolK h p0 p1 p2 p5 p6 d := ⟨f.s0, f.s2⟩
end Go.Am

/- Walks: matching; an instance of a clause Written out by fill2.py. No condition. -/
import Derived.Test.YtemapihoobmonaaGreatDoorG28
import Derived.Test.YtemapihoobmonaaGreatDoorG17
import Derived.Test.YtemapihoobmonaaGreatDoorG15
import Derived.KernelRfl
import Derived.Test.YtemapihoobmonaaGreatDoorG21
namespace Go.Proofs.YtemapihoobmonaaGreatDoor
open Go.Am
set_option linter.unusedSimpArgs false
set_option linter.unusedVariables false
set_option maxRecDepth 100000
set_option maxHeartbeats 0
theorem ziK {p g : AtomD} {l m : List BindD} {k : Nat} (h : zbY p g k l = some m) : m.length ≤ l.length + k := by
  induction k generalizing m with
  | zero => cases h; omega
  | succ k ih =>
    unfold zbY at h
    cases ho : zbY p g k l with
    | none => rw [ho] at h; cases h
    | some o =>
      rw [ho] at h
      have h1 := ih ho
      simp only [Option.bind_some] at h
      unfold zeb at h
      split at h
      · split at h
        · cases h; omega
        · cases h
      · split at h
        · split at h
          · cases h; omega
          · cases h
        · have := zgZ h
          omega
theorem zna {p g : AtomD} {l m : List BindD} (h : extD l p g = some m) : m.length ≤ l.length + 4 := by
  unfold extD at h
  split at h
  · cases h
  rename_i hc
  split at h
  · cases h
  have h1 := ziK h
  have h2 : p.n ≤ 4 := by
    have : zce p g = true := by
      cases hal : zce p g
      · exact absurd (.inr (.inl hal)) hc
      · rfl
    unfold zce at this
    simp only [Bool.and_eq_true, decide_eq_true_eq] at this
    exact this.2.2.2.2
  omega
theorem zfU (a : AtomD) : a.val.cells.size = 11 := rfl
theorem zfK (a : AtomD) : a.cells.length = 11 := rfl
theorem zfE (a : AtomD) : a.cells.all Am.one = true := rfl
theorem zlA (z0 z1 z2 z3 z4 z5 z6 z7 z8 z9 z10 : Value) : List.drop 11 [z0, z1, z2, z3, z4, z5, z6, z7, z8, z9, z10] = [] := rfl
theorem zrF : decide (11 ≤ 11) = true := rfl
end Go.Proofs.YtemapihoobmonaaGreatDoor
namespace Go.Proofs.YtemapihoobmonaaGreatDoor
open Go.Am
set_option linter.unusedVariables false
set_option linter.unusedSimpArgs false
set_option maxRecDepth 100000
set_option maxHeartbeats 0
noncomputable def N93 := zaz Tryz.f93
noncomputable def x93 := PLift.up (by have c := zah N93 Tryz.f93; simp only [zao, Tryz.f93, Option.getD_some, zal, opsF, opsX, zag, zaA, dstL, zam, List.append_eq, List.cons_append, List.nil_append, seval] at c; exact nd c <| nd @ld26 <| @fi93)
theorem c93 : type_of% x93.down := x93.down
noncomputable def N127 := zaz Tryz.f127
noncomputable def x127 := PLift.up (by have c := zah N127 Tryz.f127; simp only [zao, Tryz.f127, Option.getD_some, zal, opsF, opsX, zag, zaA, dstL, zam, List.append_eq, List.cons_append, List.nil_append, seval] at c; exact nd c <| nd @al26 <| nd @al95 <| nd @zep <| nd @zdL <| nd @ix27 <| nd @ix49 <| nd @ld26 <| nd @ld27 <| nd @ld9 <| nd @ln27 <| nd @ln49 <| @zyx)
theorem c127 : type_of% x127.down := x127.down
noncomputable def N92 := zaz Tryz.f92
noncomputable def x92 := PLift.up (by have c := zah N92 Tryz.f92; simp only [zao, Tryz.f92, Option.getD_some, zal, opsF, opsX, zag, zaA, dstL, zam, List.append_eq, List.cons_append, List.nil_append, seval] at c; exact nd c <| nd @zep <| nd @zdL <| nd @ld26 <| nd @ld27 <| nd @ld29 <| @fi92)
theorem c92 : type_of% x92.down := x92.down
noncomputable def N124 := zaz Tryz.f124
noncomputable def x124 := PLift.up (by have c := zah N124 Tryz.f124; simp only [zao, Tryz.f124, Option.getD_some, zal, opsF, opsX, zag, zaA, dstL, zam, List.append_eq, List.cons_append, List.nil_append, seval] at c; exact nd c <| nd @ld26 <| @zzP)
theorem c124 : type_of% x124.down := x124.down
noncomputable def N54 := zaz Tryz.f54
noncomputable def x54 := PLift.up (by have c := zah N54 Tryz.f54; simp only [zao, Tryz.f54, Option.getD_some, zal, opsF, opsX, zag, zaA, dstL, zam, List.append_eq, List.cons_append, List.nil_append, seval] at c; exact nd c <| nd @al26 <| nd @al29 <| nd @ix27 <| nd @ix32 <| nd @ld26 <| nd @ld29 <| nd @ln27 <| nd @ln32 <| @fi54)
theorem c54 : type_of% x54.down := x54.down
noncomputable def N57 := zaz Tryz.f57
noncomputable def x57 := PLift.up (by have c := zah N57 Tryz.f57; simp only [zao, Tryz.f57, Option.getD_some, zal, opsF, opsX, zag, zaA, dstL, zam, List.append_eq, List.cons_append, List.nil_append, seval] at c; exact nd c <| @fi57)
theorem c57 : type_of% x57.down := x57.down
noncomputable def N94 := zaz Tryz.f94
noncomputable def x94 := PLift.up (by have c := zah N94 Tryz.f94; simp only [zao, Tryz.f94, Option.getD_some, zal, opsF, opsX, zag, zaA, dstL, zam, List.append_eq, List.cons_append, List.nil_append, seval] at c; exact nd c <| nd @al26 <| nd @ix27 <| nd @zzE <| nd @ld26 <| nd @ld27 <| nd @ld36 <| nd @ln27 <| nd @fi94 <| @fj94)
theorem c94 : type_of% x94.down := x94.down
noncomputable def N55 := zaz Tryz.f55
noncomputable def x55 := PLift.up (by have c := zah N55 Tryz.f55; simp only [zao, Tryz.f55, Option.getD_some, zal, opsF, opsX, zag, zaA, dstL, zam, List.append_eq, List.cons_append, List.nil_append, seval] at c; exact nd c <| nd @al26 <| nd @bs27 <| nd @ix27 <| nd @ld26 <| nd @ln27 <| @fi55)
theorem c55 : type_of% x55.down := x55.down
noncomputable def N58 := zaz Tryz.f58
noncomputable def x58 := PLift.up (by have c := zah N58 Tryz.f58; simp only [zao, Tryz.f58, Option.getD_some, zal, opsF, opsX, zag, zaA, dstL, zam, List.append_eq, List.cons_append, List.nil_append, seval] at c; exact nd c <| nd @al26 <| nd @zgV <| nd @zee <| nd @ix24 <| nd @ld23 <| nd @ld26 <| nd @ld3 <| @fi58)
theorem c58 : type_of% x58.down := x58.down
noncomputable def N14 := zaz Tryz.f14
noncomputable def x14 := PLift.up (by have c := zah N14 Tryz.f14; simp only [zao, Tryz.f14, Option.getD_some, zal, opsF, opsX, zag, zaA, dstL, zam, List.append_eq, List.cons_append, List.nil_append, seval] at c; exact nd c <| nd @al26 <| nd @al27 <| nd @al29 <| nd @al91 <| nd @al95 <| nd @bs27 <| nd @zep <| nd @zdL <| nd @ix32 <| nd @ld26 <| nd @ld27 <| nd @ld29 <| nd @ld91 <| nd @ln32 <| @fi14)
theorem c14 : type_of% x14.down := x14.down
noncomputable def N20 := zaz Tryz.f20
noncomputable def x20 := PLift.up (by have c := zah N20 Tryz.f20; simp only [zao, Tryz.f20, Option.getD_some, zal, opsF, opsX, zag, zaA, dstL, zam, List.append_eq, List.cons_append, List.nil_append, seval] at c; exact nd c <| nd @ln27 <| @fi20)
theorem c20 : type_of% x20.down := x20.down
end Go.Proofs.YtemapihoobmonaaGreatDoor
namespace Go.Am
set_option linter.unusedVariables false
set_option linter.unusedSimpArgs false
def MapK {κ : Type} (kv : κ → Value) (h : Heap) (A : Nat) (met : List κ) : Prop := ∃ es clock, ∃ ks : List κ, Holds h A (.map es clock) ∧ es.map (fun x : MapEntry => x.key) = ks.map kv ∧ (∀ a, a ∈ ks ↔ a ∈ met) ∧ ∀ x ∈ es, x.val = .agg ⟨[]⟩
section
variable {κ : Type} {kv : κ → Value} {T : Tab} {t kt et : TypeId} {A : Nat} {met : List κ} {a : κ} {h1 : Heap} {bs : List Blk} {w : Nat} {K : Value → Heap → Prop} {z : Value}
theorem zih [DecidableEq κ] (heq : ∀ x y : κ, eqIn T 20 kt (kv x) (kv y) = some (decide (x = y))) : ∀ (es : List MapEntry) (ks : List κ) (i : Nat), es.map (fun x : MapEntry => x.key) = ks.map kv →
    (a ∉ ks → zfq T kt (kv a) es i = some none) ∧ (a ∈ ks → ∃ (j : Nat) (e : MapEntry), zfq T kt (kv a) es i = some (some (i + j, e.val)) ∧ es[j]? = some e ∧ e.key = kv a)
  | [], ks, i, hk => by
    cases ks with
    | nil => exact ⟨fun _ => rfl, fun h => by simp at h⟩
    | cons k ks => simp at hk
  | e :: es, ks, i, hk => by
    cases ks with
    | nil => simp at hk
    | cons k ks =>
      simp only [List.map_cons, List.cons.injEq] at hk
      obtain ⟨h1, h2⟩ := zih heq es ks (i + 1) hk.2
      unfold zfq
      rw [hk.1, heq]
      by_cases hx : a = k
      · subst hx
        refine ⟨fun hn => absurd List.mem_cons_self hn, fun _ => ⟨0, e, by simp, rfl, hk.1⟩⟩
      · simp only [decide_eq_false hx, Option.bind_some, Bool.false_eq_true, if_false, List.mem_cons, hx, false_or]
        refine ⟨h1, fun ha => ?_⟩
        obtain ⟨j, e', g1, g2, g3⟩ := h2 ha
        refine ⟨j + 1, e', ?_, by simpa using g2, g3⟩
        rw [g1, show i + 1 + j = i + (j + 1) by omega]
        simp
theorem zmQ [DecidableEq κ] (hp : ∀ x : κ, plain (kv x) = true) (a : κ) (heq : ∀ x y : κ, eqIn T 20 kt (kv x) (kv y) = some (decide (x = y))) : zig T kt (kv a) = true := by
  unfold zig
  rw [hp, heq]
  simp
theorem MapK.over (m : MapK kv h1 A met) {h2 : Heap} (x : Ext (h1.lay bs w) h2) : MapK kv h2 A met := by
  obtain ⟨es, cl, ks, m1, m2, m3⟩ := m
  exact ⟨es, cl, ks, m1.over x, m2, m3⟩
theorem MapK.ext (m : MapK kv h1 A met) {h2 : Heap} (x : Ext h1 h2) : MapK kv h2 A met := by
  obtain ⟨es, cl, ks, m1, m2, m3⟩ := m
  exact ⟨es, cl, ks, ⟨Nat.lt_of_lt_of_le m1.lt x.size, (x.get A m1.lt).trans m1.get⟩, m2, m3⟩
theorem MapK.stepL (m : MapK kv h1 A met) {B : Nat} {h2 : Heap} (c : Chg B (h1.lay bs w) h2) (hne : A ≠ B) : MapK kv h2 A met := by
  obtain ⟨es, cl, ks, m1, m2, m3⟩ := m
  exact ⟨es, cl, ks, m1.stepL c hne, m2, m3⟩
theorem MapK.lay (m : MapK kv h1 A met) (bs : List Blk) (w : Nat) : MapK kv (h1.lay bs w) A met := by
  obtain ⟨es, cl, ks, m1, m2, m3⟩ := m
  exact ⟨es, cl, ks, m1.on bs w, m2, m3⟩
theorem MapK.new (q : Holds h1 A (.map [] 0)) : MapK kv h1 A ([] : List κ) := ⟨[], 0, [], q, rfl, fun _ => Iff.rfl, fun _ hx => by simp at hx⟩
theorem MapK.lt (m : MapK kv h1 A met) : A < h1.size := by
  obtain ⟨es, cl, ks, m1, m2, m3⟩ := m
  exact m1.lt
theorem MapK.hold {H : Heap} (m : MapK kv h1 A met) (hO : ∀ A b, Holds h1 A b → Holds H A b) : MapK kv H A met := by
  obtain ⟨es, cl, ks, m1, m2, m3⟩ := m
  exact ⟨es, cl, ks, hO _ _ m1, m2, m3⟩
theorem MapK.norow (m : MapK kv h1 A met) (row : List Value) (u : TypeId) (ro : Bool) : h1.get A ≠ some (.row row u ro) := by
  obtain ⟨es, cl, ks, m1, m2, m3⟩ := m
  rw [m1.get]
  nofun
theorem Sl.stepM {α : Type} {r : Rep α} {v : Value} {l : List α} (f : Sl r h1 v l) (hflat : ∀ h h' cs x, r.R h cs x → r.R h' cs x) (m : MapK kv h1 A met) {h2 : Heap} (c : Chg A (h1.lay bs w) h2) : Sl r h2 v l := by
  rcases f with f | ⟨B, o, n, row, u, ro, e1, e2, e3, e4, e5, e6⟩
  · exact .inl f
  · have hne : B ≠ A := fun e => m.norow row u ro (e ▸ e5)
    have hs := c.size
    rw [zad] at hs
    refine .inr ⟨B, o, n, row, u, ro, e1, e2, e3, by omega, ?_, fun i x hx => ?_⟩
    · rw [c.get B (by rw [zad]; omega) hne, zaQ _ _ _ e4, e5]
    · obtain ⟨cs, g1, g2⟩ := e6 i x hx
      exact ⟨cs, g1, hflat _ _ _ _ g2⟩
theorem MapK.same {met2 : List κ} (m : MapK kv h1 A met) (h : ∀ a, a ∈ met ↔ a ∈ met2) : MapK kv h1 A met2 := by
  obtain ⟨es, cl, ks, m1, m2, m3, m4⟩ := m
  exact ⟨es, cl, ks, m1, m2, fun a => (m3 a).trans (h a), m4⟩
theorem zjx [DecidableEq κ] (m : MapK kv h1 A met) (hp : ∀ x : κ, plain (kv x) = true) (hd : T.desc t = some (.map kt et)) (heq : ∀ x y : κ, eqIn T 20 kt (kv x) (kv y) = some (decide (x = y))) (hz : T.zero et = some (.agg ⟨[]⟩))
    (h1k : a ∈ met → K (.tuple #[.agg ⟨[]⟩, .bool true]) (h1.lay bs w)) (h2k : a ∉ met → K (.tuple #[.agg ⟨[]⟩, .bool false]) (h1.lay bs w)) : valE (zeo T t (.map (some A)) (kv a) true (h1.lay bs w)) (h1.lay bs w) K := by
  obtain ⟨es, cl, ks, m1, m2, m3, m4⟩ := m
  obtain ⟨f1, f2⟩ := zih (a := a) heq es ks 0 m2
  have hg : (h1.lay bs w).get A = some (.map es cl) := m1.lay bs w
  unfold zeo
  simp only [hd, zmQ hp a heq, if_true, zu9, hg, Option.bind_some]
  by_cases ha : a ∈ ks
  · obtain ⟨j, e, hr, hx, _⟩ := f2 ha
    rw [hr]
    have hr2 : e.val = .agg ⟨[]⟩ := m4 e (List.mem_of_getElem? hx)
    simp only [hr2, Option.bind_some, Option.map_some, if_true]
    exact h1k ((m3 a).1 ha)
  · rw [f1 ha]
    simp only [hz, Option.bind_some, Option.map_some, if_true]
    exact h2k (fun hh => ha ((m3 a).2 hh))
theorem zo4 [DecidableEq κ] (m : MapK kv h1 A met) (hp : ∀ x : κ, plain (kv x) = true) (hsk : ∀ x : κ, zfh (kv x) (kv x) = true) (hd : T.desc t = some (.map kt et)) (heq : ∀ x y : κ, eqIn T 20 kt (kv x) (kv y) = some (decide (x = y)))
    (hK : ∀ h', MapK kv h' A (a :: met) → Chg A (h1.lay bs w) h' → K undef h') : memE (zbI T t (.map (some A)) (kv a) (.agg ⟨[]⟩) (h1.lay bs w)) K := by
  obtain ⟨es, cl, ks, m1, m2, m3, m4⟩ := m
  obtain ⟨f1, f2⟩ := zih (a := a) heq es ks 0 m2
  have hg : (h1.lay bs w).get A = some (.map es cl) := m1.lay bs w
  have hA : A < (h1.lay bs w).size := (m1.on bs w).lt
  have hc : ∀ b, Chg A (h1.lay bs w) ((h1.lay bs w).set A b) := fun b => ⟨by rw [Heap.size_set]; exact Nat.le_refl _, fun B hB hne => by rw [Heap.get_set _ _ _ _ hA, if_neg hne], by rw [Heap.low_set]; omega⟩
  have hh : ∀ b, Holds ((h1.lay bs w).set A b) A b := fun b => ⟨by rw [Heap.size_set]; exact hA, by rw [Heap.get_set _ _ _ _ hA, if_pos rfl]⟩
  by_cases ha : a ∈ ks
  · obtain ⟨j, e, hr, hx, hek⟩ := f2 ha
    have he : zbI T t (.map (some A)) (kv a) (.agg ⟨[]⟩) (h1.lay bs w) = some ((h1.lay bs w).set A (.map (es.modify j fun e => { e with key := kv a, val := .agg ⟨[]⟩ }) cl)) := by
      unfold zbI
      simp only [hd, hg, zmQ hp a heq, if_true, hr, Option.bind_some, Nat.zero_add, hx, hek, hsk]
    rw [he]
    refine hK _ ⟨_, cl, ks, hh _, ?_, fun b => ?_, fun x hx2 => ?_⟩ (hc _)
    · rw [← m2]
      refine List.ext_getElem? (fun i => ?_)
      simp only [List.getElem?_map, List.getElem?_modify]
      by_cases hij : j = i
      · subst hij
        rw [hx]
        simp [hek]
      · cases es[i]? <;> simp [hij]
    · rw [m3, List.mem_cons]
      exact ⟨.inr, fun h => h.elim (fun e => e ▸ (m3 a).1 ha) id⟩
    · obtain ⟨i, hi⟩ := List.getElem?_of_mem hx2
      rw [List.getElem?_modify] at hi
      cases hes : es[i]? with
      | none => rw [hes] at hi; simp at hi
      | some y =>
        rw [hes] at hi
        simp only [Option.map_eq_map, Option.map_some, Option.some.injEq] at hi
        by_cases hij : j = i
        · rw [if_pos hij] at hi; rw [← hi]
        · rw [if_neg hij] at hi; rw [← hi]; exact m4 y (List.mem_of_getElem? hes)
  · have he : zbI T t (.map (some A)) (kv a) (.agg ⟨[]⟩) (h1.lay bs w) = some ((h1.lay bs w).set A (.map (es ++ [{ key := kv a, val := .agg ⟨[]⟩, born := cl }]) (cl + 1))) := by
      unfold zbI
      simp only [hd, hg, zmQ hp a heq, if_true, f1 ha, Option.bind_some]
    rw [he]
    refine hK _ ⟨_, _, ks ++ [a], hh _, by simp [m2], fun b => ?_, fun x hx => ?_⟩ (hc _)
    · rw [List.mem_append, List.mem_singleton, List.mem_cons, m3]
      exact Or.comm
    · rcases List.mem_append.1 hx with hx | hx
      · exact m4 x hx
      · rw [List.mem_singleton.1 hx]
end
end Go.Am

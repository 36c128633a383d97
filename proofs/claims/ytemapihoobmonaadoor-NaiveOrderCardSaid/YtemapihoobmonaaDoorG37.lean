/- Walks: matching; an instance of a clause Written out by fill2.py. No condition. -/
import Derived.Test.YtemapihoobmonaaDoorG32
import Derived.Test.YtemapihoobmonaaDoorG18
import Derived.Test.YtemapihoobmonaaDoorG15
import Derived.KernelRfl
import Derived.Test.YtemapihoobmonaaDoorGMapx
namespace Go.Proofs.YtemapihoobmonaaDoor
open Go.Am
set_option linter.unusedSimpArgs false
set_option linter.unusedVariables false
set_option maxRecDepth 100000
set_option maxHeartbeats 0
theorem placesD_length {p g : AtomD} {l m : List BindD} {k : Nat} (h : placesD p g k l = some m) : m.length ≤ l.length + k := by
  induction k generalizing m with
  | zero => cases h; omega
  | succ k ih =>
    unfold placesD at h
    cases ho : placesD p g k l with
    | none => rw [ho] at h; cases h
    | some o =>
      rw [ho] at h
      have h1 := ih ho
      simp only [Option.bind_some] at h
      unfold placeD at h
      split at h
      · split at h
        · cases h; omega
        · cases h
      · split at h
        · split at h
          · cases h; omega
          · cases h
        · have := bindD_length h
          omega
theorem extD_length {p g : AtomD} {l m : List BindD} (h : extD l p g = some m) : m.length ≤ l.length + 4 := by
  unfold extD at h
  split at h
  · cases h
  rename_i hc
  split at h
  · cases h
  have h1 := placesD_length h
  have h2 : p.n ≤ 4 := by
    have : alikeD p g = true := by
      cases hal : alikeD p g
      · exact absurd (.inr (.inl hal)) hc
      · rfl
    unfold alikeD at this
    simp only [Bool.and_eq_true, decide_eq_true_eq] at this
    exact this.2.2.2.2
  omega
theorem siz_atom (a : AtomD) : a.val.cells.size = 11 := rfl
theorem len_atom (a : AtomD) : a.cells.length = 11 := rfl
theorem one_atom (a : AtomD) : a.cells.all Am.one = true := rfl
theorem drop11 (z0 z1 z2 z3 z4 z5 z6 z7 z8 z9 z10 : Value) : List.drop 11 [z0, z1, z2, z3, z4, z5, z6, z7, z8, z9, z10] = [] := rfl
theorem dec11 : decide (11 ≤ 11) = true := rfl
end Go.Proofs.YtemapihoobmonaaDoor
namespace Go.Proofs.YtemapihoobmonaaDoor
open Go.Am
set_option linter.unusedVariables false
set_option linter.unusedSimpArgs false
set_option maxRecDepth 100000
set_option maxHeartbeats 0
noncomputable def N24 := nodeF Tryd.f24
noncomputable def x24 := PLift.up (by have c := factsOf N24 Tryd.f24; simp only [codeOf, Tryd.f24, Option.getD_some, factsF, opsF, opsX, ncount, wantG, dstL, quietS, List.append_eq, List.cons_append, List.nil_append, seval] at c; exact nd c <| nd @ld36 <| @fi24)
theorem c24 : type_of% x24.down := x24.down
noncomputable def N35 := nodeF Tryd.f35
noncomputable def x35 := PLift.up (by have c := factsOf N35 Tryd.f35; simp only [codeOf, Tryd.f35, Option.getD_some, factsF, opsF, opsX, ncount, wantG, dstL, quietS, List.append_eq, List.cons_append, List.nil_append, seval] at c; exact nd c <| nd @al36 <| nd @al53 <| nd @fa46_0 <| nd @fa46_1 <| nd @ix23 <| nd @ix84 <| nd @ld23 <| nd @ld36 <| nd @ld9 <| nd @ln23 <| nd @ln84 <| @fi35)
theorem c35 : type_of% x35.down := x35.down
noncomputable def N23 := nodeF Tryd.f23
noncomputable def x23 := PLift.up (by have c := factsOf N23 Tryd.f23; simp only [codeOf, Tryd.f23, Option.getD_some, factsF, opsF, opsX, ncount, wantG, dstL, quietS, List.append_eq, List.cons_append, List.nil_append, seval] at c; exact nd c <| nd @fa46_0 <| nd @fa46_1 <| nd @ld23 <| nd @ld36 <| nd @ld46 <| @fi23)
theorem c23 : type_of% x23.down := x23.down
noncomputable def N32 := nodeF Tryd.f32
noncomputable def x32 := PLift.up (by have c := factsOf N32 Tryd.f32; simp only [codeOf, Tryd.f32, Option.getD_some, factsF, opsF, opsX, ncount, wantG, dstL, quietS, List.append_eq, List.cons_append, List.nil_append, seval] at c; exact nd c <| nd @ld36 <| @fi32)
theorem c32 : type_of% x32.down := x32.down
noncomputable def N16 := nodeF Tryd.f16
noncomputable def x16 := PLift.up (by have c := factsOf N16 Tryd.f16; simp only [codeOf, Tryd.f16, Option.getD_some, factsF, opsF, opsX, ncount, wantG, dstL, quietS, List.append_eq, List.cons_append, List.nil_append, seval] at c; exact nd c <| nd @al36 <| nd @al46 <| nd @ix22 <| nd @ix23 <| nd @ld36 <| nd @ld46 <| nd @ln22 <| nd @ln23 <| @fi16)
theorem c16 : type_of% x16.down := x16.down
noncomputable def N19 := nodeF Tryd.f19
noncomputable def x19 := PLift.up (by have c := factsOf N19 Tryd.f19; simp only [codeOf, Tryd.f19, Option.getD_some, factsF, opsF, opsX, ncount, wantG, dstL, quietS, List.append_eq, List.cons_append, List.nil_append, seval] at c; exact nd c <| @fi19)
theorem c19 : type_of% x19.down := x19.down
noncomputable def N25 := nodeF Tryd.f25
noncomputable def x25 := PLift.up (by have c := factsOf N25 Tryd.f25; simp only [codeOf, Tryd.f25, Option.getD_some, factsF, opsF, opsX, ncount, wantG, dstL, quietS, List.append_eq, List.cons_append, List.nil_append, seval] at c; exact nd c <| nd @al36 <| nd @ix23 <| nd @ld23 <| nd @ld36 <| nd @ld51 <| nd @ld56 <| nd @ln23 <| nd @fi25 <| @fj25)
theorem c25 : type_of% x25.down := x25.down
noncomputable def N17 := nodeF Tryd.f17
noncomputable def x17 := PLift.up (by have c := factsOf N17 Tryd.f17; simp only [codeOf, Tryd.f17, Option.getD_some, factsF, opsF, opsX, ncount, wantG, dstL, quietS, List.append_eq, List.cons_append, List.nil_append, seval] at c; exact nd c <| nd @al36 <| nd @bs23 <| nd @ix23 <| nd @ld36 <| nd @ln23 <| @fi17)
theorem c17 : type_of% x17.down := x17.down
noncomputable def N20 := nodeF Tryd.f20
noncomputable def x20 := PLift.up (by have c := factsOf N20 Tryd.f20; simp only [codeOf, Tryd.f20, Option.getD_some, factsF, opsF, opsX, ncount, wantG, dstL, quietS, List.append_eq, List.cons_append, List.nil_append, seval] at c; exact nd c <| nd @al36 <| nd @fa36_2 <| nd @fa36_3 <| nd @ix34 <| nd @ld3 <| nd @ld33 <| nd @ld36 <| @fi20)
theorem c20 : type_of% x20.down := x20.down
noncomputable def N11 := nodeF Tryd.f11
noncomputable def x11 := PLift.up (by have c := factsOf N11 Tryd.f11; simp only [codeOf, Tryd.f11, Option.getD_some, factsF, opsF, opsX, ncount, wantG, dstL, quietS, List.append_eq, List.cons_append, List.nil_append, seval] at c; exact nd c <| nd @al23 <| nd @al36 <| nd @al46 <| nd @al47 <| nd @al53 <| nd @bs23 <| nd @fa46_0 <| nd @fa46_1 <| nd @ix22 <| nd @ld23 <| nd @ld36 <| nd @ld46 <| nd @ld47 <| nd @ln22 <| @fi11)
theorem c11 : type_of% x11.down := x11.down
noncomputable def N6 := nodeF Tryd.f6
noncomputable def x6 := PLift.up (by have c := factsOf N6 Tryd.f6; simp only [codeOf, Tryd.f6, Option.getD_some, factsF, opsF, opsX, ncount, wantG, dstL, quietS, List.append_eq, List.cons_append, List.nil_append, seval] at c; exact nd c <| nd @ln23 <| @fi6)
theorem c6 : type_of% x6.down := x6.down
end Go.Proofs.YtemapihoobmonaaDoor
namespace Go.Am
set_option linter.unusedVariables false
set_option linter.unusedSimpArgs false
def MapK {κ : Type} (kv : κ → Value) (h : Heap) (A : Nat) (met : List κ) : Prop := ∃ es clock, ∃ ks : List κ, Holds h A (.map es clock) ∧ es.map (fun x : MapEntry => x.key) = ks.map kv ∧ (∀ a, a ∈ ks ↔ a ∈ met) ∧ ∀ x ∈ es, x.val = .agg ⟨[]⟩
section
variable {κ : Type} {kv : κ → Value} {T : Tab} {t kt et : TypeId} {A : Nat} {met : List κ} {a : κ} {h1 : Heap} {bs : List Blk} {w : Nat} {K : Value → Heap → Prop} {z : Value}
theorem find_keyK [DecidableEq κ] (heq : ∀ x y : κ, eqIn T 20 kt (kv x) (kv y) = some (decide (x = y))) : ∀ (es : List MapEntry) (ks : List κ) (i : Nat), es.map (fun x : MapEntry => x.key) = ks.map kv →
    (a ∉ ks → findA T kt (kv a) es i = some none) ∧ (a ∈ ks → ∃ (j : Nat) (e : MapEntry), findA T kt (kv a) es i = some (some (i + j, e.val)) ∧ es[j]? = some e ∧ e.key = kv a)
  | [], ks, i, hk => by
    cases ks with
    | nil => exact ⟨fun _ => rfl, fun h => by simp at h⟩
    | cons k ks => simp at hk
  | e :: es, ks, i, hk => by
    cases ks with
    | nil => simp at hk
    | cons k ks =>
      simp only [List.map_cons, List.cons.injEq] at hk
      obtain ⟨h1, h2⟩ := find_keyK heq es ks (i + 1) hk.2
      unfold findA
      rw [hk.1, heq]
      by_cases hx : a = k
      · subst hx
        refine ⟨fun hn => absurd List.mem_cons_self hn, fun _ => ⟨0, e, by simp, rfl, hk.1⟩⟩
      · simp only [decide_eq_false hx, Option.bind_some, Bool.false_eq_true, if_false, List.mem_cons, hx, false_or]
        refine ⟨h1, fun ha => ?_⟩
        obtain ⟨j, e', g1, g2, g3⟩ := h2 ha
        refine ⟨j + 1, e', ?_, by simpa using g2, g3⟩
        rw [g1, show i + 1 + j = i + (j + 1) by omega]
        simp
theorem is_keyK [DecidableEq κ] (hp : ∀ x : κ, plain (kv x) = true) (a : κ) (heq : ∀ x y : κ, eqIn T 20 kt (kv x) (kv y) = some (decide (x = y))) : isKey T kt (kv a) = true := by
  unfold isKey
  rw [hp, heq]
  simp
theorem MapK.over (m : MapK kv h1 A met) {h2 : Heap} (x : Ext (h1.lay bs w) h2) : MapK kv h2 A met := by
  obtain ⟨es, cl, ks, m1, m2, m3⟩ := m
  exact ⟨es, cl, ks, m1.over x, m2, m3⟩
theorem MapK.ext (m : MapK kv h1 A met) {h2 : Heap} (x : Ext h1 h2) : MapK kv h2 A met := by
  obtain ⟨es, cl, ks, m1, m2, m3⟩ := m
  exact ⟨es, cl, ks, ⟨Nat.lt_of_lt_of_le m1.lt x.size, (x.get A m1.lt).trans m1.get⟩, m2, m3⟩
theorem MapK.stepL (m : MapK kv h1 A met) {B : Nat} {h2 : Heap} (c : Chg B (h1.lay bs w) h2) (hne : A ≠ B) : MapK kv h2 A met := by
  obtain ⟨es, cl, ks, m1, m2, m3⟩ := m
  exact ⟨es, cl, ks, m1.stepL c hne, m2, m3⟩
theorem MapK.lay (m : MapK kv h1 A met) (bs : List Blk) (w : Nat) : MapK kv (h1.lay bs w) A met := by
  obtain ⟨es, cl, ks, m1, m2, m3⟩ := m
  exact ⟨es, cl, ks, m1.on bs w, m2, m3⟩
theorem MapK.new (q : Holds h1 A (.map [] 0)) : MapK kv h1 A ([] : List κ) := ⟨[], 0, [], q, rfl, fun _ => Iff.rfl, fun _ hx => by simp at hx⟩
theorem MapK.lt (m : MapK kv h1 A met) : A < h1.size := by
  obtain ⟨es, cl, ks, m1, m2, m3⟩ := m
  exact m1.lt
theorem MapK.hold {H : Heap} (m : MapK kv h1 A met) (hO : ∀ A b, Holds h1 A b → Holds H A b) : MapK kv H A met := by
  obtain ⟨es, cl, ks, m1, m2, m3⟩ := m
  exact ⟨es, cl, ks, hO _ _ m1, m2, m3⟩
theorem MapK.norow (m : MapK kv h1 A met) (row : List Value) (u : TypeId) (ro : Bool) : h1.get A ≠ some (.row row u ro) := by
  obtain ⟨es, cl, ks, m1, m2, m3⟩ := m
  rw [m1.get]
  nofun
theorem Sl.stepM {α : Type} {r : Rep α} {v : Value} {l : List α} (f : Sl r h1 v l) (hflat : ∀ h h' cs x, r.R h cs x → r.R h' cs x) (m : MapK kv h1 A met) {h2 : Heap} (c : Chg A (h1.lay bs w) h2) : Sl r h2 v l := by
  rcases f with f | ⟨B, o, n, row, u, ro, e1, e2, e3, e4, e5, e6⟩
  · exact .inl f
  · have hne : B ≠ A := fun e => m.norow row u ro (e ▸ e5)
    have hs := c.size
    rw [lay_size] at hs
    refine .inr ⟨B, o, n, row, u, ro, e1, e2, e3, by omega, ?_, fun i x hx => ?_⟩
    · rw [c.get B (by rw [lay_size]; omega) hne, lay_get_old _ _ _ e4, e5]
    · obtain ⟨cs, g1, g2⟩ := e6 i x hx
      exact ⟨cs, g1, hflat _ _ _ _ g2⟩
theorem MapK.same {met2 : List κ} (m : MapK kv h1 A met) (h : ∀ a, a ∈ met ↔ a ∈ met2) : MapK kv h1 A met2 := by
  obtain ⟨es, cl, ks, m1, m2, m3, m4⟩ := m
  exact ⟨es, cl, ks, m1, m2, fun a => (m3 a).trans (h a), m4⟩
theorem lookK_rule [DecidableEq κ] (m : MapK kv h1 A met) (hp : ∀ x : κ, plain (kv x) = true) (hd : T.desc t = some (.map kt et)) (heq : ∀ x y : κ, eqIn T 20 kt (kv x) (kv y) = some (decide (x = y))) (hz : T.zero et = some (.agg ⟨[]⟩))
    (h1k : a ∈ met → K (.tuple #[.agg ⟨[]⟩, .bool true]) (h1.lay bs w)) (h2k : a ∉ met → K (.tuple #[.agg ⟨[]⟩, .bool false]) (h1.lay bs w)) : valE (lookupA T t (.map (some A)) (kv a) true (h1.lay bs w)) (h1.lay bs w) K := by
  obtain ⟨es, cl, ks, m1, m2, m3, m4⟩ := m
  obtain ⟨f1, f2⟩ := find_keyK (a := a) heq es ks 0 m2
  have hg : (h1.lay bs w).get A = some (.map es cl) := m1.lay bs w
  unfold lookupA
  simp only [hd, is_keyK hp a heq, if_true, mapOf, hg, Option.bind_some]
  by_cases ha : a ∈ ks
  · obtain ⟨j, e, hr, hx, _⟩ := f2 ha
    rw [hr]
    have hr2 : e.val = .agg ⟨[]⟩ := m4 e (List.mem_of_getElem? hx)
    simp only [hr2, Option.bind_some, Option.map_some, if_true]
    exact h1k ((m3 a).1 ha)
  · rw [f1 ha]
    simp only [hz, Option.bind_some, Option.map_some, if_true]
    exact h2k (fun hh => ha ((m3 a).2 hh))
theorem upK_rule [DecidableEq κ] (m : MapK kv h1 A met) (hp : ∀ x : κ, plain (kv x) = true) (hsk : ∀ x : κ, sameKey (kv x) (kv x) = true) (hd : T.desc t = some (.map kt et)) (heq : ∀ x y : κ, eqIn T 20 kt (kv x) (kv y) = some (decide (x = y)))
    (hK : ∀ h', MapK kv h' A (a :: met) → Chg A (h1.lay bs w) h' → K undef h') : memE (updateA T t (.map (some A)) (kv a) (.agg ⟨[]⟩) (h1.lay bs w)) K := by
  obtain ⟨es, cl, ks, m1, m2, m3, m4⟩ := m
  obtain ⟨f1, f2⟩ := find_keyK (a := a) heq es ks 0 m2
  have hg : (h1.lay bs w).get A = some (.map es cl) := m1.lay bs w
  have hA : A < (h1.lay bs w).size := (m1.on bs w).lt
  have hc : ∀ b, Chg A (h1.lay bs w) ((h1.lay bs w).set A b) := fun b => ⟨by rw [Heap.size_set]; exact Nat.le_refl _, fun B hB hne => by rw [Heap.get_set _ _ _ _ hA, if_neg hne], by rw [Heap.low_set]; omega⟩
  have hh : ∀ b, Holds ((h1.lay bs w).set A b) A b := fun b => ⟨by rw [Heap.size_set]; exact hA, by rw [Heap.get_set _ _ _ _ hA, if_pos rfl]⟩
  by_cases ha : a ∈ ks
  · obtain ⟨j, e, hr, hx, hek⟩ := f2 ha
    have he : updateA T t (.map (some A)) (kv a) (.agg ⟨[]⟩) (h1.lay bs w) = some ((h1.lay bs w).set A (.map (es.modify j fun e => { e with key := kv a, val := .agg ⟨[]⟩ }) cl)) := by
      unfold updateA
      simp only [hd, hg, is_keyK hp a heq, if_true, hr, Option.bind_some, Nat.zero_add, hx, hek, hsk]
    rw [he]
    refine hK _ ⟨_, cl, ks, hh _, ?_, fun b => ?_, fun x hx2 => ?_⟩ (hc _)
    · rw [← m2]
      refine List.ext_getElem? (fun i => ?_)
      simp only [List.getElem?_map, List.getElem?_modify]
      by_cases hij : j = i
      · subst hij
        rw [hx]
        simp [hek]
      · cases es[i]? <;> simp [hij]
    · rw [m3, List.mem_cons]
      exact ⟨.inr, fun h => h.elim (fun e => e ▸ (m3 a).1 ha) id⟩
    · obtain ⟨i, hi⟩ := List.getElem?_of_mem hx2
      rw [List.getElem?_modify] at hi
      cases hes : es[i]? with
      | none => rw [hes] at hi; simp at hi
      | some y =>
        rw [hes] at hi
        simp only [Option.map_eq_map, Option.map_some, Option.some.injEq] at hi
        by_cases hij : j = i
        · rw [if_pos hij] at hi; rw [← hi]
        · rw [if_neg hij] at hi; rw [← hi]; exact m4 y (List.mem_of_getElem? hes)
  · have he : updateA T t (.map (some A)) (kv a) (.agg ⟨[]⟩) (h1.lay bs w) = some ((h1.lay bs w).set A (.map (es ++ [{ key := kv a, val := .agg ⟨[]⟩, born := cl }]) (cl + 1))) := by
      unfold updateA
      simp only [hd, hg, is_keyK hp a heq, if_true, f1 ha, Option.bind_some]
    rw [he]
    refine hK _ ⟨_, _, ks ++ [a], hh _, by simp [m2], fun b => ?_, fun x hx => ?_⟩ (hc _)
    · rw [List.mem_append, List.mem_singleton, List.mem_cons, m3]
      exact Or.comm
    · rcases List.mem_append.1 hx with hx | hx
      · exact m4 x hx
      · rw [List.mem_singleton.1 hx]
end
end Go.Am

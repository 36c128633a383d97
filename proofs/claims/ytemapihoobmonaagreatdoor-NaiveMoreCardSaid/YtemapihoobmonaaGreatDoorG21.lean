/- Walks: maps of atoms. No condition. -/
import Derived.Test.YtemapihoobmonaaGreatDoorG20
import Derived.Test.YtemapihoobmonaaGreatDoorG19
namespace Go.Am
set_option linter.unusedVariables false
set_option linter.unusedSimpArgs false
section
variable {P : Program} {T : Tab} {ov : Ov} {d : Option Tmp} {ty : TypeId} {pos : String} {af : Array Edge} {g : Option (Nat × Bool)} {e : Env} {h : Heap} {K : Value → Heap → Prop}
theorem zlw (t : TypeId) : WOp P T ov ⟨d, .makeMap t none, ty, pos, af, g⟩ e h K = K (.map (some h.size)) (h.push (.map [] 0)) := rfl
theorem zpj (t : TypeId) (x k : Operand) (ok : Bool) : WOp P T ov ⟨d, .lookup t x k ok, ty, pos, af, g⟩ e h K = valE (zeo T t (zab e x) (zab e k) ok h) h K := by rw [← zcu]; rfl
theorem zhA (t : TypeId) (m k x : Operand) : WOp P T ov ⟨d, .mapUpdate t m k x, ty, pos, af, g⟩ e h K = memE (zbI T t (zab e m) (zab e k) (zab e x) h) K := by
  show optE ((zbI T t (zab e m) (zab e k) (zab e x) h).map fun h' => (undef, h')) K = _
  cases zbI T t (zab e m) (zab e k) (zab e x) h <;> rfl
end
def MapA (h : Heap) (A : Nat) (met : List AtomD) : Prop := ∃ es clock, ∃ ks : List AtomD, Holds h A (.map es clock) ∧ es.map (fun x : MapEntry => x.key) = ks.map AtomD.val ∧ (∀ a, a ∈ ks ↔ a ∈ met) ∧ ∀ x ∈ es, x.val = .agg ⟨[]⟩
theorem zi2 (a : AtomD) : plain a.val = true := rfl
section
variable {T : Tab} {t kt et : TypeId} {A : Nat} {met : List AtomD} {a : AtomD} {h1 : Heap} {bs : List Blk} {w : Nat} {K : Value → Heap → Prop} {z : Value}
theorem MapA.over (m : MapA h1 A met) {h2 : Heap} (x : Ext (h1.lay bs w) h2) : MapA h2 A met := by
  obtain ⟨es, cl, ks, m1, m2, m3⟩ := m
  exact ⟨es, cl, ks, m1.over x, m2, m3⟩
theorem MapA.ext (m : MapA h1 A met) {h2 : Heap} (x : Ext h1 h2) : MapA h2 A met := by
  obtain ⟨es, cl, ks, m1, m2, m3⟩ := m
  exact ⟨es, cl, ks, ⟨Nat.lt_of_lt_of_le m1.lt x.size, (x.get A m1.lt).trans m1.get⟩, m2, m3⟩
theorem MapA.top {h2 : Heap} {i : Nat} (x : Ext (h1.lay bs w) h2) (hi : bs[i]? = some (.map [] 0)) : MapA h2 (h1.size + i) [] := ⟨[], 0, [], Holds.top x hi, rfl, fun _ => Iff.rfl, fun _ hx => by simp at hx⟩
end
theorem zfH {T : Tab} {t u : TypeId} {A n : Nat} {cs : List Value} {v : Value} {h1 : Heap} {bs : List Blk} {w : Nat} {K : Value → Heap → Prop} (q : Holds h1 A (.row cs u false)) (hs : zaL T t = some n) (hv : v.cells.toList.length = n) (hl : cs.length = n) (h1' : v.cells.toList.all one = true)
    (hK : ∀ h', Holds h' A (.row v.cells.toList u false) → Chg A (h1.lay bs w) h' → K undef h') : memE (za4 T t (.pointer (some ⟨A, 0, none⟩)) v (h1.lay bs w)) K := by
  have hg : (h1.lay bs w).get A = some (.row cs u false) := q.lay bs w
  have hA : A < (h1.lay bs w).size := (q.on bs w).lt
  have hsz : v.cells.size = n := by rw [← hv]; simp
  have hw : zcB A 0 v.cells.toList (h1.lay bs w) = some ((h1.lay bs w).set A (.row v.cells.toList u false)) := by
    unfold zcB
    rw [hg]
    simp only
    rw [if_pos (by simp only [Bool.and_eq_true, decide_eq_true_eq]; exact ⟨by omega, h1'⟩)]
    congr 2
    unfold splice
    rw [List.take_zero, List.nil_append, List.drop_of_length_le (by omega), List.append_nil]
  have he : za4 T t (.pointer (some ⟨A, 0, none⟩)) v (h1.lay bs w) = some ((h1.lay bs w).set A (.row v.cells.toList u false)) := by
    unfold za4
    simp only [hs, Option.bind_some]
    rw [if_pos hsz]
    exact hw
  rw [he]
  refine hK _ ⟨by rw [Heap.size_set]; exact hA, by rw [Heap.get_set _ _ _ _ hA, if_pos rfl]⟩ ⟨by rw [Heap.size_set]; exact Nat.le_refl _, fun B hB hne => by rw [Heap.get_set _ _ _ _ hA, if_neg hne], by rw [Heap.low_set]; omega⟩
theorem zcs {α : Type} {r : Rep α} {h : Heap} {v : Value} {l : List α} (f : Sl r h v l) : v.cells.toList = [v] := by
  rcases f with ⟨rfl, _⟩ | ⟨A, o, c, row, u, ro, rfl, _⟩ <;> rfl
theorem zoL (v : Value) (h : Heap) (K : Value → Heap → Prop) : valE (some v) h K = K v h := rfl
theorem zeU (t : TermD) : t.val.cells.toList = t.cells := rfl
end Go.Am
namespace Go.Proofs.YtemapihoobmonaaGreatDoor
open Go.Am
set_option linter.unusedSimpArgs false
set_option linter.unusedVariables false
set_option maxRecDepth 100000
set_option maxHeartbeats 0
theorem zsk {P : Program} {T : Tab} {t : TypeId} {a b : ByteArray} : binA P T .geq t (.string a) (.string b) = some (.bool (!slt a b)) := by
  refine zfc rfl ?_ rfl
  unfold Op.stringOp
  simp only [zbk]
  rfl
theorem zpf (l : List BindD) (v : Value) (h : Heap) (hl : Sl Rep.bind h v l) (hs : l.length ≤ 1000) (K : Value → Heap → Prop)
    (hk : ∀ (h' : Heap) (b : Bool), Ext h h' → (b = true ↔ zcv l l.length) → K (.bool b) h') : Ok Tryz.prog tab ov 167 [v] h K := by
  rw [zaa h]
  have z := Ext.refl h
  refine Ok.into rfl zrQ (zaB N167) rfl (m := 25) rfl ?_
  simp -implicitDefEqProofs only [syms, symx, seval, c167]
  repeat' (( with_reducible_and_instances refine zcc hl ds36 ?_) <;> simp -implicitDefEqProofs only [syms, symx, seval, c167])
  obtain ⟨I1, hI1⟩ : ∃ I : Nat → Env → Heap → Prop, I = (fun n e h' => ∃ (i : Nat) (h1 : Heap), h' = h1.lay [] h1.low ∧ Ext h h1 ∧ (n = l.length - i ∧ i ≤ l.length ∧ zcv l i) ∧ ∃ J : Nat → Value, e = (v :: jr J 1 4 (.int .i64 l.length :: .int .i64 i :: jr J 7 19 ([])))) := ⟨_, rfl⟩
  refine zas I1 _ (by rw [hI1]; exact ⟨0, _, rfl, z, ⟨rfl, by omega, by intro k x y hk; omega⟩, junk (by kernel_rfl)⟩) ?_
  intro n e h' hin
  rw [hI1] at hin
  obtain ⟨i, h1', rfl, z, hinv, J, rfl⟩ := hin
  obtain ⟨rfl, hi, hall⟩ := hinv
  have hw : IntKind.i64.wrap ((i : Int) + 1) = ((i + 1 : Nat) : Int) := by rw [zae (by omega) (by omega)]; omega
  have hw2 : IntKind.i64.wrap ((i : Int) - 1) = (i : Int) - 1 := zae (by omega) (by omega)
  simp -implicitDefEqProofs only [syms, symx, seval, c167]
  refine zaw (fun hlt => ?_) (fun hlt => ?_)
  rotate_left
  · simp -implicitDefEqProofs only [syms, symx, seval, c167]
    obtain rfl : i = l.length := by omega
    exact hk _ true (z.upW _ _ (by omega)) ⟨fun _ => hall, fun _ => rfl⟩
  repeat' (first | simp -implicitDefEqProofs only [syms, symx, seval, c167] | ((with_reducible  apply zaw ) <;> intro _) | with_reducible refine zbP (by simp only [c167]) (z.upW _ _ (by omega)) ?_ | ((with_reducible refine ⟨z.grw.lay _ _, ?_⟩); (intro _ h' zz x _); (try simp only [zap, List.append_nil] at x); (replace z := zz); (clear zz); rw [zaa h']))
  rotate_left
  · rw [hw]
    (rw [hI1]; with_reducible refine zac (m := _) ?_ ⟨i + 1, _, rfl, z, ⟨rfl, by omega, zjk (by omega)⟩, junk (by kernel_rfl)⟩; omega)
  have hw3 : IntKind.i64.wrap ((i : Int) - 1) = ((i - 1 : Nat) : Int) := by rw [hw2]; omega
  rw [hw3]
  obtain ⟨r0, hr0, hr0'⟩ := za5 (l := l) (i := i - 1) (by omega)
  obtain ⟨r1, hr1, hr1'⟩ := za5 (l := l) (i := i) (by omega)
  repeat' ((first | ((with_reducible  apply zgt) <;> intro _) | with_reducible_and_instances refine zhO (hl.mono z.inc) ds36 zfv (by omega) hr0 (fun p hp => ?_) | with_reducible_and_instances refine zhO (hl.mono z.inc) ds36 zfv (by omega) hr1 (fun p hp => ?_) | with_reducible_and_instances refine fdb0 hp zdm (fun q hq => ?_) | with_reducible_and_instances refine zd9 hq ag9 ?_ | ((with_reducible refine ⟨z.grw.lay _ _, ?_⟩); (intro _ h' zz x _); (try simp only [zap, List.append_nil] at x); (replace z := zz); (clear zz); rw [zaa h'])) <;> simp -implicitDefEqProofs only [syms, symx, seval, c167, zsk])
  rotate_left
  · rw [hw]
    (rw [hI1]; with_reducible refine zac (m := _) ?_ ⟨i + 1, _, rfl, z, ⟨rfl, by omega, znC hall (by omega) hr0' hr1' (by assumption)⟩, junk (by kernel_rfl)⟩; omega)
  · refine hk _ false (z.upW _ _ (by omega)) ⟨nofun, fun hR => absurd hR (zqS (by omega) hr0' hr1' (by simp [*]))⟩
theorem zwp (l : List BindD) (v : Value) (s : ByteArray) (i : Nat) (A B : Nat) (h : Heap) (hl : Sl Rep.bind h v l) (hs : l.length ≤ 1000) (hi : i < l.length) (q0 : Holds h A (.row [v] 36 false)) (q1 : Holds h B (.row [.string s] 9 false)) (K : Value → Heap → Prop)
    (hk : ∀ h', Ext h h' → K (.bool (match l[i]? with | some x => !slt x.var s | none => false)) h') : Ok Tryz.prog tab ov 169 [.int .i64 i, .pointer (some ⟨A, 0, none⟩), .pointer (some ⟨B, 0, none⟩)] h K := by
  rw [zaa h]
  have z := Ext.refl h
  obtain ⟨r, hr, hr'⟩ := za5 (l := l) (i := i) (by omega)
  rw [hr'] at hk
  refine Ok.into rfl zrB (zaB N169) rfl (m := 9) rfl ?_
  simp -implicitDefEqProofs only [syms, symx, seval, c169]
  repeat' ((first | with_reducible_and_instances refine zhO (hl.mono z.inc) ds36 zfv (by omega) hr (fun p hp => ?_) | with_reducible_and_instances refine fdb0 hp zdm (fun q hq => ?_) | with_reducible_and_instances refine zd9 hq ag9 ?_ | with_reducible refine zbP (by simp only [c169]) (z.upW _ _ (by omega)) ?_ | ((with_reducible refine ⟨z.grw.lay _ _, ?_⟩); (intro _ h' zz x _); (try simp only [zap, List.append_nil] at x); (replace z := zz); (clear zz); rw [zaa h'])) <;> simp -implicitDefEqProofs only [syms, symx, seval, c169, q0.lay, q1.lay, zsk, zoL])
  exact hk _ (z.upW _ _ (by omega))
theorem zqg : zdk tab 23 [] = some noTermD.val := by kernel_rfl
theorem zkP (a : TermD) : cut a.cells 0 2 = some a.cells := rfl
theorem zfG (a : TermD) : Value.agg a.cells.toArray = a.val := rfl
theorem zk5 (l : List BindD) (v : Value) (s : ByteArray) (h : Heap) (hl : Sl Rep.bind h v l) (hs : l.length ≤ 1000) (K : Value → Heap → Prop)
    (hk : ∀ h', Ext h h' → K (.tuple #[(zaF l s).1.val, .bool (zaF l s).2]) h') : Ok Tryz.prog tab ov 131 [v, .string s] h K := by
  rw [zaa h]
  have z := Ext.refl h
  refine Ok.into rfl ztu (zaB N131) rfl (m := 30) rfl ?_
  have hc : v.cells.toList = [v] := zcs hl
  have hva := zaH v
  repeat' ( simp -implicitDefEqProofs only [syms, symx, seval, c131, hc, hva])
  refine zpf l _ _ (hl.lay _ _) hs _ (fun h' b x hb => ?_)
  have q0 := Holds.top (i := 0) x rfl
  have q1 := Holds.top (i := 1) x rfl
  have q2 := Holds.top (i := 2) x rfl
  (( skip); replace z := z.overW x (by (try simp only [lsz]); omega); rw [zaa h'])
  cases b
  rotate_left
  focus
    simp -implicitDefEqProofs only [syms, symx, seval, c131, q0.lay, q1.lay, hc, hva]
    repeat' (( with_reducible_and_instances refine zcc (hl.mono z.inc) ds36 ?_) <;> simp -implicitDefEqProofs only [syms, symx, seval, c131, q0.lay, q1.lay, hc, hva])
    refine zlV l.length hs _ (fun i => match l[i]? with | some x => !slt x.var s | none => false) _ (fun i hc' K' hi xe hk' => ?_) _ (fun h2' i x hi hlo hhi => ?_)
    · rw [zjt]
      have xe' := z.overW xe (by (try simp only [zad, List.length_cons, List.length_nil]); omega)
      exact zwp l v s i _ _ hc' (hl.mono xe'.inc) hs hi (q0.over xe) (q1.over xe) K' hk'
    have q0 := q0.over x
    have q1 := q1.over x
    have q2 := q2.over x
    (replace z := z.overW x (by (try simp only [zad, List.length_cons, List.length_nil]); omega); rw [zaa h2'])
    have hlow := zpz (hb.1 rfl) hi hlo
    clear hlo hhi
    simp -implicitDefEqProofs only [syms, symx, seval, c131]
  rotate_left
  focus
    simp -implicitDefEqProofs only [syms, symx, seval, c131]
    have hi : 0 ≤ l.length := Nat.zero_le _
    have hlow : ∀ y ∈ l.take 0, y.var ≠ s := by simp
  all_goals
    obtain ⟨I1, hI1⟩ : ∃ I : Nat → Env → Heap → Prop, I = (fun n e h' => ∃ (i : Nat) (h1 : Heap), h' = h1.lay [] h1.low ∧ Ext h h1 ∧ (n = l.length - i ∧ i ≤ l.length ∧ (∀ y ∈ l.take i, y.var ≠ s) ∧ Holds h1 (h.size + 0) (.row [v] 36 false) ∧ Holds h1 (h.size + 1) (.row [.string s] 9 false) ∧ Holds h1 (h.size + 2) (.row [.bool false, .string ⟨#[]⟩] 23 false)) ∧ ∃ J : Nat → Value, e = (jr J 0 2 (.pointer (some ⟨h.size + 0, 0, none⟩) :: .pointer (some ⟨h.size + 1, 0, none⟩) :: .pointer (some ⟨h.size + 2, 0, none⟩) :: .bool false :: .int .i64 i :: jr J 7 25 ([])))) := ⟨_, rfl⟩
    refine zas I1 _ (by rw [hI1]; exact ⟨_, _, rfl, z, ⟨rfl, hi, hlow, q0, q1, q2⟩, junk (by kernel_rfl)⟩) ?_
    intro n e h' hin
    rw [hI1] at hin
    obtain ⟨i, h3', rfl, z, hinv, J, rfl⟩ := hin
    clear hi hlow q0 q1 q2
    obtain ⟨rfl, hi, hlow, q0, q1, q2⟩ := hinv
    have hw : i < l.length → IntKind.i64.wrap ((i : Int) + 1) = ((i + 1 : Nat) : Int) := fun _ => by rw [zae (by omega) (by omega)]; omega
    have hz := z.size
    simp -implicitDefEqProofs only [syms, symx, seval, c131, q0.lay, hva]
    repeat' ((first | ((with_reducible  apply zaw ) <;> intro _) | with_reducible_and_instances refine zcc (hl.mono z.inc) ds36 ?_) <;> simp -implicitDefEqProofs only [syms, symx, seval, c131, q0.lay, hva])
    rotate_left
    · simp -implicitDefEqProofs only [syms, symx, seval, c131, zqg, zbF]
      refine zfH q2 sz23 rfl rfl rfl (fun h' q2' c => ?_)
      replace z := (z.upW _ _ (by omega)).step c (by omega)
      rw [zaa h']
      simp -implicitDefEqProofs only [syms, symx, seval, c131, q2'.lay, zeU, ↓zkP, zfG, zbF]
      have hno := ztI (l := l) (s := s) (fun y hy => hlow y (by rw [List.take_of_length_le (by omega)]; exact hy))
      rw [hno] at hk
      exact hk _ (z.upW _ _ (by omega))
    obtain ⟨r, hr, hr'⟩ := za5 (l := l) (i := i) (by assumption)
    repeat' ((first | ((with_reducible  apply zaw ) <;> intro _) | with_reducible_and_instances refine zhO (hl.mono z.inc) ds36 zfv (by omega) hr (fun p hp => ?_) | with_reducible_and_instances refine fdb0 hp zdm (fun q hq => ?_) | with_reducible_and_instances refine fdb1 hp zhY (fun p hp => ?_) | with_reducible_and_instances refine zd9 hq ag9 ?_ | with_reducible_and_instances refine ldt hp ag23 sz23 ?_ | with_reducible refine zbP (by simp only [c131]) (z.upW _ _ (by omega)) ?_ | ((with_reducible refine ⟨z.grw.lay _ _, ?_⟩); (intro _ h' zz x _); (try simp only [zap, List.append_nil] at x); (try replace q0 := q0.over x); (try replace q1 := q1.over x); (try replace q2 := q2.over x); (replace z := zz); (clear zz); rw [zaa h'])) <;> simp -implicitDefEqProofs only [syms, symx, seval, c131, q0.lay, q1.lay, hva])
    · have hz := z.size
      refine zfH q2 sz23 rfl rfl rfl (fun h' q2' c => ?_)
      replace z := (z.upW _ _ (by omega)).step c (by omega)
      rw [zaa h']
      simp -implicitDefEqProofs only [syms, symx, seval, c131, q2'.lay, zeU, ↓zkP, zfG, zbF]
      have hat := zq8 hr' hlow (by assumption)
      rw [hat] at hk
      exact hk _ (z.upW _ _ (by omega))
    · rw [hw (by omega)]
      (rw [hI1]; with_reducible refine zac (m := _) ?_ ⟨i + 1, _, rfl, z, ⟨rfl, by omega, zbp (i := i) (P := fun y : BindD => y.var ≠ s) hr' hlow (by assumption), q0, q1, q2⟩, junk (by kernel_rfl)⟩; omega)
end Go.Proofs.YtemapihoobmonaaGreatDoor

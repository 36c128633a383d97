/- Inserting into a list of one's own, in plain terms. No condition. -/
import Derived.Test.YtompindebndddaaGIns
import Derived.Test.YtompindebndddaaG21
namespace Go.Am
set_option linter.unusedVariables false
set_option linter.unusedSimpArgs false
theorem rowA_take {s t : List AtomD} {n : Nat} (hn : n = s.length * 11) : cut (rowA (s ++ t)) 0 n = some (rowA s) := by
  rw [rowA_append]
  have h1 : (rowA s).length = n := by rw [rowA_length, hn]
  refine cut_mk (by rw [List.length_append, h1]; omega) h1 (fun i hi => ?_)
  rw [Nat.zero_add, List.getElem?_append_left (by omega)]
theorem rowA_one (s : List AtomD) : (rowA s).all one = true := by
  rw [List.all_eq_true]
  intro x hx
  unfold rowA at hx
  obtain ⟨y, hy, hx2⟩ := List.mem_flatMap.1 hx
  exact List.all_eq_true.1 (by rfl : y.cells.all one = true) x hx2
theorem rowA_snoc (s : List AtomD) (a : AtomD) : rowA s ++ a.cells = rowA (s ++ [a]) := by
  rw [rowA_append]
  unfold rowA
  simp
theorem rowA_ins (s : List AtomD) (a : AtomD) (i : Nat) (hi : i ≤ s.length) : (rowA s).take (i * 11) ++ a.cells ++ (rowA s).drop (i * 11) = rowA (s.take i ++ a :: s.drop i) := by
  have h1 : (rowA (s.take i)).length = i * 11 := by rw [rowA_length, List.length_take]; congr 1; omega
  have e : rowA s = rowA (s.take i) ++ rowA (s.drop i) := by rw [← rowA_append, List.take_append_drop]
  rw [e, List.take_left' h1, List.drop_left' h1, rowA_append, List.append_assoc]
  congr 1
theorem ins_own {T : Tab} {t u : TypeId} {bytes : Nat} {z : List Value} (hd : T.desc t = some (.slice u)) (hi : T.info u = some (11, bytes, z)) (hu : u ≠ byteT) (hby : bytes ≤ 1000) {h0 h1 : Heap} {w : Value} {s : List AtomD} {a : AtomD} {i lw : Nat}
    (hz : h0.size ≤ h1.size) (ho : OwnA h0 h1 u w s) (hn : s.length ≤ 10000) (hin : i ≤ s.length) :
    ∃ w' H', insertA T t [w, .int .i64 i, .slice (some ⟨h1.size + 0, 0, none⟩) 1 1] (h1.lay [.row a.cells u false] lw) = some (w', H') ∧ OwnA h0 H' u w' (s.take i ++ a :: s.drop i) ∧ ∃ A, h0.size ≤ A ∧ Chg A (h1.lay [.row a.cells u false] lw) H' := by
  obtain ⟨H, hH⟩ : ∃ H, H = h1.lay [.row a.cells u false] lw := ⟨_, rfl⟩
  have hgB : H.get (h1.size + 0) = some (.row a.cells u false) := by rw [hH, lay_get]; rfl
  have hHs : H.size = h1.size + 1 := by rw [hH, lay_size]; rfl
  rw [← hH]
  have hacut : cut a.cells 0 11 = some a.cells := rfl
  have hone : a.cells.all one = true := rfl
  have hsrc : srcA (.slice (some ⟨h1.size + 0, 0, none⟩) 1 1) 11 H = some (1, a.cells) := by
    unfold srcA cellsA cellsAt
    simp only [hgB, hacut, Option.map_some, Nat.one_mul]
    rfl
  have hpushX : ∀ b, Chg h1.size H (H.push b) := fun b => ⟨by rw [Heap.size_push]; omega, fun B h1 h2 => by rw [Heap.get_push, if_neg (by omega)], by rw [Heap.low_push]; omega⟩
  have hG := G_big
  rcases ho with ⟨rfl, hemp⟩ | ⟨A, tl, rfl, hq, hA, hle⟩
  · -- nothing there
    have hi0 : i = 0 := by simpa using hin
    subst hi0
    have key : ∀ base c, c = 0 → cellsA (.slice base 0 c) 11 H = some [] → appendA T t (.slice base 0 c) (.slice (some ⟨h1.size + 0, 0, none⟩) 1 1) H = some (.slice (some ⟨H.size, 0, none⟩) 1 (G * 11 + 1), H.push (.row a.cells u false)) := by
      intro base c hc hcell
      subst hc
      unfold appendA
      simp only [hd, hi, Option.bind_some, hsrc, hcell, hone]
      rw [if_neg (by omega), if_neg (by simp; omega), if_neg (by simp), if_pos (by unfold G; omega)]
      rfl
    refine ⟨.slice (some ⟨H.size, 0, none⟩) 1 (G * 11 + 1), H.push (.row a.cells u false), ?_, ?_, h1.size, hz, hpushX _⟩
    · rcases hemp.no with rfl | ⟨B, o, rfl⟩
      · unfold insertA
        simp only [hd]
        rw [if_pos trivial]
        exact key _ _ rfl rfl
      · unfold insertA
        simp only [hd]
        rw [if_pos trivial]
        exact key _ _ rfl rfl
    · refine own_same (s := [a]) (A := H.size) ⟨by rw [Heap.size_push]; omega, ?_⟩ (by omega) (by simp) rfl
      rw [Heap.get_push, if_pos rfl]
      rfl
  · have hqH : H.get A = some (.row (rowA (s ++ tl)) u false) := by rw [hH]; exact hq.lay _ _
    have hAlt : A < h1.size := hq.lt
    have hlen : (s ++ tl).length = s.length + tl.length := List.length_append
    obtain ⟨d1, d3, d2⟩ := openCap2 (k := 11) (q := (s ++ tl).length) (by decide) (by omega)
    have hold : cellsA (.slice (some ⟨A, 0, none⟩) s.length (G * 11 + (s ++ tl).length)) 11 H = some (rowA s) := by
      unfold cellsA
      simp only
      split
      · rename_i h0
        have : s = [] := List.length_eq_zero_iff.1 (by omega)
        subst this
        rfl
      · unfold cellsAt
        rw [hqH]
        exact rowA_take rfl
    have hkp : ∀ b, Chg A H ((H.set A .dead).push b) := fun b => ⟨by rw [Heap.size_push, Heap.size_set]; omega, fun B h1 h2 => by rw [Heap.get_push, Heap.size_set, if_neg (by omega), Heap.get_set _ _ _ _ (by omega), if_neg h2], by rw [Heap.low_push, Heap.low_set]; omega⟩
    by_cases hend : i = s.length
    · subst hend
      have hins : insertA T t [.slice (some ⟨A, 0, none⟩) s.length (G * 11 + (s ++ tl).length), .int .i64 s.length, .slice (some ⟨h1.size + 0, 0, none⟩) 1 1] H = appendA T t (.slice (some ⟨A, 0, none⟩) s.length (G * 11 + (s ++ tl).length)) (.slice (some ⟨h1.size + 0, 0, none⟩) 1 1) H := by
        unfold insertA
        simp only [hd]
        rw [if_pos trivial]
      rw [hins]
      have hfin : s.take s.length ++ a :: s.drop s.length = s ++ [a] := by rw [List.take_length, List.drop_length]
      rw [hfin]
      have hb48 : ¬ ((s.length + 1) * bytes > 140737488355328) := by
        have : (s.length + 1) * bytes ≤ 10001 * 1000 := Nat.mul_le_mul (by omega) hby
        omega
      cases tl with
      | nil =>
        have hap : appendA T t (.slice (some ⟨A, 0, none⟩) s.length (G * 11 + (s ++ []).length)) (.slice (some ⟨h1.size + 0, 0, none⟩) 1 1) H = some (.slice (some ⟨H.size, 0, none⟩) (s.length + 1) (G * 11 + (s.length + 1)), (H.set A .dead).push (.row (rowA s ++ a.cells) u false)) := by
          unfold appendA
          simp only [hd, hi, Option.bind_some, hsrc, hone, hqH]
          rw [if_neg (by omega), if_neg (by simp; omega), if_neg (by rw [d2]; simp), hold]
          simp only [Option.bind_some]
          rw [if_neg (by omega), if_pos (by rw [d3]; simp)]
        rw [hap]
        refine ⟨_, _, rfl, ?_, A, hA, hkp _⟩
        have := own_same (h0 := h0) (u := u) (s := s ++ [a]) (A := H.size) (h := (H.set A .dead).push (.row (rowA s ++ a.cells) u false)) ⟨by rw [Heap.size_push, Heap.size_set]; omega, by rw [Heap.get_push, Heap.size_set, if_pos rfl, rowA_snoc]⟩ (by omega) (by rw [List.length_append]; simp; omega) rfl
        simpa using this
      | cons x tl =>
        have hidx : s.length < (s ++ x :: tl).length := by rw [List.length_append]; simp
        have hset : (s ++ x :: tl).set s.length a = s ++ [a] ++ tl := by
          rw [List.set_append_right _ _ (Nat.le_refl _), Nat.sub_self, List.set_cons_zero]
          simp
        have hw : writeA A (0 + s.length * 11) a.cells H = some (H.set A (.row (rowA (s ++ [a] ++ tl)) u false)) := by
          unfold writeA
          rw [hqH]
          simp only
          rw [Nat.zero_add, rowA_set hidx, hset, if_pos]
          simp only [Bool.and_eq_true, decide_eq_true_eq]
          refine ⟨?_, hone⟩
          rw [rowA_length, show a.cells.length = 11 from rfl]
          omega
        have hap : appendA T t (.slice (some ⟨A, 0, none⟩) s.length (G * 11 + (s ++ x :: tl).length)) (.slice (some ⟨h1.size + 0, 0, none⟩) 1 1) H = some (.slice (some ⟨A, 0, none⟩) (s.length + 1) (G * 11 + (s ++ x :: tl).length), H.set A (.row (rowA (s ++ [a] ++ tl)) u false)) := by
          unfold appendA
          simp only [hd, hi, Option.bind_some, hsrc, hone]
          rw [if_neg (by omega), if_neg (by simp; omega), if_pos (by rw [d2]; omega), if_pos (by rw [d3]; simp), hw]
          rfl
        rw [hap]
        refine ⟨_, _, rfl, ?_, A, hA, ⟨by rw [Heap.size_set]; omega, fun B h1 h2 => by rw [Heap.get_set _ _ _ _ (by omega), if_neg h2], by rw [Heap.low_set]; omega⟩⟩
        refine own_part (s := s ++ [a]) (t := tl) (A := A) ⟨by rw [Heap.size_set]; omega, by rw [Heap.get_set _ _ _ _ (by omega), if_pos rfl]⟩ hA ?_ (by simp) ?_
        · simp only [List.length_append, List.length_cons, List.length_nil] at hle ⊢
          omega
        · congr 1
          simp only [List.length_append, List.length_cons, List.length_nil]
          omega
    · have hilt : i < s.length := by omega
      have hins : insertA T t [.slice (some ⟨A, 0, none⟩) s.length (G * 11 + (s ++ tl).length), .int .i64 i, .slice (some ⟨h1.size + 0, 0, none⟩) 1 1] H = some (.slice (some ⟨H.size, 0, none⟩) (s.length + 1) (G * 11 + (s.length + 1)), (H.set A .dead).push (.row ((rowA s).take (i * 11) ++ a.cells ++ (rowA s).drop (i * 11)) u false)) := by
        unfold insertA
        simp only [hd]
        rw [if_neg (by omega)]
        simp only [hi, hgB, hqH]
        rw [if_pos (by
          refine ⟨⟨by omega, by omega, by omega, trivial, trivial, hu, by decide, d1, d3⟩, ?_, by omega⟩
          have : (s.length + 1) * bytes ≤ 10001 * 1000 := Nat.mul_le_mul (by omega) hby
          omega)]
        have e1 : cellsAt A 0 (s.length * 11) H = some (rowA s) := by
          unfold cellsAt
          rw [hqH]
          exact rowA_take rfl
        have e2 : cellsAt (h1.size + 0) 0 11 H = some a.cells := by
          unfold cellsAt
          rw [hgB]
          exact hacut
        simp only [e1, e2, Option.bind_some]
        rw [if_pos ⟨hone, rowA_one s⟩, Int.toNat_natCast]
      rw [hins]
      refine ⟨_, _, rfl, ?_, A, hA, hkp _⟩
      have hl : (s.take i ++ a :: s.drop i).length = s.length + 1 := by simp only [List.length_append, List.length_take, List.length_cons, List.length_drop]; omega
      have := own_same (h0 := h0) (u := u) (s := s.take i ++ a :: s.drop i) (A := H.size) (c := G * 11 + (s.length + 1)) (h := (H.set A .dead).push (.row ((rowA s).take (i * 11) ++ a.cells ++ (rowA s).drop (i * 11)) u false)) ⟨by rw [Heap.size_push, Heap.size_set]; omega, by rw [Heap.get_push, Heap.size_set, if_pos rfl, rowA_ins s a i (by omega)]⟩ (by omega) (by omega) (by rw [hl])
      rw [hl] at this
      exact this
end Go.Am
namespace Go.Am
set_option linter.unusedVariables false
set_option linter.unusedSimpArgs false
theorem AmPlace.tail {x a : AtomD} {r : List AtomD} {i : Nat} (p : AmPlace (x :: r) a (i + 1)) : AmPlace r a i :=
  ⟨by have := p.le; simp at this; exact this, fun k hk => by have := p.lo (k + 1) (by omega); simpa using this, fun k h1 h2 => by have := p.hi (k + 1) (by omega) (by simp; omega); simpa using this⟩
theorem put_place : ∀ {s : List AtomD} {a : AtomD} {i : Nat}, AmPlace s a i → hasA s a = false → s.take i ++ a :: s.drop i = putA a s
  | [], a, i, p, h => by
    have : i = 0 := by have := p.le; simpa using this
    subst this
    rfl
  | x :: r, a, 0, p, h => by
    have h1 := p.hi 0 (Nat.le_refl _) (by simp)
    simp only [List.getD_cons_zero] at h1
    have h2 : cmpD x a ≠ 0 := fun e => by
      have : hasA (x :: r) a = true := hasA_iff.2 ⟨x, List.mem_cons_self .., cmpD_zero.1 e⟩
      rw [h] at this
      cases this
    have h3 : cmpD a x < 0 := by
      have := cmpD_anti a x
      omega
    unfold putA
    rw [if_pos h3]
    rfl
  | x :: r, a, i + 1, p, h => by
    have h1 := p.lo 0 (by omega)
    simp only [List.getD_cons_zero] at h1
    have h3 : ¬ cmpD a x < 0 := fun g => cmpD_asymm g h1
    have h4 : ¬ cmpD a x = 0 := fun g => by
      have := cmpD_anti a x
      omega
    unfold putA
    rw [if_neg h3, if_neg h4]
    have h5 : hasA r a = false := by
      cases e : hasA r a
      · rfl
      · obtain ⟨y, hy, e2⟩ := hasA_iff.1 e
        have : hasA (x :: r) a = true := hasA_iff.2 ⟨y, List.mem_cons_of_mem _ hy, e2⟩
        rw [h] at this
        cases this
    rw [← put_place p.tail h5]
    rfl
theorem put_has : ∀ {s : List AtomD} {a : AtomD}, AscD s → hasA s a = true → putA a s = s
  | [], a, _, h => by simp [hasA] at h
  | x :: r, a, hs, h => by
    have g := List.pairwise_cons.1 hs
    unfold putA
    obtain ⟨y, hy, e⟩ := hasA_iff.1 h
    rcases List.mem_cons.1 hy with rfl | hy
    · have e0 : cmpD a y = 0 := cmpD_zero.2 e.symm
      rw [if_neg (by omega), if_pos e0]
    · have e0 : cmpD y a = 0 := cmpD_zero.2 e
      have h1 : cmpD x a < 0 := cmpD_lt_le (g.1 y hy) (Int.le_of_eq e0)
      have h3 : ¬ cmpD a x < 0 := fun g => cmpD_asymm g h1
      have h4 : ¬ cmpD a x = 0 := fun g => by
        have := cmpD_anti a x
        omega
      rw [if_neg h3, if_neg h4, put_has g.2 (hasA_iff.2 ⟨y, hy, e⟩)]
def delA (a : AtomD) (s : List AtomD) : List AtomD := s.filter (fun x => textL x != textL a)
theorem del_no {s : List AtomD} {a : AtomD} (h : hasA s a = false) : delA a s = s := by
  refine List.filter_eq_self.2 (fun x hx => ?_)
  cases e : textL x != textL a
  · have e2 : textL x = textL a := by simpa using e
    have : hasA s a = true := hasA_iff.2 ⟨x, hx, e2⟩
    rw [h] at this
    cases this
  · rfl
theorem put_light {s : List AtomD} {a : AtomD} (h : ∀ x ∈ s, x.light = true) (ha : a.light = true) (hs : AscD s) : ∀ x ∈ putA a s, x.light = true := fun x hx => by
  rcases (mem_putA hs).1 hx with g | ⟨rfl, _⟩
  · exact h x g
  · exact ha
theorem rowA_part {l m p : List AtomD} {o n : Nat} (h1 : o = l.length * 11) (h2 : n = m.length * 11) : cut (rowA (l ++ (m ++ p))) o n = some (rowA m) := by
  have g1 : (rowA l).length = o := by rw [rowA_length, h1]
  have g2 : (rowA m).length = n := by rw [rowA_length, h2]
  rw [rowA_append, rowA_append]
  refine cut_mk (by simp only [List.length_append, g1, g2]; omega) g2 (fun i hi => ?_)
  rw [List.getElem?_append_right (by omega), g1, List.getElem?_append_left (by omega)]
  congr 1
  omega
theorem has_put {s : List AtomD} {a : AtomD} (hs : AscD s) : hasA (putA a s) a = true := by
  cases h : hasA s a
  · have h2 : ∀ x ∈ s, cmpD a x ≠ 0 := fun x hx e => by
      have : hasA s a = true := hasA_iff.2 ⟨x, hx, (cmpD_zero.1 e).symm⟩
      rw [h] at this
      cases this
    exact hasA_iff.2 ⟨a, (mem_putA hs).2 (.inr ⟨rfl, h2⟩), rfl⟩
  · rw [put_has hs h, h]
theorem asc_del {s : List AtomD} {a : AtomD} (hs : AscD s) : AscD (delA a s) := hs.sublist List.filter_sublist
theorem del_length : ∀ {s : List AtomD} {a : AtomD}, AscD s → hasA s a = true → (delA a s).length + 1 = s.length
  | [], a, _, h => by simp [hasA] at h
  | x :: r, a, hs, h => by
    have g := List.pairwise_cons.1 hs
    unfold delA
    rw [List.filter_cons]
    by_cases e : textL x = textL a
    · rw [if_neg (by rw [e]; simp)]
      have hr : hasA r a = false := by
        cases h2 : hasA r a
        · rfl
        · obtain ⟨y, hy, e2⟩ := hasA_iff.1 h2
          have h3 := g.1 y hy
          have h4 : cmpD x y = 0 := cmpD_zero.2 (e.trans e2.symm)
          omega
      have := del_no hr
      unfold delA at this
      rw [this]
      simp
    · rw [if_pos (by simpa using e)]
      have hr : hasA r a = true := by
        obtain ⟨y, hy, e2⟩ := hasA_iff.1 h
        rcases List.mem_cons.1 hy with rfl | hy
        · exact absurd e2 e
        · exact hasA_iff.2 ⟨y, hy, e2⟩
      have := del_length g.2 hr
      unfold delA at this
      simp only [List.length_cons]
      omega
theorem del_put : ∀ {s : List AtomD} {a : AtomD}, AscD s → hasA s a = false → delA a (putA a s) = s := by
  intro s a hs h
  refine asc_eq (asc_del (asc_putA hs)) hs (fun x => ?_)
  unfold delA
  rw [List.mem_filter, mem_putA hs]
  constructor
  · rintro ⟨h1 | ⟨rfl, _⟩, h2⟩
    · exact h1
    · simp at h2
  · intro hx
    refine ⟨.inl hx, ?_⟩
    rw [bne_iff_ne]
    intro e
    have : hasA s a = true := hasA_iff.2 ⟨x, hx, e⟩
    rw [h] at this
    cases this
end Go.Am

/- Founded reasons and their ranks: prefixes, and more facts and clauses. No condition. -/
import Derived.Test.YtompindebndddaaG16
import Derived.Test.YtompindebndddaaG17
import Derived.Test.YtompindebndddaaG24
namespace Go.Am
set_option linter.unusedVariables false
def atR (l : List ReasonD) (a : AtomD) : Int := idxP (fun x => decide (x.atom = a)) l
end Go.Am
namespace Go.Am
set_option linter.unusedVariables false
set_option linter.unusedSimpArgs false
def ints (l : List Int) : List Value := l.map (Value.int .i64)
end Go.Am
namespace Go.Am
set_option linter.unusedVariables false
structure StepD where
  atom : AtomD
  clause : Int
  cites : List Int
  deriving DecidableEq
abbrev Rep.step : Rep StepD :=
  { k := 13, R := fun h cs x => ∃ v, cs = x.atom.cells ++ [.int .i64 x.clause, v] ∧ Sl Rep.int h v x.cites
    len := by rintro h cs x ⟨v, rfl, _⟩; rfl
    mono := by rintro h h' cs x i ⟨v, e, f⟩; exact ⟨v, e, f.mono i⟩
    ones := by rintro h cs x ⟨v, rfl, f⟩; have := f.one; simp only [List.all_append, AtomD.cells, List.all_cons, List.all_nil, this]; rfl }
def StepD.re (s : StepD) : ReasonD := ⟨s.atom, s.clause, []⟩
section
variable {h1 : Heap} {bs : List Blk} {w : Nat} {T : Tab} {K : Value → Heap → Prop} {t e s : TypeId} {v p : Value} {kd : IntKind} {i : Int}
theorem ixp_at {l : List StepD} {x : StepD} (f : Sl Rep.step h1 v l) (hd : T.desc t = some (.slice e)) (hs : sizeA T e = some 13) (h0 : 0 ≤ i) (hx : l[i.toNat]? = some x) (hk : ∀ p b, Sl Rep.int h1 b x.cites → AtP h1 p (x.re.atom.cells ++ [.int .i64 x.re.clause, b]) → K p (h1.lay bs w)) : valE (indexAddrA T t v (.int kd i)) (h1.lay bs w) K := by
  have hi := (List.getElem?_eq_some_iff.1 hx).1
  refine ix_rule f hd hs h0 (by omega) (fun x' p cs hx' hr hp => ?_)
  rw [hx] at hx'
  cases hx'
  obtain ⟨b, rfl, hb⟩ := hr
  exact hk p b hb hp
end
/-! ### Numbers of atoms by their places -/
def kvOf (ks : List ReasonD) : List (AtomD × Int) := ks.zipIdx.map fun p => (p.1.atom, (p.2 : Int))
theorem kvOf_snoc (ks : List ReasonD) (r : ReasonD) : kvOf (ks ++ [r]) = kvOf ks ++ [(r.atom, (ks.length : Int))] := by
  unfold kvOf
  rw [List.zipIdx_append, List.map_append]
  simp
theorem kvOf_keys (ks : List ReasonD) : (kvOf ks).map (·.1) = ks.map (·.atom) := by
  unfold kvOf
  rw [List.map_map]
  have : ((fun x : AtomD × Int => x.1) ∘ fun p : ReasonD × Nat => (p.1.atom, (p.2 : Int))) = (fun r : ReasonD => r.atom) ∘ Prod.fst := rfl
  rw [this, ← List.map_map, List.zipIdx_map_fst]
def citeD (ks : List ReasonD) (b : AtomD) : Int := (lookI (kvOf ks) b).getD 0
def stepD (ks : List ReasonD) (r : ReasonD) : StepD := ⟨r.atom, r.clause, r.body.map (citeD ks)⟩
def derF : List ReasonD → List ReasonD → List StepD
  | _, [] => []
  | ks, r :: l => stepD ks r :: derF (ks ++ [r]) l
def derD (ks : List ReasonD) : List StepD := derF [] ks
theorem derF_app (b c : List ReasonD) : ∀ a, derF a (b ++ c) = derF a b ++ derF (a ++ b) c := by
  induction b with
  | nil => intro a; simp [derF]
  | cons x b ih =>
    intro a
    simp only [List.cons_append, derF, ih, List.append_assoc, List.nil_append]
theorem derD_snoc (ks : List ReasonD) (r : ReasonD) : derD (ks ++ [r]) = derD ks ++ [stepD ks r] := by
  unfold derD
  rw [derF_app]
  simp [derF]
theorem derF_length (l : List ReasonD) : ∀ ks, (derF ks l).length = l.length := by
  induction l with
  | nil => intro ks; rfl
  | cons r l ih => intro ks; simp [derF, ih]
theorem derD_length (l : List ReasonD) : (derD l).length = l.length := derF_length l []
theorem derF_get (l : List ReasonD) : ∀ (ks : List ReasonD) (j : Nat) (r : ReasonD), l[j]? = some r → (derF ks l)[j]? = some (stepD (ks ++ l.take j) r) := by
  induction l with
  | nil => intro ks j r h; simp at h
  | cons x l ih =>
    intro ks j r h
    cases j with
    | zero =>
      simp at h
      subst h
      simp [derF]
    | succ j =>
      have := ih (ks ++ [x]) j r (by simpa using h)
      simpa [derF] using this
theorem derD_get {l : List ReasonD} {j : Nat} {r : ReasonD} (h : l[j]? = some r) : (derD l)[j]? = some (stepD (l.take j) r) := by
  have := derF_get l [] j r h
  simpa [derD] using this
def keptD (l : List ReasonD) (out : List AtomD) : List ReasonD := l.filter (fun r => hasA out r.atom)
theorem keptD_snoc {l : List ReasonD} {out : List AtomD} {i : Nat} {r : ReasonD} (h : l[i]? = some r) : keptD (l.take (i + 1)) out = keptD (l.take i) out ++ if hasA out r.atom = true then [r] else [] := by
  unfold keptD
  rw [List.take_add_one, h, List.filter_append]
  congr 1
  cases hb : hasA out r.atom <;> simp [hb]
def wantR (l : List ReasonD) (out : List AtomD) (i : Nat) : List Bool := List.replicate i false ++ (l.drop i).map (fun r => hasA out r.atom)
theorem wantR_all (l : List ReasonD) (out : List AtomD) : wantR l out l.length = List.replicate l.length false := by
  unfold wantR
  rw [List.drop_length]
  simp
theorem wantR_zero (l : List ReasonD) (out : List AtomD) : wantR l out 0 = l.map (fun r => hasA out r.atom) := by
  unfold wantR
  simp
theorem wantR_length (l : List ReasonD) (out : List AtomD) (i : Nat) (h : i ≤ l.length) : (wantR l out i).length = l.length := by
  unfold wantR
  rw [List.length_append, List.length_replicate, List.length_map, List.length_drop]
  omega
theorem wantR_set {l : List ReasonD} {out : List AtomD} {i : Nat} {r : ReasonD} (h : l[i]? = some r) : (wantR l out (i + 1)).set i (hasA out r.atom) = wantR l out i := by
  have hi := (List.getElem?_eq_some_iff.1 h).1
  have e : l.drop i = r :: l.drop (i + 1) := by
    rw [List.drop_eq_getElem_cons hi]
    congr 1
    have := (List.getElem?_eq_some_iff.1 h).2
    exact this
  unfold wantR
  rw [e, List.replicate_succ', List.append_assoc, List.set_append, if_neg (by simp), List.length_replicate, Nat.sub_self]
  rfl
/-! ### Rows of truth values -/
def bools (l : List Bool) : List Value := l.map Value.bool
theorem bools_get {l : List Bool} {i : Nat} {x : Bool} (h : l[i]? = some x) : (bools l)[i]? = some (.bool x) := by
  unfold bools
  rw [List.getElem?_map, h]
  rfl
theorem bools_length (l : List Bool) : (bools l).length = l.length := List.length_map _
theorem bools_rep (n : Nat) : (List.replicate n [Value.bool false]).flatten = bools (List.replicate n false) := by
  unfold bools
  rw [List.map_replicate]
  induction n with
  | zero => rfl
  | succ n ih => rw [List.replicate_succ, List.flatten_cons, ih, List.replicate_succ]; rfl
theorem store_one {T : Tab} {t u : TypeId} {w i : Nat} {c v : Value} {h1 : Heap} {bs : List Blk} {K : Value → Heap → Prop} (hb : bs[i]? = some (.row [c] u false)) (hs : sizeA T t = some 1) (hv : v.cells.toList = [v]) (hv1 : one v = true)
    (hK : K undef (h1.lay (bs.set i (.row [v] u false)) (min w (h1.size + i)))) : memE (storeA T t (.pointer (some ⟨h1.size + i, 0, none⟩)) v (h1.lay bs w)) K := by
  have hg : (h1.lay bs w).get (h1.size + i) = some (.row [c] u false) := by rw [lay_get]; exact hb
  have hsz : v.cells.size = 1 := by rw [← Array.length_toList, hv]; rfl
  have he : storeA T t (.pointer (some ⟨h1.size + i, 0, none⟩)) v (h1.lay bs w) = some ((h1.lay bs w).set (h1.size + i) (.row [v] u false)) := by
    unfold storeA
    simp only [hs, Option.bind_some]
    rw [if_pos hsz, hv]
    unfold writeA
    rw [hg]
    simp only
    rw [if_pos (by simp [hv1])]
    congr 2
  rw [he, lay_set _ _ _ _ _ (List.getElem?_eq_some_iff.1 hb).1]
  exact hK
theorem W_junk {P : Program} {T : Tab} {ov : Ov} {rd : Option Nat} {c : Code} {shape : (Nat → Value) → Env} {e : Env} {h : Heap} {Q : Ex → Env → Heap → Prop} (he : e = shape e.get) (hk : ∀ J, W P T ov rd c (shape J) h Q) : W P T ov rd c e h Q := by
  rw [he]
  exact hk _
theorem store_bool {T : Tab} {t u : TypeId} {A j : Nat} {l : List Bool} {x : Bool} {h1 : Heap} {bs : List Blk} {w : Nat} {K : Value → Heap → Prop} (q : Holds h1 A (.row (bools l) u false)) (hs : sizeA T t = some 1) (hj : j < l.length)
    (hK : ∀ h', Holds h' A (.row (bools (l.set j x)) u false) → Chg A (h1.lay bs w) h' → K undef h') : memE (storeA T t (.pointer (some ⟨A, j, none⟩)) (.bool x) (h1.lay bs w)) K := by
  have hg : (h1.lay bs w).get A = some (.row (bools l) u false) := q.lay bs w
  have hA : A < (h1.lay bs w).size := (q.on bs w).lt
  have hsp : splice (bools l) j [.bool x] = bools (l.set j x) := by
    unfold splice bools
    rw [List.map_set, List.set_eq_take_append_cons_drop, if_pos (by rw [List.length_map]; exact hj)]
    simp
  have he : storeA T t (.pointer (some ⟨A, j, none⟩)) (.bool x) (h1.lay bs w) = some ((h1.lay bs w).set A (.row (bools (l.set j x)) u false)) := by
    unfold storeA
    simp only [hs, Option.bind_some]
    have h1 : (Value.bool x).cells = #[.bool x] := rfl
    rw [h1, if_pos (by rfl)]
    unfold writeA
    rw [hg]
    simp only
    rw [if_pos (by simp only [List.length_cons, List.length_nil, List.all_cons, List.all_nil, Bool.and_true, Bool.and_eq_true, decide_eq_true_eq]; refine ⟨?_, rfl⟩; rw [bools_length]; omega), hsp]
  rw [he]
  refine hK _ ⟨by rw [Heap.size_set]; exact hA, by rw [Heap.get_set _ _ _ _ hA, if_pos rfl]⟩ ⟨by rw [Heap.size_set]; exact Nat.le_refl _, fun B hB hne => by rw [Heap.get_set _ _ _ _ hA, if_neg hne], by rw [Heap.low_set]; omega⟩
/-! ### Rows that stay -/
structure Rows (h h' : Heap) : Prop where
  size : h.size ≤ h'.size
  get : ∀ B row u ro, h.get B = some (.row row u ro) → h'.get B = some (.row row u ro)
theorem chg_rows {h h' : Heap} {M : Nat} (c : Chg M h h') (hm : ∀ row u ro, h.get M ≠ some (.row row u ro)) : Rows h h' :=
  ⟨c.size, fun B row u ro hb => by
    by_cases e : B = M
    · subst e
      exact absurd hb (hm _ _ _)
    · rw [c.get B (Heap.lt_get hb) e]
      exact hb⟩
theorem Rows.kill {h h' : Heap} {A : Nat} (g : Rows h h') (hA : A < h.size) : Rows (h.set A .dead) (h'.set A .dead) := ⟨g.size, fun B row u ro hb => by
  rw [Heap.get_set _ _ _ _ hA] at hb
  rw [Heap.get_set _ _ _ _ (Nat.lt_of_lt_of_le hA g.size)]
  split
  · rename_i e
    rw [if_pos e] at hb
    cases hb
  · rename_i e
    rw [if_neg e] at hb
    exact g.get B row u ro hb⟩
def Flat {α : Type} (r : Rep α) : Prop := ∀ g g' cs x, Rows g g' → r.R g cs x → r.R g' cs x
theorem Sl.rows {α : Type} {r : Rep α} {h h' : Heap} {v : Value} {l : List α} (hr : Flat r) (f : Sl r h v l) (g : Rows h h') : Sl r h' v l := by
  rcases f with f | ⟨A, o, c, row, u, ro, e1, e2, e3, e4, e5, e6⟩
  · exact .inl f
  · refine .inr ⟨A, o, c, row, u, ro, e1, e2, e3, Nat.lt_of_lt_of_le e4 g.size, g.get _ _ _ _ e5, fun i x hx => ?_⟩
    obtain ⟨cs, g1, g2⟩ := e6 i x hx
    exact ⟨cs, g1, hr _ _ _ _ g g2⟩
theorem Ow.rows {α : Type} {r : Rep α} {h0 h h' : Heap} {e : TypeId} {A : Nat} {v : Value} {l : List α} (hr : Flat r) (f : Ow r h0 h e A v l) (g : Rows h h') : Ow r h0 h' e A v l := by
  rcases f with ⟨f1, f2, f3⟩ | ⟨row, e1, e2, e3, e4, e5, e6, e7, e8⟩
  · refine .inl ⟨f1, f2, f3.imp id ?_⟩
    rintro ⟨B, o, g1, g0, g2, row, u, ro, g3⟩
    exact ⟨B, o, g1, g0, Nat.lt_of_lt_of_le g2 g.size, row, u, ro, g.get _ _ _ _ g3⟩
  · refine .inr ⟨row, e1, e2, e3, Nat.lt_of_lt_of_le e4 g.size, g.get _ _ _ _ e5, e6, e7, fun i x hx => ?_⟩
    obtain ⟨cs, g1, g2⟩ := e8 i x hx
    exact ⟨cs, g1, hr _ _ _ _ (g.kill e4) g2⟩
theorem flat_int : Flat Rep.int := fun _ _ _ _ _ h => h
theorem flat_step : Flat Rep.step := by
  rintro g g' cs x hr ⟨v, e, f⟩
  exact ⟨v, e, f.rows flat_int hr⟩
theorem MapI.norow {h : Heap} {A : Nat} {kv : List (AtomD × Int)} (m : MapI h A kv) : ∀ row u ro, h.get A ≠ some (.row row u ro) := by
  obtain ⟨es, cl, m1, m2⟩ := m
  intro row u ro
  rw [m1.get]
  intro e
  cases e
theorem cell_split {cs : List Value} {j : Nat} {v : Value} (hj : j < cs.length) : splice cs j [v] = cs.set j v := by
  unfold splice
  rw [List.set_eq_take_append_cons_drop, if_pos hj]
  simp
theorem store_cell {T : Tab} {t u : TypeId} {A j : Nat} {cs : List Value} {v : Value} {h1 : Heap} {bs : List Blk} {w : Nat} {K : Value → Heap → Prop} (q : Holds h1 A (.row cs u false)) (hs : sizeA T t = some 1) (hj : j < cs.length) (hv : v.cells.toList = [v]) (hv1 : one v = true)
    (hK : ∀ h', Holds h' A (.row (cs.set j v) u false) → Chg A (h1.lay bs w) h' → K undef h') : memE (storeA T t (.pointer (some ⟨A, j, none⟩)) v (h1.lay bs w)) K := by
  have hg : (h1.lay bs w).get A = some (.row cs u false) := q.lay bs w
  have hA : A < (h1.lay bs w).size := (q.on bs w).lt
  have hsz : v.cells.size = 1 := by rw [← Array.length_toList, hv]; rfl
  have he : storeA T t (.pointer (some ⟨A, j, none⟩)) v (h1.lay bs w) = some ((h1.lay bs w).set A (.row (cs.set j v) u false)) := by
    unfold storeA
    simp only [hs, Option.bind_some]
    rw [if_pos hsz, hv]
    unfold writeA
    rw [hg]
    simp only
    rw [if_pos (by simp only [List.length_cons, List.length_nil, List.all_cons, List.all_nil, Bool.and_true, Bool.and_eq_true, decide_eq_true_eq]; exact ⟨by omega, hv1⟩), cell_split hj]
  rw [he]
  refine hK _ ⟨by rw [Heap.size_set]; exact hA, by rw [Heap.get_set _ _ _ _ hA, if_pos rfl]⟩ ⟨by rw [Heap.size_set]; exact Nat.le_refl _, fun B hB hne => by rw [Heap.get_set _ _ _ _ hA, if_neg hne], by rw [Heap.low_set]; omega⟩
theorem Ow.chg {α : Type} {r : Rep α} {h0 h h' : Heap} {e : TypeId} {A B : Nat} {v : Value} {l : List α} (hflat : ∀ h h' cs x, r.R h cs x → r.R h' cs x) (hne : l ≠ []) (f : Ow r h0 h e A v l) (c : Chg B h h') (hB : B ≠ A) : Ow r h0 h' e A v l := by
  rcases f with ⟨f1, f2, f3⟩ | ⟨row, e1, e2, e3, e4, e5, e6, e7, e8⟩
  · exact absurd f2 hne
  · refine .inr ⟨row, e1, e2, e3, Nat.lt_of_lt_of_le e4 c.size, (c.get A e4 (fun x => hB x.symm)).trans e5, e6, e7, fun i x hx => ?_⟩
    obtain ⟨cs, g1, g2⟩ := e8 i x hx
    exact ⟨cs, g1, hflat _ _ _ _ g2⟩
theorem Ow.lay {α : Type} {r : Rep α} {h0 h : Heap} {e : TypeId} {A : Nat} {v : Value} {l : List α} (f : Ow r h0 h e A v l) (bs : List Blk) (w : Nat) : Ow r h0 (h.lay bs w) e A v l := f.mono (Inc.lay h bs w)
/-! ### Heaps that grow, whatever their mark -/
theorem Grw.inc {h h' : Heap} (x : Grw h h') : Inc h h' := ⟨x.1, fun A hA _ => x.2 A hA⟩
theorem Grw.over {h h1 h2 : Heap} {bs : List Blk} {w : Nat} (g : Grw h h1) (x : Ext (h1.lay bs w) h2) : Grw h h2 := by
  have hs := x.size
  rw [lay_size] at hs
  have hg := g.1
  exact ⟨by omega, fun A hA => by rw [x.get A (by rw [lay_size]; omega), lay_get_old _ _ _ (by omega)]; exact g.2 A hA⟩
theorem Grw.stepL {h h1 h2 : Heap} {C : Nat} {bs : List Blk} {w : Nat} (g : Grw h h1) (c : Chg C (h1.lay bs w) h2) (hC : h.size ≤ C) : Grw h h2 := by
  have hs := c.size
  rw [lay_size] at hs
  have hg := g.1
  exact ⟨by omega, fun A hA => by rw [c.get A (by rw [lay_size]; omega) (by omega), lay_get_old _ _ _ (by omega)]; exact g.2 A hA⟩
theorem MapI.grw {h1 h2 : Heap} {A : Nat} {kv : List (AtomD × Int)} (m : MapI h1 A kv) (x : Grw h1 h2) : MapI h2 A kv := by
  obtain ⟨es, cl, m1, m2⟩ := m
  exact ⟨es, cl, ⟨Nat.lt_of_lt_of_le m1.lt x.1, (x.2 A m1.lt).trans m1.get⟩, m2⟩
theorem MapI.lt {h : Heap} {A : Nat} {kv : List (AtomD × Int)} (m : MapI h A kv) : A < h.size := by
  obtain ⟨es, cl, m1, m2⟩ := m
  exact m1.lt
theorem MapI.stepL {h1 h2 : Heap} {A B : Nat} {kv : List (AtomD × Int)} {bs : List Blk} {w : Nat} (m : MapI h1 A kv) (c : Chg B (h1.lay bs w) h2) (hB : A ≠ B) : MapI h2 A kv := by
  obtain ⟨es, cl, m1, m2⟩ := m
  exact ⟨es, cl, m1.stepL c hB, m2⟩
/-! ### The last place of an atom -/
def noStepD : StepD := ⟨noAtomD, 0, []⟩
def lastF (l : List StepD) (a : AtomD) : Nat → Int
  | 0 => -1
  | k + 1 => if (l.getD k noStepD).atom = a then (k : Int) else lastF l a k
def lastD (l : List StepD) (a : AtomD) : Int := lastF l a l.length
end Go.Am

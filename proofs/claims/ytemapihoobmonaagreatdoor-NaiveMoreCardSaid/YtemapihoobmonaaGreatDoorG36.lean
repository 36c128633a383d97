/- A list of one's own from which the first is taken, to which one is appended. No condition. -/
import Derived.Test.YtemapihoobmonaaGreatDoorG31
import Derived.Test.YtemapihoobmonaaGreatDoorGNeed
import Derived.Test.YtemapihoobmonaaGreatDoorG33
namespace Go.Am
set_option linter.unusedVariables false
set_option linter.unusedSimpArgs false
def OwnT (h0 h : Heap) (u : TypeId) (v : Value) (s : List AtomD) : Prop :=
  (s = [] ∧ Emp h v) ∨ ∃ A o full, v = .slice (some ⟨A, o * 11, none⟩) s.length (G * 11 + s.length) ∧ Holds h A (.row (rowA full) u false) ∧ h0.size ≤ A ∧ full.drop o = s ∧ o ≤ full.length ∧ full.length ≤ 100000
theorem OwnX.todo {h0 h : Heap} {u : TypeId} {v : Value} {s : List AtomD} (f : OwnX h0 h u v s) (hn : s.length ≤ 100000) : OwnT h0 h u v s := by
  rcases f with f | ⟨A, e1, e2, e3, e4⟩
  · exact .inl f
  · exact .inr ⟨A, 0, s, by rw [Nat.zero_mul]; exact e1, e2, e3, rfl, Nat.zero_le _, hn⟩
theorem OwnT.mono {h0 h h' : Heap} {u : TypeId} {v : Value} {s : List AtomD} (f : OwnT h0 h u v s) (i : Inc h h') : OwnT h0 h' u v s := by
  rcases f with ⟨e, f⟩ | ⟨A, o, full, e1, e2, e3⟩
  · exact .inl ⟨e, f.mono i⟩
  · exact .inr ⟨A, o, full, e1, e2.mono i, e3⟩
theorem OwnT.over {h0 h1 h2 : Heap} {u : TypeId} {v : Value} {s : List AtomD} {bs : List Blk} {w : Nat} (f : OwnT h0 h1 u v s) (x : Ext (h1.lay bs w) h2) : OwnT h0 h2 u v s := f.mono ((Inc.lay _ _ _).trans x.inc)
theorem OwnT.down {h0 h1 h : Heap} {u : TypeId} {v : Value} {s : List AtomD} (f : OwnT h1 h u v s) (i : h0.size ≤ h1.size) : OwnT h0 h u v s := by
  rcases f with f | ⟨A, o, full, e1, e2, e3, e4⟩
  · exact .inl f
  · exact .inr ⟨A, o, full, e1, e2, by omega, e4⟩
theorem OwnT.sl {h0 h : Heap} {u : TypeId} {v : Value} {s : List AtomD} (f : OwnT h0 h u v s) : Sl Rep.atom h v s := by
  rcases f with ⟨rfl, f⟩ | ⟨A, o, full, rfl, e2, e3, e4, e5, e6⟩
  · exact f.sl
  · have hG := zuN
    have hs : s.length ≤ 100000 := by rw [← e4, List.length_drop]; omega
    obtain ⟨d1, d2, d3⟩ := zfX (k := 11) (q := s.length) (by decide) (by omega)
    exact zv6 (o := o) e2 (.inr ⟨d1, d2, by rw [d3]; exact Nat.le_refl _⟩) hs (fun i x hx => by rw [← e4, List.getElem?_drop] at hx; exact hx)
theorem OwnA.stay {h0 h h' : Heap} {u : TypeId} {v : Value} {s : List AtomD} {A : Nat} (f : OwnA h0 h u v s) (hne : s ≠ []) (c : Chg A h h') (hA : A < h0.size) : OwnA h0 h' u v s := by
  rcases f with ⟨e, _⟩ | ⟨B, t, e1, e2, e3, e4⟩
  · exact absurd e hne
  · exact .inr ⟨B, t, e1, e2.step c (by omega), e3, e4⟩
end Go.Am
namespace Go.Am
set_option linter.unusedVariables false
section
variable {P : Program} {T : Tab} {ov : Ov} {rd : Option Nat}
theorem zpF {A : Nat} {env : Env} {ps : List Tmp} {assign body : Code} {args : List Value} {h : Heap} {K : Value → Heap → Prop} (hg : h.get A = some (.loop env ps assign body .ready none)) (hl : args.length = ps.length)
    (hw : W P T ov (some A) assign (setAll env ps args) h fun x e1 h1 => x = .normal ∧ h1.get A = some (.loop env ps assign body .ready none) ∧
      W P T ov (some A) body e1 (h1.set A (.loop env ps assign body .busy none)) fun x _ h2 => h2.get A = some (.loop env ps assign body .busy none) ∧ match x with
        | .normal => K (.bool true) (h2.set A (.loop env ps assign body .ready none))
        | .exit id => K (.bool false) (h2.set A (.loop env ps assign body .done (some (.exit id))))
        | .ret => K (.bool false) (h2.set A (.loop env ps assign body .done (some .ret)))) :
    zgE P T ov args h K (.func (.yield A) #[] #[]) := by
  refine ⟨rfl, OkF.round hg hl ?_⟩
  obtain ⟨x, e1, h1, hx, hq⟩ := W.one _ _ _ _ hw
  obtain ⟨rfl, hg1, hb⟩ := hx
  refine hq _ ⟨rfl, env, ps, assign, body, none, hg1, ?_⟩
  obtain ⟨x, e2, h2, hx, hq⟩ := W.one _ _ _ _ hb
  refine hq _ ?_
  obtain ⟨hg2, hk⟩ := hx
  unfold zbE
  rw [hg2]
  cases x <;> exact hk
theorem zpA {ps : List Tmp} {assign body : Code} {e : Env} {h : Heap} {Q : Ex → Env → Heap → Prop} {f : FuncId} {ca : List Value} (hb : zgk T f = true)
    (hok : Ok P T ov f (.func (.yield h.size) ⟨[]⟩ ⟨[]⟩ :: ca) (h.push (.loop e ps assign body .ready none)) fun _ h2 => ∃ st pd, h2.get h.size = some (.loop e ps assign body st pd) ∧
      ((st = .ready ∧ pd = none ∧ Q .normal e (h2.set h.size (.loop e ps assign body .exhausted none))) ∨ (∃ id, st = .done ∧ pd = some (.exit id) ∧ Q (.exit id) e (h2.set h.size (.loop e ps assign body .exhausted (some (.exit id))))) ∨
        (st = .done ∧ pd = some .ret ∧ Q .ret e (h2.set h.size (.loop e ps assign body .exhausted (some .ret)))))) :
    zfx P T ov none (.func (.func f) ⟨[]⟩ ⟨ca⟩) ps assign body e h Q := by
  refine ⟨by simp [zfy, hb], ?_⟩
  obtain ⟨n, v, h', h1, st, pd, h2, h3⟩ := hok
  refine ⟨n, v, h', h1, ?_⟩
  show znA (zbV h.size e h') Q
  unfold zbV
  rw [h2]
  rcases h3 with ⟨rfl, rfl, h3⟩ | ⟨id, rfl, rfl, h3⟩ | ⟨rfl, rfl, h3⟩
  · exact h3
  · exact h3
  · exact h3
end
end Go.Am
namespace Go.Am
set_option linter.unusedVariables false
def dk (M X A : Nat) (h : Heap) : Heap := kill A (kill X (kill M h))
theorem zbn (M X A : Nat) (h : Heap) : (dk M X A h).size = h.size := by unfold dk; rw [zbd, zbd, zbd]
theorem zv9 (M X A : Nat) (h : Heap) : Inc (dk M X A h) h := (zfY _ _).trans ((zfY _ _).trans (zfY _ _))
theorem zb7 {M X A C : Nat} {h : Heap} (h1 : C ≠ A) (h2 : C ≠ X) (h3 : C ≠ M) : (dk M X A h).get C = h.get C := by
  unfold dk
  rw [zcg h1, zcg h2, zcg h3]
theorem zm1 {M X A C : Nat} {h : Heap} (hC : C < h.size) (hd : C = A ∨ C = X ∨ C = M) : (dk M X A h).get C = some .dead := by
  unfold dk
  by_cases h1 : C = A
  · subst h1
    exact zdw (by rw [zbd, zbd]; exact hC)
  rw [zcg h1]
  by_cases h2 : C = X
  · subst h2
    exact zdw (by rw [zbd]; exact hC)
  rw [zcg h2]
  have h3 : C = M := by rcases hd with h | h | h <;> first | exact absurd h h1 | exact absurd h h2 | exact h
  subst h3
  exact zdw hC
theorem zks {M X A C : Nat} {h : Heap} (hC : C < h.size) (hd : (dk M X A h).get C ≠ some .dead) : C ≠ A ∧ C ≠ X ∧ C ≠ M :=
  ⟨fun e => hd (zm1 hC (.inl e)), fun e => hd (zm1 hC (.inr (.inl e))), fun e => hd (zm1 hC (.inr (.inr e)))⟩
structure Kn (M X : Nat) (B : Heap) (A : Nat) (h : Heap) : Prop where
  m : M < h.size
  x : X < h.size
  lt : A < h.size
  inc : Inc B (dk M X A h)
section
variable {M X A A' C : Nat} {B h h1 h2 : Heap} {bs : List Blk} {w : Nat} {b : Blk}
theorem zlj {a d : Heap} (i : Inc a d) : Inc (dk M X A a) (dk M X A d) := zhf (zhf (zhf i))
theorem Kn.start (hm : M < h1.size) (hx : X < h1.size) (hA : A < h1.size) : Kn M X (dk M X A h1) A h1 := ⟨hm, hx, hA, Inc.refl _⟩
theorem Kn.all (k : Kn M X B A h1) : Inc B h1 := k.inc.trans (zv9 _ _ _ _)
theorem Kn.mono (k : Kn M X B A h1) (i : Inc h1 h2) : Kn M X B A h2 := ⟨Nat.lt_of_lt_of_le k.m i.size, Nat.lt_of_lt_of_le k.x i.size, Nat.lt_of_lt_of_le k.lt i.size, k.inc.trans (zlj i)⟩
theorem Kn.over (k : Kn M X B A h1) (x : Ext (h1.lay bs w) h2) : Kn M X B A h2 := k.mono ((Inc.lay _ _ _).trans x.inc)
theorem Kn.lay (k : Kn M X B A h1) (bs : List Blk) (w : Nat) : Kn M X B A (h1.lay bs w) := k.mono (Inc.lay _ _ _)
theorem Kn.trans (k : Kn M X B A h1) (k2 : Kn M X (dk M X A h1) A' h2) : Kn M X B A' h2 := ⟨k2.m, k2.x, k2.lt, k.inc.trans k2.inc⟩
theorem Kn.holds (k : Kn M X B A h1) (q : Holds B C b) (hb : b ≠ .dead) : Holds h1 C b ∧ C ≠ A ∧ C ≠ X ∧ C ≠ M := by
  have hC : C < h1.size := Nat.lt_of_lt_of_le q.lt k.all.size
  have hg := k.inc.get C q.lt (by rw [q.get]; exact fun e => hb (Option.some.inj e))
  rw [q.get] at hg
  have hne := zks hC (by rw [hg]; exact fun e => hb (Option.some.inj e))
  exact ⟨⟨hC, by rw [← hg, zb7 hne.1 hne.2.1 hne.2.2]⟩, hne⟩
theorem Holds.dk (q : Holds h1 C b) (hA : C ≠ A) (hX : C ≠ X) (hM : C ≠ M) : Holds (dk M X A h1) C b := ⟨by rw [zbn]; exact q.lt, by rw [zb7 hA hX hM]; exact q.get⟩
theorem Kn.keep (k : Kn M X (Go.Am.dk M X A h1) A' h2) (q : Holds h1 C b) (hA : C ≠ A) (hX : C ≠ X) (hM : C ≠ M) (hb : b ≠ .dead) : Holds h2 C b ∧ C ≠ A' :=
  have := k.holds (q.dk hA hX hM) hb
  ⟨this.1, this.2.1⟩
theorem Kn.step (k : Kn M X B A h1) (c : Chg A (h1.lay bs w) h2) (hA : A' = A ∨ h1.size ≤ A') (hl : A' < h2.size) : Kn M X B A' h2 := by
  have hs : h1.size ≤ (h1.lay bs w).size := by rw [zad]; omega
  have hs2 := c.size
  refine ⟨Nat.lt_of_lt_of_le k.m (by omega), Nat.lt_of_lt_of_le k.x (by omega), hl, ⟨by rw [zbn]; exact Nat.le_trans k.all.size (by omega), fun C hC hd => ?_⟩⟩
  have h3 := k.inc.get C hC hd
  have hC1 : C < h1.size := Nat.lt_of_lt_of_le hC k.all.size
  have hne := zks hC1 (by rw [h3]; exact hd)
  rw [zb7 hne.1 hne.2.1 hne.2.2] at h3
  rw [zb7 (by rcases hA with e | e <;> omega) hne.2.1 hne.2.2, c.get C (by omega) hne.1, zaQ _ _ _ hC1]
  exact h3
theorem Kn.stepMX (k : Kn M X B A h1) (c : Chg C (h1.lay bs w) h2) (hC : C = M ∨ C = X) : Kn M X B A h2 := by
  have hs : h1.size ≤ (h1.lay bs w).size := by rw [zad]; omega
  have hs2 := c.size
  refine ⟨Nat.lt_of_lt_of_le k.m (by omega), Nat.lt_of_lt_of_le k.x (by omega), Nat.lt_of_lt_of_le k.lt (by omega), ⟨by rw [zbn]; exact Nat.le_trans k.all.size (by omega), fun D hD hd => ?_⟩⟩
  have h3 := k.inc.get D hD hd
  have hC1 : D < h1.size := Nat.lt_of_lt_of_le hD k.all.size
  have hne := zks hC1 (by rw [h3]; exact hd)
  rw [zb7 hne.1 hne.2.1 hne.2.2] at h3
  rw [zb7 hne.1 hne.2.1 hne.2.2, c.get D (by omega) (by rcases hC with e | e <;> rw [e]; exact hne.2.2; exact hne.2.1), zaQ _ _ _ hC1]
  exact h3
theorem Kn.stepN (k : Kn M X B A h1) (c : Chg C h1 h2) (hC : B.size ≤ C) : Kn M X B A h2 := by
  have hs2 := c.size
  refine ⟨Nat.lt_of_lt_of_le k.m hs2, Nat.lt_of_lt_of_le k.x hs2, Nat.lt_of_lt_of_le k.lt hs2, ⟨by rw [zbn]; exact Nat.le_trans k.all.size hs2, fun D hD hd => ?_⟩⟩
  have h3 := k.inc.get D hD hd
  have hC1 : D < h1.size := Nat.lt_of_lt_of_le hD k.all.size
  have hne := zks hC1 (by rw [h3]; exact hd)
  rw [zb7 hne.1 hne.2.1 hne.2.2] at h3
  rw [zb7 hne.1 hne.2.1 hne.2.2, c.get D hC1 (by omega)]
  exact h3
theorem Kn.round {L : Nat} {h3 : Heap} (c : Chg L h h1) (k : Kn M X (Go.Am.dk M X A h1) A' h2) (c2 : Chg L h2 h3) (hb : h3.get L = h.get L) (hL : L ≠ A' ∧ L ≠ X ∧ L ≠ M) : Kn M X (Go.Am.dk M X A h) A' h3 := by
  have hs := c.size
  have hs2 := c2.size
  have hks := k.all.size
  rw [zbn] at hks
  refine ⟨Nat.lt_of_lt_of_le k.m hs2, Nat.lt_of_lt_of_le k.x hs2, Nat.lt_of_lt_of_le k.lt hs2, ⟨by rw [zbn, zbn]; omega, fun D hD hd => ?_⟩⟩
  rw [zbn] at hD
  have hne := zks hD hd
  rw [zb7 hne.1 hne.2.1 hne.2.2] at hd ⊢
  by_cases hDL : D = L
  · subst hDL
    rw [zb7 hL.1 hL.2.1 hL.2.2, hb]
  · have g1 := c.get D hD hDL
    have g2 := k.inc.get D (by rw [zbn]; omega) (by rw [zb7 hne.1 hne.2.1 hne.2.2, g1]; exact hd)
    rw [zb7 hne.1 hne.2.1 hne.2.2, g1] at g2
    have hne2 := zks (h := h2) (M := M) (X := X) (A := A') (C := D) (by omega) (by rw [g2]; exact hd)
    rw [zb7 hne2.1 hne2.2.1 hne2.2.2] at g2 ⊢
    rw [c2.get D (by omega) hDL, g2]
theorem Kn.mono_sl {α : Type} {r : Rep α} {v : Value} {l : List α} (k : Kn M X B A h1) (f : Sl r B v l) : Sl r h1 v l := f.mono k.all
end
theorem Ow.low {α : Type} {r : Rep α} {h0 h1 h : Heap} {e A : Nat} {v : Value} {l : List α} (hs : h0.size ≤ h1.size) (f : Ow r h1 h e A v l) : Ow r h0 h e A v l := by
  rcases f with ⟨e1, e2, e3⟩ | ⟨row, e1, e2, e3, e4⟩
  · refine .inl ⟨by omega, e2, ?_⟩
    rcases e3 with e3 | ⟨B, o, g1, g2, g3⟩
    · exact .inl e3
    · exact .inr ⟨B, o, g1, by omega, g3⟩
  · exact .inr ⟨row, e1, e2, by omega, e4⟩
def OwE {α : Type} (r : Rep α) (h0 h : Heap) (e : TypeId) (v : Value) (l : List α) : Prop := ∃ A, Ow r h0 h e A v l
section
variable {α : Type} {r : Rep α} {h0 h0' h h' h1 h2 : Heap} {e : TypeId} {v : Value} {l : List α}
theorem OwE.mono (f : OwE r h0 h e v l) (i : Inc h h') : OwE r h0 h' e v l := f.elim fun A o => ⟨A, o.mono i⟩
theorem OwE.over {bs : List Blk} {w : Nat} (f : OwE r h0 h1 e v l) (x : Ext (h1.lay bs w) h2) : OwE r h0 h2 e v l := f.elim fun A o => ⟨A, o.over x⟩
theorem OwE.lay (f : OwE r h0 h e v l) (bs : List Blk) (w : Nat) : OwE r h0 (h.lay bs w) e v l := f.mono (Inc.lay _ _ _)
theorem OwE.low (hs : h0'.size ≤ h0.size) (f : OwE r h0 h e v l) : OwE r h0' h e v l := f.elim fun A o => ⟨A, o.low hs⟩
theorem OwE.sl (f : OwE r h0 h e v l) (hk : 0 < r.k) : Sl r h v l := f.elim fun A o => o.sl hk
theorem OwE.dk {M X A : Nat} (f : OwE r h0 h e v l) (hk : 0 < r.k) (hflat : ∀ h h' cs x, r.R h cs x → r.R h' cs x) (hM : M < h0.size) (hX : X < h0.size) (hA : A < h0.size) : Sl r (dk M X A h) v l :=
  f.elim fun B o => (((o.kill hflat hM).kill hflat hX).kill hflat hA).sl hk
end
section
variable {P : Program} {T : Tab} {ov : Ov} {M X : Nat} {h0 : Heap} {J : List (List BindD) → Nat → Heap → Prop} {fy : Value}
def Yld (P : Program) (T : Tab) (ov : Ov) (M X : Nat) (h0 : Heap) (J : List (List BindD) → Nat → Heap → Prop) (fy : Value) : Prop :=
  ∀ done m A v h (K : Value → Heap → Prop), Ext h0 h → J done A h → Sl Rep.bind (dk M X A h) v m → m.length ≤ 800 → done.length < 20000 → (∀ h' A', Ext h0 h' → J (done ++ [m]) A' h' → Kn M X (dk M X A h) A' h' → K (.bool true) h') → zgE P T ov [v] h K fy
structure Sm (L : Nat) (h h' : Heap) : Prop where
  size : h.size ≤ h'.size
  get : ∀ B, B < h.size → B ≠ L → h'.get B = h.get B
theorem Chg.sm {L : Nat} {h h' : Heap} (c : Chg L h h') : Sm L h h' := ⟨c.size, c.get⟩
theorem Ext.sm {h h' : Heap} (x : Ext h h') (L : Nat) : Sm L h h' := ⟨x.size, fun B hB _ => x.get B hB⟩
theorem zye (h : Heap) (bs : List Blk) (w L : Nat) : Sm L h (h.lay bs w) := ⟨by rw [zad]; omega, fun B hB _ => zaQ h bs w hB⟩
theorem Holds.sm {L C : Nat} {h h' : Heap} {b : Blk} (q : Holds h C b) (s : Sm L h h') (hne : C ≠ L) : Holds h' C b := ⟨Nat.lt_of_lt_of_le q.lt s.size, (s.get C q.lt hne).trans q.get⟩
structure Stb (N M X : Nat) (J : List (List BindD) → Nat → Heap → Prop) : Prop where
  m : M < N
  x : X < N
  lt : ∀ {done A h}, J done A h → M < h.size ∧ X < h.size ∧ A < h.size
  sm : ∀ {done A h1 h2 L}, J done A h1 → Sm L h1 h2 → N ≤ L → L ≠ A → J done A h2
theorem Stb.lay {N : Nat} (s : Stb N M X J) {done : List (List BindD)} {A : Nat} {h1 : Heap} (j : J done A h1) (bs : List Blk) (w : Nat) : J done A (h1.lay bs w) := by
  have hl := s.lt j
  exact s.sm (L := N + h1.size) j (zye _ _ _ _) (by omega) (by omega)
theorem Stb.over {N : Nat} (s : Stb N M X J) {done : List (List BindD)} {A w : Nat} {h1 h2 : Heap} {bs : List Blk} (j : J done A h1) (x : Ext (h1.lay bs w) h2) : J done A h2 := by
  have hl := s.lt j
  exact s.sm (L := N + h1.size) (s.lay j bs w) (x.sm _) (by omega) (by omega)
structure JJ (N M X : Nat) (J : List (List BindD) → Nat → Heap → Prop) (done : List (List BindD)) (A : Nat) (h : Heap) : Prop where
  st : Stb N M X J
  j : J done A h
theorem JJ.lay {N : Nat} {done : List (List BindD)} {A : Nat} {h1 : Heap} (f : JJ N M X J done A h1) (bs : List Blk) (w : Nat) : JJ N M X J done A (h1.lay bs w) := ⟨f.st, f.st.lay f.j bs w⟩
theorem JJ.over {N : Nat} {done : List (List BindD)} {A w : Nat} {h1 h2 : Heap} {bs : List Blk} (f : JJ N M X J done A h1) (x : Ext (h1.lay bs w) h2) : JJ N M X J done A h2 := ⟨f.st, f.st.over f.j x⟩
def Rnd (P : Program) (T : Tab) (ov : Ov) (M X : Nat) (h0 B : Heap) (J : List (List BindD) → Nat → Heap → Prop) (L p : Nat) (assign body : Code) (e : Env) : Prop :=
  ∀ done m A v h, Ext h0 h → J done A h → Kn M X B A h → L ≠ A → L < h.size → Sl Rep.bind (dk M X A h) v m → m.length ≤ 800 → done.length < 20000 → W P T ov (some L) assign (e.set p v) h fun x e1 h1 => x = .normal ∧ Ext h h1 ∧
    ∀ H, Ext h0 H → Sm L h1 H → Chg L h1 H → J done A H → Kn M X B A H → Sl Rep.bind (dk M X A H) v m → W P T ov (some L) body e1 H fun x _ h2 => x = .normal ∧ Ext h0 h2 ∧ ∃ A', J (done ++ [m]) A' h2 ∧ Kn M X (dk M X A H) A' h2
theorem zxo {α : Type} {r : Rep α} {h H : Heap} {M X A L : Nat} {v : Value} {l : List α} {e : Env} {ps : List Tmp} {a b : Code} {s : LoopState} {pd : Option Code} (hflat : ∀ h h' cs x, r.R h cs x → r.R h' cs x) (f : Sl r (dk M X A h) v l) (q : h.get L = some (.loop e ps a b s pd)) (c : Sm L h H) : Sl r (dk M X A H) v l := by
  rcases f with f | ⟨C, o, n, row, u, ro, e1, e2, e3, e4, e5, e6⟩
  · exact .inl f
  · rw [zbn] at e4
    have hne := zks e4 (by rw [e5]; nofun)
    rw [zb7 hne.1 hne.2.1 hne.2.2] at e5
    have hCL : C ≠ L := fun e => by rw [e, q] at e5; cases e5
    refine .inr ⟨C, o, n, row, u, ro, e1, e2, e3, by rw [zbn]; exact Nat.lt_of_lt_of_le e4 c.size, ?_, fun i x hx => ?_⟩
    · rw [zb7 hne.1 hne.2.1 hne.2.2, c.get C e4 hCL, e5]
    · obtain ⟨cs, g1, g2⟩ := e6 i x hx
      exact ⟨cs, g1, hflat _ _ _ _ g2⟩
theorem zuI {N L p : Nat} {B : Heap} {assign body : Code} {e : Env} (st : Stb N M X J) (hL : N ≤ L) (hBL : B.size ≤ L) (hL0 : h0.size ≤ L) (round : Rnd P T ov M X h0 B J L p assign body e) :
    Yld P T ov M X h0 (fun done A h => J done A h ∧ Kn M X B A h ∧ L ≠ A ∧ Holds h L (.loop e [p] assign body .ready none)) (.func (.yield L) ⟨[]⟩ ⟨[]⟩) := by
  intro done m A v h K z ⟨j, kn, hLA, q⟩ hs hml hdl hk
  have hm := st.m
  have hx := st.x
  have hLX : L ≠ X ∧ L ≠ M := by omega
  have hch : ∀ (h1 : Heap) (b : Blk), L < h1.size → Chg L h1 (h1.set L b) ∧ Holds (h1.set L b) L b := fun h1 b hlt => ⟨⟨by rw [Heap.size_set]; exact Nat.le_refl _, fun B hB hne => by rw [Heap.get_set _ _ _ _ hlt, if_neg hne], by rw [Heap.low_set]; omega⟩, ⟨by rw [Heap.size_set]; exact hlt, by rw [Heap.get_set _ _ _ _ hlt, if_pos rfl]⟩⟩
  refine zpF (env := e) (ps := [p]) (assign := assign) (body := body) q.get rfl ?_
  refine W.mono assign _ _ _ _ ?_ (round done m A v h z j kn hLA q.lt hs hml hdl)
  rintro x e1 h1 ⟨hx, x1, hw⟩
  have q1 := q.ext x1
  obtain ⟨c1, q2⟩ := hch h1 (.loop e [p] assign body .busy none) q1.lt
  have j1 : J done A h1 := st.sm j (x1.sm L) hL hLA
  have kn1 : Kn M X B A h1 := kn.mono x1.inc
  refine ⟨hx, q1.get, W.mono body _ _ _ _ ?_ (hw _ ((z.trans x1).step c1 hL0) c1.sm c1 (st.sm j1 c1.sm hL hLA) (kn1.stepN c1 hBL) (zxo (fun _ _ _ _ h => h) (hs.mono (zlj x1.inc)) q1.get c1.sm))⟩
  rintro y e2 h2 ⟨rfl, z2, A', j2, k2⟩
  obtain ⟨q3, hLA'⟩ := k2.keep q2 hLA hLX.1 hLX.2 (by nofun)
  refine ⟨q3.get, ?_⟩
  obtain ⟨c3, q4⟩ := hch h2 (.loop e [p] assign body .ready none) q3.lt
  have k4 : Kn M X (dk M X A h1) A' (h2.set L (.loop e [p] assign body .ready none)) := Kn.round c1 k2 c3 (by rw [q4.get, q1.get]) ⟨hLA', hLX⟩
  have k5 : Kn M X (dk M X A h) A' (h2.set L (.loop e [p] assign body .ready none)) := ⟨k4.m, k4.x, k4.lt, (zlj x1.inc).trans k4.inc⟩
  exact hk _ A' (z2.step c3 hL0) ⟨st.sm j2 c3.sm hL hLA', kn.trans k5, hLA', q4⟩ k5
theorem zoX {N p A : Nat} {hs : Heap} {Q : Ex → Env → Heap → Prop} {f : FuncId} {ca : List Value} {assign body : Code} {e : Env} {done all : List (List BindD)} (hb : zgk T f = true) (st : Stb N M X J) (hN : N ≤ hs.size) (z : Ext h0 hs) (j : J done A hs)
    (call : ∀ (J' : List (List BindD) → Nat → Heap → Prop) (hs' : Heap) (K : Value → Heap → Prop), Stb (hs.size + 1) M X J' → Yld P T ov M X h0 J' (.func (.yield hs.size) ⟨[]⟩ ⟨[]⟩) → Ext h0 hs' → J' done A hs' → Kn M X (dk M X A hs) A hs' → hs.size + 1 ≤ hs'.size →
      (∀ h' A', Ext h0 h' → J' (done ++ all) A' h' → K undef h') → Ok P T ov f (.func (.yield hs.size) ⟨[]⟩ ⟨[]⟩ :: ca) hs' K)
    (round : Rnd P T ov M X h0 (dk M X A hs) J hs.size p assign body e)
    (hend : ∀ h' A', Ext h0 h' → J (done ++ all) A' h' → Kn M X (dk M X A hs) A' h' → Q .normal e h') : zfx P T ov none (.func (.func f) ⟨[]⟩ ⟨ca⟩) [p] assign body e hs Q := by
  have hl := st.lt j
  have hm := st.m
  have hx := st.x
  have hch : ∀ (h1 : Heap) (b : Blk), hs.size < h1.size → Chg hs.size h1 (h1.set hs.size b) ∧ Holds (h1.set hs.size b) hs.size b := fun h1 b hlt => ⟨⟨by rw [Heap.size_set]; exact Nat.le_refl _, fun B hB hne => by rw [Heap.get_set _ _ _ _ hlt, if_neg hne], by rw [Heap.low_set]; omega⟩, ⟨by rw [Heap.size_set]; exact hlt, by rw [Heap.get_set _ _ _ _ hlt, if_pos rfl]⟩⟩
  have hpx : Ext hs (hs.push (.loop e [p] assign body .ready none)) := ⟨by rw [Heap.size_push]; omega, fun A hA => by rw [Heap.get_push, if_neg (by omega)], by rw [Heap.low_push]; omega⟩
  have hpa : Holds (hs.push (.loop e [p] assign body .ready none)) hs.size (.loop e [p] assign body .ready none) := ⟨by rw [Heap.size_push]; omega, by rw [Heap.get_push, if_pos rfl]⟩
  have hzs := z.size
  have kn := Kn.start (h1 := hs) hl.1 hl.2.1 hl.2.2
  refine zpA hb ?_
  refine call _ _ _ ?_ (zuI st hN (by rw [zbn]; exact Nat.le_refl _) hzs round) (z.trans hpx) ⟨st.sm j (hpx.sm hs.size) hN (by omega), kn.mono hpx.inc, by omega, hpa⟩ (kn.mono hpx.inc) (by rw [Heap.size_push]; omega) ?_
  · refine ⟨by omega, by omega, fun {d A h} jj => st.lt jj.1, ?_⟩
    rintro d A h1 h2 L ⟨j1, k1, n1, q1⟩ s1 hL hLA
    refine ⟨st.sm j1 s1 (by omega) hLA, ?_, n1, q1.sm s1 (by omega)⟩
    have hks := k1.all.size
    rw [zbn] at hks
    refine ⟨Nat.lt_of_lt_of_le k1.m s1.size, Nat.lt_of_lt_of_le k1.x s1.size, Nat.lt_of_lt_of_le k1.lt s1.size, ⟨by rw [zbn, zbn]; exact Nat.le_trans hks s1.size, fun D hD hd => ?_⟩⟩
    have h3 := k1.inc.get D hD hd
    rw [zbn] at hD
    have hD1 : D < h1.size := by omega
    have hne := zks hD1 (by rw [h3]; exact hd)
    rw [zb7 hne.1 hne.2.1 hne.2.2] at h3
    rw [zb7 hne.1 hne.2.1 hne.2.2, s1.get D hD1 (by omega)]
    exact h3
  · rintro h' A' zz ⟨j1, k1, n1, q1⟩
    refine ⟨_, _, q1.get, .inl ⟨rfl, rfl, ?_⟩⟩
    obtain ⟨c3, _⟩ := hch h' (.loop e [p] assign body .exhausted none) q1.lt
    exact hend _ A' (zz.step c3 hzs) (st.sm j1 c3.sm hN n1) (k1.stepN c3 (by rw [zbn]; exact Nat.le_refl _))
end
theorem zrd {T : Tab} {t e : TypeId} {α : Type} {r : Rep α} {B : Heap} {v : Value} {l : List α} (f : Sl r B v l) (hk : 0 < r.k) (hd : T.desc t = some (.slice e)) (hs : zaL T e = some r.k) {a : Nat} {kd : IntKind} (ha : a ≤ l.length) :
    ∃ v', zbb T t v (some (.int kd a)) none none = some v' ∧ Sl r B v' (l.drop a) := by
  have h := zf4 (bs := []) (w := B.low) f hk hd hs (kd := kd) ha (K := fun v' _ => Sl r B v' (l.drop a)) (fun _ h => h)
  cases e : zbb T t v (some (.int kd a)) none none with
  | none => rw [e] at h; exact h.elim
  | some v' => rw [e] at h; exact ⟨v', rfl, h⟩
noncomputable def zfI (hav : List AtomD) : List AtomD → List BindD → List (List BindD)
  | [], l => [l]
  | p :: ps, l => hav.flatMap fun a => match extD l p a with
    | some m => zfI hav ps m
    | none => []
noncomputable def zfd (hav : List AtomD) (p : AtomD) (ps : List AtomD) (l : List BindD) (a : AtomD) : List (List BindD) := match extD l p a with
  | some m => zfI hav ps m
  | none => []
theorem zhS (hav : List AtomD) (p : AtomD) (ps : List AtomD) (l : List BindD) : zfI hav (p :: ps) l = hav.flatMap (zfd hav p ps l) := rfl
theorem zfl (head : AtomD) (hav : List AtomD) : ∀ (ps : List AtomD) (l : List BindD), (zfI hav ps l).map (fun m => zcy m head) = zbK head hav ps l
  | [], l => rfl
  | p :: ps, l => by
    rw [zhS, zhD, List.map_flatMap]
    congr 1
    funext a
    unfold zfd zno
    cases extD l p a with
    | none => rfl
    | some m => exact zfl head hav ps m
theorem zmB {hav : List AtomD} (ps : List AtomD) (l : List BindD) : (zfI hav ps l).length ≤ hav.length ^ ps.length := by
  have h := zes (head := noAtomD) (hv := hav) ps l
  rw [← zfl, List.length_map] at h
  exact h
theorem zns {hv ps : List AtomD} {p : AtomD} {l : List BindD} (j : Nat) : ((hv.take j).flatMap (zfd hv p ps l)).length ≤ j * hv.length ^ ps.length := by
  refine Nat.le_trans (zhc _ (hv.length ^ ps.length) _ (fun a _ => ?_)) (Nat.mul_le_mul_right _ (by rw [List.length_take]; omega))
  unfold zfd
  split
  · exact zmB _ _
  · exact Nat.zero_le _
theorem zre {M X A : Nat} {a b : Heap} (i : Inc a b) (hM : a.size ≤ M) (hX : a.size ≤ X) (hA : a.size ≤ A) : Inc a (dk M X A b) := ⟨by rw [zbn]; exact i.size, fun C hC hd => by rw [zb7 (by omega) (by omega) (by omega)]; exact i.get C hC hd⟩
theorem Kn.step2 {M X A A2 A' w : Nat} {B h1 h2 : Heap} {bs : List Blk} (k : Kn M X B A h1) (c : Chg A2 (h1.lay bs w) h2) (h2A : A2 = A ∨ h1.size ≤ A2) (hA : A' = A ∨ h1.size ≤ A') (hl : A' < h2.size) : Kn M X B A' h2 := by
  have hs : h1.size ≤ (h1.lay bs w).size := by rw [zad]; omega
  have hs2 := c.size
  refine ⟨Nat.lt_of_lt_of_le k.m (by omega), Nat.lt_of_lt_of_le k.x (by omega), hl, ⟨by rw [zbn]; exact Nat.le_trans k.all.size (by omega), fun C hC hd => ?_⟩⟩
  have h3 := k.inc.get C hC hd
  have hC1 : C < h1.size := Nat.lt_of_lt_of_le hC k.all.size
  have hne := zks hC1 (by rw [h3]; exact hd)
  rw [zb7 hne.1 hne.2.1 hne.2.2] at h3
  rw [zb7 (by rcases hA with e | e <;> omega) hne.2.1 hne.2.2, c.get C (by omega) (by rcases h2A with e | e <;> omega), zaQ _ _ _ hC1]
  exact h3
theorem Ow.sm {α : Type} {r : Rep α} {h0 h h' : Heap} {e : TypeId} {A L : Nat} {v : Value} {l : List α} (hflat : ∀ h h' cs x, r.R h cs x → r.R h' cs x) (f : Ow r h0 h e A v l) (c : Sm L h h') (hL : L ≠ A) (hn : l = [] → ∀ B o x n c, v = .slice (some ⟨B, o, x⟩) n c → B ≠ L) : Ow r h0 h' e A v l := by
  rcases f with ⟨e1, e2, e3⟩ | ⟨row, e1, e2, e3, e4, e5, e6, e7, e8⟩
  · refine .inl ⟨e1, e2, ?_⟩
    rcases e3 with e3 | ⟨B, o, g1, g2, g3, row, u, ro, g4⟩
    · exact .inl e3
    · exact .inr ⟨B, o, g1, g2, Nat.lt_of_lt_of_le g3 c.size, row, u, ro, by rw [c.get B g3 (hn e2 _ _ _ _ _ g1)]; exact g4⟩
  · refine .inr ⟨row, e1, e2, e3, Nat.lt_of_lt_of_le e4 c.size, by rw [c.get A e4 (Ne.symm hL)]; exact e5, e6, e7, fun i x hx => ?_⟩
    obtain ⟨cs, g1, g2⟩ := e8 i x hx
    exact ⟨cs, g1, hflat _ _ _ _ g2⟩
theorem MapK.sm {κ : Type} {kv : κ → Value} {h h' : Heap} {A L : Nat} {met : List κ} (m : MapK kv h A met) (c : Sm L h h') (hne : A ≠ L) : MapK kv h' A met := by
  obtain ⟨es, cl, ks, m1, m2, m3⟩ := m
  exact ⟨es, cl, ks, m1.sm c hne, m2, m3⟩
structure RJ (hb : Heap) (N : Nat) (u1 u2 : TypeId) (M X : Nat) (facts heads : List AtomD) (A : Nat) (h : Heap) : Prop where
  lt : M < h.size ∧ X < h.size ∧ A < h.size
  map : ∃ met, MapK AtomD.val h M met ∧ ∀ a, a ∈ met ↔ a ∈ heads
  out : ∃ (v : Value) (out : List AtomD), Holds h X (.row [v] u1 false) ∧ (∀ a, a ∈ out ↔ a ∈ facts ∨ a ∈ heads) ∧ out.length ≤ facts.length + heads.length ∧ Ow Rep.atom hb h u2 A v out ∧ (out ≠ [] → A ≠ X ∧ A ≠ M) ∧ (out = [] → A = X ∧ ∀ B o x n c, v = .slice (some ⟨B, o, x⟩) n c → B < N)
theorem RJ.sm {hb h1 h2 : Heap} {N M X A L : Nat} {u1 u2 : TypeId} {facts heads : List AtomD} (f : RJ hb N u1 u2 M X facts heads A h1) (hM : M < N) (hX : X < N) (c : Sm L h1 h2) (hN : N ≤ L) (hL : L ≠ A) : RJ hb N u1 u2 M X facts heads A h2 := by
  obtain ⟨⟨f1, f2, f3⟩, ⟨met, m1, m2⟩, v, out, o1, o2, o3, o4, o5, o6⟩ := f
  have hs := c.size
  exact ⟨by omega, ⟨met, m1.sm c (by omega), m2⟩, v, out, o1.sm c (by omega), o2, o3, o4.sm (fun _ _ _ _ h => h) c hL (fun e B o x n c hv => by have := (o6 e).2 B o x n c hv; omega), o5, o6⟩
theorem zxY {hb : Heap} {N M X : Nat} {u1 u2 : TypeId} {facts pre : List AtomD} {head : AtomD} (hM : M < N) (hX : X < N) : Stb N M X (fun done A h => RJ hb N u1 u2 M X facts (pre ++ done.map fun m => zcy m head) A h) :=
  ⟨hM, hX, fun j => j.lt, fun j c hN hL => j.sm hM hX c hN hL⟩
theorem RJ.over {hb h1 h2 : Heap} {N M X A w : Nat} {u1 u2 : TypeId} {bs : List Blk} {facts heads : List AtomD} (f : RJ hb N u1 u2 M X facts heads A h1) (x : Ext (h1.lay bs w) h2) : RJ hb N u1 u2 M X facts heads A h2 := by
  obtain ⟨⟨f1, f2, f3⟩, ⟨met, m1, m2⟩, v, out, o1, o2, o3, o4, o5⟩ := f
  have hs := x.size
  rw [zad] at hs
  exact ⟨by omega, ⟨met, m1.over x, m2⟩, v, out, o1.over x, o2, o3, o4.over x, o5⟩
theorem RJ.lay {hb h1 : Heap} {N M X A : Nat} {u1 u2 : TypeId} {facts heads : List AtomD} (f : RJ hb N u1 u2 M X facts heads A h1) (bs : List Blk) (w : Nat) : RJ hb N u1 u2 M X facts heads A (h1.lay bs w) := f.over (Ext.refl _)
theorem zs2 {cl : List ClauseD} {facts hav out : List AtomD} (hm : MayX cl facts) (hf : ∀ a ∈ hav, FactX a) (ho : ∀ a, a ∈ out ↔ a ∈ facts ∨ a ∈ cl.flatMap fun c => zbK c.head hav c.body []) : (∀ a ∈ out, FactX a) ∧ zc5 out = zdD cl facts hav := by
  have hmem : ∀ a, a ∈ out ↔ a ∈ outD cl facts hav := fun a => by
    rw [ho]
    unfold outD
    rw [List.mem_append]
  have hfo : ∀ a ∈ out, FactX a := fun a ha => zdd hm hf a ((hmem a).1 ha)
  exact ⟨hfo, ziq (zd1 hfo) (zd1 (zdd hm hf)) hmem⟩
end Go.Am

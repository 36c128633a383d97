/- Maps from atoms to numbers, in walks. No condition. -/
import Derived.Test.YtemapihoobmonaaGreatDoorG21
import Derived.Test.YtemapihoobmonaaGreatDoorGNeed
import Derived.Test.YtemapihoobmonaaGreatDoorG39
namespace Go.Am
set_option linter.unusedVariables false
set_option linter.unusedSimpArgs false
def MapI (h : Heap) (A : Nat) (kv : List (AtomD × Int)) : Prop := ∃ es clock, Holds h A (.map es clock) ∧ es.map (fun x : MapEntry => (x.key, x.val)) = kv.map (fun p => (p.1.val, Value.int .i64 p.2))
section
variable {T : Tab} {t kt et : TypeId} {A : Nat} {kv : List (AtomD × Int)} {a : AtomD} {h1 : Heap} {bs : List Blk} {w : Nat} {K : Value → Heap → Prop}
theorem MapI.over (m : MapI h1 A kv) {h2 : Heap} (x : Ext (h1.lay bs w) h2) : MapI h2 A kv := by
  obtain ⟨es, cl, m1, m2⟩ := m
  exact ⟨es, cl, m1.over x, m2⟩
theorem MapI.top {h2 : Heap} {i : Nat} (x : Ext (h1.lay bs w) h2) (hi : bs[i]? = some (.map [] 0)) : MapI h2 (h1.size + i) [] := ⟨[], 0, Holds.top x hi, rfl⟩
theorem MapI.step (m : MapI h1 A kv) {B : Nat} {h2 : Heap} (c : Chg B h1 h2) (hB : A ≠ B) : MapI h2 A kv := by
  obtain ⟨es, cl, m1, m2⟩ := m
  exact ⟨es, cl, m1.step c hB, m2⟩
end
end Go.Am
namespace Go.Am
set_option linter.unusedVariables false
structure StepD where
  atom : AtomD
  clause : Int
  cites : List Int
  deriving DecidableEq
abbrev Rep.step : Rep StepD :=
  { k := 13, R := fun h cs x => ∃ v, cs = x.atom.cells ++ [.int .i64 x.clause, v] ∧ Sl Rep.int h v x.cites
    len := by rintro h cs x ⟨v, rfl, _⟩; rfl
    mono := by rintro h h' cs x i ⟨v, e, f⟩; exact ⟨v, e, f.mono i⟩
    ones := by rintro h cs x ⟨v, rfl, f⟩; have := f.one; simp only [List.all_append, AtomD.cells, List.all_cons, List.all_nil, this]; rfl }
def StepD.re (s : StepD) : ReasonD := ⟨s.atom, s.clause, []⟩
section
variable {h1 : Heap} {bs : List Blk} {w : Nat} {T : Tab} {K : Value → Heap → Prop} {t e s : TypeId} {v p : Value} {kd : IntKind} {i : Int}
end
/-! ### Numbers of atoms by their places -/
/-! ### Rows of truth values -/
theorem zrI {T : Tab} {t u : TypeId} {w i : Nat} {c v : Value} {h1 : Heap} {bs : List Blk} {K : Value → Heap → Prop} (hb : bs[i]? = some (.row [c] u false)) (hs : zaL T t = some 1) (hv : v.cells.toList = [v]) (hv1 : one v = true)
    (hK : K undef (h1.lay (bs.set i (.row [v] u false)) (min w (h1.size + i)))) : memE (za4 T t (.pointer (some ⟨h1.size + i, 0, none⟩)) v (h1.lay bs w)) K := by
  have hg : (h1.lay bs w).get (h1.size + i) = some (.row [c] u false) := by rw [zaR]; exact hb
  have hsz : v.cells.size = 1 := by rw [← Array.length_toList, hv]; rfl
  have he : za4 T t (.pointer (some ⟨h1.size + i, 0, none⟩)) v (h1.lay bs w) = some ((h1.lay bs w).set (h1.size + i) (.row [v] u false)) := by
    unfold za4
    simp only [hs, Option.bind_some]
    rw [if_pos hsz, hv]
    unfold zcB
    rw [hg]
    simp only
    rw [if_pos (by simp [hv1])]
    congr 2
  rw [he, zaP _ _ _ _ _ (List.getElem?_eq_some_iff.1 hb).1]
  exact hK
/-! ### Rows that stay -/
structure Rows (h h' : Heap) : Prop where
  size : h.size ≤ h'.size
  get : ∀ B row u ro, h.get B = some (.row row u ro) → h'.get B = some (.row row u ro)
theorem zvT {h h' : Heap} {M : Nat} (c : Chg M h h') (hm : ∀ row u ro, h.get M ≠ some (.row row u ro)) : Rows h h' :=
  ⟨c.size, fun B row u ro hb => by
    by_cases e : B = M
    · subst e
      exact absurd hb (hm _ _ _)
    · rw [c.get B (Heap.lt_get hb) e]
      exact hb⟩
theorem Rows.kill {h h' : Heap} {A : Nat} (g : Rows h h') (hA : A < h.size) : Rows (h.set A .dead) (h'.set A .dead) := ⟨g.size, fun B row u ro hb => by
  rw [Heap.get_set _ _ _ _ hA] at hb
  rw [Heap.get_set _ _ _ _ (Nat.lt_of_lt_of_le hA g.size)]
  split
  · rename_i e
    rw [if_pos e] at hb
    cases hb
  · rename_i e
    rw [if_neg e] at hb
    exact g.get B row u ro hb⟩
def Flat {α : Type} (r : Rep α) : Prop := ∀ g g' cs x, Rows g g' → r.R g cs x → r.R g' cs x
theorem Sl.rows {α : Type} {r : Rep α} {h h' : Heap} {v : Value} {l : List α} (hr : Flat r) (f : Sl r h v l) (g : Rows h h') : Sl r h' v l := by
  rcases f with f | ⟨A, o, c, row, u, ro, e1, e2, e3, e4, e5, e6⟩
  · exact .inl f
  · refine .inr ⟨A, o, c, row, u, ro, e1, e2, e3, Nat.lt_of_lt_of_le e4 g.size, g.get _ _ _ _ e5, fun i x hx => ?_⟩
    obtain ⟨cs, g1, g2⟩ := e6 i x hx
    exact ⟨cs, g1, hr _ _ _ _ g g2⟩
theorem Ow.rows {α : Type} {r : Rep α} {h0 h h' : Heap} {e : TypeId} {A : Nat} {v : Value} {l : List α} (hr : Flat r) (f : Ow r h0 h e A v l) (g : Rows h h') : Ow r h0 h' e A v l := by
  rcases f with ⟨f1, f2, f3⟩ | ⟨row, e1, e2, e3, e4, e5, e6, e7, e8⟩
  · refine .inl ⟨f1, f2, f3.imp id ?_⟩
    rintro ⟨B, o, g1, g0, g2, row, u, ro, g3⟩
    exact ⟨B, o, g1, g0, Nat.lt_of_lt_of_le g2 g.size, row, u, ro, g.get _ _ _ _ g3⟩
  · refine .inr ⟨row, e1, e2, e3, Nat.lt_of_lt_of_le e4 g.size, g.get _ _ _ _ e5, e6, e7, fun i x hx => ?_⟩
    obtain ⟨cs, g1, g2⟩ := e8 i x hx
    exact ⟨cs, g1, hr _ _ _ _ (g.kill e4) g2⟩
theorem MapI.norow {h : Heap} {A : Nat} {kv : List (AtomD × Int)} (m : MapI h A kv) : ∀ row u ro, h.get A ≠ some (.row row u ro) := by
  obtain ⟨es, cl, m1, m2⟩ := m
  intro row u ro
  rw [m1.get]
  intro e
  cases e
theorem Ow.chg {α : Type} {r : Rep α} {h0 h h' : Heap} {e : TypeId} {A B : Nat} {v : Value} {l : List α} (hflat : ∀ h h' cs x, r.R h cs x → r.R h' cs x) (hne : l ≠ []) (f : Ow r h0 h e A v l) (c : Chg B h h') (hB : B ≠ A) : Ow r h0 h' e A v l := by
  rcases f with ⟨f1, f2, f3⟩ | ⟨row, e1, e2, e3, e4, e5, e6, e7, e8⟩
  · exact absurd f2 hne
  · refine .inr ⟨row, e1, e2, e3, Nat.lt_of_lt_of_le e4 c.size, (c.get A e4 (fun x => hB x.symm)).trans e5, e6, e7, fun i x hx => ?_⟩
    obtain ⟨cs, g1, g2⟩ := e8 i x hx
    exact ⟨cs, g1, hflat _ _ _ _ g2⟩
theorem Ow.lay {α : Type} {r : Rep α} {h0 h : Heap} {e : TypeId} {A : Nat} {v : Value} {l : List α} (f : Ow r h0 h e A v l) (bs : List Blk) (w : Nat) : Ow r h0 (h.lay bs w) e A v l := f.mono (Inc.lay h bs w)
/-! ### Heaps that grow, whatever their mark -/
theorem Grw.inc {h h' : Heap} (x : Grw h h') : Inc h h' := ⟨x.1, fun A hA _ => x.2 A hA⟩
theorem Grw.over {h h1 h2 : Heap} {bs : List Blk} {w : Nat} (g : Grw h h1) (x : Ext (h1.lay bs w) h2) : Grw h h2 := by
  have hs := x.size
  rw [zad] at hs
  have hg := g.1
  exact ⟨by omega, fun A hA => by rw [x.get A (by rw [zad]; omega), zaQ _ _ _ (by omega)]; exact g.2 A hA⟩
theorem Grw.stepL {h h1 h2 : Heap} {C : Nat} {bs : List Blk} {w : Nat} (g : Grw h h1) (c : Chg C (h1.lay bs w) h2) (hC : h.size ≤ C) : Grw h h2 := by
  have hs := c.size
  rw [zad] at hs
  have hg := g.1
  exact ⟨by omega, fun A hA => by rw [c.get A (by rw [zad]; omega) (by omega), zaQ _ _ _ (by omega)]; exact g.2 A hA⟩
theorem MapI.grw {h1 h2 : Heap} {A : Nat} {kv : List (AtomD × Int)} (m : MapI h1 A kv) (x : Grw h1 h2) : MapI h2 A kv := by
  obtain ⟨es, cl, m1, m2⟩ := m
  exact ⟨es, cl, ⟨Nat.lt_of_lt_of_le m1.lt x.1, (x.2 A m1.lt).trans m1.get⟩, m2⟩
theorem MapI.lt {h : Heap} {A : Nat} {kv : List (AtomD × Int)} (m : MapI h A kv) : A < h.size := by
  obtain ⟨es, cl, m1, m2⟩ := m
  exact m1.lt
theorem MapI.stepL {h1 h2 : Heap} {A B : Nat} {kv : List (AtomD × Int)} {bs : List Blk} {w : Nat} (m : MapI h1 A kv) (c : Chg B (h1.lay bs w) h2) (hB : A ≠ B) : MapI h2 A kv := by
  obtain ⟨es, cl, m1, m2⟩ := m
  exact ⟨es, cl, m1.stepL c hB, m2⟩
/-! ### The last place of an atom -/
end Go.Am
namespace Go.Proofs.YtemapihoobmonaaGreatDoor
open Go.Am
set_option linter.unusedSimpArgs false
set_option linter.unusedVariables false
set_option maxRecDepth 100000
set_option maxHeartbeats 0
theorem zoz (a b : AtomD) : eqIn tab 20 26 a.val b.val = some (decide (a = b)) := by
  have h : eqIn tab 20 26 a.val b.val = eqA a b := by kernel_rfl
  rw [h, zo6]
theorem zvE (a : AtomD) : zfh a.val a.val = true := by
  show zen a.cells a.cells = true
  simp [zen, zj7, AtomD.cells]
theorem zp9 : Flat Rep.atom := fun _ _ _ _ _ h => h
theorem zqj {n k : Nat} (hn : n ≤ 24) (hk : k ≤ 3) : n ^ k ≤ 13824 := by
  have h4 : k = 0 ∨ k = 1 ∨ k = 2 ∨ k = 3 := by omega
  rcases h4 with e | e | e | e <;> rw [e]
  · rw [Nat.pow_zero]; omega
  · rw [Nat.pow_one]; omega
  · exact Nat.le_trans (Nat.pow_le_pow_left hn 2) (by decide)
  · exact Nat.le_trans (Nat.pow_le_pow_left hn 3) (by decide)
theorem zp6 (l : List AtomD) (v : Value) (h : Heap) (hl : Sl Rep.atom h v l) (hs : l.length ≤ 100000) (K : Value → Heap → Prop)
    (hk : ∀ h' w A, Ext h h' → Ow Rep.atom h h' 26 A w l → K w h') : Ok Tryz.prog tab ov 56 [v] h K := by
  rw [zaa h]
  obtain ⟨b, hb, hnil⟩ := zoh hl
  refine Ok.into rfl zo1 (zaB N56) rfl (m := 7) rfl ?_
  simp -implicitDefEqProofs only [syms, symx, seval, c56, hb]
  cases b
  · simp -implicitDefEqProofs only [syms, symx, seval, c56, za2, zqF]
    obtain ⟨news, hs, hsr⟩ := zis (A := h.size + 1) (r := Rep.atom) (by decide) (hl.lay [.row [] 26 false] h.low) (fun cs y hr => hr)
    have f : Ow Rep.atom h (h.lay [.row [] 26 false] h.low) 26 (h.size + 1) (.slice (some ⟨h.size + 0, 0, none⟩) 0 0) [] :=
      .inl ⟨by omega, rfl, .inr ⟨h.size + 0, 0, rfl, by omega, by rw [zad]; simp, [], 26, false, by rw [zaR]; rfl⟩⟩
    obtain ⟨w, h', A', e1, e2, e3, e4, e5⟩ := zdz (t := 27) ds27 zbN rfl (by decide) (by rw [zad]; omega) f hs hsr (by simp only [List.length_nil]; omega) (by simp only [List.length_nil]; omega)
    rw [e1]
    simp -implicitDefEqProofs only [syms, symx, seval, c56]
    exact hk _ _ A' ((Ext.refl h).stepW e3 (by omega) (by omega)) (by simpa using e2)
  · simp -implicitDefEqProofs only [syms, symx, seval, c56]
    rw [hnil rfl] at hk
    exact hk _ _ _ ((Ext.refl h).upW _ _ (by omega)) (Ow.nil (Nat.le_refl _))
theorem ztg (cl : List ClauseD) (facts hav : List AtomD) (v u w : Value) (h : Heap) (hsp : SpaceAt 1 h) (hl : Sl Rep.clause h v cl) (hf : Sl Rep.atom h u facts) (hh : Sl Rep.atom h w hav) (hn : cl.length ≤ 6) (hcb : ∀ c ∈ cl, c.body.length ≤ 3) (hfn : facts.length ≤ 1000) (hhn : hav.length ≤ 24) (hm : MayX cl facts) (hfx : ∀ a ∈ hav, FactX a)
    (K : Value → Heap → Prop) (hk : ∀ h' w', Ext h h' → Sl Rep.atom h' w' (zdD cl facts (zc5 hav)) → K w' h') : Ok Tryz.prog tab ov 14 [v, u, w] h K := by
  rw [zaa h]
  have z := Ext.refl h
  have hva := zaH v
  have hvu := zaH u
  have hvw := zaH w
  have hlv := fun (hh : Heap) => hl.lenA ds32 hh
  refine Ok.into rfl zuc (zaB N14) rfl (m := 54) rfl ?_
  repeat' ( simp -implicitDefEqProofs only [syms, symx, seval, c14, hva, hvu])
  refine zr0 cl facts v u _ (hsp.lay _ _) (hl.lay _ _) (hf.lay _ _) (by omega) (fun c hc => by have := hcb c hc; omega) (by omega) _ (fun hm2 h' x => ?_) (fun hm2 h' x => absurd hm hm2)
  ((skip); replace z := z.overW x (by (try simp only [lsz]); omega); rw [zaa h'])
  repeat' (first | simp -implicitDefEqProofs only [syms, symx, seval, c14, hvw, Bool.not_true] | ((with_reducible_and_instances apply zaf); (· rfl)))
  refine zsw hav w _ ((hsp.ext z).lay _ _) ((hh.mono z.inc).lay _ _) (by omega) hfx _ (fun h' w1 x s1 => ?_)
  ((skip); replace z := z.overW x (by (try simp only [lsz]); omega); rw [zaa h'])
  have hsf : ∀ a ∈ zc5 hav, FactX a := fun a ha => hfx a ((zc0 (zd1 hfx)).1 ha)
  have hsn : (zc5 hav).length ≤ 24 := by have := zeM hav; omega
  obtain ⟨have2, hhv⟩ : ∃ l, l = zc5 hav := ⟨_, rfl⟩
  rw [← hhv] at s1 hk hsf hsn
  have hvw1 := zaH w1
  repeat' ( simp -implicitDefEqProofs only [syms, symx, seval, c14, hvw1, hvu, zlw])
  refine zrI (i := 1) rfl sz91 rfl rfl ?_
  simp -implicitDefEqProofs only [syms, symx, seval, c14, hvu, List.set_cons_zero, List.set_cons_succ]
  repeat' ((first | ((with_reducible first | apply zaw | apply zdA | apply zg4 | apply zgU | apply zgt) <;> intro _) | ((with_reducible_and_instances apply zaf); (· rfl))) <;> simp -implicitDefEqProofs only [syms, symx, seval, c14, hvu])
  have hz1 := z.size
  obtain ⟨hb, ehb⟩ : ∃ hb, hb = h' := ⟨_, rfl⟩
  subst ehb
  refine zp6 facts u _ ((hf.mono z.inc).lay _ _) (by omega) _ (fun h' wv A1 x ow => ?_)
  have q0 := Holds.top (i := 0) x rfl
  have q1 := Holds.top (i := 1) x rfl
  have hfA := ow.fresh
  have ib : Grw hb h' := (Ext.refl hb).grw.over x
  have s1b := s1
  simp only [zad, List.length_cons, List.length_nil] at hfA
  replace ow := ow.low (show h.size ≤ _ by first | omega | (simp only [zad]; omega))
  ((skip); replace z := z.overW x (by (try simp only [lsz]); omega); (try replace s1 := s1.over x); (try replace ow := ow.over x); (try replace q0 := q0.over x); (try replace q1 := q1.over x); (try replace ib := ib.over x); rw [zaa h'])
  obtain ⟨M, hM⟩ : ∃ M, M = hb.size + 0 := ⟨_, rfl⟩
  obtain ⟨P7, hP7⟩ : ∃ P7, P7 = hb.size + 1 := ⟨_, rfl⟩
  rw [← hM] at q0 q1
  rw [← hP7] at q1
  rw [← hM, ← hP7]
  have hvo := zaH wv
  have hwo := zcs (ow.sl (by decide))
  have hwo1 := (ow.sl (by decide)).one
  repeat' ( simp -implicitDefEqProofs only [syms, symx, seval, c14, hvo])
  obtain ⟨hc, ehc⟩ : ∃ hc, hc = h' := ⟨_, rfl⟩
  subst ehc
  have hzc := z.size
  have hc1 := q1.lt
  have hltc : facts ≠ [] → A1 < hc.size := fun e => ow.ltN e
  refine znb sz27 hwo hwo1 ?_
  repeat' ( simp -implicitDefEqProofs only [syms, symx, seval, c14, hva, hlv])
  refine zf8 (fun h' x hq => ?_)
  have q2 := hq 0 _ rfl
  clear hq
  (replace z := z.overW x (by (try simp only [lsz]); omega); (try replace s1 := s1.over x); (try replace ow := ow.over x); (try replace q0 := q0.over x); (try replace q1 := q1.over x); (try replace ib := ib.over x); rw [zaa h'])
  obtain ⟨X, hX⟩ : ∃ X, X = hc.size + 0 := ⟨_, rfl⟩
  rw [← hX] at q2
  rw [← hX]
  have hX2 := q2.lt
  have hzN := z.size
  obtain ⟨A, hA1, hA2, hA3, rj⟩ : ∃ A, hb.size ≤ A ∧ A < h'.size ∧ A ≠ P7 ∧ RJ h h'.size 27 26 M X facts [] A h' := by
    by_cases hfe : facts = []
    · subst hfe
      refine ⟨X, by omega, by omega, by omega, ⟨by omega, by omega, by omega⟩, ⟨[], MapK.new q0, fun a => Iff.rfl⟩, wv, [], q2, by simp, by simp, ow.re (by omega), fun e => absurd rfl e, fun _ => ⟨rfl, fun B o x n c hB => ?_⟩⟩
      rcases ow with ⟨_, _, e3⟩ | ⟨_, _, e2, _⟩
      · rcases e3 with e3 | ⟨B', o', g1, g2, g3, _⟩
        · rw [e3] at hB; cases hB
        · rw [g1] at hB; cases hB; exact g3
      · exact absurd rfl e2
    · have hlt := hltc hfe
      exact ⟨A1, by omega, by omega, by omega, ⟨by omega, by omega, by omega⟩, ⟨[], MapK.new q0, fun a => Iff.rfl⟩, wv, facts, q2, by simp, by simp, ow, fun _ => ⟨by omega, by omega⟩, fun e => absurd e hfe⟩
  obtain ⟨B0, hB0⟩ : ∃ B0, B0 = dk M X A h' := ⟨_, rfl⟩
  have kn : Kn M X B0 A h' := by rw [hB0]; exact Kn.start (by omega) (by omega) (by omega)
  have R7 : Holds B0 P7 (.row [.map (some M)] 91 false) := by rw [hB0]; exact q1.dk (by omega) (by omega) (by omega)
  have lC : Sl Rep.clause B0 v cl := by rw [hB0]; exact hl.mono (zre z.inc (by omega) (by omega) (by omega))
  replace s1 : Sl Rep.atom B0 w1 have2 := by rw [hB0]; exact s1b.mono (zre ib.inc (by omega) (by omega) (by omega))
  obtain ⟨N, hN⟩ : ∃ N, N = h'.size := ⟨_, rfl⟩
  rw [← hN] at rj
  have hMN : M < N := by omega
  have hXN : X < N := by omega
  have hNB : B0.size = N := by rw [hB0, zbn, hN]
  have hAh : h.size ≤ A := by omega
  have hMh : h.size ≤ M := by omega
  have hXh : h.size ≤ X := by omega
  clear q0 q1 q2 ow ib s1b hwo hwo1 hvo
  obtain ⟨I1, hI1⟩ : ∃ I : Nat → Env → Heap → Prop, I = (fun n e h' => ∃ (j : Nat) (A : Nat) (heads : List AtomD) (h1 : Heap), h' = h1.lay [] h1.low ∧ Ext h h1 ∧ (n = cl.length - j ∧ j ≤ cl.length ∧ heads = ((cl.take j).flatMap fun c => zbK c.head have2 c.body []) ∧ RJ h N 27 26 M X facts heads A h1 ∧ Kn M X B0 A h1 ∧ h.size ≤ A) ∧ ∃ J : Nat → Value, e = (v :: J 1 :: w1 :: jr J 3 4 (.pointer (some ⟨P7, 0, none⟩) :: .pointer (some ⟨X, 0, none⟩) :: jr J 9 15 (v :: .int .i64 cl.length :: .int .i64 j :: jr J 27 30 ([]))))) := ⟨_, rfl⟩
  refine zas I1 _ (by rw [hI1]; exact ⟨0, A, [], _, rfl, z, ⟨rfl, by omega, by simp, rj, kn, hAh⟩, junk (by kernel_rfl)⟩) ?_
  intro n e h' hin
  rw [hI1] at hin
  obtain ⟨j, A, heads, h1', rfl, z, hinv, J, rfl⟩ := hin
  clear rj kn
  obtain ⟨rfl, hj, hhd, rj, kn, hAh⟩ := hinv
  have hwj : IntKind.i64.wrap ((j : Int) + 1) = ((j + 1 : Nat) : Int) := by rw [zae (by omega) (by omega)]; omega
  have hol := zqT (facts := []) (hv := have2) hcb hn hsn j
  rw [List.nil_append, ← hhd] at hol
  simp only [List.length_nil] at hol
  simp -implicitDefEqProofs only [syms, symx, seval, c14, hva, hlv]
  refine zaw (fun hlt2 => ?_) (fun hlt2 => ?_)
  rotate_left
  · rw [List.take_of_length_le (by omega)] at hhd
    obtain ⟨rlt, rmap, wo, out, qX, ho1, ho2, ow, _⟩ := rj
    obtain ⟨g1, g2⟩ := zs2 (hav := have2) (out := out) hm hsf (by rw [← hhd]; exact ho1)
    have hvo := zaH wo
    repeat' ( simp -implicitDefEqProofs only [syms, symx, seval, c14, qX.lay, hvo])
    refine zlp out wo _ ((ow.sl (by decide)).lay _ _) (by omega) (fun a ha => (g1 a ha).valid.light) _ (fun h' w9 x o1 => ?_)
    replace o1 := o1.sl
    rw [g2] at o1
    ((skip); replace z := z.overW x (by (try simp only [lsz]); omega); (try replace rj := rj.over x); (try replace kn := kn.over x); rw [zaa h'])
    have hvw9 := zaH w9
    repeat' ( simp -implicitDefEqProofs only [syms, symx, seval, c14, hvw9])
    exact hk _ _ (z.upW _ _ (by omega)) (o1.lay _ _)
  obtain ⟨c, hc0, hc'⟩ := za5 (l := cl) (i := j) (by omega)
  have hcm := List.mem_of_getElem? hc'
  have hcb3 := hcb c hcm
  have htk : (cl.take (j + 1)).flatMap (fun c => zbK c.head have2 c.body []) = (cl.take j).flatMap (fun c => zbK c.head have2 c.body []) ++ zbK c.head have2 c.body [] := by rw [List.take_add_one, hc', List.flatMap_append]; simp
  have hz1 := z.size
  repeat' (first | simp -implicitDefEqProofs only [syms, symx, seval, c14, hva, hvw1] | with_reducible_and_instances refine zvv lC kn.all ds32 sz29 (by omega) hc0 (fun p bd hbd hp => ?_) | with_reducible_and_instances refine ldc hp ag29 sz29 ?_)
  have hall1 := zin (a := c.head) (Sl.one (by assumption))
  repeat' ( simp -implicitDefEqProofs only [syms, symx, seval, c14, zaP, zaC, List.all_cons, List.all_nil, Am.one, Bool.and_true, Bool.true_and, Bool.and_self, List.set_cons_zero, List.set_cons_succ, st4, st3, st9, st23, st26, st29, zcj, zka, hall1, zok, zjB, if_true, ↓zcD, zcw])
  have sbd : Sl Rep.atom B0 bd c.body := by assumption
  have hvb := zaH bd
  clear hp
  repeat' ( simp -implicitDefEqProofs only [syms, symx, seval, c14, hvb, hvw1])
  have hA9 := kn.lt
  have hM9 := kn.m
  have hX9 := kn.x
  refine zls bd w1 (.slice none 0 0) _ (zcs sbd) (zcs s1) rfl _ (fun h' Z1 Z2 Z3 x hZ1 hZ2 hZ3 g1 g2 g3 => ?_)
  simp only [zad, List.length_cons, List.length_nil] at hZ1 hZ2 hZ3
  have q10 := Holds.top (i := 0) x rfl
  ((skip); replace z := z.overW x (by (try simp only [lsz]); omega); (try replace rj := rj.over x); (try replace kn := kn.over x); rw [zaa h'])
  obtain ⟨C0, hC0⟩ : ∃ C0, C0 = h1'.size + 0 := ⟨_, rfl⟩
  rw [← hC0] at q10
  rw [← hC0]
  repeat' ( simp -implicitDefEqProofs only [syms, symx, seval, c14])
  have hz9 := z.size
  have hk9 := kn.all.size
  obtain ⟨B1, hB1⟩ : ∃ B1, B1 = dk M X A h' := ⟨_, rfl⟩
  have i1 : Inc B0 B1 := by rw [hB1]; exact kn.inc
  have f1 : Holds B1 Z1 (.row [bd] 27 false) := by rw [hB1]; exact g1.dk (by omega) (by omega) (by omega)
  have f2 : Holds B1 Z2 (.row [.slice none 0 0] 36 false) := by rw [hB1]; exact g2.dk (by omega) (by omega) (by omega)
  have f3 : Holds B1 Z3 (.row [w1] 27 false) := by rw [hB1]; exact g3.dk (by omega) (by omega) (by omega)
  have R10 : Holds B1 C0 (.row (c.head.cells ++ [bd]) 29 false) := by rw [hB1]; exact q10.dk (by omega) (by omega) (by omega)
  have R7' := R7.mono i1
  rw [← zaa h']
  refine zoX (N := N) (A := A) (J := fun done A h2 => RJ h N 27 26 M X facts (heads ++ done.map fun m => zcy m c.head) A h2) (done := []) (all := zfI have2 c.body []) (by kernel_rfl) (zxY hMN hXN) (by omega) z (by simpa using rj) ?_ ?_ ?_
  · rw [← hB1]
    intro J' hs' K' st' yl' z' j' k' hlen hk'
    exact zlz M X h have2 w1 (by omega) c.body.length (h'.size + 1) c.body bd [] (.slice none 0 0) Z1 Z2 Z3 h'.size A J' [] B1 hs' rfl (by omega) (by simp only [List.length_nil]; omega) (by have := zqj hsn hcb3; simp only [List.length_nil]; omega) st' hlen yl' z' j' k' f1 f2 f3 (sbd.mono i1) Sl.nil (s1.mono i1) K' (fun h3 A3 x3 j3 _ => hk' h3 A3 x3 j3)
  · rw [← hB1]
    intro done' m' A' v' hh' z' j' k' hLA hLl s' hml' hdl'
    have hvv : ∀ (h : Heap) (K : Value → Heap → Prop), valE (some v') h K = K v' h := fun _ _ => rfl
    rw [zaa hh']
    repeat' ( simp -implicitDefEqProofs only [syms, symx, seval, c14, hvv])
    refine ⟨Ext.refl _, fun H zH cs cg jH kH sH => ?_⟩
    obtain ⟨⟨r1, r2, r3⟩, ⟨met, m0, hmet⟩, wo, out, qX, ho1, ho2, ow, ho3, ho4⟩ := jH
    have q10 := (kH.holds R10 (by nofun)).1
    have q7 := (kH.holds R7' (by nofun)).1
    have kn : Kn M X (dk M X A' (H.lay [] H.low)) A' H := by rw [← zaa H]; exact Kn.start r1 r2 r3
    have hvm : ∀ (h : Heap) (K : Value → Heap → Prop), valE (some (.map (some M))) h K = K (.map (some M)) h := fun _ _ => rfl
    have sV : Sl Rep.bind H v' m' := sH.mono (zv9 _ _ _ _)
    have hvo := zaH wo
    rw [zaa H]
    clear z
    have z := zH
    repeat' ( simp -implicitDefEqProofs only [syms, symx, seval, c14, hvv, q10.lay, ↓zhe, zau, zaj])
    refine zsJ m' v' c.head _ (sV.lay _ _) (by omega) _ (fun h' x => ?_)
    ((skip); replace z := z.overW x (by (try simp only [lsz]); omega); (try replace q10 := q10.over x); (try replace q7 := q7.over x); (try replace kn := kn.over x); (try replace m0 := m0.over x); (try replace qX := qX.over x); (try replace ow := ow.over x); rw [zaa h'])
    obtain ⟨a, ha⟩ : ∃ a, a = zcy m' c.head := ⟨_, rfl⟩
    rw [← ha]
    repeat' ( simp -implicitDefEqProofs only [syms, symx, seval, c14, zaj, zaP, zaC, List.all_cons, List.all_nil, Am.one, Bool.and_true, Bool.true_and, Bool.and_self, List.set_cons_zero, List.set_cons_succ, st4, st3, st9, st23, st26, st29, zcj, zay, zfU, zfK, zfE, zlA, zrF, List.append_nil, if_true, ↓zax, zau])
    have hnx : heads ++ (done' ++ [m']).map (fun m => zcy m c.head) = (heads ++ done'.map fun m => zcy m c.head) ++ [a] := by rw [List.map_append, ← List.append_assoc, ha]; rfl
    have hnm : ∀ y, y ∈ heads ++ (done' ++ [m']).map (fun m => zcy m c.head) ↔ y ∈ (heads ++ done'.map fun m => zcy m c.head) ∨ y = a := fun y => by rw [hnx, List.mem_append (t := [a]), List.mem_singleton]
    repeat' ( simp -implicitDefEqProofs only [syms, symx, seval, c14, q7.lay, hvm, zpj, ↓zax, zau, zaj])
    refine zjx (a := a) m0 zi2 ds91 zoz zo3 (fun hin => ?_) (fun hin => ?_)
    all_goals
      repeat' (first | simp -implicitDefEqProofs only [syms, symx, seval, c14, zaP, zaC, List.all_cons, List.all_nil, Am.one, Bool.and_true, Bool.true_and, Bool.and_self, List.set_cons_zero, List.set_cons_succ, st4, st3, st9, st23, st26, st29, zcj, zx1] | ((with_reducible_and_instances apply zaf); (· rfl)))
    · skip
      refine ⟨z.upW _ _ (by omega), A', RJ.lay ⟨⟨kn.m, kn.x, kn.lt⟩, ⟨met, m0, fun y => ?_⟩, wo, out, qX, fun y => ?_, ?_, ow, ho3, ho4⟩ _ _, kn.lay _ _⟩
      · rw [hmet, hnm]
        exact ⟨.inl, fun e => e.elim id fun e => by rw [e]; exact (hmet a).1 hin⟩
      · rw [ho1, hnm]
        exact ⟨fun e => e.elim .inl fun e => .inr (.inl e), fun e => e.elim .inl fun e => .inr (e.elim id fun e => by rw [e]; exact (hmet a).1 hin)⟩
      · rw [hnx, List.length_append]; omega
    · repeat' ( simp -implicitDefEqProofs only [syms, symx, seval, c14, Bool.not_false, q7.lay, hvm, zhA, ztU, ↓zax, zau, zaj])
      have hz2 := z.size
      have hMl := kn.m
      have hXl := kn.x
      have hq7 := q7.lt
      have hnr := (m0.lay [Blk.row a.cells 26 false, Blk.row [] 95 false] (min (min h'.low (h'.size + 0)) (h'.size + 1))).norow
      refine zo4 (a := a) m0 zi2 zvE ds91 zoz (fun h3 m1 cg => ?_)
      have hrw := zvT cg hnr
      have ow3 := (ow.lay _ _).rows zp9 hrw
      have q12 := Holds.topC (i := 0) cg hMl rfl
      have qX3 := qX.stepL cg (by omega)
      have kn3 := kn.stepMX cg (.inl rfl)
      replace z := (z.upW _ _ (by omega)).step cg (by omega)
      rw [zaa h3]
      obtain ⟨C12, hC12⟩ : ∃ C12, C12 = h'.size + 0 := ⟨_, rfl⟩
      rw [← hC12] at q12
      rw [← hC12]
      clear q7 q10 m0 qX ow kn
      repeat' ( simp -implicitDefEqProofs only [syms, symx, seval, c14, qX3.lay, q12.lay, hvo, ↓zax, zau, zaj])
      have hz3 := z.size
      have hf3 := ow3.fresh
      have hM3 := kn3.m
      have hX3 := kn3.x
      have hl12 := q12.lt
      have hol2 : out.length ≤ 200000 := by rw [List.length_append, List.length_map] at ho2; omega
      obtain ⟨A2, hA2, ow2, hA2X, hA2M⟩ : ∃ A2, (A2 = A' ∨ h3.size ≤ A2) ∧ Ow Rep.atom h h3 26 A2 wo out ∧ A2 ≠ X ∧ A2 ≠ M := by
        by_cases he : out = []
        · subst he
          exact ⟨h3.size + 9, .inr (by omega), ow3.re (by omega), by omega, by omega⟩
        · exact ⟨A', .inl rfl, ow3, (ho3 he).1, (ho3 he).2⟩
      have hf2 := ow2.fresh
      simp -implicitDefEqProofs only [syms, symx, seval, c14, za2, zqF, zgr]
      refine zlH (i := 0) (cs := a.cells) (x := a) ds27 zbN rfl (by decide) (by rfl) z.size ow2 rfl (by omega) (by omega) (fun w4 h4 A4 ow4 cg4 hA4 => ?_)
      have hlt4 := ow4.ltN (by simp)
      have kn4 := kn3.step2 (A' := A4) cg4 hA2 (by rcases hA4 with e | e <;> rcases hA2 with e2 | e2 <;> omega) hlt4
      have qX4 := qX3.stepL cg4 (Ne.symm hA2X)
      have m4 := m1.stepL cg4 (Ne.symm hA2M)
      replace z := (z.upW _ _ (by omega)).step cg4 (by omega)
      rw [zaa h4]
      have hvo4 := zaH w4
      have cw4 := zcs (ow4.sl (by decide))
      have ow4one := (ow4.sl (by decide)).one
      repeat' ( simp -implicitDefEqProofs only [syms, symx, seval, c14, hvo4])
      refine zgD (o := 0) qX4 sz27 cw4 rfl (by simp) (by simp only [List.all_cons, List.all_nil, ow4one, Bool.and_true]) (fun h5 qX5 c5 => ?_)
      replace qX5 : Holds h5 X (.row [w4] 27 false) := qX5
      have hA4X : A4 ≠ X := by rcases hA4 with e | e <;> omega
      have hA4M : A4 ≠ M := by rcases hA4 with e | e <;> omega
      have kn5 := kn4.stepMX c5 (.inr rfl)
      have m5 := m4.stepL c5 (by omega)
      have ow5 : Ow Rep.atom h h5 26 A4 w4 (out ++ [a]) := (ow4.lay _ _).sm (fun _ _ _ _ h => h) c5.sm (Ne.symm hA4X) (fun e => by simp at e)
      replace z := (z.upW _ _ (by omega)).step c5 (by omega)
      rw [zaa h5]
      repeat' ( simp -implicitDefEqProofs only [syms, symx, seval, c14])
      refine ⟨z.upW _ _ (by omega), A4, RJ.lay ⟨⟨kn5.m, kn5.x, kn5.lt⟩, ⟨a :: met, m5, fun y => ?_⟩, w4, out ++ [a], qX5, fun y => ?_, ?_, ow5, fun _ => ⟨hA4X, hA4M⟩, fun e => by simp at e⟩ _ _, kn5.lay _ _⟩
      · rw [List.mem_cons, hmet, hnm]
        exact Or.comm
      · rw [List.mem_append, ho1, hnm, List.mem_singleton, or_assoc]
      · rw [hnx, List.length_append, List.length_append]; simp only [List.length_singleton]; omega
  · intro h3 A3 z3 j3 k3
    clear z
    have z := z3
    have kn3 := kn.trans k3
    rw [List.nil_append, zfl] at j3
    have hA3 : h.size ≤ A3 := j3.out.elim fun _ o => o.elim fun _ o => o.2.2.2.1.fresh
    rw [zaa h3]
    repeat' ( simp -implicitDefEqProofs only [syms, symx, seval, c14])
    rw [hwj]
    (rw [hI1]; with_reducible refine zac (m := _) ?_ ⟨j + 1, A3, heads ++ zbK c.head have2 c.body [], _, rfl, z, ⟨rfl, by omega, by rw [htk, hhd], j3, kn3, hA3⟩, junk (by kernel_rfl)⟩; omega)
theorem zxK (cl : List ClauseD) (facts : List AtomD) (v u : Value) (h : Heap) (hsp : SpaceAt 1 h) (hl : Sl Rep.clause h v cl) (hf : Sl Rep.atom h u facts) (hn : cl.length ≤ 6) (hcb : ∀ c ∈ cl, c.body.length ≤ 3) (hfn : facts.length ≤ 1000)
    (K : Value → Heap → Prop) (h0k : ¬ MayX cl facts → ∀ h', Ext h h' → K (.tuple #[.slice none 0 0, .int .i64 0, .int .i64 2]) h')
    (h1k : MayX cl facts → ∀ h' w (k : Nat), Ext h h' → Sl Rep.atom h' w (zaJ cl facts k) → (∀ i, i < k → (zaJ cl facts i).length < (zaJ cl facts (i + 1)).length) → (zaJ cl facts k).length ≤ 24 → zaJ cl facts (k + 1) = zaJ cl facts k → K (.tuple #[w, .int .i64 k, .int .i64 0]) h')
    (h2k : MayX cl facts → ∀ h' (k : Nat), Ext h h' → (∀ i, i < k → (zaJ cl facts i).length < (zaJ cl facts (i + 1)).length) → 24 < (zaJ cl facts (k + 1)).length → K (.tuple #[.slice none 0 0, .int .i64 0, .int .i64 14]) h') : Ok Tryz.prog tab ov 20 [v, u, .int .i64 24] h K := by
  rw [zaa h]
  have z := Ext.refl h
  have hva := zaH v
  have hvu := zaH u
  refine Ok.into rfl zvs (zaB N20) rfl (m := 35) rfl ?_
  repeat' ( simp -implicitDefEqProofs only [syms, symx, seval, c20, hva, hvu])
  refine zr0 cl facts v u _ (hsp.lay _ _) (hl.lay _ _) (hf.lay _ _) (by omega) (fun c hc => by have := hcb c hc; omega) (by omega) _ (fun hm h' x => ?_) (fun hm h' x => ?_)
  rotate_left
  · ((skip); replace z := z.overW x (by (try simp only [lsz]); omega); rw [zaa h'])
    repeat' (first | simp -implicitDefEqProofs only [syms, symx, seval, c20, Bool.not_false] | ((with_reducible_and_instances apply zaf); (· rfl)))
    exact h0k hm _ (z.upW _ _ (by omega))
  ((skip); replace z := z.overW x (by (try simp only [lsz]); omega); rw [zaa h'])
  repeat' (first | simp -implicitDefEqProofs only [syms, symx, seval, c20, Bool.not_true] | ((with_reducible_and_instances apply zaf); (· rfl)))
  obtain ⟨I1, hI1⟩ : ∃ I : Nat → Env → Heap → Prop, I = (fun n e h' => ∃ (k : Nat) (w : Value) (h1 : Heap), h' = h1.lay [] h1.low ∧ Ext h h1 ∧ (n = 25 - (zaJ cl facts k).length ∧ k ≤ (zaJ cl facts k).length ∧ (zaJ cl facts k).length ≤ 24 ∧ (∀ i, i < k → (zaJ cl facts i).length < (zaJ cl facts (i + 1)).length) ∧ Sl Rep.atom h1 w (zaJ cl facts k)) ∧ ∃ J : Nat → Value, e = (v :: u :: .int .i64 24 :: jr J 3 3 (w :: .int .i64 k :: jr J 8 30 ([])))) := ⟨_, rfl⟩
  refine zas I1 _ (by rw [hI1]; exact ⟨0, .slice none 0 0, _, rfl, z, ⟨rfl, by simp [zaJ], by simp [zaJ], by simp, Sl.nil⟩, junk (by kernel_rfl)⟩) ?_
  intro n e h' hin
  rw [hI1] at hin
  obtain ⟨k, w, h1', rfl, z, hinv, J, rfl⟩ := hin
  obtain ⟨rfl, hkl, hk4, hbe, s⟩ := hinv
  have hwk : IntKind.i64.wrap ((k : Int) + 1) = ((k + 1 : Nat) : Int) := by rw [zae (by omega) (by omega)]; omega
  have hvw := zaH w
  repeat' ( simp -implicitDefEqProofs only [syms, symx, seval, c20, hva, hvu, hvw])
  refine ztg cl facts _ v u w _ ((hsp.ext z).lay _ _) ((hl.mono z.inc).lay _ _) ((hf.mono z.inc).lay _ _) (s.lay _ _) hn hcb hfn hk4 hm (zbu hm k) _ (fun h' w2 x s2 => ?_)
  rw [zs9 (zd4 cl facts k)] at s2
  replace s2 : Sl Rep.atom h' w2 (zaJ cl facts (k + 1)) := s2
  obtain ⟨g1, g2⟩ := znZ (zd4 cl facts k) (zd4 cl facts (k + 1)) (zj1 hm k)
  ((skip); replace z := z.overW x (by (try simp only [lsz]); omega); (try replace s := s.over x); rw [zaa h'])
  have hvw2 := zaH w2
  have hl1 := fun (hh : Heap) => s.lenA ds27 hh
  have hl2 := fun (hh : Heap) => s2.lenA ds27 hh
  simp -implicitDefEqProofs only [syms, symx, seval, c20, hvw2, hl2]
  refine zaw (fun hgt => ?_) (fun hgt => ?_)
  · repeat' ( simp -implicitDefEqProofs only [syms, symx, seval, c20])
    exact h2k hm _ k (z.upW _ _ (by omega)) hbe (by omega)
  simp -implicitDefEqProofs only [syms, symx, seval, c20, hvw, hvw2, hl1, hl2]
  refine zdA (fun heq => ?_) (fun hne => ?_)
  · repeat' ( simp -implicitDefEqProofs only [syms, symx, seval, c20, hvw])
    exact h1k hm _ _ k (z.upW _ _ (by omega)) (s.lay _ _) hbe hk4 (g2 (by omega)).symm
  · repeat' ( simp -implicitDefEqProofs only [syms, symx, seval, c20, hvw2])
    rw [hwk]
    (rw [hI1]; with_reducible refine zac (m := _) ?_ ⟨k + 1, w2, _, rfl, z, ⟨rfl, by omega, by omega, fun i hi => by
      by_cases e : i = k
      · subst e; omega
      · exact hbe i (by omega), s2⟩, junk (by kernel_rfl)⟩; omega)
end Go.Proofs.YtemapihoobmonaaGreatDoor

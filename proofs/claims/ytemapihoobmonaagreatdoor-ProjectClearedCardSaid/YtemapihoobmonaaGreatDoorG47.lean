/- Walks: what is gone through, on; lists of one's own. Written out by fill2.py. No condition. -/
import Derived.Test.YtemapihoobmonaaGreatDoorG42
import Derived.Test.YtemapihoobmonaaGreatDoorG14
import Derived.Test.YtemapihoobmonaaGreatDoorG46
namespace Go.Proofs.YtemapihoobmonaaGreatDoor
open Go.Am
set_option linter.unusedSimpArgs false
set_option linter.unusedVariables false
set_option maxRecDepth 100000
set_option maxHeartbeats 0
theorem zwg (l : List AtomD) (v : Value) (h : Heap) (hl : Sl Rep.atom h v l) (hn : l.length ≤ 1000000) (K : Value → Heap → Prop) (hk : ∀ w A h', Ext h h' → Ow Rep.atom h h' 26 A w l → (A < h.size → False) → K w h') : Ok Tryz.prog tab ov 37 [v] h K := by
  rw [zaa h]
  refine Ok.into rfl zvL (zaD N37) rfl (m := 5) rfl ?_
  simp -implicitDefEqProofs only [syms, symx, seval, c37, zbq, zy8]
  obtain ⟨news, hs, hsr⟩ := zhn (A := h.size + 1) (r := Rep.atom) (by decide) (hl.lay [.row [] 26 false] h.low) (fun cs y hr => hr)
  have f : Ow Rep.atom h (h.lay [.row [] 26 false] h.low) 26 (h.size + 1) (.slice (some ⟨h.size + 0, 0, none⟩) 0 0) [] :=
    .inl ⟨by omega, rfl, .inr ⟨h.size + 0, 0, rfl, by omega, by rw [zad]; simp, [], 26, false, by rw [zaW]; rfl⟩⟩
  obtain ⟨w, h', A', e1, e2, e3, e4, e5⟩ := zfV (t := 27) ds27 zgZ rfl (by decide) (by rw [zad]; omega) f hs hsr (by simp only [List.length_nil]; omega) (by simp only [List.length_nil]; omega)
  rw [e1]
  simp -implicitDefEqProofs only [syms, symx, seval, c37]
  exact hk _ _ _ ((Ext.refl h).stepW e3 (by omega) (by omega)) e2 (by omega)
theorem zwq : zcU tab 49 49 = true := by kernel_rfl
theorem zwD : zcU tab 51 51 = true := by kernel_rfl
theorem zxO : zcU tab 52 52 = true := by kernel_rfl
theorem zx3 : zcU tab 53 53 = true := by kernel_rfl
theorem zxP : zcU tab 50 50 = true := by kernel_rfl
theorem zyQ {h hb h' : Heap} {bs : List Blk} {w : Nat} (z0 : Ext h hb) (zz : Ext h h') (x : Ext (hb.lay bs w) h') : Ext h (hb.lay [] (min h.low h.size)) ∧ Ext (hb.lay [] (min h.low h.size)) h' := by
  refine ⟨z0.upL _ _ (Nat.le_refl _), ?_, fun A hA => ?_, ?_⟩
  · have := x.size
    rw [zad] at this ⊢
    simp only [List.length_nil]; omega
  · rw [zad] at hA
    have hA' : A < hb.size := hA
    rw [za6 hb [] _ hA', ← za6 hb bs w hA']
    exact x.get A (by rw [zad]; omega)
  · rw [zh5]
    have := zz.low
    omega
theorem zkN {α : Type} {r : Rep α} {h0 h h' : Heap} {e : TypeId} {A B : Nat} {v : Value} {l : List α} (hflat : ∀ h h' cs x, r.R h cs x → r.R h' cs x) (hne : l ≠ []) (f : Ow r h0 h e A v l) (c : Chg B h h') (hB : B ≠ A) : Ow r h0 h' e A v l := by
  rcases f with ⟨f1, f2, f3⟩ | ⟨row, e1, e2, e3, e4, e5, e6, e7, e8⟩
  · exact absurd f2 hne
  · refine .inr ⟨row, e1, e2, e3, Nat.lt_of_lt_of_le e4 c.size, (c.get A e4 (fun x => hB x.symm)).trans e5, e6, e7, fun i x hx => ?_⟩
    obtain ⟨cs, g1, g2⟩ := e8 i x hx
    exact ⟨cs, g1, hflat _ _ _ _ g2⟩
theorem zmP {T : Tab} {t u : TypeId} {hh : Heap} {n w : Nat} {cs vs : List Value} {v : Value} (hs : zaN T t = some n) (hv : v.cells.toList = vs) (hl : vs.length = n) (hc : cs.length = n) (h1' : vs.all Am.one = true) :
    zbb T t (.pointer (some ⟨hh.size + 0, 0, none⟩)) v (hh.lay [.row cs u false] w) = some (hh.lay [.row vs u false] (min w (hh.size + 0))) := by
  have hg : (hh.lay [.row cs u false] w).get (hh.size + 0) = some (.row cs u false) := by rw [zaW]; rfl
  have hsz : v.cells.size = n := by rw [← hl, ← hv]; simp
  unfold zbb
  simp only [hs, Option.bind_some]
  rw [if_pos hsz, hv]
  unfold zbQ
  rw [hg]
  simp only
  rw [if_pos (by simp only [Bool.and_eq_true, decide_eq_true_eq]; exact ⟨by omega, h1'⟩), zbc _ _ _ _ _ (by simp)]
  rw [zkc, List.take_zero, List.nil_append, List.drop_of_length_le (by omega), List.append_nil]
  rfl
theorem zlO (l : List ByteArray) (v : Value) (h : Heap) (hl : Sl Rep.str h v l) (hn : l.length ≤ 1000000) (K : Value → Heap → Prop) (hk : ∀ w A h', Ext h h' → Ow Rep.str h h' 9 A w l → (A < h.size → False) → K w h') : Ok Tryz.prog tab ov 78 [v] h K := by
  rw [zaa h]
  refine Ok.into rfl zvr (zaD N78) rfl (m := 5) rfl ?_
  simp -implicitDefEqProofs only [syms, symx, seval, c78, zbq, zwq]
  obtain ⟨news, hs, hsr⟩ := zhn (A := h.size + 1) (r := Rep.str) (by decide) (hl.lay [.row [] 9 false] h.low) (fun cs y hr => hr)
  have f : Ow Rep.str h (h.lay [.row [] 9 false] h.low) 9 (h.size + 1) (.slice (some ⟨h.size + 0, 0, none⟩) 0 0) [] :=
    .inl ⟨by omega, rfl, .inr ⟨h.size + 0, 0, rfl, by omega, by rw [zad]; simp, [], 9, false, by rw [zaW]; rfl⟩⟩
  obtain ⟨w, h', A', e1, e2, e3, e4, e5⟩ := zfV (t := 49) ds49 zcp rfl (by decide) (by rw [zad]; omega) f hs hsr (by simp only [List.length_nil]; omega) (by simp only [List.length_nil]; omega)
  rw [e1]
  simp -implicitDefEqProofs only [syms, symx, seval, c78]
  exact hk _ _ _ ((Ext.refl h).stepW e3 (by omega) (by omega)) e2 (by omega)
theorem zq2 (l : List PredD) (v : Value) (h : Heap) (hl : Sl Rep.pred h v l) (hn : l.length ≤ 1000000) (K : Value → Heap → Prop) (hk : ∀ w A h', Ext h h' → Ow Rep.pred h h' 110 A w l → K w h') : Ok Tryz.prog tab ov 79 [v] h K := by
  rw [zaa h]
  refine Ok.into rfl zuY (zaD N79) rfl (m := 5) rfl ?_
  simp -implicitDefEqProofs only [syms, symx, seval, c79, zbq, zxP]
  obtain ⟨news, hs, hsr⟩ := zhn (A := h.size + 1) (r := Rep.pred) (by decide) (hl.lay [.row [] 110 false] h.low) (fun cs y hr => hr)
  have f : Ow Rep.pred h (h.lay [.row [] 110 false] h.low) 110 (h.size + 1) (.slice (some ⟨h.size + 0, 0, none⟩) 0 0) [] :=
    .inl ⟨by omega, rfl, .inr ⟨h.size + 0, 0, rfl, by omega, by rw [zad]; simp, [], 110, false, by rw [zaW]; rfl⟩⟩
  obtain ⟨w, h', A', e1, e2, e3, e4, e5⟩ := zfV (t := 50) ds50 ziz rfl (by decide) (by rw [zad]; omega) f hs hsr (by simp only [List.length_nil]; omega) (by simp only [List.length_nil]; omega)
  rw [e1]
  simp -implicitDefEqProofs only [syms, symx, seval, c79]
  exact hk _ _ _ ((Ext.refl h).stepW e3 (by omega) (by omega)) e2
theorem zrR (a0 a1 : Option Addr) (m0 c0 m1 c1 : Nat) (q b : Int) : zbX tab 55 [(0, .slice a0 m0 c0), (1, .slice a1 m1 c1), (3, .int .i64 q), (4, .int .i64 b)] = some (zb1 (.slice a0 m0 c0) (.slice a1 m1 c1) (.slice none 0 0) (.slice none 0 0) (.slice none 0 0) q b) := by kernel_rfl
theorem zoi (s : ByteArray) (a0 : Option Addr) (m0 c0 : Nat) : zbX tab 112 [(0, .string s), (1, .slice a0 m0 c0)] = some (.agg ⟨[.string s, .slice a0 m0 c0]⟩) := by kernel_rfl
theorem zqF (a : AtomD) (b : Option Addr) (n c : Nat) : zbX tab 113 [(0, a.val), (1, .slice b n c)] = some (.agg ⟨a.cells ++ [.slice b n c]⟩) := by kernel_rfl
theorem znu (s : ByteArray) (a : AtomD) (b : Option Addr) (n c : Nat) : zbX tab 115 [(0, .string s), (1, a.val), (2, .slice b n c)] = some (.agg ⟨.string s :: (a.cells ++ [.slice b n c])⟩) := by kernel_rfl
theorem zm8 (s : ByteArray) (a : AtomD) (v z0 z1 z2 z3 z4 z5 z6 z7 z8 z9 z10 z11 z12 : Value) : zcP (fun i => some (i * 13, 13)) [z0, z1, z2, z3, z4, z5, z6, z7, z8, z9, z10, z11, z12] [(0, .agg ⟨.string s :: (a.cells ++ [v])⟩)] = some (.string s :: (a.cells ++ [v])) := rfl
theorem zl8 (d : PolicyD) (p0 p1 p2 p5 p6 : Value) (q b : Int) (h : Heap) (hd : PolH h p0 p1 p2 p5 p6 d) (n0 : d.principals.length ≤ 70) (n1 : d.preds.length ≤ 70) (n2 : d.clears.length ≤ 70) (n2b : ∀ c ∈ d.clears, c.reads.length ≤ 40) (n5 : d.rules.length ≤ 70) (n5b : ∀ r ∈ d.rules, r.body.length ≤ 9) (n6 : d.grants.length ≤ 70) (n6b : ∀ g ∈ d.grants, g.body.length ≤ 9) (K : Value → Heap → Prop)
    (hk : ∀ h' w0 w1 w2 w5 w6, Ext h h' → Sl Rep.str h' w0 d.principals → (zar w0 w1 w2 w5 w6 q b).all Am.one = true → K (zb1 w0 w1 w2 w5 w6 q b) h') : Ok Tryz.prog tab ov 30 [zb1 p0 p1 p2 p5 p6 q b] h K := by
  rw [zaa h]
  have z := Ext.refl h
  have hv0 := zbg p0
  have hv1 := zbg p1
  refine Ok.into rfl zuE (zaD N30) rfl (m := 102) rfl ?_
  simp -implicitDefEqProofs only [syms, symx, seval, c30, zav]
  refine zih (fun h' x hq => ?_)
  have q0 := hq 0 _ rfl
  have q1 := hq 1 _ rfl
  clear hq
  (replace z := z.overW x (by (try simp only [lsz]); omega); rw [zaa h'])
  obtain ⟨P0, hP0⟩ : ∃ P0, P0 = h.size + 0 := ⟨_, rfl⟩
  obtain ⟨P1, hP1⟩ : ∃ P1, P1 = h.size + 1 := ⟨_, rfl⟩
  rw [← hP0] at q0
  rw [← hP1] at q1
  rw [← hP0, ← hP1]
  with_reducible first | refine zcL (by simp only [c30]) (z.upW _ _ (by omega)) ?_
  simp -implicitDefEqProofs only [syms, symx, seval, c30, q0.lay, zav, pol0, pol1, pol3, pol4, hv0, hv1]
  have q1' := q1
  refine zlO d.principals _ _ ((hd.s0.mono z.inc).lay _ _) (by omega) _ (fun w0 A0 h' x o0 hA0 => ?_)
  (( ((with_reducible refine zaR ?_ ?_ ?_); (· exact (by (try simp only [lsz]); have := z.size; omega)); (·  exact x )) ); replace z := z.overW x (by (try simp only [lsz]); omega); (try replace q0 := q0.over x); (try replace q1 := q1.over x); rw [zaa h'])
  simp -implicitDefEqProofs only [syms, symx, seval, c30, q0.lay, zav, pol0, pol1, pol3, pol4, hv0, hv1]
  refine zq2 d.preds _ _ ((hd.s1.mono z.inc).lay _ _) (by omega) _ (fun w1 A1 h' x o1 => ?_)
  replace o0 := o0.over x
  (( ((with_reducible refine zaR ?_ ?_ ?_); (· exact (by (try simp only [lsz]); have := z.size; omega)); (·  exact x )) ); replace z := z.overW x (by (try simp only [lsz]); omega); (try replace q0 := q0.over x); (try replace q1 := q1.over x); rw [zaa h'])
  obtain ⟨a0, m0, c0, rfl⟩ := o0.slice
  obtain ⟨a1, m1, c1, rfl⟩ := o1.slice
  simp -implicitDefEqProofs only [syms, symx, seval, c30, q0.lay, zav, pol0, pol1, pol3, pol4, hv0, hv1, zrR, zaH]
  refine zb8 (by have := z.size; omega) (by omega) ?_
  simp -implicitDefEqProofs only [syms, symx, seval, c30]
  rw [zmP (n := 7) (v := zb1 _ _ _ _ _ q b) (vs := zar _ _ _ _ _ q b) (by kernel_rfl) rfl rfl rfl rfl]
  simp -implicitDefEqProofs only [syms, symx, seval, c30]
  refine zlB (by kernel_rfl) (by simp) (by have := z.size; omega) ?_
  simp -implicitDefEqProofs only [syms, symx, seval, c30]
  have hsA := o0.under (C := P1) (by decide) (fun _ _ _ _ h => h) (.inl (by rw [zad]; have := q1'.lt; omega))
  have z0 := z
  have hd0 := hd.mono z.inc
  have r0 := q0
  have r1 := q1
  have hz0 := z0.size
  clear o0 o1 hA0
  obtain ⟨hb, rfl⟩ : ∃ hb, hb = h' := ⟨_, rfl⟩
  ((with_reducible refine ⟨z.grw.lay _ _, ?_⟩); (intro _ h' zz x _); (try simp only [zaw, List.append_nil] at x); (try replace q0 := q0.over x); (try replace q1 := q1.over x); (replace z := zz); (clear zz); rw [zaa h'])
  obtain ⟨z1, z2⟩ := zyQ z0 z x
  have q3 := Holds.top (i := 0) x rfl
  replace hsA := Sl.mono hsA (zgr (A := P1) (Inc.lay hb [] (min h.low h.size)))
  replace hd0 := hd0.mono (Inc.lay hb [] (min h.low h.size))
  replace r0 := r0.on [] (min h.low h.size)
  replace r1 := r1.on [] (min h.low h.size)
  have hbz : (hb.lay [] (min h.low h.size)).size = hb.size := by rw [zad]; rfl
  clear z0 x z
  have hP1' : P1 < hb.size := by rw [← hbz]; exact r1.lt
  have hP0' : P0 < hb.size := by rw [← hbz]; exact r0.lt
  rw [← hbz] at q3 hP1' hP0' ⊢
  generalize hb.lay [] (min h.low h.size) = hn at z1 z2 hsA hd0 r0 r1 q3 hP0' hP1' ⊢
  obtain ⟨h, rfl⟩ : ∃ h, h = hn := ⟨_, rfl⟩
  have z := z2
  obtain ⟨P3, hP3⟩ : ∃ P3, P3 = h.size + 0 := ⟨_, rfl⟩
  rw [← hP3] at q3
  rw [← hP3]
  clear z2 hbz hz0 q0 q1
  (try simp -implicitDefEqProofs only [syms, symx, seval, c30])
  obtain ⟨I1, hI1⟩ : ∃ I : Nat → Env → Heap → Prop, I = (fun n e h' => ∃ (i : Nat) (wc : Value) (A : Nat) (us : List Unit) (h1 : Heap), h' = h1.lay [] h1.low ∧ Ext h h1 ∧ (n = d.clears.length - i ∧ i ≤ d.clears.length ∧ us.length = i ∧ Ow (Rep.anyC 2) h h1 112 A wc us ∧ A ≠ P3 ∧ Holds h1 P3 (.row (zar (.slice a0 m0 c0) (.slice a1 m1 c1) wc (.slice none 0 0) (.slice none 0 0) q b) 55 false)) ∧ ∃ J : Nat → Value, e = (J 0 :: .pointer (some ⟨P0, 0, none⟩) :: .pointer (some ⟨P1, 0, none⟩) :: .pointer (some ⟨P3, 0, none⟩) :: .int .i64 i :: jr J 5 98 ([]))) := ⟨_, rfl⟩
  refine zaJ I1 _ (by rw [hI1]; exact ⟨0, .slice none 0 0, h.size + 1, [], _, rfl, z, ⟨rfl, by omega, rfl, Ow.nil (by omega), by omega, q3⟩, junk (by kernel_rfl)⟩) ?_
  intro n e h' hin
  rw [hI1] at hin
  obtain ⟨i, wc, A, us, h1', rfl, z, hinv, J, rfl⟩ := hin
  clear q3
  obtain ⟨rfl, hi, hus, ow, hAP, q3⟩ := hinv
  have hwi : IntKind.i64.wrap ((i : Int) + 1) = ((i + 1 : Nat) : Int) := by rw [zai (by omega) (by omega)]; omega
  have hv2 := zbg p2
  have hvw := zbg wc
  have hlv := fun (hh : Heap) => hd0.s2.lenA ds51 hh
  have q0 := r0.ext z
  have hz := z.size
  simp -implicitDefEqProofs only [syms, symx, seval, c30, q0.lay, pol2, hv2, hlv]
  refine zau (fun hlt => ?_) (fun hlt => ?_)
  · obtain ⟨r, hr, hr'⟩ := zby (l := d.clears) (i := i) (by omega)
    have hrb := n2b r (List.mem_of_getElem? hr')
    simp -implicitDefEqProofs only [syms, symx, seval, c30]
    with_reducible first | refine zcL (by simp only [c30]) (z.upW _ _ (by omega)) ?_
    simp -implicitDefEqProofs only [syms, symx, seval, c30, q0.lay, q3.lay, pol2, hv2, hvw]
    repeat' ((first | with_reducible_and_instances refine zhu (hd0.s2.mono z.inc) ds51 zh7 (by omega) hr (fun p bb hb hp => ?_) | with_reducible_and_instances refine fdP0 hp zfN (fun qq hq => ?_) | with_reducible_and_instances refine zbn hq ag9 ?_ | with_reducible_and_instances refine fdP1 hp zec (fun qq hq => ?_) | with_reducible_and_instances refine zbn hq ag49 ?_) <;> simp -implicitDefEqProofs only [syms, symx, seval, c30, q0.lay, q3.lay, pol2, hv2, hvw])
    refine zlO r.reads _ _ (hb.lay _ _) (by omega) _ (fun wr B h' x ob hB => ?_)
    clear hp
    (( ((with_reducible refine zaR ?_ ?_ ?_); (· exact (by (try simp only [lsz]); have := z.size; omega)); (·  exact x )) ); replace z := z.overW x (by (try simp only [lsz]); omega); (try replace q0 := q0.over x); (try replace q3 := q3.over x); (try replace ow := ow.over x); rw [zaa h'])
    obtain ⟨br, mr, cr, rfl⟩ := ob.slice
    simp -implicitDefEqProofs only [syms, symx, seval, c30, zoi]
    refine zb8 (by have := z.size; omega) (by omega) ?_
    simp -implicitDefEqProofs only [syms, symx, seval, c30, zbq, zwD]
    have hq3l := q3.lt
    refine zhs (i := 0) (cs := [Value.string r.who, Value.slice br mr cr]) (x := ()) ds51 zjp rfl (by decide) (by rfl) z.size ow ⟨rfl, rfl⟩ (by omega) (by omega) (fun w3 h3 A3 ow3 cg3 hA3 => ?_)
    have hfA := ow.fresh
    refine zbl (A := A) (by kernel_rfl) (by have := z.size; rw [zad]; omega) (by omega) (by simpa only [zaw, zad, List.append_nil, List.length_cons, List.length_nil, Nat.zero_add] using cg3) ?_
    replace q3 := q3.stepL cg3 (Ne.symm hAP)
    replace z := z.stepW cg3 hfA (by omega)
    replace q0 := r0.ext z
    have h3s : Am.one w3 = true := by obtain ⟨_, _, _, rfl⟩ := ow3.slice; rfl
    rw [zaa h3]
    simp -implicitDefEqProofs only [syms, symx, seval, c30]
    obtain ⟨a3, m3, c3', rfl⟩ := ow3.slice
    refine zac (n := 1) (o := 2) (vs := [.slice a3 m3 c3']) q3 (by kernel_rfl) rfl rfl (by rw [zkw]; decide) rfl (fun h4 q4 cg4 => ?_)
    have hP3f : h.size ≤ P3 := by omega
    refine zbl (A := P3) (by kernel_rfl) (by have := z.size; rw [zad]; omega) (by omega) cg4 ?_
    have ow4 := zkN (fun _ _ _ _ h => h) (by simp) (ow3.mono (Inc.lay h3 [] (h3.size + 0))) cg4 (by rcases hA3 with e | e <;> omega)
    replace z := z.stepW cg4 hP3f (by omega)
    replace q0 := r0.ext z
    clear ow ow3 q3
    have q4 : Holds h4 P3 (.row (zar (.slice a0 m0 c0) (.slice a1 m1 c1) (.slice a3 m3 c3') (.slice none 0 0) (.slice none 0 0) q b) 55 false) := q4
    rw [zaa h4]
    simp -implicitDefEqProofs only [syms, symx, seval, c30]
    ((with_reducible refine ⟨z.grw.lay _ _, ?_⟩); (intro _ h' zz x _); (try simp only [zaw, List.append_nil] at x); (try replace q0 := q0.over x); (try replace q4 := q4.over x); (try replace ow4 := ow4.over x); (replace z := zz); (clear zz); rw [zaa h'])
    simp -implicitDefEqProofs only [syms, symx, seval, c30]
    rw [hwi]
    (rw [hI1]; with_reducible refine zah (m := _) ?_ ⟨i + 1, _, A3, us ++ [()], _, rfl, z, ⟨rfl, by omega, by simp [hus], ow4, by rcases hA3 with e | e <;> omega, q4⟩, junk (by kernel_rfl)⟩; omega)
  obtain ⟨ca, cm, cn, rfl⟩ := ow.slice
  clear ow hAP hvw hlv hlt hi hus hwi
  simp -implicitDefEqProofs only [syms, symx, seval, c30]
  obtain ⟨I2, hI2⟩ : ∃ I : Nat → Env → Heap → Prop, I = (fun n e h' => ∃ (i : Nat) (wr : Value) (A : Nat) (us : List Unit) (h1 : Heap), h' = h1.lay [] h1.low ∧ Ext h h1 ∧ (n = d.rules.length - i ∧ i ≤ d.rules.length ∧ us.length = i ∧ Ow (Rep.anyC 12) h h1 113 A wr us ∧ A ≠ P3 ∧ Holds h1 P3 (.row (zar (.slice a0 m0 c0) (.slice a1 m1 c1) (.slice ca cm cn) wr (.slice none 0 0) q b) 55 false)) ∧ ∃ J : Nat → Value, e = (J 0 :: .pointer (some ⟨P0, 0, none⟩) :: .pointer (some ⟨P1, 0, none⟩) :: .pointer (some ⟨P3, 0, none⟩) :: J 4 :: .int .i64 i :: jr J 6 97 ([]))) := ⟨_, rfl⟩
  refine zaJ I2 _ (by rw [hI2]; exact ⟨0, .slice none 0 0, h.size + 1, [], _, rfl, z, ⟨rfl, by omega, rfl, Ow.nil (by omega), by omega, q3⟩, junk (by kernel_rfl)⟩) ?_
  intro n e h' hin
  rw [hI2] at hin
  obtain ⟨i, wr, A, us, h1', rfl, z, hinv, J, rfl⟩ := hin
  clear q3
  obtain ⟨rfl, hi, hus, ow, hAP, q3⟩ := hinv
  have hwi : IntKind.i64.wrap ((i : Int) + 1) = ((i + 1 : Nat) : Int) := by rw [zai (by omega) (by omega)]; omega
  have hv5 := zbg p5
  have hvw := zbg wr
  have hlv := fun (hh : Heap) => hd0.s5.lenA ds52 hh
  have q0 := r0.ext z
  have hz := z.size
  simp -implicitDefEqProofs only [syms, symx, seval, c30, q0.lay, pol5, hv5, hlv]
  refine zau (fun hlt => ?_) (fun hlt => ?_)
  · obtain ⟨r, hr, hr'⟩ := zby (l := d.rules) (i := i) (by omega)
    have hrb := n5b r (List.mem_of_getElem? hr')
    simp -implicitDefEqProofs only [syms, symx, seval, c30]
    with_reducible first | refine zcL (by simp only [c30]) (z.upW _ _ (by omega)) ?_
    simp -implicitDefEqProofs only [syms, symx, seval, c30, q0.lay, q3.lay, pol5, hv5, hvw]
    repeat' ((first | with_reducible_and_instances refine ztH (hd0.s5.mono z.inc) ds52 zxg (by omega) hr (fun p bb hb hp => ?_) | with_reducible_and_instances refine fdc0 hp zlw (fun qq hq => ?_) | with_reducible_and_instances refine lda hq ag26 sz26 ?_ | with_reducible_and_instances refine fdc1 hp zkT (fun qq hq => ?_) | with_reducible_and_instances refine zbn hq ag27 ?_) <;> simp -implicitDefEqProofs only [syms, symx, seval, c30, q0.lay, q3.lay, pol5, hv5, hvw])
    refine zwg r.body _ _ (hb.lay _ _) (by omega) _ (fun wr2 B h' x ob hB => ?_)
    clear hp
    (( ((with_reducible refine zaR ?_ ?_ ?_); (· exact (by (try simp only [lsz]); have := z.size; omega)); (·  exact x )) ); replace z := z.overW x (by (try simp only [lsz]); omega); (try replace q0 := q0.over x); (try replace q3 := q3.over x); (try replace ow := ow.over x); rw [zaa h'])
    obtain ⟨br, mr, cr, rfl⟩ := ob.slice
    simp -implicitDefEqProofs only [syms, symx, seval, c30, zqF, zoQ]
    refine zb8 (by have := z.size; omega) (by omega) ?_
    simp -implicitDefEqProofs only [syms, symx, seval, c30, zbq, zxO]
    have hq3l := q3.lt
    refine zhs (i := 0) (cs := (r.head.cells ++ [Value.slice br mr cr])) (x := ()) ds52 zie rfl (by decide) (by rfl) z.size ow ⟨rfl, rfl⟩ (by omega) (by omega) (fun w3 h3 A3 ow3 cg3 hA3 => ?_)
    have hfA := ow.fresh
    refine zbl (A := A) (by kernel_rfl) (by have := z.size; rw [zad]; omega) (by omega) (by simpa only [zaw, zad, List.append_nil, List.length_cons, List.length_nil, Nat.zero_add] using cg3) ?_
    replace q3 := q3.stepL cg3 (Ne.symm hAP)
    replace z := z.stepW cg3 hfA (by omega)
    replace q0 := r0.ext z
    have h3s : Am.one w3 = true := by obtain ⟨_, _, _, rfl⟩ := ow3.slice; rfl
    rw [zaa h3]
    simp -implicitDefEqProofs only [syms, symx, seval, c30]
    obtain ⟨a3, m3, c3', rfl⟩ := ow3.slice
    refine zac (n := 1) (o := 5) (vs := [.slice a3 m3 c3']) q3 (by kernel_rfl) rfl rfl (by rw [zkw]; decide) rfl (fun h4 q4 cg4 => ?_)
    have hP3f : h.size ≤ P3 := by omega
    refine zbl (A := P3) (by kernel_rfl) (by have := z.size; rw [zad]; omega) (by omega) cg4 ?_
    have ow4 := zkN (fun _ _ _ _ h => h) (by simp) (ow3.mono (Inc.lay h3 [] (h3.size + 0))) cg4 (by rcases hA3 with e | e <;> omega)
    replace z := z.stepW cg4 hP3f (by omega)
    replace q0 := r0.ext z
    clear ow ow3 q3
    have q4 : Holds h4 P3 (.row (zar (.slice a0 m0 c0) (.slice a1 m1 c1) (.slice ca cm cn) (.slice a3 m3 c3') (.slice none 0 0) q b) 55 false) := q4
    rw [zaa h4]
    simp -implicitDefEqProofs only [syms, symx, seval, c30]
    ((with_reducible refine ⟨z.grw.lay _ _, ?_⟩); (intro _ h' zz x _); (try simp only [zaw, List.append_nil] at x); (try replace q0 := q0.over x); (try replace q4 := q4.over x); (try replace ow4 := ow4.over x); (replace z := zz); (clear zz); rw [zaa h'])
    simp -implicitDefEqProofs only [syms, symx, seval, c30]
    rw [hwi]
    (rw [hI2]; with_reducible refine zah (m := _) ?_ ⟨i + 1, _, A3, us ++ [()], _, rfl, z, ⟨rfl, by omega, by simp [hus], ow4, by rcases hA3 with e | e <;> omega, q4⟩, junk (by kernel_rfl)⟩; omega)
  obtain ⟨ra, rm, rn, rfl⟩ := ow.slice
  clear ow hAP hvw hlv hlt hi hus hwi
  simp -implicitDefEqProofs only [syms, symx, seval, c30]
  obtain ⟨I3, hI3⟩ : ∃ I : Nat → Env → Heap → Prop, I = (fun n e h' => ∃ (i : Nat) (wg : Value) (A : Nat) (us : List Unit) (h1 : Heap), h' = h1.lay [] h1.low ∧ Ext h h1 ∧ (n = d.grants.length - i ∧ i ≤ d.grants.length ∧ us.length = i ∧ Ow (Rep.anyC 13) h h1 115 A wg us ∧ A ≠ P3 ∧ Holds h1 P3 (.row (zar (.slice a0 m0 c0) (.slice a1 m1 c1) (.slice ca cm cn) (.slice ra rm rn) wg q b) 55 false)) ∧ ∃ J : Nat → Value, e = (J 0 :: .pointer (some ⟨P0, 0, none⟩) :: .pointer (some ⟨P1, 0, none⟩) :: .pointer (some ⟨P3, 0, none⟩) :: jr J 4 2 (.int .i64 i :: jr J 7 96 ([])))) := ⟨_, rfl⟩
  refine zaJ I3 _ (by rw [hI3]; exact ⟨0, .slice none 0 0, h.size + 1, [], _, rfl, z, ⟨rfl, by omega, rfl, Ow.nil (by omega), by omega, q3⟩, junk (by kernel_rfl)⟩) ?_
  intro n e h' hin
  rw [hI3] at hin
  obtain ⟨i, wg, A, us, h1', rfl, z, hinv, J, rfl⟩ := hin
  clear q3
  obtain ⟨rfl, hi, hus, ow, hAP, q3⟩ := hinv
  have hwi : IntKind.i64.wrap ((i : Int) + 1) = ((i + 1 : Nat) : Int) := by rw [zai (by omega) (by omega)]; omega
  have hv6 := zbg p6
  have hvw := zbg wg
  have hlv := fun (hh : Heap) => hd0.s6.lenA ds53 hh
  have q0 := r0.ext z
  have hz := z.size
  simp -implicitDefEqProofs only [syms, symx, seval, c30, q0.lay, pol6, hv6, hlv]
  refine zau (fun hlt => ?_) (fun hlt => ?_)
  · obtain ⟨r, hr, hr'⟩ := zby (l := d.grants) (i := i) (by omega)
    have hrb := n6b r (List.mem_of_getElem? hr')
    simp -implicitDefEqProofs only [syms, symx, seval, c30]
    with_reducible first | refine zcL (by simp only [c30]) (z.upW _ _ (by omega)) ?_
    simp -implicitDefEqProofs only [syms, symx, seval, c30, q0.lay, q3.lay, pol6, hv6, hvw]
    repeat' ((first | with_reducible_and_instances refine zsw (hd0.s6.mono z.inc) ds53 zxs (by omega) hr (fun p bb hb hp => ?_) | with_reducible_and_instances refine fdG0 hp zk7 (fun qq hq => ?_) | with_reducible_and_instances refine zbn hq ag9 ?_ | with_reducible_and_instances refine fdG1 hp zkB (fun qq hq => ?_) | with_reducible_and_instances refine lda hq ag26 sz26 ?_ | with_reducible_and_instances refine fdG2 hp zkz (fun qq hq => ?_) | with_reducible_and_instances refine zbn hq ag27 ?_) <;> simp -implicitDefEqProofs only [syms, symx, seval, c30, q0.lay, q3.lay, pol6, hv6, hvw])
    refine zwg r.body _ _ (hb.lay _ _) (by omega) _ (fun wr2 B h' x ob hB => ?_)
    clear hp
    (( ((with_reducible refine zaR ?_ ?_ ?_); (· exact (by (try simp only [lsz]); have := z.size; omega)); (·  exact x )) ); replace z := z.overW x (by (try simp only [lsz]); omega); (try replace q0 := q0.over x); (try replace q3 := q3.over x); (try replace ow := ow.over x); rw [zaa h'])
    obtain ⟨br, mr, cr, rfl⟩ := ob.slice
    simp -implicitDefEqProofs only [syms, symx, seval, c30, znu, zm8]
    refine zb8 (by have := z.size; omega) (by omega) ?_
    simp -implicitDefEqProofs only [syms, symx, seval, c30, zbq, zx3]
    have hq3l := q3.lt
    refine zhs (i := 0) (cs := (Value.string r.to :: (r.head.cells ++ [Value.slice br mr cr]))) (x := ()) ds53 zjo rfl (by decide) (by rfl) z.size ow ⟨rfl, rfl⟩ (by omega) (by omega) (fun w3 h3 A3 ow3 cg3 hA3 => ?_)
    have hfA := ow.fresh
    refine zbl (A := A) (by kernel_rfl) (by have := z.size; rw [zad]; omega) (by omega) (by simpa only [zaw, zad, List.append_nil, List.length_cons, List.length_nil, Nat.zero_add] using cg3) ?_
    replace q3 := q3.stepL cg3 (Ne.symm hAP)
    replace z := z.stepW cg3 hfA (by omega)
    replace q0 := r0.ext z
    have h3s : Am.one w3 = true := by obtain ⟨_, _, _, rfl⟩ := ow3.slice; rfl
    rw [zaa h3]
    simp -implicitDefEqProofs only [syms, symx, seval, c30]
    obtain ⟨a3, m3, c3', rfl⟩ := ow3.slice
    refine zac (n := 1) (o := 6) (vs := [.slice a3 m3 c3']) q3 (by kernel_rfl) rfl rfl (by rw [zkw]; decide) rfl (fun h4 q4 cg4 => ?_)
    have hP3f : h.size ≤ P3 := by omega
    refine zbl (A := P3) (by kernel_rfl) (by have := z.size; rw [zad]; omega) (by omega) cg4 ?_
    have ow4 := zkN (fun _ _ _ _ h => h) (by simp) (ow3.mono (Inc.lay h3 [] (h3.size + 0))) cg4 (by rcases hA3 with e | e <;> omega)
    replace z := z.stepW cg4 hP3f (by omega)
    replace q0 := r0.ext z
    clear ow ow3 q3
    have q4 : Holds h4 P3 (.row (zar (.slice a0 m0 c0) (.slice a1 m1 c1) (.slice ca cm cn) (.slice ra rm rn) (.slice a3 m3 c3') q b) 55 false) := q4
    rw [zaa h4]
    simp -implicitDefEqProofs only [syms, symx, seval, c30]
    ((with_reducible refine ⟨z.grw.lay _ _, ?_⟩); (intro _ h' zz x _); (try simp only [zaw, List.append_nil] at x); (try replace q0 := q0.over x); (try replace q4 := q4.over x); (try replace ow4 := ow4.over x); (replace z := zz); (clear zz); rw [zaa h'])
    simp -implicitDefEqProofs only [syms, symx, seval, c30]
    rw [hwi]
    (rw [hI3]; with_reducible refine zah (m := _) ?_ ⟨i + 1, _, A3, us ++ [()], _, rfl, z, ⟨rfl, by omega, by simp [hus], ow4, by rcases hA3 with e | e <;> omega, q4⟩, junk (by kernel_rfl)⟩; omega)
  obtain ⟨ga, gm, gn, rfl⟩ := ow.slice
  clear ow hAP hvw hlv hlt hi hus hwi
  simp -implicitDefEqProofs only [syms, symx, seval, c30]
  have r1e := r1.ext z
  simp -implicitDefEqProofs only [syms, symx, seval, c30, q3.lay, ↓za2, zaZ, zaH]
  refine zac (n := 7) (o := 0) (vs := zar (.slice a0 m0 c0) (.slice a1 m1 c1) (.slice ca cm cn) (.slice ra rm rn) (.slice ga gm gn) q b) r1e (by kernel_rfl) rfl rfl (by decide) rfl (fun h4 q4 cg4 => ?_)
  have kn := ((Kin.start hP1').mono z.inc).step cg4 (.inl rfl) q4.lt
  have hsF := hsA.mono kn.all
  have q4 : Holds h4 P1 (.row (zar (.slice a0 m0 c0) (.slice a1 m1 c1) (.slice ca cm cn) (.slice ra rm rn) (.slice ga gm gn) q b) 55 false) := q4
  have zf := (z1.trans z).stepW cg4 (by omega) (by have := (z1.trans z).low; omega)
  rw [zaa h4]
  simp -implicitDefEqProofs only [syms, symx, seval, c30, q4.lay, ↓za2, zaZ, zaH]
  exact hk _ _ _ _ _ _ (zf.upW _ _ (by omega)) (hsF.lay _ _) rfl
end Go.Proofs.YtemapihoobmonaaGreatDoor

/- Ranks: their bounds; a row of numbers of one's own. No condition. -/
import Derived.Test.YtemapihoobmonaaGreatDoorG29
import Derived.Test.YtemapihoobmonaaGreatDoorG21
import Derived.Test.YtemapihoobmonaaGreatDoorGJoin
import Derived.Test.YtemapihoobmonaaGreatDoorZM3
import Derived.Test.YtemapihoobmonaaGreatDoorG38
import Derived.Test.YtemapihoobmonaaGreatDoorG31
namespace Go.Am
set_option linter.unusedVariables false
set_option linter.unusedSimpArgs false
def ints (l : List Int) : List Value := l.map (Value.int .i64)
end Go.Am
namespace Go.Proofs.YtemapihoobmonaaGreatDoor
open Go.Am
set_option linter.unusedSimpArgs false
set_option linter.unusedVariables false
set_option maxRecDepth 100000
set_option maxHeartbeats 0
theorem zsJ (l : List BindD) (v : Value) (a : AtomD) (h : Heap) (hl : Sl Rep.bind h v l) (hs : l.length ≤ 1000) (K : Value → Heap → Prop)
    (hk : ∀ h', Ext h h' → K (zcy l a).val h') : Ok Tryz.prog tab ov 58 [v, a.val] h K := by
  rw [zaa h]
  have z := Ext.refl h
  have hva := zaH v
  have hcn : a.cnt ≤ 4 := by unfold AtomD.cnt; omega
  refine Ok.into rfl zu3 (zaB N58) rfl (m := 22) rfl ?_
  repeat' (first | simp -implicitDefEqProofs only [syms, symx, seval, c58, zay, zxf] | ((with_reducible_and_instances apply zkh); (· rfl); (· rfl)) | ((with_reducible_and_instances apply zoe); (· rfl); (· rfl)))
  have hc : (if (4 : Int) < (if a.n < 0 then 0 else a.n) then (4 : Int) else (if a.n < 0 then 0 else a.n)) = (a.cnt : Int) := by
    unfold AtomD.cnt
    split <;> split <;> omega
  try rw [hc]
  refine zf8 (fun h' x hq => ?_)
  have q0 := hq 0 _ rfl
  have q1 := hq 1 _ rfl
  clear hq
  (replace z := z.overW x (by (try simp only [lsz]); omega); rw [zaa h'])
  have hz0 := z.size
  obtain ⟨A0, hA0⟩ : ∃ A0, A0 = h.size + 0 := ⟨_, rfl⟩
  obtain ⟨A1, hA1⟩ : ∃ A1, A1 = h.size + 1 := ⟨_, rfl⟩
  rw [← hA0] at q0
  rw [← hA1] at q1
  rw [← hA0, ← hA1]
  obtain ⟨I1, hI1⟩ : ∃ I : Nat → Env → Heap → Prop, I = (fun n e h' => ∃ (i : Nat) (h1 : Heap), h' = h1.lay [] h1.low ∧ Ext h h1 ∧ (n = a.cnt - i ∧ i ≤ a.cnt ∧ Holds h1 A0 (.row (zjm l a i).cells 26 false) ∧ Holds h1 A1 (.row noAtomD.cells 26 false)) ∧ ∃ J : Nat → Value, e = (v :: jr J 1 2 (.pointer (some ⟨A0, 0, none⟩) :: .pointer (some ⟨A1, 0, none⟩) :: jr J 5 4 (.int .i64 a.cnt :: .int .i64 i :: jr J 11 13 ([]))))) := ⟨_, rfl⟩
  refine zas I1 _ (by rw [hI1]; exact ⟨0, _, rfl, z, ⟨rfl, by omega, q0, q1⟩, junk (by kernel_rfl)⟩) ?_
  intro n e h' hin
  rw [hI1] at hin
  obtain ⟨i, h1', rfl, z, hinv, J, rfl⟩ := hin
  clear q0 q1
  obtain ⟨rfl, hi, q0, q1⟩ := hinv
  have hw : IntKind.i64.wrap ((i : Int) + 1) = ((i + 1 : Nat) : Int) := by rw [zae (by omega) (by omega)]; omega
  have hz := z.size
  simp -implicitDefEqProofs only [syms, symx, seval, c58, q0.lay, ↓zax, zau, zaj]
  refine zaw (fun hlt => ?_) (fun hlt => ?_)
  rotate_left
  · have he : i = a.cnt := by omega
    subst he
    rw [zql] at q0
    repeat' ( simp -implicitDefEqProofs only [syms, symx, seval, c58, q0.lay, ↓zax, zau, zaj])
    refine zfH q1 sz26 rfl rfl rfl (fun h2' q1' c => ?_)
    replace z := (z.upW _ _ (by omega)).step c (by omega)
    rw [zaa h2']
    have q1'' : Holds h2' A1 (.row (zcy l a).cells 26 false) := q1'
    simp -implicitDefEqProofs only [syms, symx, seval, c58, q1''.lay, ↓zax, zau, zaj]
    exact hk _ (z.upW _ _ (by omega))
  have hi4 : (0 : Int) ≤ (i : Int) ∧ (i : Int) < 4 := by omega
  have hca := znB (zjm l a i) i (by omega)
  rw [zqV l a (by omega)] at hca
  repeat' ( simp -implicitDefEqProofs only [syms, symx, seval, c58, q0.lay, hva, hi4, and_self, if_true, ↓hca, zfG, zbF])
  refine znu l v (a.arg i) _ ((hl.mono z.inc).lay _ _) hs _ (fun h' x => ?_)
  ((skip); replace z := z.overW x (by (try simp only [lsz]); omega); (try replace q0 := q0.over x); (try replace q1 := q1.over x); rw [zaa h'])
  repeat' ( simp -implicitDefEqProofs only [syms, symx, seval, c58, hi4, and_self, if_true, zbF])
  refine zgD (o := 3 + i * 2) q0 sz23 (zeU _) rfl (by show _ ≤ 11; omega) rfl (fun h2' q0' c => ?_)
  rw [zpK l a (by omega)] at q0'
  have q1' := q1.stepL c (by omega)
  replace z := (z.upW _ _ (by omega)).step c (by omega)
  rw [zaa h2']
  clear q0 q1
  repeat' ( simp -implicitDefEqProofs only [syms, symx, seval, c58])
  rw [hw]
  (rw [hI1]; with_reducible refine zac (m := _) ?_ ⟨i + 1, _, rfl, z, ⟨rfl, by omega, q0', q1'⟩, junk (by kernel_rfl)⟩; omega)
theorem zgr (b : AtomD) (z0 z1 z2 z3 z4 z5 z6 z7 z8 z9 z10 : Value) : zdS (fun i => some (i * 11, 11)) [z0, z1, z2, z3, z4, z5, z6, z7, z8, z9, z10] [(0, b.val)] = some b.cells := rfl
theorem zsw (l : List AtomD) (v : Value) (h : Heap) (hsp : SpaceAt 1 h) (hl : Sl Rep.atom h v l) (hs : l.length ≤ 1000) (hf : ∀ x ∈ l, FactX x) (K : Value → Heap → Prop)
    (hk : ∀ h' w, Ext h h' → Sl Rep.atom h' w (zc5 l) → K w h') : Ok Tryz.prog tab ov 55 [v] h K := by
  rw [zaa h]
  have z := Ext.refl h
  have hva := zaH v
  have hlv := fun (hh : Heap) => hl.lenA ds27 hh
  refine Ok.into rfl zuQ (zaB N55) rfl (m := 20) rfl ?_
  repeat' ( simp -implicitDefEqProofs only [syms, symx, seval, c55, hva, hlv])
  have hz0 := z.size
  obtain ⟨I1, hI1⟩ : ∃ I : Nat → Env → Heap → Prop, I = (fun n e h' => ∃ (i : Nat) (wv : Value) (A : Nat) (h1 : Heap), h' = h1.lay [] h1.low ∧ Ext h h1 ∧ (n = l.length - i ∧ i ≤ l.length ∧ Ow Rep.atom h h1 26 A wv (l.take i)) ∧ ∃ J : Nat → Value, e = (v :: jr J 1 2 (wv :: jr J 4 2 (v :: .int .i64 l.length :: .int .i64 i :: jr J 9 12 ([]))))) := ⟨_, rfl⟩
  refine zas I1 _ (by rw [hI1]; exact ⟨0, .slice none 0 0, h.size, _, rfl, z, ⟨rfl, by omega, Ow.nil (by omega)⟩, junk (by kernel_rfl)⟩) ?_
  intro n e h' hin
  rw [hI1] at hin
  obtain ⟨i, wv, A, h1', rfl, z, hinv, J, rfl⟩ := hin
  obtain ⟨rfl, hi, ow⟩ := hinv
  have hw : IntKind.i64.wrap ((i : Int) + 1) = ((i + 1 : Nat) : Int) := by rw [zae (by omega) (by omega)]; omega
  have hvw := zaH wv
  have hz := z.size
  simp -implicitDefEqProofs only [syms, symx, seval, c55, hva, hlv]
  refine zaw (fun hlt2 => ?_) (fun hlt2 => ?_)
  rotate_left
  · rw [List.take_of_length_le (by omega)] at ow
    repeat' ( simp -implicitDefEqProofs only [syms, symx, seval, c55, hvw])
    refine zlp l wv _ ((ow.sl (by decide)).lay _ _) (by omega) (fun x hx => (hf x hx).valid.light) _ (fun h' w x o1 => ?_)
    replace o1 := o1.sl
    ((skip); replace z := z.overW x (by (try simp only [lsz]); omega); (try replace ow := ow.over x); rw [zaa h'])
    have hvw1 := zaH w
    repeat' ( simp -implicitDefEqProofs only [syms, symx, seval, c55, hvw1])
    exact hk _ _ (z.upW _ _ (by omega)) (o1.lay _ _)
  obtain ⟨r, hr, hr'⟩ := za5 (l := l) (i := i) (by omega)
  have hmem := List.mem_of_getElem? hr'
  have htk : l.take (i + 1) = l.take i ++ [r] := by rw [List.take_add_one, hr']; rfl
  repeat' (first | simp -implicitDefEqProofs only [syms, symx, seval, c55, hva] | with_reducible_and_instances refine zdN (hl.mono z.inc) ds27 sz26 (by omega) hr (fun p hp => ?_) | with_reducible_and_instances refine lda hp ag26 sz26 ?_)
  repeat' ( simp -implicitDefEqProofs only [syms, symx, seval, c55, zaP, zaC, List.all_cons, List.all_nil, Am.one, Bool.and_true, Bool.true_and, Bool.and_self, List.set_cons_zero, List.set_cons_succ, st4, st3, st9, st23, st26, st29, zcj, zay, zfU, zfK, zfE, zlA, zrF, List.append_nil, if_true, ↓zax, zau, zaj])
  refine zoQ r _ ((hsp.ext z).lay _ _) _ (fun hv h' x => ?_) (fun hv h' x => absurd (hf r hmem) hv)
  have q0 := Holds.top (i := 0) x rfl
  ((skip); replace z := z.overW x (by (try simp only [lsz]); omega); (try replace ow := ow.over x); rw [zaa h'])
  clear hp
  repeat' ( simp -implicitDefEqProofs only [syms, symx, seval, c55, hva, hvw, q0.lay, ↓zax, zau, zaj])
  simp -implicitDefEqProofs only [syms, symx, seval, c55, za2, zqF, zgr]
  refine zlH (i := 0) (cs := r.cells) (x := r) ds27 zbN rfl (by decide) (by rfl) z.size ow rfl (by rw [List.length_take]; omega) (by rw [List.length_take]; omega) (fun w3 h3 A3 ow3 cg3 hA3 => ?_)
  have hfA := ow.fresh
  replace z := (z.upW _ _ (by omega)).step cg3 (by omega)
  rw [zaa h3]
  have hvw3 := zaH w3
  repeat' ( simp -implicitDefEqProofs only [syms, symx, seval, c55, hvw3])
  rw [hw]
  rw [← htk] at ow3
  clear ow
  (rw [hI1]; with_reducible refine zac (m := _) ?_ ⟨i + 1, w3, A3, _, rfl, z, ⟨rfl, by omega, ow3⟩, junk (by kernel_rfl)⟩; omega)
theorem zls (pv hv lv : Value) (h : Heap) (cp : pv.cells.toList = [pv]) (ch : hv.cells.toList = [hv]) (cl : lv.cells.toList = [lv]) (K : Value → Heap → Prop)
    (hk : ∀ h' X1 X2 X3, Ext h h' → h.size ≤ X1 → h.size ≤ X2 → h.size ≤ X3 → Holds h' X1 (.row [pv] 27 false) → Holds h' X2 (.row [lv] 36 false) → Holds h' X3 (.row [hv] 27 false) → K (.func (.func 94) ⟨[]⟩ ⟨[.pointer (some ⟨X1, 0, none⟩), .pointer (some ⟨X2, 0, none⟩), .pointer (some ⟨X3, 0, none⟩)]⟩) h') : Ok Tryz.prog tab ov 57 [pv, hv, lv] h K := by
  rw [zaa h]
  have z := Ext.refl h
  have hvp := zaH pv
  have hvh := zaH hv
  have hvl := zaH lv
  refine Ok.into rfl zug (zaB N57) rfl (m := 5) rfl ?_
  repeat' ( simp -implicitDefEqProofs only [syms, symx, seval, c57, hvp, hvh, hvl, cp, ch, cl])
  refine hk _ (h.size + 0) (h.size + 2) (h.size + 1) (z.upW _ _ (by omega)) (by omega) (by omega) (by omega) ?_ ?_ ?_
  · exact ⟨by rw [zad]; simp, by rw [zaR]; rfl⟩
  · exact ⟨by rw [zad]; simp, by rw [zaR]; rfl⟩
  · exact ⟨by rw [zad]; simp, by rw [zaR]; rfl⟩
theorem zlz (M X : Nat) (h : Heap) (hav : List AtomD) (hv : Value) (hhl : hav.length ≤ 1000) : ∀ (k N : Nat) (ps : List AtomD) (pv : Value) (l : List BindD) (lv : Value) (X1 X2 X3 Y A : Nat) (Jp : List (List BindD) → Nat → Heap → Prop) (done : List (List BindD)) (B hs : Heap), ps.length = k → ps.length ≤ 100 → l.length + 4 * k ≤ 800 → done.length + hav.length ^ k ≤ 20000 → Stb N M X Jp → N ≤ hs.size → Yld Tryz.prog tab ov M X h Jp (.func (.yield Y) ⟨[]⟩ ⟨[]⟩) → Ext h hs → Jp done A hs → Kn M X B A hs →
    Holds B X1 (.row [pv] 27 false) → Holds B X2 (.row [lv] 36 false) → Holds B X3 (.row [hv] 27 false) → Sl Rep.atom B pv ps → Sl Rep.bind B lv l → Sl Rep.atom B hv hav → ∀ (K : Value → Heap → Prop),
    (∀ h' A', Ext h h' → Jp (done ++ zfI hav ps l) A' h' → Kn M X B A' h' → K undef h') → Ok Tryz.prog tab ov 94 [.func (.yield Y) ⟨[]⟩ ⟨[]⟩, .pointer (some ⟨X1, 0, none⟩), .pointer (some ⟨X2, 0, none⟩), .pointer (some ⟨X3, 0, none⟩)] hs K
  | k, N, ps, pv, l, lv, X1, X2, X3, Y, A, Jp, done, B, hs, hk, hp1, hl8, hcap, st, hN, yl, z, j0, kn, Q1, Q2, Q3, sp, sl, sh, K, hK => by
    have j : JJ N M X Jp done A hs := ⟨st, j0⟩
    rw [zaa hs]
    have hvp := zaH pv
    have hvh := zaH hv
    have hvl := zaH lv
    have hvy : ∀ (h : Heap) (K : Value → Heap → Prop), valE (some (.func (.yield Y) ⟨[]⟩ ⟨[]⟩)) h K = K (.func (.yield Y) ⟨[]⟩ ⟨[]⟩) h := fun _ _ => rfl
    have hlp := fun (hh : Heap) => sp.lenA ds27 hh
    have hlh := fun (hh : Heap) => sh.lenA ds27 hh
    have q1 := (kn.holds Q1 (by nofun)).1
    have q2 := (kn.holds Q2 (by nofun)).1
    have q3 := (kn.holds Q3 (by nofun)).1
    have hzs := z.size
    refine Ok.into rfl zuZ (zaB N94) rfl (m := 40) rfl ?_
    simp -implicitDefEqProofs only [syms, symx, seval, c94, q1.lay, hvp, hlp]
    refine zdA (fun heq => ?_) (fun hne => ?_)
    · have hp0 : ps = [] := List.eq_nil_of_length_eq_zero (by omega)
      have hk0 : k = 0 := by omega
      have hdl : done.length < 20000 := by rw [hk0, Nat.pow_zero] at hcap; omega
      subst hp0
      simp -implicitDefEqProofs only [syms, symx, seval, c94, q2.lay, hvl, hvy]
      refine yl done l A lv _ _ (z.upW _ _ (by omega)) (j.lay _ _).j (sl.mono ((kn.lay _ _).inc)) (by omega) hdl (fun h' A' zz j2 k2 => ?_)
      replace z := zz
      have k3 := (kn.lay _ _).trans k2
      rw [zaa h']
      repeat' ( simp -implicitDefEqProofs only [syms, symx, seval, c94])
      exact hK _ A' (z.upW _ _ (by omega)) (st.lay j2 _ _) (k3.lay _ _)
    match k, ps, hk, hl8, hcap with
    | 0, ps, hk, _, _ => exact absurd (show (ps.length : Int) = 0 by omega) hne
    | k + 1, [], hk, _, _ => simp at hk
    | k + 1, pa :: ps, hk, hl8, hcap =>
      have hk1 : ps.length = k := by simpa using hk
      obtain ⟨f, hf⟩ : ∃ f, f = zfd hav pa ps l := ⟨_, rfl⟩
      rw [zhS, ← hf] at hK
      have hfl : ∀ j, ((hav.take j).flatMap f).length ≤ j * hav.length ^ k := fun j => by rw [hf, ← hk1]; exact zns j
      have hpow : hav.length ^ (k + 1) = hav.length * hav.length ^ k := by rw [Nat.pow_succ, Nat.mul_comm]
      have hle : ∀ j, j < hav.length → (j + 1) * hav.length ^ k ≤ hav.length ^ (k + 1) := fun j hj => by rw [hpow]; exact Nat.mul_le_mul_right _ hj
      repeat' ( simp -implicitDefEqProofs only [syms, symx, seval, c94, q3.lay, hvh, hlh])
      have kn0 := kn
      refine zf8 (fun h' x hq => ?_)
      have q4 := hq 0 _ rfl
      clear hq
      (replace z := z.overW x (by (try simp only [lsz]); omega); (try replace kn := kn.over x); (try replace j := j.over x); rw [zaa h'])
      have hzs4 := z.size
      obtain ⟨X4, hX4⟩ : ∃ X4, X4 = hs.size + 0 := ⟨_, rfl⟩
      rw [← hX4] at q4
      rw [← hX4]
      obtain ⟨B1, hB1⟩ : ∃ B1, B1 = dk M X A h' := ⟨_, rfl⟩
      have hsm : M < hs.size ∧ X < hs.size ∧ A < hs.size := ⟨kn0.m, kn0.x, kn0.lt⟩
      have R4 : Holds B1 X4 (.row [.func (.yield Y) ⟨[]⟩ ⟨[]⟩] 137 false) := by rw [hB1]; exact q4.dk (by omega) (by omega) (by omega)
      have i1 : Inc B B1 := by rw [hB1]; exact kn.inc
      replace Q1 := Q1.mono i1
      replace Q2 := Q2.mono i1
      replace Q3 := Q3.mono i1
      replace sp := sp.mono i1
      replace sl := sl.mono i1
      replace sh := sh.mono i1
      have kn1 : Kn M X B1 A h' := by rw [hB1]; exact Kn.start kn.m kn.x kn.lt
      have kb : ∀ {A' : Nat} {h2 : Heap}, Kn M X B1 A' h2 → Kn M X B A' h2 := fun k => ⟨k.m, k.x, k.lt, i1.trans k.inc⟩
      have hNB : N ≤ B1.size := by rw [hB1, zbn]; have := q4.lt; omega
      clear q1 q2 q3 q4 kn kn0
      obtain ⟨I1, hI1⟩ : ∃ I : Nat → Env → Heap → Prop, I = (fun n e h' => ∃ (i : Nat) (A1 : Nat) (h1 : Heap), h' = h1.lay [] h1.low ∧ Ext h h1 ∧ (n = hav.length - i ∧ i ≤ hav.length ∧ JJ N M X Jp (done ++ (hav.take i).flatMap f) A1 h1 ∧ Kn M X B1 A1 h1) ∧ ∃ J : Nat → Value, e = (J 0 :: .pointer (some ⟨X1, 0, none⟩) :: .pointer (some ⟨X2, 0, none⟩) :: .pointer (some ⟨X3, 0, none⟩) :: .pointer (some ⟨X4, 0, none⟩) :: jr J 5 11 (hv :: .int .i64 hav.length :: .int .i64 i :: jr J 19 25 ([])))) := ⟨_, rfl⟩
      refine zas I1 _ (by rw [hI1]; exact ⟨0, A, _, rfl, z, ⟨rfl, by omega, by simpa using j, kn1⟩, junk (by kernel_rfl)⟩) ?_
      intro n e h' hin
      rw [hI1] at hin
      obtain ⟨i, A1, h1', rfl, z, hinv, J, rfl⟩ := hin
      clear j kn1
      obtain ⟨rfl, hi, j, kn⟩ := hinv
      have hwi : IntKind.i64.wrap ((i : Int) + 1) = ((i + 1 : Nat) : Int) := by rw [zae (by omega) (by omega)]; omega
      have hz1 := z.size
      simp -implicitDefEqProofs only [syms, symx, seval, c94]
      refine zaw (fun hlt2 => ?_) (fun hlt2 => ?_)
      rotate_left
      · rw [List.take_of_length_le (by omega)] at j
        repeat' ( simp -implicitDefEqProofs only [syms, symx, seval, c94])
        exact hK _ _ (z.upW _ _ (by omega)) (j.lay _ _).j (kb (kn.lay _ _))
      obtain ⟨r, hr, hr'⟩ := za5 (l := hav) (i := i) (by omega)
      have htk : (hav.take (i + 1)).flatMap f = (hav.take i).flatMap f ++ f r := by rw [List.take_add_one, hr', List.flatMap_append]; simp
      have q1 := (kn.holds Q1 (by nofun)).1
      have q2 := (kn.holds Q2 (by nofun)).1
      have q3 := (kn.holds Q3 (by nofun)).1
      have q4 := (kn.holds R4 (by nofun)).1
      repeat' (first | simp -implicitDefEqProofs only [syms, symx, seval, c94, hvh, zaP, zaC, List.all_cons, List.all_nil, Am.one, Bool.and_true, Bool.true_and, Bool.and_self, List.set_cons_zero, List.set_cons_succ, st4, st3, st9, st23, st26, st29, zcj, zay, zfU, zfK, zfE, zlA, zrF, List.append_nil, if_true, ↓zax, zau, zaj] | with_reducible_and_instances refine zdN (kn.mono_sl sh) ds27 sz26 (by omega) hr (fun p hp => ?_) | with_reducible_and_instances refine lda hp ag26 sz26 ?_)
      clear hp
      have hmM := kn.m
      have hmX := kn.x
      have hmA := kn.lt
      have hpa0 : (pa :: ps)[((0 : Int)).toNat]? = some pa := rfl
      with_reducible first | refine zbP (by simp only [c94]) (z.upW _ _ (by omega)) ?_
      repeat' (first | simp -implicitDefEqProofs only [syms, symx, seval, c94, q1.lay, q2.lay, hvl, hvp, ↓zax, zau, zaj] | with_reducible_and_instances refine zdN (kn.mono_sl sp) ds27 sz26 (by omega) hpa0 (fun p hp => ?_) | with_reducible_and_instances refine lda hp ag26 sz26 ?_)
      clear hp
      refine zw6 l lv pa r _ ((kn.mono_sl sl).lay _ _) (by omega) _ (fun h' w2 bb x hn2 hs2 => ?_)
      (( ((with_reducible refine zar ?_ ?_ ?_); (· exact (by (try simp only [lsz]); have := z.size; omega)); (·  exact x )) ); replace z := z.overW x (by (try simp only [lsz]); omega); (try replace q1 := q1.over x); (try replace q2 := q2.over x); (try replace q3 := q3.over x); (try replace q4 := q4.over x); (try replace kn := kn.over x); (try replace j := j.over x); rw [zaa h'])
      have hva2 := zaH w2
      cases hx2 : extD l pa r with
      | none =>
        obtain rfl := hn2 hx2
        have hfr : f r = [] := by rw [hf]; unfold zfd; rw [hx2]
        rw [hfr, List.append_nil] at htk
        repeat' (first | simp -implicitDefEqProofs only [syms, symx, seval, c94, hva2, Bool.not_false] | ((with_reducible_and_instances apply zaf); (· rfl)) | ((with_reducible refine ⟨z.grw.lay _ _, ?_⟩); (intro _ h' zz x _); (try simp only [zap, List.append_nil] at x); (try replace q1 := q1.over x); (try replace q2 := q2.over x); (try replace q3 := q3.over x); (try replace q4 := q4.over x); (try replace kn := kn.over x); (try replace j := j.over x); (replace z := zz); (clear zz); rw [zaa h']))
        rw [hwi]
        (rw [hI1]; with_reducible refine zac (m := _) ?_ ⟨i + 1, A1, _, rfl, z, ⟨rfl, by omega, by rw [htk]; exact j, kn⟩, junk (by kernel_rfl)⟩; omega)
      | some m =>
        obtain ⟨rfl, hm⟩ := hs2 m hx2
        have hfr : f r = zfI hav ps m := by rw [hf]; unfold zfd; rw [hx2]
        have hml := zna hx2
        have hm2 : Sl Rep.bind (dk M X A1 h') w2 m := hm.dk (by decide) (fun _ _ _ _ h => h) (by simp only [zad]; omega) (by simp only [zad]; omega) (by simp only [zad]; omega)
        obtain ⟨pv2, hpv2, sp2⟩ := zrd (a := 1) (kd := .i64) sp (by decide) ds27 sz26 (by simp only [List.length_cons]; omega)
        replace hpv2 : zbb tab 27 pv (some (.int .i64 1)) none none = some pv2 := hpv2
        replace sp2 : Sl Rep.atom B1 pv2 ps := sp2
        have hvp2 := zaH pv2
        obtain ⟨B2, hB2⟩ : ∃ B2, B2 = dk M X A1 h' := ⟨_, rfl⟩
        have i2 : Inc B1 B2 := by rw [hB2]; exact kn.inc
        rw [← hB2] at hm2
        have kn2 : Kn M X B2 A1 h' := by rw [hB2]; exact Kn.start kn.m kn.x kn.lt
        repeat' (first | simp -implicitDefEqProofs only [syms, symx, seval, c94, hva2, Bool.not_true] | ((with_reducible_and_instances apply zaf); (· rfl)) | ((with_reducible refine ⟨z.grw.lay _ _, ?_⟩); (intro _ h' zz x _); (try simp only [zap, List.append_nil] at x); (try replace q1 := q1.over x); (try replace q2 := q2.over x); (try replace q3 := q3.over x); (try replace q4 := q4.over x); (try replace kn := kn.over x); (try replace kn2 := kn2.over x); (try replace j := j.over x); (replace z := zz); (clear zz); rw [zaa h']))
        with_reducible first | refine zbP (by simp only [c94]) (z.upW _ _ (by omega)) ?_
        repeat' ( simp -implicitDefEqProofs only [syms, symx, seval, c94, q1.lay, q3.lay, hva2, hvp, hvh, hvp2, hpv2])
        have hA9 := kn2.lt
        have hM9 := kn2.m
        have hX9 := kn2.x
        refine zls pv2 hv w2 _ (zcs sp2) (zcs sh) (zcs hm2) _ (fun h' Z1 Z2 Z3 x hZ1 hZ2 hZ3 s1 s2 s3 => ?_)
        simp only [zad, List.length_nil, Nat.add_zero] at hZ1 hZ2 hZ3
        (( ((with_reducible refine zar ?_ ?_ ?_); (· exact (by (try simp only [lsz]); have := z.size; omega)); (·  exact x )) ); replace z := z.overW x (by (try simp only [lsz]); omega); (try replace q1 := q1.over x); (try replace q2 := q2.over x); (try replace q3 := q3.over x); (try replace q4 := q4.over x); (try replace kn := kn.over x); (try replace kn2 := kn2.over x); (try replace j := j.over x); rw [zaa h'])
        repeat' (first | simp -implicitDefEqProofs only [syms, symx, seval, c94] | ((with_reducible refine ⟨z.grw.lay _ _, ?_⟩); (intro _ h' zz x _); (try simp only [zap, List.append_nil] at x); (try replace q1 := q1.over x); (try replace q2 := q2.over x); (try replace q3 := q3.over x); (try replace q4 := q4.over x); (try replace kn := kn.over x); (try replace kn2 := kn2.over x); (try replace j := j.over x); (try replace s1 := s1.over x); (try replace s2 := s2.over x); (try replace s3 := s3.over x); (replace z := zz); (clear zz); rw [zaa h']))
        have hz9 := z.size
        have hk9 := kn.all.size
        have f1 : Holds (dk M X A1 h') Z1 (.row [pv2] 27 false) := s1.dk (by omega) (by omega) (by omega)
        have f2 : Holds (dk M X A1 h') Z2 (.row [w2] 36 false) := s2.dk (by omega) (by omega) (by omega)
        have f3 : Holds (dk M X A1 h') Z3 (.row [hv] 27 false) := s3.dk (by omega) (by omega) (by omega)
        rw [← zaa h']
        refine zoX (N := N) (A := A1) (done := done ++ (hav.take i).flatMap f) (all := zfI hav ps m) (by kernel_rfl) j.st (by omega) z j.j ?_ ?_ ?_
        · intro Jp' hs' K' st' yl' z' j' k' hlen hk'
          have hfl1 := hfl i
          have hle1 := hle i (by omega)
          have hsm1 : (i + 1) * hav.length ^ k = i * hav.length ^ k + hav.length ^ k := Nat.succ_mul _ _
          exact zlz M X h hav hv hhl k (h'.size + 1) ps pv2 m w2 Z1 Z2 Z3 h'.size A1 Jp' _ (dk M X A1 h') hs' hk1 (by simp only [List.length_cons] at hp1; omega) (by omega) (by rw [List.length_append]; omega) st' hlen yl' z' j' k' f1 f2 f3 (sp2.mono kn.inc) (hm2.mono kn2.inc) (sh.mono kn.inc) K' (fun h3 A3 x3 j3 _ => hk' h3 A3 x3 j3)
        · intro done' m' A' v' hh z' j' k' hLA hLl s' hml' hdl'
          have hvv : ∀ (h : Heap) (K : Value → Heap → Prop), valE (some v') h K = K v' h := fun _ _ => rfl
          rw [zaa hh]
          repeat' ( simp -implicitDefEqProofs only [syms, symx, seval, c94, hvv])
          refine ⟨Ext.refl _, fun H zH cs cg jH kH sH => ?_⟩
          have q4 := (kH.holds (R4.mono kn.inc) (by nofun)).1
          have jj : JJ N M X Jp done' A' H := ⟨j.st, jH⟩
          rw [zaa H]
          clear z
          have z := zH
          repeat' ( simp -implicitDefEqProofs only [syms, symx, seval, c94, q4.lay, hvy, hvv])
          refine yl done' m' A' v' _ _ (z.upW _ _ (by omega)) (jj.lay _ _).j (sH.mono (zlj (Inc.lay _ _ _))) hml' hdl' (fun h3 A3 z3 j3 k3 => ?_)
          have k4 : Kn M X (dk M X A' H) A3 h3 := ⟨k3.m, k3.x, k3.lt, (zlj (Inc.lay _ _ _)).trans k3.inc⟩
          have jj3 : JJ N M X Jp (done' ++ [m']) A3 h3 := ⟨j.st, j3⟩
          replace z := z3
          rw [zaa h3]
          repeat' (first | simp -implicitDefEqProofs only [syms, symx, seval, c94, Bool.not_true] | ((with_reducible_and_instances apply zaf); (· rfl)))
          exact ⟨z.upW _ _ (by omega), A3, (jj3.lay _ _).j, k4.lay _ _⟩
        · intro h3 A3 z3 j3 k3
          have jst := j.st
          have kn3 := kn.trans k3
          clear z
          have z := z3
          rw [zaa h3]
          repeat' ( simp -implicitDefEqProofs only [syms, symx, seval, c94])
          rw [hwi]
          (rw [hI1]; with_reducible refine zac (m := _) ?_ ⟨i + 1, A3, _, rfl, z, ⟨rfl, by omega, ⟨jst, by rw [htk, ← List.append_assoc, hfr]; exact j3⟩, kn3⟩, junk (by kernel_rfl)⟩; omega)
end Go.Proofs.YtemapihoobmonaaGreatDoor

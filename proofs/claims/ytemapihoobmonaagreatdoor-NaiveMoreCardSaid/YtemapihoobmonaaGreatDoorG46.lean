/- The code of some functions, node by node, for simp. Written by a program (mkcode.py). No condition. -/
import Derived.Test.YtemapihoobmonaaGreatDoorG17
import Derived.Test.YtemapihoobmonaaGreatDoorG15
import Derived.KernelRfl
import Derived.Test.YtemapihoobmonaaGreatDoorG16
import Derived.Test.YtemapihoobmonaaGreatDoorG18
namespace Go.Proofs.YtemapihoobmonaaGreatDoor
open Go.Am
set_option linter.unusedVariables false
set_option linter.unusedSimpArgs false
set_option maxRecDepth 100000
set_option maxHeartbeats 0
noncomputable def N24 := zaz Tryz.f24
noncomputable def x24 := PLift.up (by have c := zah N24 Tryz.f24; simp only [zao, Tryz.f24, Option.getD_some, zal, opsF, opsX, zag, zaA, dstL, zam, List.append_eq, List.cons_append, List.nil_append, seval] at c; exact nd c <| nd @zdr <| nd @zjf <| nd @zju <| nd @zee <| nd @ix24 <| nd @ld9 <| nd @ln9 <| @fi24)
theorem c24 : type_of% x24.down := x24.down
noncomputable def N12 := zaz Tryz.f12
noncomputable def x12 := PLift.up (by have c := zah N12 Tryz.f12; simp only [zao, Tryz.f12, Option.getD_some, zal, opsF, opsX, zag, zaA, dstL, zam, List.append_eq, List.cons_append, List.nil_append, seval] at c; exact nd c <| nd @ix27 <| nd @ld26 <| nd @ln27 <| @fi12)
theorem c12 : type_of% x12.down := x12.down
noncomputable def N11 := zaz Tryz.f11
noncomputable def x11 := PLift.up (by have c := zah N11 Tryz.f11; simp only [zao, Tryz.f11, Option.getD_some, zal, opsF, opsX, zag, zaA, dstL, zam, List.append_eq, List.cons_append, List.nil_append, seval] at c; exact nd c <| nd @zep <| nd @zdL <| nd @ix32 <| nd @ld26 <| nd @ld27 <| nd @ln32 <| @fi11)
theorem c11 : type_of% x11.down := x11.down
noncomputable def N16 := zaz Tryz.f16
noncomputable def x16 := PLift.up (by have c := zah N16 Tryz.f16; simp only [zao, Tryz.f16, Option.getD_some, zal, opsF, opsX, zag, zaA, dstL, zam, List.append_eq, List.cons_append, List.nil_append, seval] at c; exact nd c <| @fi16)
noncomputable def N37 := zaz Tryz.f37
noncomputable def x37 := PLift.up (by have c := zah N37 Tryz.f37; simp only [zao, Tryz.f37, Option.getD_some, zal, opsF, opsX, zag, zaA, dstL, zam, List.append_eq, List.cons_append, List.nil_append, seval] at c; exact nd c <| nd @bs27 <| @fi37)
theorem c37 : type_of% x37.down := x37.down
noncomputable def N19 := zaz Tryz.f19
noncomputable def x19 := PLift.up (by have c := zah N19 Tryz.f19; simp only [zao, Tryz.f19, Option.getD_some, zal, opsF, opsX, zag, zaA, dstL, zam, List.append_eq, List.cons_append, List.nil_append, seval] at c; exact nd c <| nd @bs32 <| nd @zep <| nd @zdL <| nd @ix32 <| nd @ld26 <| nd @ld27 <| nd @ln32 <| @fi19)
theorem c19 : type_of% x19.down := x19.down
end Go.Proofs.YtemapihoobmonaaGreatDoor
namespace Go.Proofs.YtemapihoobmonaaGreatDoor
open Go.Am
set_option linter.unusedSimpArgs false
set_option linter.unusedVariables false
set_option maxRecDepth 100000
set_option maxHeartbeats 0
/-! ### Light -/
theorem zoF (a : AtomD) (h : Heap) (K : Value → Heap → Prop) (h1 : a.light = true → ∀ h', Ext h h' → K (.bool true) h') (h2 : a.light = false → ∀ h', Ext h h' → K (.bool false) h') : Ok Tryz.prog tab ov 24 [a.val] h K := by
  rw [zaa h]
  have z := Ext.refl h
  unfold AtomD.val AtomD.cells
  refine Ok.into rfl zt9 (zaB N24) rfl (m := 29) rfl ?_
  simp -implicitDefEqProofs only [syms, symx, seval, c24]
  repeat' ((first | ((with_reducible  apply zaw ) <;> intro _) | with_reducible_and_instances refine zfP ?_) <;> simp -implicitDefEqProofs only [syms, symx, seval, c24])
  all_goals first
    | with_reducible exact h2 (by simp [AtomD.light]; omega) _ (z.upW _ _ (by omega))
    | with_reducible exact h1 (by simp [AtomD.light]; omega) _ (z.upW _ _ (by omega))
theorem zmo (l : List AtomD) (v : Value) (m : Int) (h : Heap) (hl : Sl Rep.atom h v l) (K : Value → Heap → Prop) (h1 : (l.length : Int) ≤ m → (∀ a ∈ l, a.light = true) → ∀ h', Ext h h' → K (.bool true) h') (h2 : ∀ h', Ext h h' → K (.bool false) h') : Ok Tryz.prog tab ov 12 [v, .int .i64 m] h K := by
  rw [zaa h]
  have z := Ext.refl h
  have hle := hl.le
  refine Ok.into rfl zt6 (zaB N12) rfl (m := 20) rfl ?_
  simp -implicitDefEqProofs only [syms, symx, seval, c12]
  repeat' ((first | ((with_reducible  apply zaw ) <;> intro _) | with_reducible_and_instances refine zcc hl ds27 ?_) <;> simp -implicitDefEqProofs only [syms, symx, seval, c12])
  · exact h2 _ (z.upW _ _ (by omega))
  refine zxT (fun e h' => ∃ (i : Nat) (h1 : Heap) (x1 x2 x3 x4 x6 x7 x8 x9 x10 x11 x12 x13 x14 x15 x16 x17 x18 x19 x20 x21 : Value), h' = h1.lay [] h1.low ∧ Ext h h1 ∧ i ≤ l.length ∧ (∀ a ∈ l.take i, a.light = true) ∧ e = [v, x1, x2, x3, x4, .int .i64 i, x6, x7, x8, x9, x10, x11, x12, x13, x14, x15, x16, x17, x18, x19, x20, x21]) (fun e _ => match e.get 5 with | .int _ i => l.length - i.toNat | _ => 0) ?_ ?_
  · exact ⟨0, h, _, _, _, _, _, _, _, _, _, _, _, _, _, _, _, _, _, _, _, _, rfl, z, by omega, by simp, rfl⟩
  rintro e h' ⟨i, h1', x1, x2, x3, x4, x6, x7, x8, x9, x10, x11, x12, x13, x14, x15, x16, x17, x18, x19, x20, x21, rfl, z, hi, hall, rfl⟩
  have hw : i < l.length → IntKind.i64.wrap ((i : Int) + 1) = ((i + 1 : Nat) : Int) := fun hh => by unfold maxLen at hle; rw [zae (by omega) (by omega)]; omega
  simp -implicitDefEqProofs only [syms, symx, seval, c12]
  repeat' ((first | ((with_reducible  apply zaw ) <;> intro _) | with_reducible_and_instances refine zcc hl ds27 ?_ | with_reducible_and_instances refine ixa (hl.mono z.inc) ds27 sz26 (by omega) (by omega) (fun a p ha hp => ?_) | with_reducible_and_instances refine lda hp ag26 sz26 ?_ | ((with_reducible_and_instances refine zoF _ _ _ (fun hlx h' x => ?_) (fun hlx h' x => ?_)) <;> ((skip); replace z := z.overW x (by (try simp only [lsz]); omega); rw [zaa h'])) | ((with_reducible_and_instances apply zaf); (· rfl))) <;> simp -implicitDefEqProofs only [syms, symx, seval, c12])
  all_goals first
    | with_reducible exact h2 _ (z.upW _ _ (by omega))
    | with_reducible exact h1 (by omega) (by rw [List.take_of_length_le (by omega)] at hall; exact hall) _ (z.upW _ _ (by omega))
    | (rw [hw (by omega)]
       with_reducible refine zmC ?_ ?_
       · exact ⟨i + 1, h', _, _, _, _, _, _, _, _, _, _, _, _, _, _, _, _, _, _, _, _, rfl, z, by omega, zbp ha hall hlx, rfl⟩
       · show l.length - ((i + 1 : Nat) : Int).toNat < l.length - (i : Int).toNat
         omega)
theorem zxQ (l : List AtomD) (v : Value) (h : Heap) (hl : Sl Rep.atom h v l) (hn : l.length ≤ 1000000) (K : Value → Heap → Prop) (hk : ∀ w A h', Ext h h' → Ow Rep.atom h h' 26 A w l → (A < h.size → False) → K w h') : Ok Tryz.prog tab ov 37 [v] h K := by
  rw [zaa h]
  refine Ok.into rfl zva (zaB N37) rfl (m := 5) rfl ?_
  simp -implicitDefEqProofs only [syms, symx, seval, c37, za2, zqF]
  obtain ⟨news, hs, hsr⟩ := zis (A := h.size + 1) (r := Rep.atom) (by decide) (hl.lay [.row [] 26 false] h.low) (fun cs y hr => hr)
  have f : Ow Rep.atom h (h.lay [.row [] 26 false] h.low) 26 (h.size + 1) (.slice (some ⟨h.size + 0, 0, none⟩) 0 0) [] :=
    .inl ⟨by omega, rfl, .inr ⟨h.size + 0, 0, rfl, by omega, by rw [zad]; simp, [], 26, false, by rw [zaR]; rfl⟩⟩
  obtain ⟨w, h', A', e1, e2, e3, e4, e5⟩ := zdz (t := 27) ds27 zbN rfl (by decide) (by rw [zad]; omega) f hs hsr (by simp only [List.length_nil]; omega) (by simp only [List.length_nil]; omega)
  rw [e1]
  simp -implicitDefEqProofs only [syms, symx, seval, c37]
  exact hk _ _ _ ((Ext.refl h).stepW e3 (by omega) (by omega)) e2 (by omega)
theorem zel (l : List ClauseD) (facts : List AtomD) (v w : Value) (h : Heap) (hl : Sl Rep.clause h v l) (hf : Sl Rep.atom h w facts) (K : Value → Heap → Prop)
    (h1 : l.length ≤ 6 → facts.length ≤ 12 → (∀ r ∈ l, r.body.length ≤ 3) → ∀ h', Ext h h' → K (.bool true) h') (h2 : ∀ h', Ext h h' → K (.bool false) h') : Ok Tryz.prog tab ov 11 [v, w] h K := by
  rw [zaa h]
  have z := Ext.refl h
  refine Ok.into rfl zvz (zaB N11) rfl (m := 34) rfl ?_
  simp -implicitDefEqProofs only [syms, symx, seval, c11]
  repeat' ((first | ((with_reducible  apply zaw ) <;> intro _) | with_reducible_and_instances refine zcc hl ds32 ?_ | ((with_reducible_and_instances refine zmo _ _ _ _ ((hf.mono z.inc).lay _ _) _ (fun hlf hfl h' x => ?_) (fun h' x => ?_)) <;> ((skip); replace z := z.overW x (by (try simp only [lsz]); omega); rw [zaa h'])) | ((with_reducible_and_instances apply zaf); (· rfl))) <;> simp -implicitDefEqProofs only [syms, symx, seval, c11])
  all_goals try exact h2 _ (z.upW _ _ (by omega))
  obtain ⟨I1, hI1⟩ : ∃ I : Nat → Env → Heap → Prop, I = (fun n e h' => ∃ (i : Nat) (h1 : Heap), h' = h1.lay [] h1.low ∧ Ext h h1 ∧ (n = l.length - i ∧ i ≤ l.length ∧ ∀ r ∈ l.take i, r.body.length ≤ 3) ∧ ∃ J : Nat → Value, e = (v :: jr J 1 4 (.int .i64 i :: jr J 6 30 ([])))) := ⟨_, rfl⟩
  refine zas I1 _ (by rw [hI1]; exact ⟨0, _, rfl, z, ⟨rfl, by omega, by simp⟩, junk (by kernel_rfl)⟩) ?_
  intro n e h' hin
  rw [hI1] at hin
  obtain ⟨i, h1', rfl, z, hinv, J, rfl⟩ := hin
  obtain ⟨rfl, hi, hall⟩ := hinv
  have hw : IntKind.i64.wrap ((i : Int) + 1) = ((i + 1 : Nat) : Int) := by rw [zae (by omega) (by omega)]; omega
  repeat' (first | simp -implicitDefEqProofs only [syms, symx, seval, c11] | ((with_reducible  apply zaw ) <;> intro _) | with_reducible_and_instances refine zcc hl ds32 ?_)
  rotate_left
  · exact h1 (by omega) (by omega) (by rw [List.take_of_length_le (by omega)] at hall; exact hall) _ (z.upW _ _ (by omega))
  obtain ⟨r, hr, hr'⟩ := za5 (l := l) (i := i) (by assumption)
  repeat' ((first | with_reducible_and_instances refine zo5 (hl.mono z.inc) ds32 sz29 (by omega) hr (fun p bd hbd hp => ?_) | with_reducible_and_instances refine fdc0 hp zep (fun p hp => ?_) | with_reducible_and_instances refine fdc1 hp zdL (fun q hq => ?_) | with_reducible_and_instances refine lda hp ag26 sz26 ?_ | with_reducible_and_instances refine zd9 hq ag27 ?_ | ((with_reducible_and_instances refine zoF _ _ _ (fun hla h' x => ?_) (fun hla h' x => ?_)) <;> ((skip); replace z := z.overW x (by (try simp only [lsz]); omega); rw [zaa h'])) | ((with_reducible_and_instances refine zmo _ _ _ _ (hbd.mono (Inc.lay _ _ _)) _ (fun hlen hlb h' x => ?_) (fun h' x => ?_)) <;> ((skip); replace z := z.overW x (by (try simp only [lsz]); omega); rw [zaa h'])) | ((with_reducible_and_instances apply zaf); (· rfl))) <;> simp -implicitDefEqProofs only [syms, symx, seval, c11])
  all_goals first
    | with_reducible exact h2 _ (z.upW _ _ (by omega))
    | (rw [hw]; (rw [hI1]; with_reducible refine zac (m := _) ?_ ⟨i + 1, _, rfl, z, ⟨rfl, by omega, zbp (i := i) (P := fun r : ClauseD => r.body.length ≤ 3) hr' hall (by show r.body.length ≤ 3; omega)⟩, junk (by kernel_rfl)⟩; omega))
theorem zq3 (a : AtomD) (b : Option Addr) (n c : Nat) : zdk tab 29 [(0, a.val), (1, .slice b n c)] = some (.agg ⟨a.cells ++ [.slice b n c]⟩) := by kernel_rfl
theorem zcI (l : List ClauseD) (v : Value) (h : Heap) (hl : Sl Rep.clause h v l) (hn : l.length ≤ 1000) (hbn : ∀ c ∈ l, c.body.length ≤ 1000) (K : Value → Heap → Prop) (hk : ∀ w A h', Ext h h' → Ow Rep.clause h h' 29 A w l → K w h') : Ok Tryz.prog tab ov 19 [v] h K := by
  rw [zaa h]
  have z := Ext.refl h
  refine Ok.into rfl zvu (zaB N19) rfl (m := 26) rfl ?_
  simp -implicitDefEqProofs only [syms, symx, seval, c19]
  obtain ⟨I1, hI1⟩ : ∃ I : Nat → Env → Heap → Prop, I = (fun n e h' => ∃ (i : Nat) (w : Value) (A : Nat) (h1 : Heap), h' = h1.lay [] h1.low ∧ Ext h h1 ∧ (n = l.length - i ∧ i ≤ l.length ∧ Ow Rep.clause h h1 29 A w (l.take i)) ∧ ∃ J : Nat → Value, e = (v :: jr J 1 2 (w :: .int .i64 i :: jr J 5 22 ([])))) := ⟨_, rfl⟩
  refine zas I1 _ (by rw [hI1]; exact ⟨0, .slice none 0 0, h.size, _, rfl, z, ⟨rfl, by omega, Ow.nil (Nat.le_refl _)⟩, junk (by kernel_rfl)⟩) ?_
  intro n e h' hin
  rw [hI1] at hin
  obtain ⟨i, w, A, h1', rfl, z, hinv, J, rfl⟩ := hin
  obtain ⟨rfl, hi, ho⟩ := hinv
  have hw : IntKind.i64.wrap ((i : Int) + 1) = ((i + 1 : Nat) : Int) := by rw [zae (by omega) (by omega)]; omega
  have hz := z.size
  simp -implicitDefEqProofs only [syms, symx, seval, c19]
  repeat' ((first | ((with_reducible  apply zaw ) <;> intro _) | with_reducible_and_instances refine zcc hl ds32 ?_) <;> simp -implicitDefEqProofs only [syms, symx, seval, c19])
  rotate_left
  · rw [List.take_of_length_le (by omega)] at ho
    exact hk _ _ _ (z.upW _ _ (by omega)) (ho.mono (Inc.lay _ _ _))
  obtain ⟨r, hr, hr'⟩ := za5 (l := l) (i := i) (by assumption)
  have hrb := hbn r (List.mem_of_getElem? hr')
  have hlt := ho.lt
  repeat' ((first | with_reducible_and_instances refine zo5 (hl.mono z.inc) ds32 sz29 (by omega) hr (fun p bd hbd hp => ?_) | with_reducible_and_instances refine fdc0 hp zep (fun p hp => ?_) | with_reducible_and_instances refine fdc1 hp zdL (fun q hq => ?_) | with_reducible_and_instances refine lda hp ag26 sz26 ?_ | with_reducible_and_instances refine zd9 hq ag27 ?_ | with_reducible refine zbP (by simp only [c19]) (z.upW _ _ (by omega)) ?_) <;> simp -implicitDefEqProofs only [syms, symx, seval, c19])
  refine zxQ _ _ _ (hbd.lay _ _) (by omega) _ (fun w2 A2 h' x o2 hA2 => ?_)
  (( ((with_reducible refine zar ?_ ?_ ?_); (· exact (by (try simp only [lsz]); have := z.size; omega)); (·  exact x )) ); replace z := z.overW x (by (try simp only [lsz]); omega); (try replace ho := ho.over x); rw [zaa h'])
  obtain ⟨wa, wn, wc, rfl⟩ := o2.slice
  simp -implicitDefEqProofs only [syms, symx, seval, c19, zq3, zbm]
  refine zbg (by have := z.size; omega) (by omega) ?_
  simp -implicitDefEqProofs only [syms, symx, seval, c19, za2, zmL]
  have hlen : (l.take i).length ≤ 1000 := by rw [List.length_take]; omega
  have hHs : (h'.lay [Blk.row (r.head.cells ++ [Value.slice wa wn wc]) 29 false] (h'.size + 1)).size = h'.size + 1 := by rw [zad]; rfl
  have hzz := z.size
  have hzx : h1'.size ≤ h'.size := by have := x.size; rw [zad] at this; simpa using this
  obtain ⟨A', hoA, hA'⟩ : ∃ A', Ow Rep.clause h (h'.lay [Blk.row (r.head.cells ++ [Value.slice wa wn wc]) 29 false] (h'.size + 1)) 29 A' w (l.take i) ∧ (A' < h1'.size ∨ h'.size + 1 ≤ A') := by
    rcases hlt with hlt | hlt
    · exact ⟨A, ho.mono (Inc.lay _ _ _), .inl hlt⟩
    · rw [hlt] at ho
      refine ⟨h'.size + 1, ?_, .inr (Nat.le_refl _)⟩
      rw [hlt]
      exact (ho.mono (Inc.lay _ _ _)).any _ (by omega)
  have hR : Rep.clause.R (kill A' (h'.lay [Blk.row (r.head.cells ++ [Value.slice wa wn wc]) 29 false] (h'.size + 1))) (r.head.cells ++ [Value.slice wa wn wc]) r :=
    ⟨_, rfl, (o2.mono (Inc.lay _ _ _)).under (by decide) (fun _ _ _ _ h => h) (by rw [zad, hHs]; simpa using hA')⟩
  obtain ⟨hs, hsr⟩ := zdn (r := Rep.clause) (c := 1) (by decide) (show (h'.lay [Blk.row (r.head.cells ++ [Value.slice wa wn wc]) 29 false] (h'.size + 1)).get (h'.size + 0) = some (.row (r.head.cells ++ [Value.slice wa wn wc]) 29 false) by rw [zaR]; rfl) hR
  obtain ⟨w', h'', A'', e1, e2, e3, e4, e5⟩ := zdz (t := 32) ds32 zbT rfl (by decide) (by rw [hHs]; omega) hoA hs hsr (by omega) (by omega)
  have hfA := hoA.fresh
  rw [e1]
  simp -implicitDefEqProofs only [syms, symx, seval, c19]
  refine zbf (A := A') (by kernel_rfl) (by rw [zad]; omega) (by omega) (by simpa only [zap, zad, List.append_nil, List.length_cons, List.length_nil, Nat.zero_add] using e3) ?_
  replace z := (z.upW [Blk.row (r.head.cells ++ [Value.slice wa wn wc]) 29 false] (h'.size + 1) (by omega)).step e3 hfA
  have htk : l.take (i + 1) = l.take i ++ [r] := by rw [List.take_add_one, hr']; rfl
  rw [← htk] at e2
  clear ho o2 hoA
  rw [zaa h'']
  repeat' (first | simp -implicitDefEqProofs only [syms, symx, seval, c19] | ((with_reducible refine ⟨z.grw.lay _ _, ?_⟩); (intro _ h' zz x _); (try simp only [zap, List.append_nil] at x); (try replace e2 := e2.over x); (replace z := zz); (clear zz); rw [zaa h']))
  rw [hw]
  (rw [hI1]; with_reducible refine zac (m := _) ?_ ⟨i + 1, _, _, _, rfl, z, ⟨rfl, by omega, e2⟩, junk (by kernel_rfl)⟩; omega)
end Go.Proofs.YtemapihoobmonaaGreatDoor

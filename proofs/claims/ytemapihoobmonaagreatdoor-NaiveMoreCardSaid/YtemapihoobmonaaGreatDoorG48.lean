/- Appending to a slice without room, whatever is appended. No condition. -/
import Derived.Test.YtemapihoobmonaaGreatDoorG47
namespace Go.Am
set_option linter.unusedVariables false
theorem zxc {α : Type} {r : Rep α} {T : Tab} {t e : TypeId} {k bytes : Nat} {z : List Value} {base : Option Addr} {x : Value} {h : Heap} {l l2 : List α} (hd : T.desc t = some (.slice e)) (hi : T.info e = some (k, bytes, z)) (hrk : r.k = k) (hk : 0 < k)
    (f : Sl r h (.slice base l.length l.length) l) (g : Sl r h x l2) (hb : (l.length + l2.length) * bytes ≤ 140737488355328) (hl : l.length + l2.length ≤ 1152921504606846976) :
    ∃ v' h', za8 T t (.slice base l.length l.length) x h = some (v', h') ∧ Sl r h' v' (l ++ l2) ∧ Ext h h' := by
  obtain ⟨news, hs, hsr⟩ := zis (A := h.size) (by omega) g (fun cs y hr => by rw [zga (Nat.le_refl _)]; exact hr)
  rw [zga (Nat.le_refl _)] at hsr
  by_cases h0 : l2.length = 0
  · have e2 : l2 = [] := List.eq_nil_of_length_eq_zero h0
    refine ⟨_, h, ?_, by rw [e2, List.append_nil]; exact f, Ext.refl h⟩
    unfold za8
    rw [hrk] at hs
    simp only [hd, hi, hs, Option.bind_some]
    rw [if_pos h0]
  · obtain ⟨v', h', e1, e2, e3⟩ := zpe (h0 := h) hd hi hrk hk (Nat.le_refl _) f (by rw [← hrk]; exact hs) hsr (by omega) hb hl
    exact ⟨v', h', e1, e2.sl (by omega), e3⟩
end Go.Am
namespace Go.Proofs.YtemapihoobmonaaGreatDoor
open Go.Am
set_option linter.unusedSimpArgs false
set_option linter.unusedVariables false
set_option maxRecDepth 100000
set_option maxHeartbeats 0
theorem zeR (cl : List ClauseD) (facts : List AtomD) (v u : Value) (h : Heap) (hsp : SpaceAt 1 h) (hl : Sl Rep.clause h v cl) (hf : Sl Rep.atom h u facts) (hn : cl.length ≤ 6) (hcb : ∀ c ∈ cl, c.body.length ≤ 3) (hfn : facts.length ≤ 1000)
    (K : Value → Heap → Prop) (hk : ∀ h' w L (k : Nat) e, Ext h h' → Sl Rep.atom h' w L → LfpX cl facts L k e → K (.tuple #[w, .int .i64 k, .int .i64 e]) h') : Ok Tryz.prog tab ov 20 [v, u, .int .i64 24] h K :=
  zxK cl facts v u h hsp hl hf hn hcb hfn K (fun hm h' x => hk _ _ [] 0 2 x Sl.nil (.bad hm)) (fun hm h' w k x s hb h4 hs => hk _ _ _ k 0 x s (.all k hm hb h4 hs)) (fun hm h' k x hb h => hk _ _ [] 0 14 x Sl.nil (.much k hm hb h))
theorem zwm (a : AtomD) (A : Option Addr) (n c : Nat) : zdk tab 29 [(0, a.val), (1, .slice A n c)] = some (.agg ⟨a.cells ++ [.slice A n c]⟩) := by kernel_rfl
theorem zhC {T : Tab} {t e : TypeId} {kd : IntKind} {i : Int} {v : Value} {B h1 : Heap} {bs : List Blk} {w : Nat} {K : Value → Heap → Prop} {l : List ClauseD} {x : ClauseD} (f : Sl Rep.clause B v l) (ic : Inc B h1) (hd : T.desc t = some (.slice e)) (hs : zaL T e = some 12) (h0 : 0 ≤ i) (hx : l[i.toNat]? = some x) (hk : ∀ p b, Sl Rep.atom B b x.body → AtP h1 p (x.head.cells ++ [b]) → K p (h1.lay bs w)) : valE (zat T t v (.int kd i)) (h1.lay bs w) K := by
  have hi := (List.getElem?_eq_some_iff.1 hx).1
  refine zgG (f.old.mono ic) hd hs h0 (by omega) (fun x' p cs hx' hr hp => ?_)
  rw [hx] at hx'
  cases hx'
  obtain ⟨_, b, rfl, hb⟩ := hr
  exact hk p b hb hp
theorem zr1 (c : ClauseD) : ([c.head] ++ c.body).take (min (c.body.length + 1) 3) = (ziy c).body := by
  show (c.head :: c.body).take (min (c.head :: c.body).length 3) = (c.head :: c.body).take 3
  rcases Nat.le_total (c.head :: c.body).length 3 with h | h
  · rw [Nat.min_eq_left h, List.take_length, List.take_of_length_le h]
  · rw [Nat.min_eq_right h]
theorem zmD (cl : List ClauseD) (facts : List AtomD) (c : ClauseD) (v u cv : Value) (h : Heap) (hsp : SpaceAt 1 h) (hl : Sl Rep.clause h v cl) (hf : Sl Rep.atom h u facts) (hc : zrf h cv c) (K : Value → Heap → Prop)
    (hk : ∀ h', Ext h h' → K (.bool true) h') : Ok Tryz.prog tab ov 4 [v, u, cv] h K := by
  obtain ⟨b, rfl, sb⟩ := hc
  rw [zaa h]
  have z := Ext.refl h
  have hvc := zaH v
  have hvf := zaH u
  have hvb := zaH b
  have hlv := fun (hh : Heap) => hl.lenA ds32 hh
  have hlu := fun (hh : Heap) => hf.lenA ds27 hh
  have hlb := fun (hh : Heap) => sb.lenA ds27 hh
  have hall1 := zin (a := c.head) sb.one
  refine Ok.into rfl zwI (zaB N4) rfl (m := 180) rfl ?_
  simp -implicitDefEqProofs only [syms, symx, seval, c4, hvc, hvf]
  refine Ok.over (g := zpY 1) rfl (zux (hsp.lay _ _)) ?_
  repeat' (first | simp -implicitDefEqProofs only [syms, symx, seval, c4, hvc, hvf, Bool.not_true] | ((with_reducible_and_instances apply zaf); (· rfl)))
  refine zf8 (fun h' x hq => ?_)
  have q0 := hq 0 _ rfl
  clear hq
  (replace z := z.overW x (by (try simp only [lsz]); omega); rw [zaa h'])
  obtain ⟨C0, hC0⟩ : ∃ C0, C0 = h.size + 0 := ⟨_, rfl⟩
  rw [← hC0] at q0
  rw [← hC0]
  with_reducible first | refine zbP (by simp only [c4]) (z.upW _ _ (by omega)) ?_
  simp -implicitDefEqProofs only [syms, symx, seval, c4, hvc, hvf]
  refine zel cl facts _ _ _ ((hl.mono z.inc).lay _ _) ((hf.mono z.inc).lay _ _) _ (fun e1 e2 e3 h' x => ?_) (fun h' x => ?_)
  rotate_left
  · (( ((with_reducible refine zar ?_ ?_ ?_); (· exact (by (try simp only [lsz]); have := z.size; omega)); (·  exact x )) ); replace z := z.overW x (by (try simp only [lsz]); omega); (try replace q0 := q0.over x); rw [zaa h'])
    repeat' (first | simp -implicitDefEqProofs only [syms, symx, seval, c4, Bool.not_false] | ((with_reducible_and_instances apply zaf); (· rfl)) | ((with_reducible refine ⟨z.grw.lay _ _, ?_⟩); (intro _ h' zz x _); (try simp only [zap, List.append_nil] at x); (try replace q0 := q0.over x); (replace z := zz); (clear zz); rw [zaa h']))
    exact hk _ (z.upW _ _ (by omega))
  (( ((with_reducible refine zar ?_ ?_ ?_); (· exact (by (try simp only [lsz]); have := z.size; omega)); (·  exact x )) ); replace z := z.overW x (by (try simp only [lsz]); omega); (try replace q0 := q0.over x); rw [zaa h'])
  repeat' (first | simp -implicitDefEqProofs only [syms, symx, seval, c4, hvc, hlv, Bool.not_true, q0.lay, ↓zcD, zbm] | ((with_reducible  apply zaw ) <;> intro _) | ((with_reducible_and_instances apply zaf); (· rfl)) | ((with_reducible refine ⟨z.grw.lay _ _, ?_⟩); (intro _ h' zz x _); (try simp only [zap, List.append_nil] at x); (try replace q0 := q0.over x); (replace z := zz); (clear zz); rw [zaa h']))
  · exact hk _ (z.upW _ _ (by omega))
  refine zbg (by have := z.size; omega) (by omega) ?_
  repeat' ( simp -implicitDefEqProofs only [syms, symx, seval, c4])
  refine zel [c] [] _ _ _ (zxb (c := c) (b := b) ⟨by rw [zad]; simp, by rw [zaR]; rfl⟩ ((sb.mono z.inc).lay _ _)) Sl.nil _ (fun _ _ e4 h' x => ?_) (fun h' x => ?_)
  rotate_left
  · (( ((with_reducible refine zar ?_ ?_ ?_); (· exact (by (try simp only [lsz]); have := z.size; omega)); (·  exact x )) ); replace z := z.overW x (by (try simp only [lsz]); omega); (try replace q0 := q0.over x); rw [zaa h'])
    repeat' (first | simp -implicitDefEqProofs only [syms, symx, seval, c4, Bool.not_false] | ((with_reducible_and_instances apply zaf); (· rfl)) | ((with_reducible refine ⟨z.grw.lay _ _, ?_⟩); (intro _ h' zz x _); (try simp only [zap, List.append_nil] at x); (try replace q0 := q0.over x); (replace z := zz); (clear zz); rw [zaa h']))
    exact hk _ (z.upW _ _ (by omega))
  have hcb := e4 c List.mem_cons_self
  have hcl4 : cl.length ≤ 4 := by omega
  (( ((with_reducible refine zar ?_ ?_ ?_); (· exact (by (try simp only [lsz]); have := z.size; omega)); (·  exact x )) ); replace z := z.overW x (by (try simp only [lsz]); omega); (try replace q0 := q0.over x); rw [zaa h'])
  repeat' (first | simp -implicitDefEqProofs only [syms, symx, seval, c4, hvc, Bool.not_true] | ((with_reducible_and_instances apply zaf); (· rfl)))
  refine zcI cl v _ ((hl.mono z.inc).lay _ _) (by omega) (fun y hy => Nat.le_trans (e3 y hy) (by omega)) _ (fun wc Ac h' x oc => ?_)
  have hfA := oc.fresh
  rw [zad] at hfA
  have hzz := z.size
  have hxs := x.size
  rw [zad] at hxs
  have hC0l := q0.lt
  (( ((with_reducible refine zar ?_ ?_ ?_); (· exact (by (try simp only [lsz]); have := z.size; omega)); (·  exact x )) ); replace z := z.overW x (by (try simp only [lsz]); omega); (try replace q0 := q0.over x); rw [zaa h'])
  obtain ⟨ca, cn, cc, rfl⟩ := oc.slice
  repeat' ( simp -implicitDefEqProofs only [syms, symx, seval, c4, q0.lay, ↓zcD, zbm])
  refine zbg (by have := z.size; omega) (by omega) ?_
  simp -implicitDefEqProofs only [syms, symx, seval, c4, za2, zmL]
  have hHs : (h'.lay [Blk.row (c.head.cells ++ [b]) 29 false] (h'.size + 1)).size = h'.size + 1 := by rw [zad]; rfl
  have hR : Rep.clause.R (kill Ac (h'.lay [Blk.row (c.head.cells ++ [b]) 29 false] (h'.size + 1))) (c.head.cells ++ [b]) c := ⟨b, rfl, sb.mono (zdB (z.inc.trans (Inc.lay _ _ _)) (by omega))⟩
  obtain ⟨hs1, hsr1⟩ := zdn (r := Rep.clause) (c := 1) (by decide) (show (h'.lay [Blk.row (c.head.cells ++ [b]) 29 false] (h'.size + 1)).get (h'.size + 0) = some (.row (c.head.cells ++ [b]) 29 false) by rw [zaR]; rfl) hR
  have hz5 := z.size
  obtain ⟨w3, h3, A3, g1, o3, cg3, g4, g5⟩ := zdz (t := 32) ds32 zbT rfl (by decide) (by rw [hHs, zad]; omega) (oc.mono (Inc.lay _ _ _)) hs1 hsr1 (by omega) (by omega)
  rw [g1]
  simp -implicitDefEqProofs only [syms, symx, seval, c4]
  refine zbf (A := Ac) (by kernel_rfl) (by rw [zad]; omega) (by omega) (by simpa only [zap, zad, List.append_nil, List.length_cons, List.length_nil, Nat.zero_add] using cg3) ?_
  have q03 := q0.stepL cg3 (by omega)
  replace z := (z.upW [Blk.row (c.head.cells ++ [b]) 29 false] (h'.size + 1) (by omega)).step cg3 (by omega)
  have s3 := o3.sl (by decide)
  obtain ⟨a3, n3, cc3, rfl⟩ := o3.slice
  clear q0 oc o3 hs1 hsr1 hR
  rw [zaa h3]
  repeat' ( simp -implicitDefEqProofs only [syms, symx, seval, c4, hvf])
  have hcl5 : (cl ++ [c]).length ≤ 5 := by rw [List.length_append, List.length_singleton]; omega
  have hcb5 : ∀ d ∈ cl ++ [c], d.body.length ≤ 3 := fun d hd => (List.mem_append.1 hd).elim (e3 d) (fun hd => by rw [List.mem_singleton.1 hd]; exact hcb)
  refine zw3 (cl ++ [c]) facts _ u _ (s3.lay _ _) ((hf.mono z.inc).lay _ _) (by omega) (fun d hd => by have := hcb5 d hd; omega) (by omega) _ (fun hm h' x => ?_) (fun hm h' x => ?_)
  rotate_left
  · (( ((with_reducible refine zar ?_ ?_ ?_); (· exact (by (try simp only [lsz]); have := z.size; omega)); (·  exact x )) ); replace z := z.overW x (by (try simp only [lsz]); omega); (try replace q03 := q03.over x); rw [zaa h'])
    repeat' (first | simp -implicitDefEqProofs only [syms, symx, seval, c4, Bool.not_false] | ((with_reducible_and_instances apply zaf); (· rfl)) | ((with_reducible refine ⟨z.grw.lay _ _, ?_⟩); (intro _ h' zz x _); (try simp only [zap, List.append_nil] at x); (try replace q03 := q03.over x); (replace z := zz); (clear zz); rw [zaa h']))
    exact hk _ (z.upW _ _ (by omega))
  (( ((with_reducible refine zar ?_ ?_ ?_); (· exact (by (try simp only [lsz]); have := z.size; omega)); (·  exact x )) ); replace z := z.overW x (by (try simp only [lsz]); omega); (try replace q03 := q03.over x); rw [zaa h'])
  repeat' (first | simp -implicitDefEqProofs only [syms, symx, seval, c4, Bool.not_true, hvc, hvf] | ((with_reducible_and_instances apply zaf); (· rfl)) | ((with_reducible refine ⟨z.grw.lay _ _, ?_⟩); (intro _ h' zz x _); (try simp only [zap, List.append_nil] at x); (try replace q03 := q03.over x); (replace z := zz); (clear zz); rw [zaa h']))
  refine zeR cl facts v u _ ((hsp.ext z).lay _ _) ((hl.mono z.inc).lay _ _) ((hf.mono z.inc).lay _ _) (by omega) e3 (by omega) _ (fun h' w1 L1 k1 f1 x s1 hL1 => ?_)
  (( skip); replace z := z.overW x (by (try simp only [lsz]); omega); (try replace q03 := q03.over x); rw [zaa h'])
  have hvw1 := zaH w1
  repeat' ( simp -implicitDefEqProofs only [syms, symx, seval, c4, hvw1])
  with_reducible first | refine zbP (by simp only [c4]) (z.upW _ _ (by omega)) ?_
  repeat' ( simp -implicitDefEqProofs only [syms, symx, seval, c4, hvc])
  refine zcI cl v _ ((hl.mono z.inc).lay _ _) (by omega) (fun y hy => Nat.le_trans (e3 y hy) (by omega)) _ (fun wc Ac2 h' x oc => ?_)
  have hfA2 := oc.fresh
  have i6 := (Inc.lay _ _ _).trans x.inc
  have hxs2 := x.size
  rw [zad] at hfA2 hxs2
  have hC02 := q03.lt
  have hzz2 := z.size
  have s10 := s1
  (( ((with_reducible refine zar ?_ ?_ ?_); (· exact (by (try simp only [lsz]); have := z.size; omega)); (·  exact x )) ); replace z := z.overW x (by (try simp only [lsz]); omega); (try replace q03 := q03.over x); (try replace s1 := s1.over x); rw [zaa h'])
  obtain ⟨ca2, cn2, cc2, rfl⟩ := oc.slice
  repeat' ( simp -implicitDefEqProofs only [syms, symx, seval, c4, q03.lay, ↓zcD, zbm])
  refine zbg (by have := z.size; omega) (by omega) ?_
  simp -implicitDefEqProofs only [syms, symx, seval, c4, za2, zmL]
  have hHs2 : (h'.lay [Blk.row (c.head.cells ++ [b]) 29 false] (h'.size + 1)).size = h'.size + 1 := by rw [zad]; rfl
  have hR : Rep.clause.R (kill Ac2 (h'.lay [Blk.row (c.head.cells ++ [b]) 29 false] (h'.size + 1))) (c.head.cells ++ [b]) c := ⟨b, rfl, sb.mono (zdB (z.inc.trans (Inc.lay _ _ _)) (by omega))⟩
  obtain ⟨hs2, hsr2⟩ := zdn (r := Rep.clause) (c := 1) (by decide) (show (h'.lay [Blk.row (c.head.cells ++ [b]) 29 false] (h'.size + 1)).get (h'.size + 0) = some (.row (c.head.cells ++ [b]) 29 false) by rw [zaR]; rfl) hR
  have hz6 := z.size
  obtain ⟨w5, h5, A5, g6, o5, cg5, g7, g8⟩ := zdz (t := 32) ds32 zbT rfl (by decide) (by rw [hHs2, zad]; omega) (oc.mono (Inc.lay _ _ _)) hs2 hsr2 (by omega) (by omega)
  rw [g6]
  simp -implicitDefEqProofs only [syms, symx, seval, c4]
  refine zbf (A := Ac2) (by kernel_rfl) (by rw [zad]; omega) (by omega) (by simpa only [zap, zad, List.append_nil, List.length_cons, List.length_nil, Nat.zero_add] using cg5) ?_
  have q05 := q03.stepL cg5 (by omega)
  have s15 := s10.mono ((i6.trans (Inc.lay _ _ _)).chg cg5 (by omega))
  replace z := (z.upW [Blk.row (c.head.cells ++ [b]) 29 false] (h'.size + 1) (by omega)).step cg5 (by omega)
  have s5 := o5.sl (by decide)
  obtain ⟨a5, n5, cc5, rfl⟩ := o5.slice
  clear q03 oc o5 hs2 hsr2 hR s1 s10
  rw [zaa h5]
  repeat' ( simp -implicitDefEqProofs only [syms, symx, seval, c4, hvf])
  refine zeR (cl ++ [c]) facts _ u _ ((hsp.ext z).lay _ _) (s5.lay _ _) ((hf.mono z.inc).lay _ _) (by omega) hcb5 (by omega) _ (fun h' w2 L2 k2 f2 x s2 hL2 => ?_)
  (( ((with_reducible refine zar ?_ ?_ ?_); (· exact (by (try simp only [lsz]); have := z.size; omega)); (·  exact x )) ); replace z := z.overW x (by (try simp only [lsz]); omega); (try replace q05 := q05.over x); (try replace s15 := s15.over x); rw [zaa h'])
  have hvw2 := zaH w2
  have hsub : ∀ d ∈ cl, d ∈ cl ++ [c] := fun d hd => List.mem_append_left _ hd
  have h21 : f2 = 0 → f1 = 0 := fun e => by subst e; exact (LfpX.more hsub (fun _ h => h) hL2 hL1).1
  repeat' (first | simp -implicitDefEqProofs only [syms, symx, seval, c4, hvw2] | ((with_reducible first | apply zdA | apply zg4 ) <;> intro _) | ((with_reducible refine ⟨z.grw.lay _ _, ?_⟩); (intro _ h' zz x _); (try simp only [zap, List.append_nil] at x); (try replace q05 := q05.over x); (try replace s15 := s15.over x); (try replace s2 := s2.over x); (replace z := zz); (clear zz); rw [zaa h']))
  all_goals try first
    | exact hk _ (z.upW _ _ (by omega))
    | (exfalso; omega)
  obtain rfl : f2 = 0 := by omega
  obtain rfl : f1 = 0 := by omega
  have hL12 := (LfpX.more hsub (fun _ h => h) hL2 hL1).2
  have hn1 := hL1.len
  have hn2 := hL2.len
  have hlw1 := fun (hh : Heap) => s15.lenA ds27 hh
  obtain ⟨I1, hI1⟩ : ∃ I : Nat → Env → Heap → Prop, I = (fun n e h' => ∃ (i : Nat) (h1 : Heap), h' = h1.lay [] h1.low ∧ Ext h h1 ∧ (n = L1.length - i ∧ i ≤ L1.length ∧ Sl Rep.atom h1 w1 L1 ∧ Sl Rep.atom h1 w2 L2 ∧ Holds h1 C0 (.row (c.head.cells ++ [b]) 29 false)) ∧ ∃ J : Nat → Value, e = (v :: u :: jr J 2 3 (.pointer (some ⟨C0, 0, none⟩) :: J 6 :: w1 :: jr J 8 2 (w2 :: jr J 11 2 (.int .i64 i :: jr J 14 169 ([])))))) := ⟨_, rfl⟩
  refine zas I1 _ (by rw [hI1]; exact ⟨0, _, rfl, z, ⟨rfl, by omega, s15, s2, q05⟩, junk (by kernel_rfl)⟩) ?_
  intro n e h' hin
  rw [hI1] at hin
  obtain ⟨i, h1', rfl, z, hinv, J, rfl⟩ := hin
  clear s15 s2 q05
  obtain ⟨rfl, hi, s1, s2, q0⟩ := hinv
  have hwi : IntKind.i64.wrap ((i : Int) + 1) = ((i + 1 : Nat) : Int) := by rw [zae (by omega) (by omega)]; omega
  simp -implicitDefEqProofs only [syms, symx, seval, c4, hvw1, hlw1]
  refine zaw (fun hlt => ?_) (fun hlt => ?_)
  · obtain ⟨a, ha, ha'⟩ := za5 (l := L1) (i := i) (by omega)
    have ham := List.mem_of_getElem? ha'
    have ham2 := hL12 a ham
    repeat' (first | simp -implicitDefEqProofs only [syms, symx, seval, c4, hvw1, hvw2] | with_reducible_and_instances refine zdN s1 ds27 sz26 (by omega) ha (fun p hp => ?_) | with_reducible_and_instances refine lda hp ag26 sz26 ?_)
    refine zwS L2 a w2 _ (s2.lay _ _) (by omega) (fun y hy => (hL2.fact y hy).valid.light) (hL2.fact a ham2).valid.light _ (fun h' x => ?_)
    rw [(zuv (zd1 hL2.fact) (hL2.fact a ham2).plain).2 ham2]
    (( skip); replace z := z.overW x (by (try simp only [lsz]); omega); (try replace s1 := s1.over x); (try replace s2 := s2.over x); (try replace q0 := q0.over x); rw [zaa h'])
    repeat' (first | simp -implicitDefEqProofs only [syms, symx, seval, c4, Bool.not_true] | ((with_reducible_and_instances apply zaf); (· rfl)))
    rw [hwi]
    (rw [hI1]; with_reducible refine zac (m := _) ?_ ⟨i + 1, _, rfl, z, ⟨rfl, by omega, s1, s2, q0⟩, junk (by kernel_rfl)⟩; omega)
  clear s2
  repeat' ( simp -implicitDefEqProofs only [syms, symx, seval, c4])
  with_reducible first | refine zbP (by simp only [c4]) (z.upW _ _ (by omega)) ?_
  repeat' ( simp -implicitDefEqProofs only [syms, symx, seval, c4, q0.lay, ↓zhe, zau, zaj, zcw, hvb, zgr])
  refine zbg (by have := z.size; omega) (by omega) ?_
  repeat' ( simp -implicitDefEqProofs only [syms, symx, seval, c4, q0.lay, hvb, zcw, za2, zqF])
  have sh1 : Sl Rep.atom (h1'.lay [Blk.row c.head.cells 26 false] (h1'.size + 1)) (.slice (some ⟨h1'.size + 0, 0, none⟩) [c.head].length [c.head].length) [c.head] := zuq
  obtain ⟨wb, h7, g9, s7, x⟩ := zxc (t := 27) ds27 zbN rfl (by decide) sh1 ((sb.mono z.inc).lay [Blk.row c.head.cells 26 false] (h1'.size + 1)) (by simp only [List.length_singleton]; omega) (by simp only [List.length_singleton]; omega)
  simp only [List.length_singleton] at g9
  rw [g9]
  obtain ⟨h', eh⟩ : ∃ h', h' = h7 := ⟨_, rfl⟩
  rw [← eh] at s7 x ⊢
  have q1 := Holds.top (i := 0) x rfl
  refine zar (by have := z.size; simp only [zad, List.length_cons, List.length_nil]; omega) (by simpa only [zap, zad, List.append_nil, List.length_cons, List.length_nil, Nat.zero_add] using x) ?_
  (( skip); replace z := z.overW x (by (try simp only [lsz]); omega); (try replace s1 := s1.over x); (try replace q0 := q0.over x); rw [zaa h'])
  obtain ⟨qa, qn, qc, rfl⟩ : ∃ a n c, wb = .slice a n c := by
    rcases s7 with ⟨e, _⟩ | ⟨A, o, c9, _, _, _, e, _⟩
    · exact ⟨_, _, _, e⟩
    · exact ⟨_, _, _, e⟩
  have hvwb : ∀ (h : Heap) (K : Value → Heap → Prop), valE (some (.slice qa qn qc)) h K = K (.slice qa qn qc) h := fun _ _ => rfl
  have hall7 := zin (a := c.head) s7.one
  repeat' ( simp -implicitDefEqProofs only [syms, symx, seval, c4, hvwb, zwm, zaP, zaC, List.all_cons, List.all_nil, Am.one, Bool.and_true, Bool.true_and, Bool.and_self, List.set_cons_zero, List.set_cons_succ, st4, st3, st9, st23, st26, st29, zcj, zka, hall7, zok, zjB, if_true, ↓zcD, zcw])
  refine zbg (by have := z.size; omega) (by omega) ?_
  repeat' ( simp -implicitDefEqProofs only [syms, symx, seval, c4, zaP, zaC, List.all_cons, List.all_nil, Am.one, Bool.and_true, Bool.true_and, Bool.and_self, List.set_cons_zero, List.set_cons_succ, st4, st3, st9, st23, st26, st29, zcj, zka, hall7, zok, zjB, if_true])
  refine zl8 (by kernel_rfl) (by simp) (by have := z.size; omega) ?_
  simp -implicitDefEqProofs only [syms, symx, seval, c4]
  obtain ⟨D0, hD0⟩ : ∃ D0, D0 = h'.size + 0 := ⟨_, rfl⟩
  have hDz := z.size
  have s10 := s1
  have s70 := s7
  have hq0l := q0.lt
  ((with_reducible refine ⟨z.grw.lay _ _, ?_⟩); (intro _ h' zz x _); (try simp only [zap, List.append_nil] at x); (try replace s1 := s1.over x); (try replace q0 := q0.over x); (try replace s7 := s7.over x); (replace z := zz); (clear zz); rw [zaa h'])
  have i0 := (Inc.lay _ _ _).trans x.inc
  have q4 := Holds.top (i := 0) x rfl
  rw [← hD0] at q4
  rw [← hD0]
  have hl8 := fun (hh : Heap) => s70.lenA ds27 hh
  simp -implicitDefEqProofs only [syms, symx, seval, c4, q4.lay, zcw, hvwb, hl8]
  refine zkh rfl rfl ?_
  have hmn : (if (3 : Int) < ((c.body.length + 1 : Nat) : Int) then (3 : Int) else ((c.body.length + 1 : Nat) : Int)) = ((min (c.body.length + 1) 3 : Nat) : Int) := by split <;> omega
  obtain ⟨w8, hw8, s8⟩ := zwT (kd := .i64) s70 (by decide) ds27 sz26 (b := min (c.body.length + 1) 3) (by rw [List.length_append, List.length_singleton]; omega)
  rw [zr1] at s8
  rw [hmn]
  have hvw8 := zaH w8
  repeat' ( simp -implicitDefEqProofs only [syms, symx, seval, c4, hw8, hvw8, q4.lay, zcw, hvwb])
  refine zgD (o := 11) q4 sz27 (zcs s8) rfl (by show 11 + 1 ≤ (c.head.cells ++ [_]).length; rw [List.length_append, znN]; exact Nat.le_refl _) (by simp only [List.all_cons, List.all_nil, s8.one, Bool.and_true]) (fun h9 q4' c9 => ?_)
  replace q4' : Holds h9 D0 (.row (c.head.cells ++ [w8]) 29 false) := q4'
  have i9 := (i0.trans (Inc.lay _ _ _)).chg c9 (by omega)
  have s19 := s10.mono i9
  have s89 := s8.mono i9
  have hall8 := zin (a := c.head) s89.one
  replace z := (z.upW [] h'.low (by omega)).step c9 (by omega)
  clear q4 s1 s7 s10 s70 q0
  rw [zaa h9]
  repeat' ( simp -implicitDefEqProofs only [syms, symx, seval, c4])
  with_reducible first | refine zbP (by simp only [c4]) (z.upW _ _ (by omega)) ?_
  repeat' ( simp -implicitDefEqProofs only [syms, symx, seval, c4, hvc])
  refine zcI cl v _ ((hl.mono z.inc).lay _ _) (by omega) (fun y hy => Nat.le_trans (e3 y hy) (by omega)) _ (fun wc Ac3 h' x oc => ?_)
  have hfA3 := oc.fresh
  have i16 := (Inc.lay _ _ _).trans x.inc
  have hxs3 := x.size
  rw [zad] at hfA3 hxs3
  have hD02 := q4'.lt
  have hzz3 := z.size
  have s1a := s19
  have s8a := s89
  (( ((with_reducible refine zar ?_ ?_ ?_); (· exact (by (try simp only [lsz]); have := z.size; omega)); (·  exact x )) ); replace z := z.overW x (by (try simp only [lsz]); omega); (try replace s19 := s19.over x); (try replace s89 := s89.over x); (try replace q4' := q4'.over x); rw [zaa h'])
  obtain ⟨ca3, cn3, cc3', rfl⟩ := oc.slice
  repeat' ( simp -implicitDefEqProofs only [syms, symx, seval, c4, q4'.lay, ↓zcD, zbm])
  refine zbg (by have := z.size; omega) (by omega) ?_
  simp -implicitDefEqProofs only [syms, symx, seval, c4, za2, zmL]
  have hHs3 : (h'.lay [Blk.row (c.head.cells ++ [w8]) 29 false] (h'.size + 1)).size = h'.size + 1 := by rw [zad]; rfl
  have hR : Rep.clause.R (kill Ac3 (h'.lay [Blk.row (c.head.cells ++ [w8]) 29 false] (h'.size + 1))) ((ziy c).head.cells ++ [w8]) (ziy c) := ⟨w8, rfl, s8a.mono (zdB (i16.trans (Inc.lay _ _ _)) (by omega))⟩
  obtain ⟨hs3, hsr3⟩ := zdn (r := Rep.clause) (c := 1) (by decide) (show (h'.lay [Blk.row (c.head.cells ++ [w8]) 29 false] (h'.size + 1)).get (h'.size + 0) = some (.row ((ziy c).head.cells ++ [w8]) 29 false) by rw [zaR]; rfl) hR
  have hz7 := z.size
  obtain ⟨w15, h15, A15, g15, o15, cg15, g16, g17⟩ := zdz (t := 32) ds32 zbT rfl (by decide) (by rw [hHs3, zad]; omega) (oc.mono (Inc.lay _ _ _)) hs3 hsr3 (by omega) (by omega)
  rw [g15]
  simp -implicitDefEqProofs only [syms, symx, seval, c4]
  refine zbf (A := Ac3) (by kernel_rfl) (by rw [zad]; omega) (by omega) (by simpa only [zap, zad, List.append_nil, List.length_cons, List.length_nil, Nat.zero_add] using cg15) ?_
  have s1b := s1a.mono ((i16.trans (Inc.lay _ _ _)).chg cg15 (by omega))
  replace z := (z.upW [Blk.row (c.head.cells ++ [w8]) 29 false] (h'.size + 1) (by omega)).step cg15 (by omega)
  have s15c := o15.sl (by decide)
  obtain ⟨a15, n15, cc15, rfl⟩ := o15.slice
  clear q4' oc o15 hs3 hsr3 hR s1a s8a s19 s89
  rw [zaa h15]
  repeat' ( simp -implicitDefEqProofs only [syms, symx, seval, c4, hvf])
  have hcl6 : (cl ++ [ziy c]).length ≤ 5 := by rw [List.length_append, List.length_singleton]; omega
  have hcb6 : ∀ d ∈ cl ++ [ziy c], d.body.length ≤ 3 := fun d hd => (List.mem_append.1 hd).elim (e3 d) (fun hd => by rw [List.mem_singleton.1 hd]; show ((c.head :: c.body).take 3).length ≤ 3; rw [List.length_take]; omega)
  refine zeR (cl ++ [ziy c]) facts _ u _ ((hsp.ext z).lay _ _) (s15c.lay _ _) ((hf.mono z.inc).lay _ _) (by omega) hcb6 (by omega) _ (fun h' w3 L3 k3 f3 x s3 hL3 => ?_)
  obtain ⟨el, _, ef⟩ := (hL1.idle hm).one hL3
  obtain rfl := el
  obtain rfl := ef
  (( ((with_reducible refine zar ?_ ?_ ?_); (· exact (by (try simp only [lsz]); have := z.size; omega)); (·  exact x )) ); replace z := z.overW x (by (try simp only [lsz]); omega); (try replace s1b := s1b.over x); rw [zaa h'])
  have hvw3 := zaH w3
  repeat' (first | simp -implicitDefEqProofs only [syms, symx, seval, c4, hvw3, hvw1, bne_self_eq_false] | ((with_reducible refine ⟨z.grw.lay _ _, ?_⟩); (intro _ h' zz x _); (try simp only [zap, List.append_nil] at x); (try replace s1b := s1b.over x); (try replace s3 := s3.over x); (replace z := zz); (clear zz); rw [zaa h']))
  refine zgY L1 L1 w3 w1 _ (s3.lay _ _) (s1b.lay _ _) (by omega) (by omega) _ (fun h' x => ?_)
  rw [decide_eq_true rfl]
  clear s3
  (( skip); replace z := z.overW x (by (try simp only [lsz]); omega); (try replace s1b := s1b.over x); rw [zaa h'])
  simp -implicitDefEqProofs only [syms, symx, seval, c4, bne_self_eq_false, Bool.not_true, hvc, hlv]
  (with_reducible_and_instances apply zaf); (· rfl)
  simp -implicitDefEqProofs only [syms, symx, seval, c4, bne_self_eq_false, Bool.not_true, hvc, hlv]
  refine zaw (fun hpos => ?_) (fun hpos => ?_)
  · obtain ⟨c0, hc0, hc0'⟩ := za5 (l := cl) (i := 0) (by omega)
    have hc0m := List.mem_of_getElem? hc0'
    replace hc0 : cl[(0 : Int).toNat]? = some c0 := hc0'
    simp -implicitDefEqProofs only [syms, symx, seval, c4, hvc]
    with_reducible first | refine zbP (by simp only [c4]) (z.upW _ _ (by omega)) ?_
    repeat' ( simp -implicitDefEqProofs only [syms, symx, seval, c4, hvc])
    refine zcI cl v _ ((hl.mono z.inc).lay _ _) (by omega) (fun y hy => Nat.le_trans (e3 y hy) (by omega)) _ (fun wc Ac4 h' x oc => ?_)
    have hfA4 := oc.fresh
    have i20 := (Inc.lay _ _ _).trans x.inc
    have hxs4 := x.size
    rw [zad] at hfA4 hxs4
    have hzz4 := z.size
    have s1c := s1b
    (( ((with_reducible refine zar ?_ ?_ ?_); (· exact (by (try simp only [lsz]); have := z.size; omega)); (·  exact x )) ); replace z := z.overW x (by (try simp only [lsz]); omega); (try replace s1b := s1b.over x); rw [zaa h'])
    obtain ⟨ca4, cn4, cc4', rfl⟩ := oc.slice
    repeat' (first | simp -implicitDefEqProofs only [syms, symx, seval, c4, hvc, zbm] | with_reducible_and_instances refine zhC hl z.inc ds32 sz29 (by decide) hc0 (fun p b0 hb0 hp => ?_) | with_reducible_and_instances refine ldc hp ag29 sz29 ?_)
    refine zbg (by have := z.size; omega) (by omega) ?_
    simp -implicitDefEqProofs only [syms, symx, seval, c4, za2, zmL]
    have hHs4 : (h'.lay [Blk.row (c0.head.cells ++ [b0]) 29 false] (h'.size + 1)).size = h'.size + 1 := by rw [zad]; rfl
    have hR : Rep.clause.R (kill Ac4 (h'.lay [Blk.row (c0.head.cells ++ [b0]) 29 false] (h'.size + 1))) (c0.head.cells ++ [b0]) c0 := ⟨b0, rfl, hb0.mono (zdB (z.inc.trans (Inc.lay _ _ _)) (by omega))⟩
    obtain ⟨hs4, hsr4⟩ := zdn (r := Rep.clause) (c := 1) (by decide) (show (h'.lay [Blk.row (c0.head.cells ++ [b0]) 29 false] (h'.size + 1)).get (h'.size + 0) = some (.row (c0.head.cells ++ [b0]) 29 false) by rw [zaR]; rfl) hR
    have hz8 := z.size
    obtain ⟨w16, h16, A16, g18, o16, cg16, g19, g20⟩ := zdz (t := 32) ds32 zbT rfl (by decide) (by rw [hHs4, zad]; omega) (oc.mono (Inc.lay _ _ _)) hs4 hsr4 (by omega) (by omega)
    rw [g18]
    simp -implicitDefEqProofs only [syms, symx, seval, c4]
    refine zbf (A := Ac4) (by kernel_rfl) (by rw [zad]; omega) (by omega) (by simpa only [zap, zad, List.append_nil, List.length_cons, List.length_nil, Nat.zero_add] using cg16) ?_
    have s1d := s1c.mono ((i20.trans (Inc.lay _ _ _)).chg cg16 (by omega))
    replace z := (z.upW [Blk.row (c0.head.cells ++ [b0]) 29 false] (h'.size + 1) (by omega)).step cg16 (by omega)
    have s16c := o16.sl (by decide)
    obtain ⟨a16, n16, cc16, rfl⟩ := o16.slice
    clear oc o16 hs4 hsr4 hR s1b s1c hp
    rw [zaa h16]
    repeat' ( simp -implicitDefEqProofs only [syms, symx, seval, c4, hvf])
    have hcl7 : (cl ++ [c0]).length ≤ 5 := by rw [List.length_append, List.length_singleton]; omega
    have hcb7 : ∀ d ∈ cl ++ [c0], d.body.length ≤ 3 := fun d hd => (List.mem_append.1 hd).elim (e3 d) (fun hd => by rw [List.mem_singleton.1 hd]; exact e3 c0 hc0m)
    refine zeR (cl ++ [c0]) facts _ u _ ((hsp.ext z).lay _ _) (s16c.lay _ _) ((hf.mono z.inc).lay _ _) (by omega) hcb7 (by omega) _ (fun h' w5 L5 k5 f5 x s5 hL5 => ?_)
    obtain ⟨el, _, ef⟩ := (hL1.same (fun d => ⟨fun hd => List.mem_append_left _ hd, fun hd => (List.mem_append.1 hd).elim id (fun hd => by rw [List.mem_singleton.1 hd]; exact hc0m)⟩) (fun _ => Iff.rfl)).one hL5
    obtain rfl := el
    obtain rfl := ef
    (( ((with_reducible refine zar ?_ ?_ ?_); (· exact (by (try simp only [lsz]); have := z.size; omega)); (·  exact x )) ); replace z := z.overW x (by (try simp only [lsz]); omega); (try replace s1d := s1d.over x); rw [zaa h'])
    have hvw5 := zaH w5
    repeat' (first | simp -implicitDefEqProofs only [syms, symx, seval, c4, hvw5, hvw1, bne_self_eq_false] | ((with_reducible refine ⟨z.grw.lay _ _, ?_⟩); (intro _ h' zz x _); (try simp only [zap, List.append_nil] at x); (try replace s1d := s1d.over x); (try replace s5 := s5.over x); (replace z := zz); (clear zz); rw [zaa h']))
    refine zgY L1 L1 w5 w1 _ (s5.lay _ _) (s1d.lay _ _) (by omega) (by omega) _ (fun h' x => ?_)
    rw [decide_eq_true rfl]
    clear s5 s1d
    (( skip); replace z := z.overW x (by (try simp only [lsz]); omega); rw [zaa h'])
    simp -implicitDefEqProofs only [syms, symx, seval, c4, bne_self_eq_false, Bool.not_true, hvc, hlv]
    (with_reducible_and_instances apply zaf); (· rfl)
    simp -implicitDefEqProofs only [syms, symx, seval, c4, bne_self_eq_false, Bool.not_true, hvc, hlv]
    (try simp -implicitDefEqProofs only [syms, symx, seval, c4])
    obtain ⟨I2, hI2⟩ : ∃ I : Nat → Env → Heap → Prop, I = (fun n e h' => ∃ (i : Nat) (wv : Value) (A : Nat) (h1 : Heap), h' = h1.lay [] h1.low ∧ Ext h h1 ∧ (n = cl.length - i ∧ i ≤ cl.length ∧ Ow Rep.clause h h1 29 A wv ((cl.take i).filter (fun d => decide (d.body ≠ [])))) ∧ ∃ J : Nat → Value, e = (v :: jr J 1 17 (wv :: .int .i64 i :: jr J 20 163 ([])))) := ⟨_, rfl⟩
    refine zas I2 _ (by rw [hI2]; exact ⟨0, .slice none 0 0, h.size, _, rfl, z, ⟨rfl, by omega, Ow.nil (by omega)⟩, junk (by kernel_rfl)⟩) ?_
    intro n e h' hin
    rw [hI2] at hin
    obtain ⟨i, wv, A, h1', rfl, z, hinv, J, rfl⟩ := hin
    obtain ⟨rfl, hi, ow⟩ := hinv
    have hwi : IntKind.i64.wrap ((i : Int) + 1) = ((i + 1 : Nat) : Int) := by rw [zae (by omega) (by omega)]; omega
    have hvwv := zaH wv
    have hzi := z.size
    have hfl : ((cl.take i).filter (fun d => decide (d.body ≠ []))).length ≤ 4 := Nat.le_trans (List.length_filter_le _ _) (by rw [List.length_take]; omega)
    have hfA := ow.fresh
    simp -implicitDefEqProofs only [syms, symx, seval, c4, hvc, hlv]
    refine zaw (fun hlt => ?_) (fun hlt => ?_)
    · obtain ⟨d, hd, hd'⟩ := za5 (l := cl) (i := i) (by omega)
      have hdm := List.mem_of_getElem? hd'
      have htk : cl.take (i + 1) = cl.take i ++ [d] := by rw [List.take_add_one, hd']; rfl
      have htf : (cl.take (i + 1)).filter (fun d => decide (d.body ≠ [])) = (cl.take i).filter (fun d => decide (d.body ≠ [])) ++ (if d.body = [] then [] else [d]) := by
        rw [htk, List.filter_append]
        congr 1
        by_cases hb : d.body = [] <;> simp [hb]
      simp -implicitDefEqProofs only [syms, symx, seval, c4, hvc]
      repeat' ((first | with_reducible_and_instances refine zhC hl z.inc ds32 sz29 (by omega) hd (fun p bd hbd hp => ?_) | with_reducible_and_instances refine fdc1 hp zdL (fun q hq => ?_) | with_reducible_and_instances refine zd9 hq ag27 ?_) <;> simp -implicitDefEqProofs only [syms, symx, seval, c4, hvc])
      have hlbd := fun (hh : Heap) => hbd.lenA ds27 hh
      simp -implicitDefEqProofs only [syms, symx, seval, c4, hlbd]
      refine zaw (fun hne => ?_) (fun hne => ?_)
      · have hb : d.body ≠ [] := fun e => by rw [e] at hne; simp at hne
        rw [if_neg hb] at htf
        clear hp hq
        simp -implicitDefEqProofs only [syms, symx, seval, c4, hvc, hvwv]
        repeat' ((first | with_reducible_and_instances refine zhC hl z.inc ds32 sz29 (by omega) hd (fun p b7 hb7 hp => ?_) | with_reducible_and_instances refine ldc hp ag29 sz29 ?_) <;> simp -implicitDefEqProofs only [syms, symx, seval, c4, hvc, hvwv, zbm])
        simp -implicitDefEqProofs only [syms, symx, seval, c4, hvwv, zbm, za2, zmL]
        refine zlH (i := 0) (cs := d.head.cells ++ [b7]) (x := d) ds32 zbT rfl (by decide) (by rfl) hzi ow ⟨b7, rfl, hb7.mono (zdB (z.inc.trans (Inc.lay _ _ _)) (by omega))⟩ (by omega) (by omega) (fun w3 h3 A3 ow3 cg3 hA3 => ?_)
        rw [← htf] at ow3
        replace z := (z.upW _ _ (by omega)).step cg3 (by omega)
        clear hp ow
        rw [zaa h3]
        repeat' ( simp -implicitDefEqProofs only [syms, symx, seval, c4])
        rw [hwi]
        (rw [hI2]; with_reducible refine zac (m := _) ?_ ⟨i + 1, w3, A3, _, rfl, z, ⟨rfl, by omega, ow3⟩, junk (by kernel_rfl)⟩; omega)
      · have hb : d.body = [] := List.eq_nil_of_length_eq_zero (by omega)
        rw [if_pos hb, List.append_nil] at htf
        rw [← htf] at ow
        clear hp hq
        repeat' ( simp -implicitDefEqProofs only [syms, symx, seval, c4])
        rw [hwi]
        (rw [hI2]; with_reducible refine zac (m := _) ?_ ⟨i + 1, wv, A, _, rfl, z, ⟨rfl, by omega, ow⟩, junk (by kernel_rfl)⟩; omega)
    rw [List.take_of_length_le (by omega)] at ow
    have hm9 : MayX (cl.filter (fun d => decide (d.body ≠ []))) [] := zgp (fun d hd => List.mem_append_left _ (List.mem_filter.1 hd).1) nofun hm
    have hb9 : ∀ d ∈ cl.filter (fun d => decide (d.body ≠ [])), d.body ≠ [] := fun d hd => of_decide_eq_true (List.mem_filter.1 hd).2
    rw [List.take_of_length_le (by omega)] at hfl
    have sw := ow.sl (by decide)
    clear ow
    repeat' ( simp -implicitDefEqProofs only [syms, symx, seval, c4, hvwv])
    refine zeR (cl.filter (fun d => decide (d.body ≠ []))) [] wv _ _ ((hsp.ext z).lay _ _) (sw.lay _ _) Sl.nil (by omega) (fun d hd => e3 d (List.mem_filter.1 hd).1) (by simp) _ (fun h' w9 L9 k9 f9 x s9 hL9 => ?_)
    obtain ⟨rfl, rfl⟩ := hL9.bare hm9 hb9
    (( skip); replace z := z.overW x (by (try simp only [lsz]); omega); rw [zaa h'])
    have hvw9 := zaH w9
    have hl9 := fun (hh : Heap) => s9.lenA ds27 hh
    repeat' ( simp -implicitDefEqProofs only [syms, symx, seval, c4, hvw9, hl9, List.length_nil, beq_self_eq_true])
    all_goals first
      | exact hk _ (z.upW _ _ (by omega))
      | (exfalso; omega)
  · clear s1b
    (try simp -implicitDefEqProofs only [syms, symx, seval, c4])
    obtain ⟨I3, hI3⟩ : ∃ I : Nat → Env → Heap → Prop, I = (fun n e h' => ∃ (i : Nat) (wv : Value) (A : Nat) (h1 : Heap), h' = h1.lay [] h1.low ∧ Ext h h1 ∧ (n = cl.length - i ∧ i ≤ cl.length ∧ Ow Rep.clause h h1 29 A wv ((cl.take i).filter (fun d => decide (d.body ≠ [])))) ∧ ∃ J : Nat → Value, e = (v :: jr J 1 17 (wv :: .int .i64 i :: jr J 20 163 ([])))) := ⟨_, rfl⟩
    refine zas I3 _ (by rw [hI3]; exact ⟨0, .slice none 0 0, h.size, _, rfl, z, ⟨rfl, by omega, Ow.nil (by omega)⟩, junk (by kernel_rfl)⟩) ?_
    intro n e h' hin
    rw [hI3] at hin
    obtain ⟨i, wv, A, h1', rfl, z, hinv, J, rfl⟩ := hin
    obtain ⟨rfl, hi, ow⟩ := hinv
    have hwi : IntKind.i64.wrap ((i : Int) + 1) = ((i + 1 : Nat) : Int) := by rw [zae (by omega) (by omega)]; omega
    have hvwv := zaH wv
    have hzi := z.size
    have hfl : ((cl.take i).filter (fun d => decide (d.body ≠ []))).length ≤ 4 := Nat.le_trans (List.length_filter_le _ _) (by rw [List.length_take]; omega)
    have hfA := ow.fresh
    simp -implicitDefEqProofs only [syms, symx, seval, c4, hvc, hlv]
    refine zaw (fun hlt => ?_) (fun hlt => ?_)
    · obtain ⟨d, hd, hd'⟩ := za5 (l := cl) (i := i) (by omega)
      have hdm := List.mem_of_getElem? hd'
      have htk : cl.take (i + 1) = cl.take i ++ [d] := by rw [List.take_add_one, hd']; rfl
      have htf : (cl.take (i + 1)).filter (fun d => decide (d.body ≠ [])) = (cl.take i).filter (fun d => decide (d.body ≠ [])) ++ (if d.body = [] then [] else [d]) := by
        rw [htk, List.filter_append]
        congr 1
        by_cases hb : d.body = [] <;> simp [hb]
      simp -implicitDefEqProofs only [syms, symx, seval, c4, hvc]
      repeat' ((first | with_reducible_and_instances refine zhC hl z.inc ds32 sz29 (by omega) hd (fun p bd hbd hp => ?_) | with_reducible_and_instances refine fdc1 hp zdL (fun q hq => ?_) | with_reducible_and_instances refine zd9 hq ag27 ?_) <;> simp -implicitDefEqProofs only [syms, symx, seval, c4, hvc])
      have hlbd := fun (hh : Heap) => hbd.lenA ds27 hh
      simp -implicitDefEqProofs only [syms, symx, seval, c4, hlbd]
      refine zaw (fun hne => ?_) (fun hne => ?_)
      · have hb : d.body ≠ [] := fun e => by rw [e] at hne; simp at hne
        rw [if_neg hb] at htf
        clear hp hq
        simp -implicitDefEqProofs only [syms, symx, seval, c4, hvc, hvwv]
        repeat' ((first | with_reducible_and_instances refine zhC hl z.inc ds32 sz29 (by omega) hd (fun p b7 hb7 hp => ?_) | with_reducible_and_instances refine ldc hp ag29 sz29 ?_) <;> simp -implicitDefEqProofs only [syms, symx, seval, c4, hvc, hvwv, zbm])
        simp -implicitDefEqProofs only [syms, symx, seval, c4, hvwv, zbm, za2, zmL]
        refine zlH (i := 0) (cs := d.head.cells ++ [b7]) (x := d) ds32 zbT rfl (by decide) (by rfl) hzi ow ⟨b7, rfl, hb7.mono (zdB (z.inc.trans (Inc.lay _ _ _)) (by omega))⟩ (by omega) (by omega) (fun w3 h3 A3 ow3 cg3 hA3 => ?_)
        rw [← htf] at ow3
        replace z := (z.upW _ _ (by omega)).step cg3 (by omega)
        clear hp ow
        rw [zaa h3]
        repeat' ( simp -implicitDefEqProofs only [syms, symx, seval, c4])
        rw [hwi]
        (rw [hI3]; with_reducible refine zac (m := _) ?_ ⟨i + 1, w3, A3, _, rfl, z, ⟨rfl, by omega, ow3⟩, junk (by kernel_rfl)⟩; omega)
      · have hb : d.body = [] := List.eq_nil_of_length_eq_zero (by omega)
        rw [if_pos hb, List.append_nil] at htf
        rw [← htf] at ow
        clear hp hq
        repeat' ( simp -implicitDefEqProofs only [syms, symx, seval, c4])
        rw [hwi]
        (rw [hI3]; with_reducible refine zac (m := _) ?_ ⟨i + 1, wv, A, _, rfl, z, ⟨rfl, by omega, ow⟩, junk (by kernel_rfl)⟩; omega)
    rw [List.take_of_length_le (by omega)] at ow
    have hm9 : MayX (cl.filter (fun d => decide (d.body ≠ []))) [] := zgp (fun d hd => List.mem_append_left _ (List.mem_filter.1 hd).1) nofun hm
    have hb9 : ∀ d ∈ cl.filter (fun d => decide (d.body ≠ [])), d.body ≠ [] := fun d hd => of_decide_eq_true (List.mem_filter.1 hd).2
    rw [List.take_of_length_le (by omega)] at hfl
    have sw := ow.sl (by decide)
    clear ow
    repeat' ( simp -implicitDefEqProofs only [syms, symx, seval, c4, hvwv])
    refine zeR (cl.filter (fun d => decide (d.body ≠ []))) [] wv _ _ ((hsp.ext z).lay _ _) (sw.lay _ _) Sl.nil (by omega) (fun d hd => e3 d (List.mem_filter.1 hd).1) (by simp) _ (fun h' w9 L9 k9 f9 x s9 hL9 => ?_)
    obtain ⟨rfl, rfl⟩ := hL9.bare hm9 hb9
    (( skip); replace z := z.overW x (by (try simp only [lsz]); omega); rw [zaa h'])
    have hvw9 := zaH w9
    have hl9 := fun (hh : Heap) => s9.lenA ds27 hh
    repeat' ( simp -implicitDefEqProofs only [syms, symx, seval, c4, hvw9, hl9, List.length_nil, beq_self_eq_true])
    all_goals first
      | exact hk _ (z.upW _ _ (by omega))
      | (exfalso; omega)
end Go.Proofs.YtemapihoobmonaaGreatDoor

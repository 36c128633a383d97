/- One operation: the plain machine beside the model. No condition. -/
import Derived.Test.YtpnnbjakbplgeaaGOps
import Derived.Laws.StructEq
import Derived.ChangeKeysEq
namespace Go.Am
open Go.RowKit

section
variable {P : Program} {T : Tab} {ρ : Rho} {h h' : Heap} {w : World}

theorem bound_sound {x y : Value} {hi i : Nat} (hxy : VR ρ x y) (hb : bound x hi = some i) {hi' : Nat} (hle : hi ≤ hi') (code : BoundsCode) (w : World) : (Instr.sliceBound y hi' code).run P w = .ok i w ∧ i ≤ hi := by
  cases hxy with
  | int k n =>
    simp only [bound] at hb
    split at hb
    · rename_i hc
      cases hb
      have hc' : 0 ≤ n ∧ n ≤ (hi' : Int) := ⟨hc.1, by omega⟩
      exact ⟨by simp [Instr.sliceBound, asIntOf, hc'], by omega⟩
    · cases hb
  | _ => simp [bound] at hb

def OptR (ρ : Rho) : Option Value → Option Value → Prop
  | none, none => True
  | some x, some y => VR ρ x y
  | _, _ => False

theorem boundsA_sound {len cap cap' l' h' m' : Nat} {l h m ll hh mm : Option Value} (hl : OptR ρ l ll) (hhh : OptR ρ h hh) (hm : OptR ρ m mm) (hb : boundsA len cap l h m = some (l', h', m')) (hlen : len ≤ cap) (hcap : cap ≤ cap') (isSlice : Bool) (w : World) :
    (Instr.sliceBounds isSlice len cap' ll hh mm).run P w = .ok (l', h', if m.isSome then m' else cap') w ∧ l' ≤ h' ∧ h' ≤ m' ∧ m' ≤ cap := by
  simp only [boundsA, Option.bind_eq_some_iff, Option.some.injEq, Prod.mk.injEq] at hb
  obtain ⟨m1, hm1, h1, hh1, l1, hl1, rfl, rfl, rfl⟩ := hb
  have lowOk : ∀ (code : BoundsCode), (match ll with | some v => Instr.sliceBound v h1 code | none => (pure 0 : Sem Nat)).run P w = .ok l1 w ∧ l1 ≤ h1 := by
    intro code
    cases l with
    | none => cases ll with
      | none => simp only [Option.some.injEq] at hl1; subst hl1; exact ⟨rfl, Nat.zero_le _⟩
      | some v => exact hl.elim
    | some x => cases ll with
      | none => exact hl.elim
      | some v => exact bound_sound hl hl1 (Nat.le_refl _) code w
  cases m with
  | none =>
    cases mm with
    | some v => exact hm.elim
    | none =>
      simp only [Option.some.injEq] at hm1
      subst hm1
      cases h with
      | none => cases hh with
        | some v => exact hhh.elim
        | none =>
          simp only [Option.some.injEq] at hh1
          subst hh1
          obtain ⟨k1, k2⟩ := lowOk .sliceB
          refine ⟨?_, k2, hlen, Nat.le_refl _⟩
          simp only [Instr.sliceBounds, Sem.run_bind, Sem.run_pure, Result.andThen_ok, Option.isSome_none, Bool.false_eq_true, if_false]
          cases ll with
          | none =>
            have e : l1 = 0 := by have := k1; simp at this; exact this.symm
            simp [e]
          | some u =>
            have e : (Instr.sliceBound u len .sliceB).run P w = .ok l1 w := k1
            simp only [Sem.run_bind, e, Result.andThen_ok, Sem.run_pure]
      | some x => cases hh with
        | none => exact hhh.elim
        | some v =>
          have hb1 := bound_sound (P := P) hhh hh1 hcap (if isSlice then BoundsCode.sliceAcap else .sliceAlen) w
          obtain ⟨k1, k2⟩ := lowOk .sliceB
          refine ⟨?_, k2, hb1.2, Nat.le_refl _⟩
          simp only [Instr.sliceBounds, Sem.run_bind, Sem.run_pure, Result.andThen_ok, Option.isSome_none, Bool.false_eq_true, if_false, hb1.1]
          cases ll with
          | none =>
            have e : l1 = 0 := by have := k1; simp at this; exact this.symm
            simp [e]
          | some u =>
            have e : (Instr.sliceBound u h1 .sliceB).run P w = .ok l1 w := k1
            simp only [Sem.run_bind, e, Result.andThen_ok, Sem.run_pure]
  | some q =>
    cases mm with
    | none => exact hm.elim
    | some v =>
      have hbm := bound_sound (P := P) hm hm1 hcap (if isSlice then BoundsCode.slice3Acap else .slice3Alen) w
      cases h with
      | none => cases hh1
      | some x => cases hh with
        | none => exact hhh.elim
        | some v' =>
          have hb1 := bound_sound (P := P) hhh hh1 (Nat.le_refl _) BoundsCode.slice3B w
          obtain ⟨k1, k2⟩ := lowOk .slice3C
          refine ⟨?_, k2, hb1.2, hbm.2⟩
          simp only [Instr.sliceBounds, Sem.run_bind, Result.andThen_ok, Option.isSome_some, if_true, hbm.1, hb1.1]
          cases ll with
          | none =>
            have e : l1 = 0 := by have := k1; simp at this; exact this.symm
            simp [e]
          | some u =>
            have e : (Instr.sliceBound u h1 .slice3C).run P w = .ok l1 w := k1
            simp only [Sem.run_bind, e, Result.andThen_ok, Sem.run_pure]

theorem sliceA_sound (hT : T.Fits P) {t : TypeId} {x y v : Value} {l hi m ll hh mm : Option Value} (hxy : VR ρ x y) (hl : OptR ρ l ll) (hhh : OptR ρ hi hh) (hm : OptR ρ m mm) (hs : sliceA T t x l hi m = some v) (w : World) :
    ∃ vc, (Instr.sliceAt t y ll hh mm).run P w = .ok vc w ∧ VR ρ v vc := by
  unfold sliceA at hs
  split at hs
  · rename_i s hd
    cases hxy
    have ht := hT.desc _ _ hd
    split at hs
    · cases hs
    · rename_i hmn
      have hm0 : m = none := by cases m <;> simp_all
      subst hm0
      have hmm : mm = none := by cases mm with | none => rfl | some _ => exact hm.elim
      subst hmm
      simp only [Option.map_eq_some_iff, Prod.exists] at hs
      obtain ⟨l', h', m', hb, rfl⟩ := hs
      obtain ⟨k1, k2, k3, k4⟩ := boundsA_sound (P := P) (m := none) (mm := none) hl hhh trivial hb (Nat.le_refl _) (Nat.le_refl _) false w
      refine ⟨_, ?_, .string _⟩
      simp [Instr.sliceAt, Instr.slice, run_underlying ht, k1]
  · rename_i n e A o hd
    cases hxy with
    | ptr hA =>
      rename_i L
      have ht := hT.desc _ _ hd
      simp only [Option.bind_eq_some_iff, Option.map_eq_some_iff, Prod.exists] at hs
      obtain ⟨l', h', m', hb, k, hk, rfl⟩ := hs
      have hnG : n < G := by
        rcases Nat.lt_or_ge n G with hlt | hge
        · exact hlt
        · rw [if_neg (by omega)] at hb; cases hb
      rw [if_pos hnG] at hb
      obtain ⟨k1, k2, k3, k4⟩ := boundsA_sound (P := P) hl hhh hm hb (Nat.le_refl _) (Nat.le_refl _) false w
      have hm'' : (if m.isSome then m' else n) = m' := by
        cases m with
        | some _ => rfl
        | none =>
          simp only [boundsA, Option.bind_eq_some_iff, Option.some.injEq, Prod.mk.injEq] at hb
          obtain ⟨m1, hm1, h1, hh1, l1, hl1, rfl, rfl, rfl⟩ := hb
          simp [hm1]
      rw [hm''] at k1
      have hsz := run_sizeOf hT hk w
      refine ⟨.slice (some (if m' = l' then ⟨L.b, L.s + o, none⟩ else (⟨L.b, L.s + o, none⟩ : Addr).add (l' * k))) (h' - l') (m' - l'), ?_, ?_⟩
      · simp only [Instr.sliceAt, Sem.run_bind, run_underlying ht, Result.andThen_ok, Instr.sureAddr, Sem.run_pure, k1, hsz]
      · by_cases hG : m' - l' < G
        · refine .slice hA hG (by omega) (fun h0 => ?_)
          rw [if_neg (by omega), if_neg (by omega), Addr.add_mid, Nat.add_assoc]
        · exfalso
          omega
  · rename_i e a n c hd
    have ht := hT.desc _ _ hd
    simp only [Option.bind_eq_some_iff] at hs
    obtain ⟨k, hk, hs⟩ := hs
    have hsz := run_sizeOf hT hk w
    split at hs
    · rename_i hcG
      simp only [Option.bind_eq_some_iff, Prod.exists] at hs
      obtain ⟨l', h', m', hb, hs⟩ := hs
      have hm'' : (if m.isSome then m' else c) = m' := by
        cases m with
        | some _ => rfl
        | none =>
          simp only [boundsA, Option.bind_eq_some_iff, Option.some.injEq, Prod.mk.injEq] at hb
          obtain ⟨m1, hm1, h1, hh1, l1, hl1, rfl, rfl, rfl⟩ := hb
          simp [hm1]
      cases hxy with
      | sliceNil =>
        obtain ⟨k1, k2, k3, k4⟩ := boundsA_sound (P := P) hl hhh hm hb (Nat.le_refl _) (Nat.le_refl _) true w
        rw [hm''] at k1
        simp only [Option.some.injEq] at hs
        subst hs
        have e1 : h' - l' = 0 := by omega
        have e2 : m' - l' = 0 := by omega
        refine ⟨.slice none (h' - l') (m' - l'), ?_, by rw [e1, e2]; exact .sliceNil⟩
        simp [Instr.sliceAt, Instr.slice, run_underlying ht, k1, hsz]
      | slice hA hc hn had =>
        rename_i A o L ad
        obtain ⟨k1, k2, k3, k4⟩ := boundsA_sound (P := P) hl hhh hm hb hn (Nat.le_refl _) true w
        rw [hm''] at k1
        simp only [Option.some.injEq] at hs
        subst hs
        refine ⟨.slice (if m' = l' then some ad else some (ad.add (l' * k))) (h' - l') (m' - l'), ?_, ?_⟩
        · simp [Instr.sliceAt, Instr.slice, run_underlying ht, k1, hsz]
        · have hx : (if m' = l' then some ad else some (ad.add (l' * k))) = some (if m' = l' then ad else ad.add (l' * k)) := by split <;> rfl
          rw [hx]
          refine .slice hA (by omega) (by omega) (fun h0 => ?_)
          rw [if_neg (by omega), if_neg (by omega), had (by omega), Addr.add_mid, Nat.add_assoc]
      | sliceG hA hc hlo hn hk' hmx had => omega
    · rename_i hcG
      split at hs
      · rename_i A o
        split at hs
        · rename_i hck
          simp only [Option.map_eq_some_iff, Prod.exists] at hs
          obtain ⟨l', h', m', hb, rfl⟩ := hs
          cases hxy with
          | slice hA hc hn had => omega
          | sliceG hA hc hlo hn hk' hmx had =>
            rename_i c' L ad
            obtain ⟨k1, k2, k3, k4⟩ := boundsA_sound (P := P) hl hhh hm hb hn hlo true w
            cases m with
            | some q =>
              simp only [Option.isSome_some, if_true] at k1
              refine ⟨.slice (if m' = l' then some ad else some (ad.add (l' * k))) (h' - l') (m' - l'), ?_, ?_⟩
              · simp [Instr.sliceAt, Instr.slice, run_underlying ht, k1, hsz]
              · have hx : (if m' = l' then some ad else some (ad.add (l' * k))) = some (if m' = l' then ad else ad.add (l' * k)) := by split <;> rfl
                rw [hx]
                have hlt : c % G < G := Nat.mod_lt _ (by unfold G; omega)
                refine .slice hA (by omega) (by omega) (fun h0 => ?_)
                rw [if_neg (by omega), if_neg (by omega), (had (by omega)).1, Addr.add_mid, Nat.add_assoc]
            | none =>
              simp only [Option.isSome_none, Bool.false_eq_true, if_false] at k1
              have hm1 : m' = c % G := by
                simp only [boundsA, Option.bind_eq_some_iff, Option.some.injEq, Prod.mk.injEq] at hb
                obtain ⟨m1, hm1, h1, hh1, l1, hl1, rfl, rfl, rfl⟩ := hb
                exact hm1.symm
              subst hm1
              refine ⟨.slice (if c' = l' then some ad else some (ad.add (l' * k))) (h' - l') (c' - l'), ?_, ?_⟩
              · simp [Instr.sliceAt, Instr.slice, run_underlying ht, k1, hsz]
              · have hx : (if c' = l' then some ad else some (ad.add (l' * k))) = some (if c' = l' then ad else ad.add (l' * k)) := by split <;> rfl
                rw [hx]
                have hlt : c % G < G := Nat.mod_lt _ (by unfold G; omega)
                have hoc := openCap (k := k) (q := c % G - l') (by omega) (by omega)
                refine .sliceG hA hoc.1 (by rw [hoc.2.1]; omega) (by rw [hoc.2.1]; omega) (by rw [hoc.2.2]; omega) (by omega) (fun h0 => ?_)
                obtain ⟨rfl, hfit⟩ := had (by omega)
                rw [if_neg (by omega), Addr.add_mid, hoc.2.2]
                refine ⟨by rw [Nat.add_assoc], ?_⟩
                rw [hck] at hfit
                have e1 : c' * k = l' * k + (c' - l') * k := by rw [← Nat.add_mul]; congr 1; omega
                omega
        · cases hs
      · cases hs
  · cases hs

theorem indexAddrA_sound (hT : T.Fits P) {t : TypeId} {x y i j v : Value} (hxy : VR ρ x y) (hij : VR ρ i j) (hs : indexAddrA T t x i = some v) (w : World) :
    ∃ vc, (Instr.indexAt t y j).run P w = .ok vc w ∧ VR ρ v vc := by
  unfold indexAddrA at hs
  split at hs
  · rename_i k i
    cases hij
    split at hs
    · rename_i n e A o hd
      cases hxy with
      | ptr hA =>
        rename_i L
        have ht := hT.desc _ _ hd
        split at hs
        · rename_i hi
          simp only [Option.map_eq_some_iff] at hs
          obtain ⟨q, hq, rfl⟩ := hs
          refine ⟨.pointer (some ⟨L.b, L.s + (o + i.toNat * q), none⟩), ?_, .ptr hA⟩
          simp [Instr.indexAt, asIntOf, run_underlying ht, Instr.sureAddr, hi, run_sizeOf hT hq, Addr.add_mid, Nat.add_assoc]
        · cases hs
    · rename_i e A o n c hd
      have ht := hT.desc _ _ hd
      split at hs
      · rename_i hi
        simp only [Option.map_eq_some_iff] at hs
        obtain ⟨q, hq, rfl⟩ := hs
        have key : ∃ L c', ρ A = some L ∧ y = .slice (some ⟨L.b, L.s + o, none⟩) n c' := by
          cases hxy with
          | slice hA hc hn had =>
            obtain rfl := had (by omega)
            exact ⟨_, _, hA, rfl⟩
          | sliceG hA hc hlo hn hk hm had =>
            obtain ⟨rfl, _⟩ := had (by omega)
            exact ⟨_, _, hA, rfl⟩
        obtain ⟨L, c', hA, rfl⟩ := key
        refine ⟨.pointer (some ⟨L.b, L.s + (o + i.toNat * q), none⟩), ?_, .ptr hA⟩
        simp [Instr.indexAt, asIntOf, run_underlying ht, hi, run_sizeOf hT hq, Addr.add_mid, Nat.add_assoc]
      · cases hs
    · cases hs
  · cases hs

theorem fieldAddrA_sound (hT : T.Fits P) {t : TypeId} {x y v : Value} {f : Nat} (hxy : VR ρ x y) (hs : fieldAddrA T t x f = some v) (w : World) :
    ∃ vc, (Instr.fieldAt t y f).run P w = .ok vc w ∧ VR ρ v vc := by
  unfold fieldAddrA at hs
  split at hs
  · rename_i fs A o hd
    cases hxy with
    | ptr hA =>
      rename_i L
      have ht := hT.desc _ _ hd
      simp only [Option.bind_eq_some_iff] at hs
      obtain ⟨fl, hf, n, hn, hs⟩ := hs
      split at hs
      · cases hs
      · rename_i h0
        cases hs
        refine ⟨.pointer (some ⟨L.b, L.s + (o + fl.offset), none⟩), ?_, .ptr hA⟩
        simp [Instr.fieldAt, run_underlying ht, hf, Instr.sureAddr, fieldPlace, run_sizeOf hT hn, h0, Addr.add_mid, Nat.add_assoc]
  · cases hs

theorem partA_sound (hT : T.Fits P) {t : TypeId} {cs : List Value} {ds : Array Value} {o : Nat} {v : Value} (hv : VRs ρ cs ds.toList) (hs : partA T t cs o = some v) (w : World) :
    ∃ vc, (part t ds o).run P w = .ok vc w ∧ VR ρ v vc := by
  simp only [partA, aggA, Option.bind_eq_some_iff, Option.map_eq_some_iff] at hs
  obtain ⟨g, ⟨d, hd, hg⟩, hs⟩ := hs
  have ht := hT.desc _ _ hd
  have hagg : (isAgg t).run P w = .ok g w := by
    unfold isAgg
    rw [Sem.run_bind, run_underlying ht w]
    cases d <;> simp_all
  cases g with
  | true =>
    simp only [if_true, Option.bind_eq_some_iff, Option.map_eq_some_iff] at hs
    obtain ⟨n, hn, l, hl, rfl⟩ := hs
    obtain ⟨d', hd', hvd⟩ := hv.cut hl
    refine ⟨.agg d'.toArray, ?_, hvd.toArray⟩
    have hx : ds.extract o (o + n) = d'.toArray := by
      unfold cut at hd'
      split at hd'
      · cases hd'
        apply Array.ext'
        simp [List.take_drop]
      · cases hd'
    simp [part, hagg, run_sizeOf hT hn, hx]
  | false =>
    simp only [Bool.false_eq_true, if_false] at hs
    obtain ⟨u, hu, hvu⟩ := hv.get hs
    refine ⟨u, ?_, hvu⟩
    have hu' : ds[o]? = some u := by simpa using hu
    simp [part, hagg, hu']

theorem fieldA_sound (hT : T.Fits P) {t : TypeId} {x y v : Value} {f : Nat} (hxy : VR ρ x y) (hs : fieldA T t x f = some v) (w : World) :
    ∃ vc, (Instr.field t y f).run P w = .ok vc w ∧ VR ρ v vc := by
  unfold fieldA at hs
  split at hs
  · rename_i fs cs hd
    have ht := hT.desc _ _ hd
    simp only [Option.bind_eq_some_iff] at hs
    obtain ⟨fl, hf, hs⟩ := hs
    cases hxy with
    | agg hc hh =>
      rename_i ds
      obtain ⟨vc, hr, hv⟩ := partA_sound hT (VR.agg hc hh).aggs hs w
      refine ⟨vc, ?_, hv⟩
      simp [Instr.field, run_underlying ht, hf, asAgg, hr]
  · cases hs

theorem binFast_sound {op : BinOp} {t : TypeId} {x y v : Value} (hs : binFast op x y = some v) : pureRun P (binOp op t x y) = some v ∧ plain x = true ∧ plain y = true ∧ plain v = true ∧ (∃ k a, x = .int k a) := by
  unfold binFast at hs
  split at hs <;> first | (cases hs; done) | (split at hs <;> first | (cases hs; done) | (rename_i hk; subst hk; cases hs; exact ⟨by simp [binOp, Op.intArith, Op.intCmp, pureRun, pure], rfl, rfl, rfl, _, _, rfl⟩))

theorem eqNil_sound {t : TypeId} {d : TypeDesc} (hd : P.underlying t = some d) {x y x' y' : Value} {b : Bool} (hx : VR ρ x x') (hy : VR ρ y y') (he : eqNil d x y = some b) (w : World) :
    (Op.equal t x' y').run P w = .ok b w ∧ ∀ (op : BinOp), op = .eql ∨ op = .neq → binOp op t x' y' = (if op = .eql then (do pure (.bool (← Op.equal t x' y'))) else (do pure (.bool (!(← Op.equal t x' y'))))) := by
  have key : (∀ d0 : Nat, (Op.equalIn (d0 + 1) t x' y').run P w = .ok b w) ∧ ∀ (op : BinOp), op = .eql ∨ op = .neq → binOp op t x' y' = (if op = .eql then (do pure (.bool (← Op.equal t x' y'))) else (do pure (.bool (!(← Op.equal t x' y'))))) := by
    unfold eqNil at he
    split at he <;> first
      | (cases he; done)
      | (cases hx <;> cases hy <;> simp at he <;> subst he <;> exact ⟨fun d0 => by simp [Op.equalIn, run_underlying hd], by rintro op (rfl | rfl) <;> rfl⟩)
  exact ⟨key.1 9999, key.2⟩

theorem eqGuard_plain (op : BinOp) (t : TypeId) (x y : Operand) (a b : Value) (ha : a ≠ .nilIface) (hagg : ∀ c d, a = .agg c → b = .agg d → P.eqGuardType P.depth t = false) (w : World) : (eqGuard op t x y a b).run P w = .ok () w := by
  unfold eqGuard
  cases op <;> simp only [Bool.not_true, Bool.not_false, if_true, if_false, Bool.false_eq_true] <;> try rfl
  all_goals
    cases a <;> first | exact (ha rfl).elim | skip
  all_goals
    cases b <;> first | rfl | skip
  all_goals
    simp [hagg _ _ rfl rfl]

theorem partA_run (hT : T.Fits P) {t : TypeId} {cs : Array Value} {o : Nat} {v : Value} (hs : partA T t cs.toList o = some v) (w : World) : (part t cs o).run P w = .ok v w := by
  simp only [partA, aggA, Option.bind_eq_some_iff, Option.map_eq_some_iff] at hs
  obtain ⟨g, ⟨d, hd, hg⟩, hs⟩ := hs
  have ht := hT.desc _ _ hd
  have hagg : (isAgg t).run P w = .ok g w := by
    unfold isAgg
    rw [Sem.run_bind, run_underlying ht w]
    cases d <;> simp_all
  cases g with
  | true =>
    simp only [if_true, Option.bind_eq_some_iff, Option.map_eq_some_iff] at hs
    obtain ⟨n, hn, l, hl, rfl⟩ := hs
    have hx : cs.extract o (o + n) = l.toArray := by
      unfold cut at hl
      split at hl
      · cases hl
        apply Array.ext'
        simp [List.take_drop]
      · cases hl
    simp [part, hagg, run_sizeOf hT hn, hx]
  | false =>
    simp only [Bool.false_eq_true, if_false] at hs
    have hu' : cs[o]? = some v := by simpa using hs
    simp [part, hagg, hu']
theorem eqParts_fields (hT : T.Fits P) {E : TypeId → Value → Value → Option Bool} {d : Nat} (w : World) (hE : ∀ t x y b, E t x y = some b → (Op.equalIn d t x y).run P w = .ok b w) (xs ys : Array Value) :
    ∀ (fs : List Field) (ps : List (TypeId × Nat)) (b : Bool), fieldParts fs = some ps → eqParts T E xs.toList ys.toList ps = some b → (Op.eqFields d xs ys fs).run P w = .ok b w
  | [], ps, b, hp, he => by
    cases hp
    cases he
    simp [Op.eqFields]
  | f :: fs, ps, b, hp, he => by
    simp only [fieldParts] at hp
    split at hp
    · cases hp
    · rename_i hn
      simp only [Option.map_eq_some_iff] at hp
      obtain ⟨r, hr, rfl⟩ := hp
      simp only [eqParts, Option.bind_eq_some_iff] at he
      obtain ⟨a, ha, c, hc, q, hq, he⟩ := he
      have h1 := partA_run hT ha w
      have h2 := partA_run hT hc w
      have h3 := hE _ _ _ _ hq
      simp only [Op.eqFields]
      rw [if_pos (by simpa using hn)]
      simp only [Sem.run_bind, h1, h2, h3, Result.andThen_ok]
      cases q with
      | false =>
        simp only [Bool.false_eq_true, if_false, Option.some.injEq] at he
        subst he
        simp
      | true =>
        simp only [if_true] at he
        simpa using eqParts_fields hT w hE xs ys fs r b hr he
theorem eqParts_items (hT : T.Fits P) {E : TypeId → Value → Value → Option Bool} {d : Nat} (w : World) (hE : ∀ t x y b, E t x y = some b → (Op.equalIn d t x y).run P w = .ok b w) (xs ys : Array Value) (e : TypeId) (k : Nat) :
    ∀ (n i : Nat) (b : Bool), eqParts T E xs.toList ys.toList (itemParts e k n i) = some b → (Op.eqItems d e k xs ys (List.range' i n)).run P w = .ok b w
  | 0, i, b, he => by
    cases he
    simp [Op.eqItems]
  | n + 1, i, b, he => by
    simp only [itemParts, eqParts, Option.bind_eq_some_iff] at he
    obtain ⟨a, ha, c, hc, q, hq, he⟩ := he
    have h1 := partA_run hT ha w
    have h2 := partA_run hT hc w
    have h3 := hE _ _ _ _ hq
    simp only [List.range'_succ, Op.eqItems, Sem.run_bind, h1, h2, h3, Result.andThen_ok]
    cases q with
    | false =>
      simp only [Bool.false_eq_true, if_false, Option.some.injEq] at he
      subst he
      simp
    | true =>
      simp only [if_true] at he
      simpa using eqParts_items hT w hE xs ys e k n (i + 1) b he
theorem eqIn_sound (hT : T.Fits P) (w : World) : ∀ (d D : Nat) (t : TypeId) (x y : Value) (b : Bool), eqIn T d t x y = some b → (Op.equalIn (D + d) t x y).run P w = .ok b w
  | 0, _, _, _, _, _, he => by simp [eqIn] at he
  | d + 1, D, t, x, y, b, he => by
    unfold eqIn at he
    split at he
    · rename_i a c hd
      cases he
      exact run_equalIn_bool w (D + d) t a c (hT.desc _ _ hd)
    · rename_i q k a k' c hd
      split at he
      · rename_i hk
        subst hk
        cases he
        exact run_equalIn_int w (D + d) t k q a c (hT.desc _ _ hd)
      · cases he
    · rename_i a c hd
      cases he
      rw [show D + (d + 1) = (D + d) + 1 from rfl, run_equalIn_string w (D + d) t a c (hT.desc _ _ hd), ByteArray.toList_eq, ByteArray.toList_eq]
    · rename_i fs xs ys hd
      split at he
      · rename_i hc
        simp only [Option.bind_eq_some_iff] at he
        obtain ⟨ps, hp, he⟩ := he
        have hu := hT.desc _ _ hd
        have hf : P.fieldsOf t = fs := by simp [Program.fieldsOf, hu]
        rw [show D + (d + 1) = (D + d) + 1 from rfl, run_equalIn_struct w (D + d) t xs ys (by rw [hf]; exact hu) (hT.cmp t hc).1, hf]
        exact eqParts_fields hT w (fun t x y b hb => eqIn_sound hT w d D t x y b hb) xs ys fs.toList ps b hp he
      · cases he
    · rename_i n e xs ys hd
      simp only [Option.bind_eq_some_iff] at he
      obtain ⟨k, hk, he⟩ := he
      have hu := hT.desc _ _ hd
      simp only [sizeA, Option.map_eq_some_iff] at hk
      obtain ⟨⟨n', b', z⟩, hi, rfl⟩ := hk
      obtain ⟨i, zv, hinf, hsz, _⟩ := hT.info _ _ _ _ hi
      have hcells : P.cellsOf e = n' := by simp [Program.cellsOf, hinf, hsz]
      rw [show D + (d + 1) = (D + d) + 1 from rfl, run_equalIn_array w (D + d) xs ys hu hinf, hcells]
      have := eqParts_items hT w (fun t x y b hb => eqIn_sound hT w d D t x y b hb) xs ys e n' n 0 b he
      rw [List.range_eq_range']
      exact this
    · cases he

theorem binA_sound (hT : T.Fits P) {op : BinOp} {t : TypeId} {x y x' y' v : Value} (hx : VR ρ x x') (hy : VR ρ y y') (hs : binA P T op t x y = some v) (ox oy : Operand) (w : World) :
    ∃ vc, (do eqGuard op t ox oy x' y'; binOp op t x' y' : Sem Value).run P w = .ok vc w ∧ VR ρ v vc := by
  unfold binA at hs
  split at hs
  · rename_i v' hf
    cases hs
    obtain ⟨h1, h2, h3, h4, k, a, rfl⟩ := binFast_sound (P := P) (t := t) hf
    have e1 := hx.eq_plain h2
    have e2 := hy.eq_plain h3
    subst e1 e2
    refine ⟨v, ?_, .of_plain ρ h4⟩
    rw [Sem.run_bind, eqGuard_plain op t ox oy (.int k a) _ (by simp) (by intro c d e; cases e) w]
    exact pureRun_sound P _ _ h1 w
  · split at hs
    · rename_i b hb
      simp only [Option.bind_eq_some_iff] at hb
      obtain ⟨d, hd, he⟩ := hb
      have ht := hT.desc _ _ hd
      obtain ⟨h1, h2⟩ := eqNil_sound ht hx hy he w
      have hna : x' ≠ .nilIface ∧ (∀ c, x' ≠ .agg c) := by
        unfold eqNil at he
        split at he <;> first | (cases he; done) | (cases hx <;> exact ⟨by simp, by simp⟩)
      have hg := eqGuard_plain (P := P) op t ox oy x' y' hna.1 (by intro c d e; exact (hna.2 c e).elim) w
      split at hs
      · cases hs
        refine ⟨.bool b, ?_, .bool _⟩
        simp only [Sem.run_bind, hg, Result.andThen_ok, h2 .eql (.inl rfl), if_true, h1, Sem.run_pure]
      · cases hs
        refine ⟨.bool !b, ?_, .bool _⟩
        simp only [Sem.run_bind, hg, Result.andThen_ok, h2 .neq (.inr rfl), reduceCtorEq, if_false, h1, Sem.run_pure]
      · cases hs
    · split at hs
      · rename_i hp
        simp only [Bool.and_eq_true] at hp
        have e1 := hx.eq_plain hp.1
        have e2 := hy.eq_plain hp.2
        subst e1 e2
        have fin : ∀ (hs : ((pureRun P (binOp op t x' y')).bind fun v => if plain v then some v else none) = some v) (hg : (eqGuard op t ox oy x' y').run P w = .ok () w),
            ∃ vc, (do eqGuard op t ox oy x' y'; binOp op t x' y' : Sem Value).run P w = .ok vc w ∧ VR ρ v vc := by
          intro hs hg
          simp only [Option.bind_eq_some_iff] at hs
          obtain ⟨v1, hr, hs⟩ := hs
          split at hs
          · rename_i hpv
            cases hs
            refine ⟨v, ?_, .of_plain ρ hpv⟩
            simp only [Sem.run_bind, hg, Result.andThen_ok]
            exact pureRun_sound P _ _ hr w
          · cases hs
        split at hs
        · cases hs
        · rename_i c d
          split at hs
          · rename_i hgt
            have hg := fun xs ys => eqGuard_plain (P := P) op t ox oy (.agg xs) (.agg ys) (by simp) (by intro _ _ _ _; exact (hT.cmp t hgt).2) w
            split at hs
            · simp only [Option.map_eq_some_iff] at hs
              obtain ⟨b, hb, rfl⟩ := hs
              refine ⟨.bool b, ?_, .bool _⟩
              simp only [Sem.run_bind, hg, Result.andThen_ok]
              rw [run_eql_struct, eqIn_sound hT w 20 9980 t _ _ b hb]
              rfl
            · simp only [Option.map_eq_some_iff] at hs
              obtain ⟨b, hb, rfl⟩ := hs
              refine ⟨.bool !b, ?_, .bool _⟩
              simp only [Sem.run_bind, hg, Result.andThen_ok]
              rw [run_neq_struct, eqIn_sound hT w 20 9980 t _ _ b hb]
              rfl
            · cases hs
          · cases hs
        · rename_i h1 h2
          refine fin hs (eqGuard_plain op t ox oy _ _ ?_ ?_ w)
          · intro e; exact h1 e
          · intro c d e1 e2; exact (h2 c d e1 e2).elim
      · cases hs

theorem lenA_sound (hT : T.Fits P) (hs : Sim ρ h w) {t ty : TypeId} {x y v : Value} (hxy : VR ρ x y) (hl : lenA T t x h = some v) (ts : List TypeId) :
    ∃ vc, (Builtin.len_ (t :: ts).toArray ty #[y]).run P w = .ok vc w ∧ VR ρ v vc := by
  unfold lenA at hl
  split at hl
  · rename_i s hd
    cases hxy
    cases hl
    exact ⟨_, by simp [Builtin.len_, run_underlying (hT.desc _ _ hd), goInt], .int _ _⟩
  · rename_i e a n c hd
    cases hl
    have key : ∃ a' c', y = .slice a' n c' := by cases hxy <;> exact ⟨_, _, rfl⟩
    obtain ⟨a', c', rfl⟩ := key
    exact ⟨_, by simp [Builtin.len_, run_underlying (hT.desc _ _ hd), goInt], .int _ _⟩
  · rename_i a b hd
    cases hxy
    cases hl
    exact ⟨_, by simp [Builtin.len_, run_underlying (hT.desc _ _ hd), goInt], .int _ _⟩
  · rename_i a b A hd
    split at hl
    · rename_i es clock hg
      cases hl
      cases hxy with
      | map hA =>
        rename_i L
        have hb := hs.blk A L hA
        rw [hg] at hb
        obtain ⟨ces, hc, he⟩ := hb
        refine ⟨.int .i64 (ces.size : Nat), by simp [Builtin.len_, run_underlying (hT.desc _ _ hd), goInt, getObj, Sem.run, hc], ?_⟩
        have e1 : (es.length : Int) = (ces.size : Int) := by have := he.1; simp at this; omega
        rw [e1]
        exact .int _ _
    · cases hl
  · cases hl
end
end Go.Am

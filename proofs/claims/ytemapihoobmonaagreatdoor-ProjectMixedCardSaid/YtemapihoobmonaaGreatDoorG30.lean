/- The code of some functions, node by node, for simp. Written by a program (mkcode.py). No condition. -/
import Derived.Test.YtemapihoobmonaaGreatDoorG24
import Derived.Test.YtemapihoobmonaaGreatDoorG28
import Derived.KernelRfl
import Derived.Test.YtemapihoobmonaaGreatDoorG29
import Derived.Test.YtemapihoobmonaaGreatDoorG15
namespace Go.Proofs.YtemapihoobmonaaGreatDoor
open Go.Am
set_option linter.unusedVariables false
set_option linter.unusedSimpArgs false
set_option maxRecDepth 100000
set_option maxHeartbeats 0
noncomputable def N161 := zaB Tryz.f161
noncomputable def x161 := PLift.up (by have c := zak N161 Tryz.f161; simp only [zap, Tryz.f161, Option.getD_some, zao, opsF, opsX, zah, zaA, dstL, zam, List.append_eq, List.cons_append, List.nil_append, seval] at c; exact nd c <| @zzI)
theorem c161 : type_of% x161.down := x161.down
noncomputable def N189 := zaB Tryz.f189
noncomputable def x189 := PLift.up (by have c := zak N189 Tryz.f189; simp only [zap, Tryz.f189, Option.getD_some, zao, opsF, opsX, zah, zaA, dstL, zam, List.append_eq, List.cons_append, List.nil_append, seval] at c; exact nd c <| nd @zyY <| nd @ld23 <| nd @zyE <| @zzq)
theorem c189 : type_of% x189.down := x189.down
noncomputable def N162 := zaB Tryz.f162
noncomputable def x162 := PLift.up (by have c := zak N162 Tryz.f162; simp only [zap, Tryz.f162, Option.getD_some, zao, opsF, opsX, zah, zaA, dstL, zam, List.append_eq, List.cons_append, List.nil_append, seval] at c; exact nd c <| nd @zpr <| nd @zj2 <| nd @ld3 <| @zzC)
theorem c162 : type_of% x162.down := x162.down
end Go.Proofs.YtemapihoobmonaaGreatDoor
namespace Go.Proofs.YtemapihoobmonaaGreatDoor
open Go.Am
set_option linter.unusedSimpArgs false
set_option linter.unusedVariables false
set_option maxRecDepth 100000
set_option maxHeartbeats 0
theorem zlH (l : List TermD) (v fv : Value) (pr : TermD → Bool) (h : Heap) (hl : Sl Rep.term h v l) (hs : l.length ≤ 1000) (hpf : ∀ (x : TermD) (hc : Heap) (K : Value → Heap → Prop), Ext h hc → (∀ h', Ext hc h' → K (.bool (pr x)) h') → zhr Tryz.prog tab ov [x.val] hc K fv) (K : Value → Heap → Prop)
    (hk : ∀ h', Ext h h' → K (.int .i64 (idxP pr l)) h') : Ok Tryz.prog tab ov 189 [v, fv] h K := by
  rw [zab h]
  have z := Ext.refl h
  refine Ok.into rfl zuy (zaD N189) rfl (m := 17) rfl ?_
  simp -implicitDefEqProofs only [syms, symx, seval, c189]
  repeat' (( with_reducible_and_instances refine zgC hl zuv ?_) <;> simp -implicitDefEqProofs only [syms, symx, seval, c189])
  obtain ⟨I1, hI1⟩ : ∃ I : Nat → Env → Heap → Prop, I = (fun n e h' => ∃ (i : Nat) (h1 : Heap), h' = h1.lay [] h1.low ∧ Ext h h1 ∧ (n = l.length - i ∧ i ≤ l.length ∧ ∀ x ∈ l.take i, pr x = false) ∧ ∃ J : Nat → Value, e = (v :: fv :: jr J 2 5 (.int .i64 l.length :: .int .i64 i :: jr J 9 10 ([])))) := ⟨_, rfl⟩
  refine zaI I1 _ (by rw [hI1]; exact ⟨0, _, rfl, z, ⟨rfl, by omega, by simp⟩, junk (by kernel_rfl)⟩) ?_
  intro n e h' hin
  rw [hI1] at hin
  obtain ⟨i, h1', rfl, z, hinv, J, rfl⟩ := hin
  obtain ⟨rfl, hi, hall⟩ := hinv
  have hw : IntKind.i64.wrap ((i : Int) + 1) = ((i + 1 : Nat) : Int) := by rw [zae (by omega) (by omega)]; omega
  repeat' (first | simp -implicitDefEqProofs only [syms, symx, seval, c189] | ((with_reducible  apply zay ) <;> intro _))
  rotate_left
  · rw [List.take_of_length_le (by omega)] at hall
    have := zd4 hall
    rw [this] at hk
    exact hk _ (z.upW _ _ (by omega))
  obtain ⟨r, hr, hr'⟩ := zbP (l := l) (i := i) (by assumption)
  repeat' ((first | with_reducible_and_instances refine zwB (hl.mono z.inc) zuv sz23 (by omega) hr (fun p hp => ?_) | with_reducible_and_instances refine ldt hp ag23 sz23 ?_) <;> simp -implicitDefEqProofs only [syms, symx, seval, c189])
  refine hpf _ _ _ (z.upW _ _ (by omega)) (fun h' x => ?_)
  ((skip); replace z := z.overW x (by (try simp only [lsz]); omega); rw [zab h'])
  cases hx : pr r
  rotate_left
  · simp -implicitDefEqProofs only [syms, symx, seval, c189]
    have := zdP hr' hall hx
    rw [this] at hk
    exact hk _ (z.upW _ _ (by omega))
  · simp -implicitDefEqProofs only [syms, symx, seval, c189]
    rw [hw]
    (rw [hI1]; with_reducible refine zaf (m := _) ?_ ⟨i + 1, _, rfl, z, ⟨rfl, by omega, zcU (i := i) (P := fun x : TermD => pr x = false) hr' hall hx⟩, junk (by kernel_rfl)⟩; omega)
theorem zi6 (l : List TermD) (v fv : Value) (pr : TermD → Bool) (h : Heap) (hl : Sl Rep.term h v l) (hs : l.length ≤ 1000) (hpf : ∀ (x : TermD) (hc : Heap) (K : Value → Heap → Prop), Ext h hc → (∀ h', Ext hc h' → K (.bool (pr x)) h') → zhr Tryz.prog tab ov [x.val] hc K fv) (K : Value → Heap → Prop)
    (hk : ∀ h', Ext h h' → K (.bool (l.any pr)) h') : Ok Tryz.prog tab ov 161 [v, fv] h K := by
  refine Ok.into rfl ztI (zaD N161) rfl (m := 7) rfl ?_
  simp -implicitDefEqProofs only [syms, symx, seval, c161]
  refine zlH l v fv pr h hl hs hpf _ (fun h' x => ?_)
  simp -implicitDefEqProofs only [syms, symx, seval, c161, zoi]
  refine zw1 (fun hh => ?_) (fun hh => ?_)
  all_goals
    simp -implicitDefEqProofs only [syms, symx, seval, c161]
    rw [hh] at hk
    exact hk _ x
theorem sl24 (A o : Nat) (k : Int) (h0 : 0 ≤ k) (h4 : k ≤ 4) : zbo tab 24 (.pointer (some ⟨A, o, none⟩)) none (some (.int .i64 k)) none = some (.slice (some ⟨A, o, none⟩) k.toNat 4) := by
  have hG : 4 < G := by decide
  simp only [zbo, ds24, zbH, zfq, if_pos hG, Option.bind_some]
  rw [if_pos ⟨h0, by omega⟩]
  simp [sz23]
theorem zxs (a : AtomD) (h : Heap) (K : Value → Heap → Prop) (hk : ∀ w h', Ext h h' → Sl Rep.term h' w a.args → K w h') : Ok Tryz.prog tab ov 162 [a.val] h K := by
  rw [zab h]
  have z := Ext.refl h
  unfold AtomD.val AtomD.cells
  refine Ok.into rfl zsb (zaD N162) rfl (m := 8) rfl ?_
  simp -implicitDefEqProofs only [syms, symx, seval, c162]
  refine zxn rfl rfl ?_
  simp -implicitDefEqProofs only [syms, symx, seval, c162]
  refine zta rfl rfl ?_
  simp -implicitDefEqProofs only [syms, symx, seval, c162]
  rw [sl24 _ _ _ (by split <;> split <;> omega) (by split <;> split <;> omega)]
  simp -implicitDefEqProofs only [syms, symx, seval, c162]
  have hc : (if 4 < (if a.n < 0 then 0 else a.n) then 4 else (if a.n < 0 then 0 else a.n)).toNat = a.cnt := by
    unfold AtomD.cnt
    split <;> split <;> omega
  rw [hc]
  exact hk _ _ (z.upW _ _ (by omega)) (zxi (a := a) ⟨by rw [zag]; simp, by rw [zbx]; rfl⟩ rfl)
end Go.Proofs.YtemapihoobmonaaGreatDoor
namespace Go.Proofs.YtemapihoobmonaaGreatDoor
open Go.Am
set_option linter.unusedSimpArgs false
set_option linter.unusedVariables false
set_option maxRecDepth 100000
theorem zkO (a : Int) : zaw Tryz.prog (Next.value <$> convert 3 200 (.int .i64 a)) = some (Next.value (.int .u64 (IntKind.u64.wrap a))) := by rfl
theorem zkq (a : Int) : zaw Tryz.prog (Next.value <$> convert 200 3 (.int .u64 a)) = some (Next.value (.int .i64 (IntKind.i64.wrap a))) := by rfl
theorem zkI {T : Tab} {t : TypeId} {k kd : IntKind} {a b : Int} (hb : ¬ b < 0) : binA Tryz.prog T .shr t (.int k a) (.int kd b) = some (.int k (a.fdiv (2 ^ (min b.toNat k.bits)))) := by
  have h1 : ((T.desc t).bind fun d => zkk d (.int k a) (.int kd b)) = none := by
    cases T.desc t with
    | none => rfl
    | some d => cases d <;> rfl
  have h2 : zaw Tryz.prog (binOp .shr t (.int k a) (.int kd b)) = some (.int k (a.fdiv (2 ^ (min b.toNat k.bits)))) := by
    simp [binOp, Op.shift, hb, zcL]
  unfold binA
  have hf : zbO .shr (.int k a) (.int kd b) = none := rfl
  rw [hf]
  simp [h1, h2]
  exact ⟨⟨rfl, rfl⟩, rfl⟩
theorem zb1 {d} {s t ty : TypeId} {x : Operand} {pos af g} {kk : IntKind} {a : Int} {v : Value} {e : Env} {h : Heap} {K : Value → Heap → Prop} (hs : zbF tab s = false) (ht : zbF tab t = false) (hx : zaa e x = .int kk a) (hc : zaw Tryz.prog (Next.value <$> convert s t (.int kk a)) = some (Next.value v)) (hv : plain v = true) : WOp Tryz.prog tab ov ⟨d, .convert s t x, ty, pos, af, g⟩ e h K = K v h := by
  rw [zlU d ty pos af g e h K s t x hs ht]
  have hp : zaL Tryz.prog e ⟨d, .convert s t x, ty, pos, af, g⟩ h = some (v, h) := by
    unfold zaL
    simp [Op.operands, hx, execOp]
    refine ⟨rfl, ?_⟩
    rw [hc]
    simp [hv]
  rw [hp]
  rfl
end Go.Proofs.YtemapihoobmonaaGreatDoor

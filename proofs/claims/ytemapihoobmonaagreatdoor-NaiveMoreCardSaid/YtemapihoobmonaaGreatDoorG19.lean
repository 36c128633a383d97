/- The code of some functions, node by node, for simp. Written by a program (mkcode.py). No condition. -/
import Derived.Test.YtemapihoobmonaaGreatDoorG17
import Derived.Test.YtemapihoobmonaaGreatDoorG15
import Derived.KernelRfl
import Derived.Test.YtemapihoobmonaaGreatDoorG18
namespace Go.Proofs.YtemapihoobmonaaGreatDoor
open Go.Am
set_option linter.unusedVariables false
set_option linter.unusedSimpArgs false
set_option maxRecDepth 100000
set_option maxHeartbeats 0
noncomputable def N167 := zaz Tryz.f167
noncomputable def x167 := PLift.up (by have c := zah N167 Tryz.f167; simp only [zao, Tryz.f167, Option.getD_some, zal, opsF, opsX, zag, zaA, dstL, zam, List.append_eq, List.cons_append, List.nil_append, seval] at c; exact nd c <| nd @zdm <| nd @ix36 <| nd @ld9 <| nd @ln36 <| @zyu)
theorem c167 : type_of% x167.down := x167.down
noncomputable def N168 := zaz Tryz.f168
noncomputable def x168 := PLift.up (by have c := zah N168 Tryz.f168; simp only [zao, Tryz.f168, Option.getD_some, zal, opsF, opsX, zag, zaA, dstL, zam, List.append_eq, List.cons_append, List.nil_append, seval] at c; exact nd c <| @zzn)
theorem c168 : type_of% x168.down := x168.down
noncomputable def N169 := zaz Tryz.f169
noncomputable def x169 := PLift.up (by have c := zah N169 Tryz.f169; simp only [zao, Tryz.f169, Option.getD_some, zal, opsF, opsX, zag, zaA, dstL, zam, List.append_eq, List.cons_append, List.nil_append, seval] at c; exact nd c <| nd @zdm <| nd @ix36 <| nd @ld36 <| nd @ld9 <| @zyK)
theorem c169 : type_of% x169.down := x169.down
noncomputable def N131 := zaz Tryz.f131
noncomputable def x131 := PLift.up (by have c := zah N131 Tryz.f131; simp only [zao, Tryz.f131, Option.getD_some, zal, opsF, opsX, zag, zaA, dstL, zam, List.append_eq, List.cons_append, List.nil_append, seval] at c; exact nd c <| nd @al23 <| nd @zdm <| nd @zhY <| nd @ix36 <| nd @ld23 <| nd @ld36 <| nd @ld9 <| nd @ln36 <| @zzh)
theorem c131 : type_of% x131.down := x131.down
noncomputable def N129 := zaz Tryz.f129
noncomputable def x129 := PLift.up (by have c := zah N129 Tryz.f129; simp only [zao, Tryz.f129, Option.getD_some, zal, opsF, opsX, zag, zaA, dstL, zam, List.append_eq, List.cons_append, List.nil_append, seval] at c; exact nd c <| nd @zwy <| nd @al23 <| nd @zhY <| nd @zem <| nd @zdr <| nd @ix36 <| nd @zu7 <| nd @ld4 <| nd @ld9 <| nd @ln36 <| @zyD)
theorem c129 : type_of% x129.down := x129.down
noncomputable def N96 := zaz Tryz.f96
noncomputable def x96 := PLift.up (by have c := zah N96 Tryz.f96; simp only [zao, Tryz.f96, Option.getD_some, zal, opsF, opsX, zag, zaA, dstL, zam, List.append_eq, List.cons_append, List.nil_append, seval] at c; exact nd c <| nd @al23 <| nd @zem <| nd @zdr <| nd @ld23 <| nd @ld4 <| nd @ld9 <| @fi96)
theorem c96 : type_of% x96.down := x96.down
noncomputable def N170 := zaz Tryz.f170
noncomputable def x170 := PLift.up (by have c := zah N170 Tryz.f170; simp only [zao, Tryz.f170, Option.getD_some, zal, opsF, opsX, zag, zaA, dstL, zam, List.append_eq, List.cons_append, List.nil_append, seval] at c; exact nd c <| nd @zdm <| nd @zhY <| nd @zem <| nd @zdr <| nd @ld4 <| nd @ld9 <| @zzl)
theorem c170 : type_of% x170.down := x170.down
noncomputable def N171 := zaz Tryz.f171
noncomputable def x171 := PLift.up (by have c := zah N171 Tryz.f171; simp only [zao, Tryz.f171, Option.getD_some, zal, opsF, opsX, zag, zaA, dstL, zam, List.append_eq, List.cons_append, List.nil_append, seval] at c; exact nd c <| nd @bs36 <| nd @zu7 <| nd @ld36 <| nd @ln36 <| @zzN)
theorem c171 : type_of% x171.down := x171.down
noncomputable def N193 := zaz Tryz.f193
noncomputable def x193 := PLift.up (by have c := zah N193 Tryz.f193; simp only [zao, Tryz.f193, Option.getD_some, zal, opsF, opsX, zag, zaA, dstL, zam, List.append_eq, List.cons_append, List.nil_append, seval] at c; exact nd c <| nd @zdm <| nd @ix36 <| nd @ld36 <| nd @ld9 <| @zzR)
theorem c193 : type_of% x193.down := x193.down
noncomputable def N172 := zaz Tryz.f172
noncomputable def x172 := PLift.up (by have c := zah N172 Tryz.f172; simp only [zao, Tryz.f172, Option.getD_some, zal, opsF, opsX, zag, zaA, dstL, zam, List.append_eq, List.cons_append, List.nil_append, seval] at c; exact nd c <| nd @zwy <| nd @bs36 <| nd @zdm <| nd @zhY <| nd @ix36 <| nd @zu7 <| nd @ld23 <| nd @ld9 <| nd @ln36 <| @zyL)
theorem c172 : type_of% x172.down := x172.down
noncomputable def N133 := zaz Tryz.f133
noncomputable def x133 := PLift.up (by have c := zah N133 Tryz.f133; simp only [zao, Tryz.f133, Option.getD_some, zal, opsF, opsX, zag, zaA, dstL, zam, List.append_eq, List.cons_append, List.nil_append, seval] at c; exact nd c <| nd @zwy <| nd @al23 <| nd @bs36 <| nd @zdr <| nd @zu7 <| nd @ld23 <| nd @ld9 <| @zzU)
theorem c133 : type_of% x133.down := x133.down
noncomputable def N130 := zaz Tryz.f130
noncomputable def x130 := PLift.up (by have c := zah N130 Tryz.f130; simp only [zao, Tryz.f130, Option.getD_some, zal, opsF, opsX, zag, zaA, dstL, zam, List.append_eq, List.cons_append, List.nil_append, seval] at c; exact nd c <| nd @zjf <| nd @zju <| nd @zgV <| nd @ld3 <| nd @ld9 <| @zzM)
theorem c130 : type_of% x130.down := x130.down
noncomputable def N95 := zaz Tryz.f95
noncomputable def x95 := PLift.up (by have c := zah N95 Tryz.f95; simp only [zao, Tryz.f95, Option.getD_some, zal, opsF, opsX, zag, zaA, dstL, zam, List.append_eq, List.cons_append, List.nil_append, seval] at c; exact nd c <| nd @al23 <| nd @zem <| nd @zdr <| nd @zgV <| nd @zee <| nd @ix24 <| nd @ld23 <| nd @ld24 <| nd @ld26 <| nd @ld3 <| nd @ld4 <| nd @ld9 <| @fi95)
theorem c95 : type_of% x95.down := x95.down
noncomputable def N132 := zaz Tryz.f132
noncomputable def x132 := PLift.up (by have c := zah N132 Tryz.f132; simp only [zao, Tryz.f132, Option.getD_some, zal, opsF, opsX, zag, zaA, dstL, zam, List.append_eq, List.cons_append, List.nil_append, seval] at c; exact nd c <| nd @bs36 <| @zza)
theorem c132 : type_of% x132.down := x132.down
end Go.Proofs.YtemapihoobmonaaGreatDoor
namespace Go.Proofs.YtemapihoobmonaaGreatDoor
open Go.Am
set_option linter.unusedSimpArgs false
set_option linter.unusedVariables false
set_option maxRecDepth 100000
theorem zh3 (a : Int) : zaD Tryz.prog (Next.value <$> convert 3 200 (.int .i64 a)) = some (Next.value (.int .u64 (IntKind.u64.wrap a))) := by rfl
theorem zh2 (a : Int) : zaD Tryz.prog (Next.value <$> convert 200 3 (.int .u64 a)) = some (Next.value (.int .i64 (IntKind.i64.wrap a))) := by rfl
theorem zil {T : Tab} {t : TypeId} {k kd : IntKind} {a b : Int} (hb : ¬ b < 0) : binA Tryz.prog T .shr t (.int k a) (.int kd b) = some (.int k (a.fdiv (2 ^ (min b.toNat k.bits)))) := by
  have h1 : ((T.desc t).bind fun d => zng d (.int k a) (.int kd b)) = none := by
    cases T.desc t with
    | none => rfl
    | some d => cases d <;> rfl
  have h2 : zaD Tryz.prog (binOp .shr t (.int k a) (.int kd b)) = some (.int k (a.fdiv (2 ^ (min b.toNat k.bits)))) := by
    simp [binOp, Op.shift, hb, zfs]
  unfold binA
  have hf : zb1 .shr (.int k a) (.int kd b) = none := rfl
  rw [hf]
  simp [h1, h2]
  exact ⟨⟨rfl, rfl⟩, rfl⟩
theorem ze5 {d} {s t ty : TypeId} {x : Operand} {pos af g} {kk : IntKind} {a : Int} {v : Value} {e : Env} {h : Heap} {K : Value → Heap → Prop} (hs : zbB tab s = false) (ht : zbB tab t = false) (hx : zab e x = .int kk a) (hc : zaD Tryz.prog (Next.value <$> convert s t (.int kk a)) = some (Next.value v)) (hv : plain v = true) : WOp Tryz.prog tab ov ⟨d, .convert s t x, ty, pos, af, g⟩ e h K = K v h := by
  rw [zmw d ty pos af g e h K s t x hs ht]
  have hp : zaN Tryz.prog e ⟨d, .convert s t x, ty, pos, af, g⟩ h = some (v, h) := by
    unfold zaN
    simp [Op.operands, hx, execOp]
    refine ⟨rfl, ?_⟩
    rw [hc]
    simp [hv]
  rw [hp]
  rfl
end Go.Proofs.YtemapihoobmonaaGreatDoor
namespace Go.Proofs.YtemapihoobmonaaGreatDoor
open Go.Am
set_option linter.unusedSimpArgs false
set_option linter.unusedVariables false
set_option maxRecDepth 100000
set_option maxHeartbeats 0
theorem zlV (w : Nat) (hn : w ≤ 1000) (fv : Value) (pr : Nat → Bool) (h : Heap) (hpf : ∀ (i : Nat) (hc : Heap) (K : Value → Heap → Prop), i < w → Ext h hc → (∀ h', Ext hc h' → K (.bool (pr i)) h') → zgE Tryz.prog tab ov [.int .i64 i] hc K fv) (K : Value → Heap → Prop)
    (hk : ∀ (h' : Heap) (i : Nat), Ext h h' → i ≤ w → (0 < i → pr (i - 1) = false) → (i < w → pr i = true) → K (.int .i64 i) h') : Ok Tryz.prog tab ov 168 [.int .i64 w, fv] h K := by
  rw [zaa h]
  have z := Ext.refl h
  refine Ok.into rfl ztJ (zaB N168) rfl (m := 24) rfl ?_
  simp -implicitDefEqProofs only [syms, symx, seval, c168]
  obtain ⟨I1, hI1⟩ : ∃ I : Nat → Env → Heap → Prop, I = (fun n e h' => ∃ (lo hi : Nat) (h1 : Heap), h' = h1.lay [] h1.low ∧ Ext h h1 ∧ (n = hi - lo ∧ lo ≤ hi ∧ hi ≤ w ∧ (0 < lo → pr (lo - 1) = false) ∧ (hi < w → pr hi = true)) ∧ ∃ J : Nat → Value, e = (.int .i64 w :: fv :: jr J 2 3 (.int .i64 lo :: .int .i64 hi :: jr J 7 19 ([])))) := ⟨_, rfl⟩
  refine zas I1 _ (by rw [hI1]; exact ⟨0, w, _, rfl, z, ⟨rfl, by omega, by omega, by omega, by omega⟩, junk (by kernel_rfl)⟩) ?_
  intro n e h' hin
  rw [hI1] at hin
  obtain ⟨lo, hi, h1', rfl, z, hinv, J, rfl⟩ := hin
  obtain ⟨rfl, h1, h2, h3, h4⟩ := hinv
  simp -implicitDefEqProofs only [syms, symx, seval, c168]
  refine zaw (fun hlt => ?_) (fun hlt => ?_)
  rotate_left
  · simp -implicitDefEqProofs only [syms, symx, seval, c168]
    obtain rfl : lo = hi := by omega
    exact hk _ lo (z.upW _ _ (by omega)) h2 h3 h4
  have e1 : IntKind.i64.wrap ((lo : Int) + (hi : Int)) = ((lo + hi : Nat) : Int) := by rw [zae (by omega) (by omega)]; omega
  have e2 : IntKind.u64.wrap ((lo + hi : Nat) : Int) = ((lo + hi : Nat) : Int) := by unfold IntKind.wrap; simp [IntKind.bits]; omega
  have e3 : IntKind.i64.wrap (((lo + hi) / 2 : Nat) : Int) = (((lo + hi) / 2 : Nat) : Int) := zae (by omega) (by omega)
  have e4 : Int.fdiv ((lo + hi : Nat) : Int) (2 ^ (min (1 : Int).toNat (IntKind.bits .u64))) = (((lo + hi) / 2 : Nat) : Int) := by
    show Int.fdiv ((lo + hi : Nat) : Int) 2 = _
    rw [Int.fdiv_eq_ediv_of_nonneg _ (by omega)]
    omega
  repeat' ( simp -implicitDefEqProofs only [syms, symx, seval, c168, e1])
  rw [ze5 rfl rfl rfl (zh3 _) rfl, e2]
  repeat' ( simp -implicitDefEqProofs only [syms, symx, seval, c168, e1])
  rw [zil (by decide), e4]
  repeat' ( simp -implicitDefEqProofs only [syms, symx, seval, c168, e1])
  rw [ze5 rfl rfl rfl (zh2 _) rfl, e3]
  repeat' ( simp -implicitDefEqProofs only [syms, symx, seval, c168, e1])
  refine hpf ((lo + hi) / 2) _ _ (by omega) (z.upW _ _ (by omega)) (fun h' x => ?_)
  ((skip); replace z := z.overW x (by (try simp only [lsz]); omega); rw [zaa h'])
  have e5 : IntKind.i64.wrap ((((lo + hi) / 2 : Nat) : Int) + 1) = (((lo + hi) / 2 + 1 : Nat) : Int) := by rw [zae (by omega) (by omega)]; omega
  cases hx : pr ((lo + hi) / 2)
  · repeat' (first | simp -implicitDefEqProofs only [syms, symx, seval, c168] | ((with_reducible_and_instances apply zaf); (· rfl)))
    rw [e5]
    (rw [hI1]; with_reducible refine zac (m := _) ?_ ⟨(lo + hi) / 2 + 1, hi, _, rfl, z, ⟨rfl, by omega, by omega, by intro _; simpa using hx, h4⟩, junk (by kernel_rfl)⟩; omega)
  · repeat' (first | simp -implicitDefEqProofs only [syms, symx, seval, c168] | ((with_reducible_and_instances apply zaf); (· rfl)))
    (rw [hI1]; with_reducible refine zac (m := _) ?_ ⟨lo, (lo + hi) / 2, _, rfl, z, ⟨rfl, by omega, by omega, h3, by intro _; exact hx⟩, junk (by kernel_rfl)⟩; omega)
end Go.Proofs.YtemapihoobmonaaGreatDoor

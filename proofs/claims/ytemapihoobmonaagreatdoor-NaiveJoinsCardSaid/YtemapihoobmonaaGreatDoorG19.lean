/- Walks: an atom's terms; is it ground? Written out by fill2.py. No condition. -/
import Derived.Test.YtemapihoobmonaaGreatDoorG16
import Derived.Test.YtemapihoobmonaaGreatDoorG18
import Derived.Test.YtemapihoobmonaaGreatDoorG17
import Derived.Test.YtemapihoobmonaaGreatDoorG15
import Derived.KernelRfl
namespace Go.Proofs.YtemapihoobmonaaGreatDoor
open Go.Am
set_option linter.unusedSimpArgs false
set_option linter.unusedVariables false
set_option maxRecDepth 100000
set_option maxHeartbeats 0
theorem zmb (l : List TermD) (v fv : Value) (pr : TermD → Bool) (h : Heap) (hl : Sl Rep.term h v l) (hs : l.length ≤ 1000) (hpf : ∀ (x : TermD) (hc : Heap) (K : Value → Heap → Prop), Ext h hc → (∀ h', Ext hc h' → K (.bool (pr x)) h') → zgN Tryz.prog tab ov [x.val] hc K fv) (K : Value → Heap → Prop)
    (hk : ∀ h', Ext h h' → K (.int .i64 (idxP pr l)) h') : Ok Tryz.prog tab ov 189 [v, fv] h K := by
  rw [zaa h]
  have z := Ext.refl h
  refine Ok.into rfl ztr (zaB N189) rfl (m := 17) rfl ?_
  simp -implicitDefEqProofs only [syms, symx, seval, c189]
  repeat' (( with_reducible_and_instances refine zcs hl zk0 ?_) <;> simp -implicitDefEqProofs only [syms, symx, seval, c189])
  obtain ⟨I1, hI1⟩ : ∃ I : Nat → Env → Heap → Prop, I = (fun n e h' => ∃ (i : Nat) (h1 : Heap), h' = h1.lay [] h1.low ∧ Ext h h1 ∧ (n = l.length - i ∧ i ≤ l.length ∧ ∀ x ∈ l.take i, pr x = false) ∧ ∃ J : Nat → Value, e = (v :: fv :: jr J 2 5 (.int .i64 l.length :: .int .i64 i :: jr J 9 10 ([])))) := ⟨_, rfl⟩
  refine zat I1 _ (by rw [hI1]; exact ⟨0, _, rfl, z, ⟨rfl, by omega, by simp⟩, junk (by kernel_rfl)⟩) ?_
  intro n e h' hin
  rw [hI1] at hin
  obtain ⟨i, h1', rfl, z, hinv, J, rfl⟩ := hin
  obtain ⟨rfl, hi, hall⟩ := hinv
  have hw : IntKind.i64.wrap ((i : Int) + 1) = ((i + 1 : Nat) : Int) := by rw [zae (by omega) (by omega)]; omega
  repeat' (first | simp -implicitDefEqProofs only [syms, symx, seval, c189] | ((with_reducible  apply zaw ) <;> intro _))
  rotate_left
  · rw [List.take_of_length_le (by omega)] at hall
    have := zkg hall
    rw [this] at hk
    exact hk _ (z.upW _ _ (by omega))
  obtain ⟨r, hr, hr'⟩ := za6 (l := l) (i := i) (by assumption)
  repeat' ((first | with_reducible_and_instances refine zoY (hl.mono z.inc) zk0 sz23 (by omega) hr (fun p hp => ?_) | with_reducible_and_instances refine ldt hp ag23 sz23 ?_) <;> simp -implicitDefEqProofs only [syms, symx, seval, c189])
  refine hpf _ _ _ (z.upW _ _ (by omega)) (fun h' x => ?_)
  ((skip); replace z := z.overW x (by (try simp only [lsz]); omega); rw [zaa h'])
  cases hx : pr r
  rotate_left
  · simp -implicitDefEqProofs only [syms, symx, seval, c189]
    have := zik hr' hall hx
    rw [this] at hk
    exact hk _ (z.upW _ _ (by omega))
  · simp -implicitDefEqProofs only [syms, symx, seval, c189]
    rw [hw]
    (rw [hI1]; with_reducible refine zac (m := _) ?_ ⟨i + 1, _, rfl, z, ⟨rfl, by omega, za7 (i := i) (P := fun x : TermD => pr x = false) hr' hall hx⟩, junk (by kernel_rfl)⟩; omega)
theorem zeo (l : List TermD) (v fv : Value) (pr : TermD → Bool) (h : Heap) (hl : Sl Rep.term h v l) (hs : l.length ≤ 1000) (hpf : ∀ (x : TermD) (hc : Heap) (K : Value → Heap → Prop), Ext h hc → (∀ h', Ext hc h' → K (.bool (pr x)) h') → zgN Tryz.prog tab ov [x.val] hc K fv) (K : Value → Heap → Prop)
    (hk : ∀ h', Ext h h' → K (.bool (l.any pr)) h') : Ok Tryz.prog tab ov 161 [v, fv] h K := by
  refine Ok.into rfl zti (zaB N161) rfl (m := 7) rfl ?_
  simp -implicitDefEqProofs only [syms, symx, seval, c161]
  refine zmb l v fv pr h hl hs hpf _ (fun h' x => ?_)
  simp -implicitDefEqProofs only [syms, symx, seval, c161, znl]
  refine zfU (fun hh => ?_) (fun hh => ?_)
  all_goals
    simp -implicitDefEqProofs only [syms, symx, seval, c161]
    rw [hh] at hk
    exact hk _ x
theorem zqx (x : TermD) (h : Heap) (K : Value → Heap → Prop) (hk : ∀ h', Ext h h' → K (.bool x.v) h') : Ok Tryz.prog tab ov 166 [x.val] h K := by
  rw [zaa h]
  unfold TermD.val TermD.cells
  refine Ok.into rfl zs1 (zaB N166) rfl (m := 4) rfl ?_
  simp -implicitDefEqProofs only [syms, symx, seval, c166]
  refine zfU (fun hh => ?_) (fun hh => ?_)
  all_goals
    simp -implicitDefEqProofs only [syms, symx, seval, c166]
    rw [hh] at hk
    exact hk _ ((Ext.refl h).upW _ _ (by omega))
theorem sl24 (A o : Nat) (k : Int) (h0 : 0 ≤ k) (h4 : k ≤ 4) : zbq tab 24 (.pointer (some ⟨A, o, none⟩)) none (some (.int .i64 k)) none = some (.slice (some ⟨A, o, none⟩) k.toNat 4) := by
  have hG : 4 < G := by decide
  simp only [zbq, ds24, zb6, zhl, if_pos hG, Option.bind_some]
  rw [if_pos ⟨h0, by omega⟩]
  simp [sz23]
theorem zk8 (a : AtomD) (h : Heap) (K : Value → Heap → Prop) (hk : ∀ w h', Ext h h' → Sl Rep.term h' w a.args → K w h') : Ok Tryz.prog tab ov 162 [a.val] h K := by
  rw [zaa h]
  have z := Ext.refl h
  unfold AtomD.val AtomD.cells
  refine Ok.into rfl zur (zaB N162) rfl (m := 8) rfl ?_
  simp -implicitDefEqProofs only [syms, symx, seval, c162]
  refine zop rfl rfl ?_
  simp -implicitDefEqProofs only [syms, symx, seval, c162]
  refine zny rfl rfl ?_
  simp -implicitDefEqProofs only [syms, symx, seval, c162]
  rw [sl24 _ _ _ (by split <;> split <;> omega) (by split <;> split <;> omega)]
  simp -implicitDefEqProofs only [syms, symx, seval, c162]
  have hc : (if 4 < (if a.n < 0 then 0 else a.n) then 4 else (if a.n < 0 then 0 else a.n)).toNat = a.cnt := by
    unfold AtomD.cnt
    split <;> split <;> omega
  rw [hc]
  exact hk _ _ (z.upW _ _ (by omega)) (zxd (a := a) ⟨by rw [zad]; simp, by rw [za4]; rfl⟩ rfl)
theorem zma (a : AtomD) (h : Heap) (K : Value → Heap → Prop) (hk : ∀ h', Ext h h' → K (.bool a.ground) h') : Ok Tryz.prog tab ov 128 [a.val] h K := by
  rw [zaa h]
  have z := Ext.refl h
  unfold AtomD.val AtomD.cells
  refine Ok.into rfl ztJ (zaB N128) rfl (m := 6) rfl ?_
  simp -implicitDefEqProofs only [syms, symx, seval, c128]
  refine zk8 a _ _ (fun w h' x ha => ?_)
  ((skip); replace z := z.overW x (by (try simp only [lsz]); omega); (try replace ha := ha.over x); rw [zaa h'])
  simp -implicitDefEqProofs only [syms, symx, seval, c128]
  have hcn : a.args.length ≤ 1000 := by rw [zbf]; unfold AtomD.cnt; omega
  refine zeo _ _ _ (fun t => t.v) _ (ha.lay _ _) hcn (fun t hc K' _ hK => by rw [zbu]; exact zqx t hc K' hK) _ (fun h' x => ?_)
  ((skip); replace z := z.overW x (by (try simp only [lsz]); omega); (try replace ha := ha.over x); rw [zaa h'])
  simp -implicitDefEqProofs only [syms, symx, seval, c128]
  refine zaf rfl ?_
  simp -implicitDefEqProofs only [syms, symx, seval, c128]
  exact hk _ (z.upW _ _ (by omega))
theorem zj7 (l : List AtomD) (v fv : Value) (pr : AtomD → Bool) (h : Heap) (hl : Sl Rep.atom h v l) (hs : l.length ≤ 1000) (hpf : ∀ (x : AtomD) (hc : Heap) (K : Value → Heap → Prop), Ext h hc → (∀ h', Ext hc h' → K (.bool (pr x)) h') → zgN Tryz.prog tab ov [x.val] hc K fv) (K : Value → Heap → Prop)
    (hk : ∀ h', Ext h h' → K (.int .i64 (idxP pr l)) h') : Ok Tryz.prog tab ov 151 [v, fv] h K := by
  rw [zaa h]
  have z := Ext.refl h
  refine Ok.into rfl ztM (zaB N151) rfl (m := 17) rfl ?_
  simp -implicitDefEqProofs only [syms, symx, seval, c151]
  repeat' (( with_reducible_and_instances refine zcs hl ds27 ?_) <;> simp -implicitDefEqProofs only [syms, symx, seval, c151])
  obtain ⟨I1, hI1⟩ : ∃ I : Nat → Env → Heap → Prop, I = (fun n e h' => ∃ (i : Nat) (h1 : Heap), h' = h1.lay [] h1.low ∧ Ext h h1 ∧ (n = l.length - i ∧ i ≤ l.length ∧ ∀ x ∈ l.take i, pr x = false) ∧ ∃ J : Nat → Value, e = (v :: fv :: jr J 2 5 (.int .i64 l.length :: .int .i64 i :: jr J 9 10 ([])))) := ⟨_, rfl⟩
  refine zat I1 _ (by rw [hI1]; exact ⟨0, _, rfl, z, ⟨rfl, by omega, by simp⟩, junk (by kernel_rfl)⟩) ?_
  intro n e h' hin
  rw [hI1] at hin
  obtain ⟨i, h1', rfl, z, hinv, J, rfl⟩ := hin
  obtain ⟨rfl, hi, hall⟩ := hinv
  have hw : IntKind.i64.wrap ((i : Int) + 1) = ((i + 1 : Nat) : Int) := by rw [zae (by omega) (by omega)]; omega
  repeat' (first | simp -implicitDefEqProofs only [syms, symx, seval, c151] | ((with_reducible  apply zaw ) <;> intro _))
  rotate_left
  · rw [List.take_of_length_le (by omega)] at hall
    have := zkg hall
    rw [this] at hk
    exact hk _ (z.upW _ _ (by omega))
  obtain ⟨r, hr, hr'⟩ := za6 (l := l) (i := i) (by assumption)
  repeat' ((first | with_reducible_and_instances refine zee (hl.mono z.inc) ds27 sz26 (by omega) hr (fun p hp => ?_) | with_reducible_and_instances refine lda hp ag26 sz26 ?_) <;> simp -implicitDefEqProofs only [syms, symx, seval, c151])
  refine hpf _ _ _ (z.upW _ _ (by omega)) (fun h' x => ?_)
  ((skip); replace z := z.overW x (by (try simp only [lsz]); omega); rw [zaa h'])
  cases hx : pr r
  rotate_left
  · simp -implicitDefEqProofs only [syms, symx, seval, c151]
    have := zik hr' hall hx
    rw [this] at hk
    exact hk _ (z.upW _ _ (by omega))
  · simp -implicitDefEqProofs only [syms, symx, seval, c151]
    rw [hw]
    (rw [hI1]; with_reducible refine zac (m := _) ?_ ⟨i + 1, _, rfl, z, ⟨rfl, by omega, za7 (i := i) (P := fun x : AtomD => pr x = false) hr' hall hx⟩, junk (by kernel_rfl)⟩; omega)
theorem zhe (l : List AtomD) (v fv : Value) (pr : AtomD → Bool) (h : Heap) (hl : Sl Rep.atom h v l) (hs : l.length ≤ 1000) (hpf : ∀ (x : AtomD) (hc : Heap) (K : Value → Heap → Prop), Ext h hc → (∀ h', Ext hc h' → K (.bool (pr x)) h') → zgN Tryz.prog tab ov [x.val] hc K fv) (K : Value → Heap → Prop)
    (hk : ∀ h', Ext h h' → K (.bool (l.any pr)) h') : Ok Tryz.prog tab ov 126 [v, fv] h K := by
  refine Ok.into rfl zr2 (zaB N126) rfl (m := 7) rfl ?_
  simp -implicitDefEqProofs only [syms, symx, seval, c126]
  refine zj7 l v fv pr h hl hs hpf _ (fun h' x => ?_)
  simp -implicitDefEqProofs only [syms, symx, seval, c126, znl]
  refine zfU (fun hh => ?_) (fun hh => ?_)
  all_goals
    simp -implicitDefEqProofs only [syms, symx, seval, c126]
    rw [hh] at hk
    exact hk _ x
end Go.Proofs.YtemapihoobmonaaGreatDoor
namespace Go.Proofs.YtemapihoobmonaaGreatDoor
open Go.Am
set_option linter.unusedVariables false
set_option linter.unusedSimpArgs false
set_option maxRecDepth 100000
set_option maxHeartbeats 0
noncomputable def N167 := zaA Tryz.f167
noncomputable def x167 := PLift.up (by have c := zah N167 Tryz.f167; simp only [zao, Tryz.f167, Option.getD_some, zan, opsF, opsX, zag, zaz, dstL, zak, List.append_eq, List.cons_append, List.nil_append, seval] at c; exact nd c <| nd @zbH <| nd @ix36 <| nd @ld9 <| nd @ln36 <| @zAs)
theorem c167 : type_of% x167.down := x167.down
noncomputable def N168 := zaA Tryz.f168
noncomputable def x168 := PLift.up (by have c := zah N168 Tryz.f168; simp only [zao, Tryz.f168, Option.getD_some, zan, opsF, opsX, zag, zaz, dstL, zak, List.append_eq, List.cons_append, List.nil_append, seval] at c; exact nd c <| @zzD)
theorem c168 : type_of% x168.down := x168.down
noncomputable def N169 := zaA Tryz.f169
noncomputable def x169 := PLift.up (by have c := zah N169 Tryz.f169; simp only [zao, Tryz.f169, Option.getD_some, zan, opsF, opsX, zag, zaz, dstL, zak, List.append_eq, List.cons_append, List.nil_append, seval] at c; exact nd c <| nd @zbH <| nd @ix36 <| nd @ld36 <| nd @ld9 <| @zzZ)
theorem c169 : type_of% x169.down := x169.down
noncomputable def N131 := zaA Tryz.f131
noncomputable def x131 := PLift.up (by have c := zah N131 Tryz.f131; simp only [zao, Tryz.f131, Option.getD_some, zan, opsF, opsX, zag, zaz, dstL, zak, List.append_eq, List.cons_append, List.nil_append, seval] at c; exact nd c <| nd @al23 <| nd @zbH <| nd @zcR <| nd @ix36 <| nd @ld23 <| nd @ld36 <| nd @ld9 <| nd @ln36 <| @zze)
theorem c131 : type_of% x131.down := x131.down
noncomputable def N129 := zaA Tryz.f129
noncomputable def x129 := PLift.up (by have c := zah N129 Tryz.f129; simp only [zao, Tryz.f129, Option.getD_some, zan, opsF, opsX, zag, zaz, dstL, zak, List.append_eq, List.cons_append, List.nil_append, seval] at c; exact nd c <| nd @zxN <| nd @al23 <| nd @zcR <| nd @zdl <| nd @zcr <| nd @ix36 <| nd @zqG <| nd @ld4 <| nd @ld9 <| nd @ln36 <| @zzx)
theorem c129 : type_of% x129.down := x129.down
noncomputable def N96 := zaA Tryz.f96
noncomputable def x96 := PLift.up (by have c := zah N96 Tryz.f96; simp only [zao, Tryz.f96, Option.getD_some, zan, opsF, opsX, zag, zaz, dstL, zak, List.append_eq, List.cons_append, List.nil_append, seval] at c; exact nd c <| nd @al23 <| nd @zdl <| nd @zcr <| nd @ld23 <| nd @ld4 <| nd @ld9 <| @fi96)
theorem c96 : type_of% x96.down := x96.down
noncomputable def N170 := zaA Tryz.f170
noncomputable def x170 := PLift.up (by have c := zah N170 Tryz.f170; simp only [zao, Tryz.f170, Option.getD_some, zan, opsF, opsX, zag, zaz, dstL, zak, List.append_eq, List.cons_append, List.nil_append, seval] at c; exact nd c <| nd @zbH <| nd @zcR <| nd @zdl <| nd @zcr <| nd @ld4 <| nd @ld9 <| @zzR)
theorem c170 : type_of% x170.down := x170.down
noncomputable def N171 := zaA Tryz.f171
noncomputable def x171 := PLift.up (by have c := zah N171 Tryz.f171; simp only [zao, Tryz.f171, Option.getD_some, zan, opsF, opsX, zag, zaz, dstL, zak, List.append_eq, List.cons_append, List.nil_append, seval] at c; exact nd c <| nd @bs36 <| nd @zqG <| nd @ld36 <| nd @ln36 <| @zAj)
theorem c171 : type_of% x171.down := x171.down
noncomputable def N193 := zaA Tryz.f193
noncomputable def x193 := PLift.up (by have c := zah N193 Tryz.f193; simp only [zao, Tryz.f193, Option.getD_some, zan, opsF, opsX, zag, zaz, dstL, zak, List.append_eq, List.cons_append, List.nil_append, seval] at c; exact nd c <| nd @zbH <| nd @ix36 <| nd @ld36 <| nd @ld9 <| @zzr)
theorem c193 : type_of% x193.down := x193.down
noncomputable def N172 := zaA Tryz.f172
noncomputable def x172 := PLift.up (by have c := zah N172 Tryz.f172; simp only [zao, Tryz.f172, Option.getD_some, zan, opsF, opsX, zag, zaz, dstL, zak, List.append_eq, List.cons_append, List.nil_append, seval] at c; exact nd c <| nd @zxN <| nd @bs36 <| nd @zbH <| nd @zcR <| nd @ix36 <| nd @zqG <| nd @ld23 <| nd @ld9 <| nd @ln36 <| @zzw)
theorem c172 : type_of% x172.down := x172.down
noncomputable def N133 := zaA Tryz.f133
noncomputable def x133 := PLift.up (by have c := zah N133 Tryz.f133; simp only [zao, Tryz.f133, Option.getD_some, zan, opsF, opsX, zag, zaz, dstL, zak, List.append_eq, List.cons_append, List.nil_append, seval] at c; exact nd c <| nd @zxN <| nd @al23 <| nd @bs36 <| nd @zcr <| nd @zqG <| nd @ld23 <| nd @ld9 <| @zzn)
theorem c133 : type_of% x133.down := x133.down
noncomputable def N130 := zaA Tryz.f130
noncomputable def x130 := PLift.up (by have c := zah N130 Tryz.f130; simp only [zao, Tryz.f130, Option.getD_some, zan, opsF, opsX, zag, zaz, dstL, zak, List.append_eq, List.cons_append, List.nil_append, seval] at c; exact nd c <| nd @zhG <| nd @zhU <| nd @zgk <| nd @ld3 <| nd @ld9 <| @zzq)
theorem c130 : type_of% x130.down := x130.down
noncomputable def N95 := zaA Tryz.f95
noncomputable def x95 := PLift.up (by have c := zah N95 Tryz.f95; simp only [zao, Tryz.f95, Option.getD_some, zan, opsF, opsX, zag, zaz, dstL, zak, List.append_eq, List.cons_append, List.nil_append, seval] at c; exact nd c <| nd @al23 <| nd @zdl <| nd @zcr <| nd @zgk <| nd @zeO <| nd @ix24 <| nd @ld23 <| nd @ld24 <| nd @ld26 <| nd @ld3 <| nd @ld4 <| nd @ld9 <| @fi95)
theorem c95 : type_of% x95.down := x95.down
noncomputable def N132 := zaA Tryz.f132
noncomputable def x132 := PLift.up (by have c := zah N132 Tryz.f132; simp only [zao, Tryz.f132, Option.getD_some, zan, opsF, opsX, zag, zaz, dstL, zak, List.append_eq, List.cons_append, List.nil_append, seval] at c; exact nd c <| nd @bs36 <| @zAq)
theorem c132 : type_of% x132.down := x132.down
end Go.Proofs.YtemapihoobmonaaGreatDoor
namespace Go.Proofs.YtemapihoobmonaaGreatDoor
open Go.Am
set_option linter.unusedSimpArgs false
set_option linter.unusedVariables false
set_option maxRecDepth 100000
theorem zhN (a : Int) : zaE Tryz.prog (Next.value <$> convert 3 200 (.int .i64 a)) = some (Next.value (.int .u64 (IntKind.u64.wrap a))) := by rfl
theorem ziK (a : Int) : zaE Tryz.prog (Next.value <$> convert 200 3 (.int .u64 a)) = some (Next.value (.int .i64 (IntKind.i64.wrap a))) := by rfl
theorem ziq {T : Tab} {t : TypeId} {k kd : IntKind} {a b : Int} (hb : ¬ b < 0) : binA Tryz.prog T .shr t (.int k a) (.int kd b) = some (.int k (a.fdiv (2 ^ (min b.toNat k.bits)))) := by
  have h1 : ((T.desc t).bind fun d => zlX d (.int k a) (.int kd b)) = none := by
    cases T.desc t with
    | none => rfl
    | some d => cases d <;> rfl
  have h2 : zaE Tryz.prog (binOp .shr t (.int k a) (.int kd b)) = some (.int k (a.fdiv (2 ^ (min b.toNat k.bits)))) := by
    simp [binOp, Op.shift, hb, zeK]
  unfold binA
  have hf : zbZ .shr (.int k a) (.int kd b) = none := rfl
  rw [hf]
  simp [h1, h2]
  exact ⟨⟨rfl, rfl⟩, rfl⟩
theorem zfc {d} {s t ty : TypeId} {x : Operand} {pos af g} {kk : IntKind} {a : Int} {v : Value} {e : Env} {h : Heap} {K : Value → Heap → Prop} (hs : zbG tab s = false) (ht : zbG tab t = false) (hx : zab e x = .int kk a) (hc : zaE Tryz.prog (Next.value <$> convert s t (.int kk a)) = some (Next.value v)) (hv : plain v = true) : WOp Tryz.prog tab ov ⟨d, .convert s t x, ty, pos, af, g⟩ e h K = K v h := by
  rw [zmp d ty pos af g e h K s t x hs ht]
  have hp : zaN Tryz.prog e ⟨d, .convert s t x, ty, pos, af, g⟩ h = some (v, h) := by
    unfold zaN
    simp [Op.operands, hx, execOp]
    refine ⟨rfl, ?_⟩
    rw [hc]
    simp [hv]
  rw [hp]
  rfl
end Go.Proofs.YtemapihoobmonaaGreatDoor
namespace Go.Proofs.YtemapihoobmonaaGreatDoor
open Go.Am
set_option linter.unusedSimpArgs false
set_option linter.unusedVariables false
set_option maxRecDepth 100000
set_option maxHeartbeats 0
theorem zlh (w : Nat) (hn : w ≤ 1000) (fv : Value) (pr : Nat → Bool) (h : Heap) (hpf : ∀ (i : Nat) (hc : Heap) (K : Value → Heap → Prop), i < w → Ext h hc → (∀ h', Ext hc h' → K (.bool (pr i)) h') → zgN Tryz.prog tab ov [.int .i64 i] hc K fv) (K : Value → Heap → Prop)
    (hk : ∀ (h' : Heap) (i : Nat), Ext h h' → i ≤ w → (0 < i → pr (i - 1) = false) → (i < w → pr i = true) → K (.int .i64 i) h') : Ok Tryz.prog tab ov 168 [.int .i64 w, fv] h K := by
  rw [zaa h]
  have z := Ext.refl h
  refine Ok.into rfl zsX (zaB N168) rfl (m := 24) rfl ?_
  simp -implicitDefEqProofs only [syms, symx, seval, c168]
  obtain ⟨I1, hI1⟩ : ∃ I : Nat → Env → Heap → Prop, I = (fun n e h' => ∃ (lo hi : Nat) (h1 : Heap), h' = h1.lay [] h1.low ∧ Ext h h1 ∧ (n = hi - lo ∧ lo ≤ hi ∧ hi ≤ w ∧ (0 < lo → pr (lo - 1) = false) ∧ (hi < w → pr hi = true)) ∧ ∃ J : Nat → Value, e = (.int .i64 w :: fv :: jr J 2 3 (.int .i64 lo :: .int .i64 hi :: jr J 7 19 ([])))) := ⟨_, rfl⟩
  refine zat I1 _ (by rw [hI1]; exact ⟨0, w, _, rfl, z, ⟨rfl, by omega, by omega, by omega, by omega⟩, junk (by kernel_rfl)⟩) ?_
  intro n e h' hin
  rw [hI1] at hin
  obtain ⟨lo, hi, h1', rfl, z, hinv, J, rfl⟩ := hin
  obtain ⟨rfl, h1, h2, h3, h4⟩ := hinv
  simp -implicitDefEqProofs only [syms, symx, seval, c168]
  refine zaw (fun hlt => ?_) (fun hlt => ?_)
  rotate_left
  · simp -implicitDefEqProofs only [syms, symx, seval, c168]
    obtain rfl : lo = hi := by omega
    exact hk _ lo (z.upW _ _ (by omega)) h2 h3 h4
  have e1 : IntKind.i64.wrap ((lo : Int) + (hi : Int)) = ((lo + hi : Nat) : Int) := by rw [zae (by omega) (by omega)]; omega
  have e2 : IntKind.u64.wrap ((lo + hi : Nat) : Int) = ((lo + hi : Nat) : Int) := by unfold IntKind.wrap; simp [IntKind.bits]; omega
  have e3 : IntKind.i64.wrap (((lo + hi) / 2 : Nat) : Int) = (((lo + hi) / 2 : Nat) : Int) := zae (by omega) (by omega)
  have e4 : Int.fdiv ((lo + hi : Nat) : Int) (2 ^ (min (1 : Int).toNat (IntKind.bits .u64))) = (((lo + hi) / 2 : Nat) : Int) := by
    show Int.fdiv ((lo + hi : Nat) : Int) 2 = _
    rw [Int.fdiv_eq_ediv_of_nonneg _ (by omega)]
    omega
  repeat' ( simp -implicitDefEqProofs only [syms, symx, seval, c168, e1])
  rw [zfc rfl rfl rfl (zhN _) rfl, e2]
  repeat' ( simp -implicitDefEqProofs only [syms, symx, seval, c168, e1])
  rw [ziq (by decide), e4]
  repeat' ( simp -implicitDefEqProofs only [syms, symx, seval, c168, e1])
  rw [zfc rfl rfl rfl (ziK _) rfl, e3]
  repeat' ( simp -implicitDefEqProofs only [syms, symx, seval, c168, e1])
  refine hpf ((lo + hi) / 2) _ _ (by omega) (z.upW _ _ (by omega)) (fun h' x => ?_)
  ((skip); replace z := z.overW x (by (try simp only [lsz]); omega); rw [zaa h'])
  have e5 : IntKind.i64.wrap ((((lo + hi) / 2 : Nat) : Int) + 1) = (((lo + hi) / 2 + 1 : Nat) : Int) := by rw [zae (by omega) (by omega)]; omega
  cases hx : pr ((lo + hi) / 2)
  · repeat' (first | simp -implicitDefEqProofs only [syms, symx, seval, c168] | ((with_reducible_and_instances apply zaf); (· rfl)))
    rw [e5]
    (rw [hI1]; with_reducible refine zac (m := _) ?_ ⟨(lo + hi) / 2 + 1, hi, _, rfl, z, ⟨rfl, by omega, by omega, by intro _; simpa using hx, h4⟩, junk (by kernel_rfl)⟩; omega)
  · repeat' (first | simp -implicitDefEqProofs only [syms, symx, seval, c168] | ((with_reducible_and_instances apply zaf); (· rfl)))
    (rw [hI1]; with_reducible refine zac (m := _) ?_ ⟨lo, (lo + hi) / 2, _, rfl, z, ⟨rfl, by omega, by omega, h3, by intro _; exact hx⟩, junk (by kernel_rfl)⟩; omega)
end Go.Proofs.YtemapihoobmonaaGreatDoor

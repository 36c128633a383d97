/- The other operations: the plain machine beside the model. No condition. -/
import Derived.Test.YtpnnbjakbplgeaaGApp
namespace Go.Am
open Go.RowKit

theorem pureRun_sound {α : Type} (P : Program) : ∀ (c : Sem α) (a : α), pureRun P c = some a → ∀ w, c.run P w = .ok a w
  | .pure b, a, h, w => by simp only [pureRun] at h; cases h; rfl
  | .program k, a, h, w => by simp only [pureRun] at h; exact pureRun_sound P (k P) a h w
  | .mark m k, a, h, w => by simp only [pureRun] at h; exact pureRun_sound P k a h w
  | .load .., _, h, _ => by simp [pureRun] at h
  | .store .., _, h, _ => by simp [pureRun] at h
  | .new .., _, h, _ => by simp [pureRun] at h
  | .shape .., _, h, _ => by simp [pureRun] at h
  | .freeze .., _, h, _ => by simp [pureRun] at h
  | .frozen .., _, h, _ => by simp [pureRun] at h
  | .getObj .., _, h, _ => by simp [pureRun] at h
  | .setObj .., _, h, _ => by simp [pureRun] at h
  | .choose .., _, h, _ => by simp [pureRun] at h
  | .sys .., _, h, _ => by simp [pureRun] at h
  | .halt .., _, h, _ => by simp [pureRun] at h

section
variable {P : Program} {T : Tab} {ρ : Rho} {h h' : Heap} {w : World}

theorem sizeA_sound (hT : T.Fits P) {t : TypeId} {n : Nat} (hn : sizeA T t = some n) : ∃ i, P.info? t = some i ∧ i.size = n := by
  simp only [sizeA, Option.map_eq_some_iff, Prod.exists] at hn
  obtain ⟨a, b, c, hi, rfl⟩ := hn
  obtain ⟨i, zv, h1, h2, _⟩ := hT.info t a b c hi
  exact ⟨i, h1, h2⟩

theorem run_sizeOf (hT : T.Fits P) {t : TypeId} {n : Nat} (hn : sizeA T t = some n) (w : World) : (sizeOf t).run P w = .ok n w := by
  obtain ⟨i, hi, rfl⟩ := sizeA_sound hT hn
  simp [sizeOf, typeInfo, hi]

theorem copyA_sound (hT : T.Fits P) (hs : Sim ρ h w) {t u ty : TypeId} {d d' s s' v : Value} (hd : VR ρ d d') (hss : VR ρ s s') (hc : copyA T t d s h = some (v, h')) :
    ∃ vc w', (Builtin.copy_ #[t, u] ty #[d', s']).run P w = .ok vc w' ∧ Fr ρ ρ h h' w w' ∧ Sim ρ h' w' ∧ VR ρ v vc := by
  unfold copyA at hc
  split at hc
  · rename_i e a n c hde
    have ht := hT.desc _ _ hde
    simp only [Option.bind_eq_some_iff, Prod.exists] at hc
    obtain ⟨k, hk, m, src, hsrc, hc⟩ := hc
    obtain ⟨us, hus, husl, hlen, hrun⟩ := srcA_sound (P := P) hs hss hsrc
    have hsz := run_sizeOf hT hk w
    have hf := hrun w rfl (min m n) (Nat.min_le_left _ _)
    split at hc
    · rename_i h0
      cases hc
      rw [h0] at hf
      simp only [Nat.zero_mul, List.take_zero] at hf
      have hmin : Nat.min m n = 0 := h0
      have key : ∃ a' c', d' = .slice a' n c' := by cases hd <;> exact ⟨_, _, rfl⟩
      obtain ⟨a', c', rfl⟩ := key
      refine ⟨.int .i64 0, w, ?_, Fr.refl _ _ _, hs, .int _ _⟩
      cases a' <;> simp [Builtin.copy_, run_underlying ht, hlen, hmin, hsz, hf, storeCells, goInt]
    · rename_i h0
      have hmin : Nat.min m n = min m n := rfl
      split at hc
      · rename_i A o
        simp only [Option.map_eq_some_iff, Prod.mk.injEq] at hc
        obtain ⟨h1, hwr, rfl, rfl⟩ := hc
        have key : ∃ L c', ρ A = some L ∧ d' = .slice (some ⟨L.b, L.s + o, none⟩) n c' := by
          cases hd with
          | slice hA hc hn had =>
            obtain rfl := had (by omega)
            exact ⟨_, _, hA, rfl⟩
          | sliceG hA hc hlo hn hk hm had =>
            obtain ⟨rfl, _⟩ := had (by omega)
            exact ⟨_, _, hA, rfl⟩
        obtain ⟨L, c', hA, rfl⟩ := key
        obtain ⟨w', hst, hfr, hsim⟩ := writeA_sound (P := P) hs hA (hus.take _) hwr
        refine ⟨.int .i64 (min m n : Nat), w', ?_, hfr, hsim, .int _ _⟩
        simp [Builtin.copy_, run_underlying ht, hlen, hmin, hsz, hf, hst, goInt]
      · cases hc
  · cases hc

theorem clearA_sound (hT : T.Fits P) (hs : Sim ρ h w) {t ty : TypeId} {x x' : Value} (hx : VR ρ x x') (hc : clearA T t x h = some h') :
    ∃ w', (Builtin.clear_ #[t] ty #[x']).run P w = .ok undef w' ∧ Fr ρ ρ h h' w w' ∧ Sim ρ h' w' := by
  unfold clearA at hc
  split at hc
  · rename_i e a n c hde
    have ht := hT.desc _ _ hde
    split at hc
    · rename_i h0
      subst h0
      cases hc
      have key : ∃ a' c', x' = .slice a' 0 c' := by cases hx <;> exact ⟨_, _, rfl⟩
      obtain ⟨a', c', rfl⟩ := key
      refine ⟨w, ?_, Fr.refl _ _ _, hs⟩
      cases a' <;> simp [Builtin.clear_, run_underlying ht, undef]
    · rename_i h0
      simp only [Option.bind_eq_some_iff, Prod.exists] at hc
      obtain ⟨k, by', z, hinf, hc⟩ := hc
      obtain ⟨i, zv, hi, rfl, rfl, hz, rfl, hzl, hzp⟩ := hT.info e k by' z hinf
      split at hc
      · rename_i A o
        have key : ∃ L c', ρ A = some L ∧ x' = .slice (some ⟨L.b, L.s + o, none⟩) n c' := by
          cases hx with
          | slice hA hc hn had =>
            obtain rfl := had (by omega)
            exact ⟨_, _, hA, rfl⟩
          | sliceG hA hc hlo hn hk hm had =>
            obtain ⟨rfl, _⟩ := had (by omega)
            exact ⟨_, _, hA, rfl⟩
        obtain ⟨L, c', hA, rfl⟩ := key
        obtain ⟨w', hst, hfr, hsim⟩ := writeA_sound (P := P) hs hA (VRs.plain ρ (plain_zerosA hzp n)) hc
        refine ⟨w', ?_, hfr, hsim⟩
        have hzc : (Builtin.zeroCells zv.cells n).toList = zerosA zv.cells.toList n := toList_rangeMod zv.cells n
        obtain ⟨n', rfl⟩ : ∃ n', n = n' + 1 := ⟨n - 1, by omega⟩
        simp [Builtin.clear_, run_underlying ht, zeroValue, typeInfo, hi, hz, hzc, hst, undef]
      · cases hc
  · cases hc

theorem makeSliceA_sound (hT : T.Fits P) (hs : Sim ρ h w) (hfree : Free ρ h h') {t : TypeId} {l l' c c' v : Value} (hl : VR ρ l l') (hc : VR ρ c c') (hm : makeSliceA T t l c h = some (v, h')) :
    ∃ ρ' vc w', (Instr.makeSlice t l' c').run P w = .ok vc w' ∧ Fr ρ ρ' h h' w w' ∧ Sim ρ' h' w' ∧ VR ρ' v vc := by
  unfold makeSliceA at hm
  split at hm
  · rename_i e k1 l k2 c hde
    cases hl
    cases hc
    have ht := hT.desc _ _ hde
    simp only [Option.bind_eq_some_iff, Prod.exists] at hm
    obtain ⟨k, by', z, hinf, hm⟩ := hm
    obtain ⟨i, zv, hi, rfl, rfl, hz, rfl, hzl, hzp⟩ := hT.info e k by' z hinf
    split at hm
    · rename_i hh
      obtain ⟨h0, hlc, h60, hby⟩ := hh
      cases hm
      have hr := run_make (P := P) w t e i zv ht hi hz k1 k2 l c h0 hlc (by rw [Int.mul_comm]; omega) (by omega)
      have hzs : zv.cells.size = i.size := by rw [← Array.length_toList, hzl]
      have hmade : (madeCells zv.cells (c.toNat * i.size)).toList = zerosA zv.cells.toList c.toNat := by
        rw [← hzs]
        exact toList_rangeMod zv.cells c.toNat
      obtain ⟨ρ', hρ, hfr, hsim⟩ := push_sound (W := w.alloc (.cells (madeCells zv.cells (c.toNat * i.size)) e)) (cs := zerosA zv.cells.toList c.toNat) (m := zerosA zv.cells.toList c.toNat) hs (hfree _ (Nat.le_refl _) (by rw [Heap.size_push]; omega)) rfl rfl rfl rfl
        (by rw [hmade]; exact cut_mk (by omega) rfl (fun j _ => by rw [Nat.zero_add])) (VRs.plain ρ (plain_zerosA hzp _))
      refine ⟨ρ', _, _, hr, hfr, hsim, ?_⟩
      have := VR.slice (ρ := ρ') (o := 0) (n := l.toNat) (c := c.toNat) hρ (by unfold G; omega) (by omega) (fun _ => rfl)
      simpa using this
    · cases hm
  · cases hm

/-- The parts of a literal, laid into their places. -/
theorem foldl_fill (off : Nat) : ∀ (l : List Value) (k : Nat) (cs : Array Value), off + k + l.length ≤ cs.size →
    ((l.zipIdx k).foldl (fun cs (x : Value × Nat) => cs.setIfInBounds (off + x.2) x.1) cs).toList = splice cs.toList (off + k) l
  | [], k, cs, _ => by simp [splice]
  | v :: l, k, cs, hl => by
    simp only [List.zipIdx_cons, List.foldl_cons]
    have hl' : off + k + (l.length + 1) ≤ cs.size := by simpa using hl
    rw [foldl_fill off l (k + 1) _ (by simp; omega)]
    apply List.ext_getElem?
    intro i
    rw [getElem?_splice _ _ _ _ (by simp; omega), getElem?_splice _ _ _ _ (by simp; omega)]
    simp only [Array.toList_setIfInBounds, List.getElem?_set, List.length_cons, Array.length_toList]
    by_cases h1 : i < off + k
    · rw [if_pos h1, if_pos (by omega), if_neg (by omega)]
    · rw [if_neg h1]
      by_cases h2 : i = off + k
      · subst h2
        rw [if_pos (by omega), if_pos rfl, if_pos (by omega), if_pos (by omega)]
        simp
      · rw [if_neg (by omega)]
        by_cases h3 : i < off + k + (l.length + 1)
        · rw [if_pos (by omega), if_pos h3]
          obtain ⟨j, rfl⟩ : ∃ j, i = off + k + 1 + j := ⟨i - (off + k + 1), by omega⟩
          rw [show off + k + 1 + j - (off + (k + 1)) = j by omega, show off + k + 1 + j - (off + k) = j + 1 by omega]
          simp
        · rw [if_neg (by omega), if_neg h3, if_neg (by omega)]

theorem fillA_sound {place place' : Nat → Option (Nat × Nat)} (hp : ∀ i r, place i = some r → place' i = some r) : ∀ (parts parts' : List (Nat × Value)) (cs cs' : List Value) (ds : Array Value),
    parts.length = parts'.length → (∀ (i : Nat) (x y : Nat × Value), parts[i]? = some x → parts'[i]? = some y → x.1 = y.1 ∧ VR ρ x.2 y.2) → VRs ρ cs ds.toList → fillA place cs parts = some cs' →
    ∃ ds', Instr.fill place' ds parts' = some ds' ∧ VRs ρ cs' ds'.toList
  | [], [], cs, cs', ds, _, _, hv, hf => by
    simp only [fillA] at hf
    cases hf
    exact ⟨ds, rfl, hv⟩
  | (i, v) :: parts, (j, u) :: parts', cs, cs', ds, hlen, hall, hv, hf => by
    obtain ⟨hij, hvu⟩ := hall 0 _ _ rfl rfl
    simp only at hij hvu
    subst hij
    simp only [fillA, Option.bind_eq_some_iff, Prod.exists] at hf
    obtain ⟨o, n, hpl, hf⟩ := hf
    split at hf
    · rename_i hc
      have hcl : u.cells.size = v.cells.size := by have := hvu.cells.1; simpa using this.symm
      have hdl : ds.size = cs.length := by have := hv.1; simpa using this.symm
      have hfold := foldl_fill o u.cells.toList 0 ds (by simp; omega)
      have hfe : (u.cells.zipIdx.foldl (fun cs (x : Value × Nat) => cs.setIfInBounds (o + x.2) x.1) ds).toList = splice ds.toList o u.cells.toList := by
        rw [← Array.foldl_toList, Array.toList_zipIdx]
        simpa using hfold
      have hv' : VRs ρ (splice cs o v.cells.toList) (u.cells.zipIdx.foldl (fun cs (x : Value × Nat) => cs.setIfInBounds (o + x.2) x.1) ds).toList := by
        rw [hfe]
        exact hv.splice o hvu.cells
      obtain ⟨ds', hd1, hd2⟩ := fillA_sound hp parts parts' _ cs' _ (by simpa using hlen) (fun i x y hx hy => hall (i + 1) x y (by simpa using hx) (by simpa using hy)) hv' hf
      refine ⟨ds', ?_, hd2⟩
      simp only [Instr.fill, hp i _ hpl]
      rw [if_neg (by simp; omega)]
      exact hd1
    · cases hf
  | [], _ :: _, _, _, _, hlen, _, _, _ => by simp at hlen
  | _ :: _, [], _, _, _, hlen, _, _, _ => by simp at hlen

theorem placesA_sound (hT : T.Fits P) : ∀ (fs : List Field) (ps : List (Nat × Nat)) (w : World), placesA T fs = some ps → (fs.mapM fun f => do pure (f.offset, ← sizeOf f.type) : Sem (List (Nat × Nat))).run P w = .ok ps w
  | [], ps, w, hp => by simp only [placesA] at hp; cases hp; simp
  | f :: fs, ps, w, hp => by
    simp only [placesA, Option.bind_eq_some_iff, Option.map_eq_some_iff] at hp
    obtain ⟨n, hn, r, hr, rfl⟩ := hp
    rw [List.mapM_cons]
    simp only [Sem.run_bind, run_sizeOf hT hn, Result.andThen_ok, Sem.run_pure]
    have ih := placesA_sound hT fs r w hr
    rw [ih]
    rfl

theorem buildA_sound (hT : T.Fits P) {t : TypeId} {parts parts' : List (Nat × Value)} {v : Value} (hlen : parts.length = parts'.length)
    (hall : ∀ (i : Nat) (x y : Nat × Value), parts[i]? = some x → parts'[i]? = some y → x.1 = y.1 ∧ VR ρ x.2 y.2) (hb : buildA T t parts = some v) (w : World) :
    ∃ vc, (Instr.build t parts'.toArray).run P w = .ok vc w ∧ VR ρ v vc := by
  simp only [buildA, Option.bind_eq_some_iff, Prod.exists] at hb
  obtain ⟨k, by', z, hinf, hb⟩ := hb
  obtain ⟨i, zv, hi, rfl, rfl, hz, rfl, hzl, hzp⟩ := hT.info t k by' z hinf
  split at hb
  · rename_i fs hd
    have ht := hT.desc _ _ hd
    simp only [Option.bind_eq_some_iff, Option.map_eq_some_iff] at hb
    obtain ⟨ps, hps, cs, hf, rfl⟩ := hb
    obtain ⟨ds, hd1, hd2⟩ := fillA_sound (ρ := ρ) (place' := (ps.toArray[·]?)) (fun i r hr => by simpa using hr) parts parts' _ cs zv.cells hlen hall (VRs.plain ρ hzp) hf
    refine ⟨.agg ds, ?_, ?_⟩
    · have hm := placesA_sound hT fs.toList ps w hps
      have hm' : (fs.mapM fun f => do pure (f.offset, ← sizeOf f.type) : Sem (Array (Nat × Nat))).run P w = .ok ps.toArray w := by
        rw [Array.mapM_eq_mapM_toList]
        simp only [Sem.run_map, hm, Result.andThen_ok]
      simp only [Instr.build, zeroValue, typeInfo, Sem.run_bind, run_program, Result.andThen_ok, hi, Sem.run_pure, hz, run_underlying ht, hm', hd1]
    · have := hd2.toArray
      simpa using this
  · rename_i n e hd
    have ht := hT.desc _ _ hd
    simp only [Option.bind_eq_some_iff, Option.map_eq_some_iff] at hb
    obtain ⟨k, hk, cs, hf, rfl⟩ := hb
    obtain ⟨ds, hd1, hd2⟩ := fillA_sound (ρ := ρ) (place' := fun i => some (i * k, k)) (fun i r hr => hr) parts parts' _ cs zv.cells hlen hall (VRs.plain ρ hzp) hf
    refine ⟨.agg ds, ?_, ?_⟩
    · simp only [Instr.build, zeroValue, typeInfo, Sem.run_bind, run_program, Result.andThen_ok, hi, Sem.run_pure, hz, run_underlying ht, run_sizeOf hT hk, hd1]
    · have := hd2.toArray
      simpa using this
  · cases hb

theorem buildSliceA_sound (hT : T.Fits P) (hs : Sim ρ h w) (hfree : Free ρ h h') {t : TypeId} {len : Nat} {parts parts' : List (Nat × Value)} {v : Value} (hlen : parts.length = parts'.length)
    (hall : ∀ (i : Nat) (x y : Nat × Value), parts[i]? = some x → parts'[i]? = some y → x.1 = y.1 ∧ VR ρ x.2 y.2) (hb : buildSliceA T t len parts h = some (v, h')) :
    ∃ ρ' vc w', (Instr.buildSlice t len parts'.toArray).run P w = .ok vc w' ∧ Fr ρ ρ' h h' w w' ∧ Sim ρ' h' w' ∧ VR ρ' v vc := by
  unfold buildSliceA at hb
  split at hb
  · rename_i e hd
    have ht := hT.desc _ _ hd
    simp only [Option.bind_eq_some_iff, Prod.exists] at hb
    obtain ⟨k, by', z, hinf, hb⟩ := hb
    obtain ⟨i, zv, hi, rfl, rfl, hz, rfl, hzl, hzp⟩ := hT.info e k by' z hinf
    split at hb
    · cases hb
    · rename_i hsm
      simp only [Bool.or_eq_true, decide_eq_true_eq, not_or] at hsm
      obtain ⟨hsm, hG24⟩ := hsm
      have hG : len < G := by unfold G; omega
      simp only [Option.map_eq_some_iff, Prod.mk.injEq] at hb
      obtain ⟨cs, hf, rfl, rfl⟩ := hb
      have hzs : zv.cells.size = i.size := by rw [← Array.length_toList, hzl]
      by_cases h0 : len * i.size = 0
      · have hz0 : zerosA zv.cells.toList len = [] := by
          apply List.eq_nil_of_length_eq_zero
          rw [length_zerosA, hzl]
          exact h0
        rw [hz0] at hf
        obtain ⟨ds, hd1, hd2⟩ := fillA_sound (ρ := ρ) (place' := fun j => some (j * i.size, i.size)) (fun i r hr => hr) parts parts' _ cs #[] hlen hall (.nil ρ) hf
        obtain ⟨ρ', hρ, hfr, hsim⟩ := push_sound (W := w.alloc (.cells ds e)) (cs := cs) (m := ds.toList) hs (hfree _ (Nat.le_refl _) (by rw [Heap.size_push]; omega)) rfl rfl rfl rfl (by rw [hd2.1]; exact cut_mk (by omega) rfl (fun j _ => by rw [Nat.zero_add])) hd2
        refine ⟨ρ', .slice (some ⟨w.heap.size, 0, none⟩) len len, w.alloc (.cells ds e), ?_, hfr, hsim, ?_⟩
        · have hsm' : ¬ (16777216 < len * i.size) := by omega
          simp [Instr.buildSlice, run_underlying ht, sizeOf, typeInfo, hi, h0, Array.range_zero', hd1, Go.newRow]
        · have := VR.slice (ρ := ρ') (o := 0) (n := len) (c := len) hρ hG (Nat.le_refl _) (fun _ => rfl)
          simpa using this
      · have hmade : ((Array.range (len * i.size)).map (zv.cells[· % zv.cells.size]!)).toList = zerosA zv.cells.toList len := by
          have := toList_rangeMod zv.cells len
          simp only [hzs] at this ⊢
          exact this
        obtain ⟨ds, hd1, hd2⟩ := fillA_sound (ρ := ρ) (place' := fun j => some (j * i.size, i.size)) (fun i r hr => hr) parts parts' _ cs ((Array.range (len * i.size)).map (zv.cells[· % zv.cells.size]!)) hlen hall
          (by rw [hmade]; exact VRs.plain ρ (plain_zerosA hzp _)) hf
        obtain ⟨ρ', hρ, hfr, hsim⟩ := push_sound (W := w.alloc (.cells ds e)) (cs := cs) (m := ds.toList) hs (hfree _ (Nat.le_refl _) (by rw [Heap.size_push]; omega)) rfl rfl rfl rfl (by rw [hd2.1]; exact cut_mk (by omega) rfl (fun j _ => by rw [Nat.zero_add])) hd2
        refine ⟨ρ', .slice (some ⟨w.heap.size, 0, none⟩) len len, w.alloc (.cells ds e), ?_, hfr, hsim, ?_⟩
        · have hsm' : ¬ (16777216 < len * i.size) := by omega
          simp only [Instr.buildSlice, Sem.run_bind, run_underlying ht, Result.andThen_ok, sizeOf, typeInfo, run_program, hi, Sem.run_pure, gt_iff_lt]
          simp [hsm', h0, zeroValue, typeInfo, hi, hz, hd1, Go.newRow]
        · have := VR.slice (ρ := ρ') (o := 0) (n := len) (c := len) hρ hG (Nat.le_refl _) (fun _ => rfl)
          simpa using this
  · cases hb

end
#print axioms buildSliceA_sound
end Go.Am

/- Maps: the plain machine beside the model. No condition. -/
import Derived.Test.YtpnnbjakbplgeaaGEval
import Derived.RangeFuncRecord
namespace Go.Am
open Go.RowKit
section
variable {P : Program} {T : Tab} {ρ : Rho} {h h' : Heap} {w : World}

theorem run_for_list {α : Type} (P : Program) (w : World) (l : List α) (g : α → PUnit → Sem (ForInStep PUnit)) (hf : ∀ x ∈ l, (g x PUnit.unit).run P w = .ok (.yield PUnit.unit) w) :
    (forIn l PUnit.unit g : Sem PUnit).run P w = .ok PUnit.unit w := by
  induction l with
  | nil => simp
  | cons x l ih =>
    have h1 := hf x (by simp)
    have h2 := ih (fun y hy => hf y (by simp [hy]))
    simp only [List.forIn_cons, Sem.run_bind, h1, Result.andThen_ok, h2]

theorem eqParts_all {E : TypeId → Value → Value → Option Bool} {xs : List Value} : ∀ {ps : List (TypeId × Nat)}, eqParts T E xs xs ps = some true → ∀ p ∈ ps, ∃ a, partA T p.1 xs p.2 = some a ∧ E p.1 a a = some true
  | [], _, p, hp => by cases hp
  | (t, o) :: r, he, p, hp => by
    simp only [eqParts, Option.bind_eq_some_iff] at he
    obtain ⟨a, ha, c, hc, q, hq, he⟩ := he
    rw [ha] at hc
    cases hc
    cases q with
    | false => simp at he
    | true =>
      simp only [if_true] at he
      rcases List.mem_cons.1 hp with rfl | hp
      · exact ⟨a, ha, hq⟩
      · exact eqParts_all he p hp

theorem fieldParts_mem : ∀ {fs : List Field} {ps : List (TypeId × Nat)}, fieldParts fs = some ps → ∀ f ∈ fs, (f.type, f.offset) ∈ ps
  | [], _, _, f, hf => by cases hf
  | g :: fs, ps, hp, f, hf => by
    simp only [fieldParts] at hp
    split at hp
    · cases hp
    · simp only [Option.map_eq_some_iff] at hp
      obtain ⟨r, hr, rfl⟩ := hp
      rcases List.mem_cons.1 hf with rfl | hf
      · simp
      · exact List.mem_cons_of_mem _ (fieldParts_mem hr f hf)

theorem itemParts_mem {e : TypeId} {k : Nat} : ∀ (n i j : Nat), i ≤ j → j < i + n → (e, j * k) ∈ itemParts e k n i
  | 0, i, j, h1, h2 => by omega
  | n + 1, i, j, h1, h2 => by
    simp only [itemParts]
    by_cases e : i = j
    · subst e; simp
    · exact List.mem_cons_of_mem _ (itemParts_mem n (i + 1) j (by omega) (by omega))

/-- A key that is held against itself part by part may be asked for. -/
theorem checkKey_at (hT : T.Fits P) (w : World) (em : Bool) : ∀ (d D : Nat) (t : TypeId) (x y : Value), eqIn T d t x y = some true → y = x → (Instr.checkKey em (D + d) t x).run P w = .ok () w
  | 0, _, _, _, _, he, _ => by simp [eqIn] at he
  | d + 1, D, t, x, y, he, hyx => by
    unfold eqIn at he
    rw [show D + (d + 1) = (D + d) + 1 from rfl]
    split at he
    · rename_i a c hd
      simp [Instr.checkKey, run_underlying (hT.desc _ _ hd)]
    · rename_i q k a k' c hd
      simp [Instr.checkKey, run_underlying (hT.desc _ _ hd)]
    · rename_i a c hd
      simp [Instr.checkKey, run_underlying (hT.desc _ _ hd)]
    · rename_i fs xs ys hd
      cases hyx
      split at he
      · simp only [Option.bind_eq_some_iff] at he
        obtain ⟨ps, hp, he⟩ := he
        have hall := eqParts_all he
        simp only [Instr.checkKey, Sem.run_bind, run_underlying (hT.desc _ _ hd), Result.andThen_ok]
        rw [← Array.forIn_toList]
        rw [run_for_list P w fs.toList]
        · simp
        · intro f hf
          obtain ⟨a, ha, hq⟩ := hall _ (fieldParts_mem hp f hf)
          have h1 := checkKey_at hT w em d D f.type a a hq rfl
          split
          · simp only [Sem.run_bind, partA_run hT ha w, Result.andThen_ok, h1, Sem.run_pure]
          · simp
      · cases he
    · rename_i n e xs ys hd
      cases hyx
      simp only [Option.bind_eq_some_iff] at he
      obtain ⟨k, hk, he⟩ := he
      have hall := eqParts_all he
      simp only [Instr.checkKey, Sem.run_bind, run_underlying (hT.desc _ _ hd), Result.andThen_ok]
      simp only [Std.Legacy.Range.forIn_eq_forIn_range', Std.Legacy.Range.size, Nat.sub_zero, Nat.add_sub_cancel, Nat.div_one]
      rw [run_for_list P w]
      · simp
      · intro i hi
        have hi' : i < n := by simpa using hi
        obtain ⟨a, ha, hq⟩ := hall _ (itemParts_mem (e := e) (k := k) n 0 i (by omega) (by omega))
        have h1 := checkKey_at hT w em d D e a a hq rfl
        simp only [Sem.run_bind, run_sizeOf hT hk, partA_run hT ha w, Result.andThen_ok, h1, Sem.run_pure]
    · cases he

theorem checkKey_sound (hT : T.Fits P) (w : World) (em : Bool) (d D : Nat) (t : TypeId) (x : Value) (he : eqIn T d t x x = some true) : (Instr.checkKey em (D + d) t x).run P w = .ok () w := checkKey_at hT w em d D t x x he rfl

theorem isKey_spec {kt : TypeId} {k : Value} (hk : isKey T kt k = true) : plain k = true ∧ eqIn T 20 kt k k = some true := by
  unfold isKey at hk
  split at hk
  · rename_i hp
    refine ⟨hp, ?_⟩
    split at hk
    · rename_i b hb; rw [hb, hk]
    · cases hk
  · cases hk

def FoundR (ρ : Rho) : Option (Nat × Value) → Option (Nat × Value) → Prop
  | none, none => True
  | some (i, v), some (j, u) => i = j ∧ VR ρ v u
  | _, _ => False

theorem EsR.of_cons {x : MapEntry} {l m : List MapEntry} (hl : EsR ρ (x :: l) m) : ∃ y m', m = y :: m' ∧ VR ρ x.key y.key ∧ VR ρ x.val y.val ∧ x.born = y.born ∧ plain x.key = true ∧ EsR ρ l m' := by
  cases m with
  | nil => have := hl.1; simp at this
  | cons y m =>
    obtain ⟨h1, h2, h3, h4⟩ := hl.2 0 x y rfl rfl
    exact ⟨y, m, rfl, h1, h2, h3, h4, by have := hl.1; simpa using this, fun i a b ha hb => hl.2 (i + 1) a b (by simpa using ha) (by simpa using hb)⟩
theorem EsR.of_nil {m : List MapEntry} (hl : EsR ρ [] m) : m = [] := by
  have := hl.1
  simp at this
  exact List.eq_nil_of_length_eq_zero this.symm

theorem sameNow_eq (hT : T.Fits P) {kt : TypeId} {d : TypeDesc} (hd : P.underlying kt = some d) {x y : Value} {b c : Bool} (he : eqIn T 20 kt x y = some b) (hs : Instr.sameNow d x y = some c) : b = c := by
  unfold eqIn at he
  split at he
  · rename_i a c' hd'
    have := hT.desc _ _ hd'
    rw [hd] at this
    cases this
    cases he
    simpa [Instr.sameNow] using hs
  · rename_i q k a k' c' hd'
    have := hT.desc _ _ hd'
    rw [hd] at this
    cases this
    split at he
    · rename_i hk
      subst hk
      cases he
      simpa [Instr.sameNow] using hs
    · cases he
  · rename_i a c' hd'
    have := hT.desc _ _ hd'
    rw [hd] at this
    cases this
    cases he
    simp only [Instr.sameNow, Option.some.injEq] at hs
    rw [← hs, beq_toListBytes, ByteArray.toList_eq, ByteArray.toList_eq]
  · rename_i fs xs ys hd'
    have := hT.desc _ _ hd'
    rw [hd] at this
    cases this
    simp [Instr.sameNow] at hs
  · rename_i n e xs ys hd'
    have := hT.desc _ _ hd'
    rw [hd] at this
    cases this
    simp [Instr.sameNow] at hs
  · cases he

theorem findNow_eq (hT : T.Fits P) {kt : TypeId} {d : TypeDesc} (hd : P.underlying kt = some d) {k : Value} : ∀ (es ces : List MapEntry) (i : Nat) (r r' : Option (Nat × Value)), EsR ρ es ces → findA T kt k es i = some r → Instr.findNow d k ces i = some r' → FoundR ρ r r'
  | [], ces, i, r, r', he, hf, hn => by
    rw [he.of_nil] at hn
    simp only [findA, Instr.findNow, Option.some.injEq] at hf hn
    subst hf hn
    trivial
  | e :: es, ces, i, r, r', he, hf, hn => by
    obtain ⟨y, m, rfl, hk, hv, _, hp, he'⟩ := he.of_cons
    have hk' := hk.eq_plain hp
    simp only [findA, Option.bind_eq_some_iff] at hf
    obtain ⟨b, hb, hf⟩ := hf
    simp only [Instr.findNow] at hn
    rw [hk'] at hn
    cases hsn : Instr.sameNow d k e.key with
    | none => rw [hsn] at hn; cases hn
    | some c =>
      have := sameNow_eq hT hd hb hsn
      subst this
      rw [hsn] at hn
      cases b with
      | true =>
        simp only [if_true, Option.some.injEq] at hf hn
        subst hf hn
        exact ⟨rfl, hv⟩
      | false =>
        simp only [Bool.false_eq_true, if_false] at hf hn
        exact findNow_eq hT hd es m (i + 1) r r' he' hf hn

theorem findAsking_eq (hT : T.Fits P) (w : World) {kt : TypeId} {k : Value} : ∀ (es ces : List MapEntry) (i : Nat) (r : Option (Nat × Value)), EsR ρ es ces → findA T kt k es i = some r → ∃ r', (Instr.findAsking kt k ces i).run P w = .ok r' w ∧ FoundR ρ r r'
  | [], ces, i, r, he, hf => by
    rw [he.of_nil]
    simp only [findA, Option.some.injEq] at hf
    subst hf
    exact ⟨none, by simp [Instr.findAsking], trivial⟩
  | e :: es, ces, i, r, he, hf => by
    obtain ⟨y, m, rfl, hk, hv, _, hp, he'⟩ := he.of_cons
    have hk' := hk.eq_plain hp
    simp only [findA, Option.bind_eq_some_iff] at hf
    obtain ⟨b, hb, hf⟩ := hf
    have hq : (Op.equal kt k y.key).run P w = .ok b w := by rw [hk']; exact eqIn_sound hT w 20 9980 kt _ _ b hb
    cases b with
    | true =>
      simp only [if_true, Option.some.injEq] at hf
      subst hf
      exact ⟨some (i, y.val), by simp [Instr.findAsking, hq], rfl, hv⟩
    | false =>
      simp only [Bool.false_eq_true, if_false] at hf
      obtain ⟨r', h1, h2⟩ := findAsking_eq hT w es m (i + 1) r he' hf
      exact ⟨r', by simp [Instr.findAsking, hq, h1], h2⟩

theorem isKey_under (hT : T.Fits P) {kt : TypeId} {k : Value} (hk : isKey T kt k = true) : ∃ d, P.underlying kt = some d := by
  obtain ⟨_, h1⟩ := isKey_spec hk
  unfold eqIn at h1
  split at h1
  all_goals first | exact ⟨_, hT.desc _ _ ‹_›⟩ | cases h1

theorem findKey_eq (hT : T.Fits P) (w : World) {kt : TypeId} {k : Value} (hk : isKey T kt k = true) {es ces : List MapEntry} {r : Option (Nat × Value)} (he : EsR ρ es ces) (hf : findA T kt k es 0 = some r) :
    ∃ r', (Instr.findKey kt k ces).run P w = .ok r' w ∧ FoundR ρ r r' := by
  obtain ⟨d, hd⟩ := isKey_under hT hk
  cases hn : Instr.findNow d k ces 0 with
  | some r' => exact ⟨r', by simp [Instr.findKey, run_underlying hd, hn], findNow_eq hT hd es ces 0 r r' he hf hn⟩
  | none =>
    obtain ⟨r', h1, h2⟩ := findAsking_eq hT w es ces 0 r he hf
    exact ⟨r', by simp [Instr.findKey, run_underlying hd, hn, h1], h2⟩

theorem zero_sound (hT : T.Fits P) {t : TypeId} {v : Value} (hz : T.zero t = some v) (w : World) : (zeroValue t).run P w = .ok v w ∧ VR ρ v v := by
  obtain ⟨⟨i, hi, hiz⟩, hp⟩ := hT.zero t v hz
  exact ⟨by simp [zeroValue, typeInfo, hi, hiz], .of_plain ρ hp⟩

theorem mapOf_sound (hs : Sim ρ h w) {x y : Value} (hxy : VR ρ x y) {es : List MapEntry} (hm : mapOf x h = some es) :
    ∃ ces : Array MapEntry, EsR ρ es ces.toList ∧ ((y = .map none ∧ ces = #[]) ∨ ∃ A L clock, x = .map (some A) ∧ ρ A = some L ∧ y = .map (some L.b) ∧ h.get A = some (.map es clock) ∧ w.heap[L.b]? = some (.map ces clock)) := by
  unfold mapOf at hm
  split at hm
  · cases hm
    cases hxy
    exact ⟨#[], ⟨rfl, by intro i x y hx; simp at hx⟩, .inl ⟨rfl, rfl⟩⟩
  · split at hm
    · rename_i A _ es' clock hg
      cases hm
      cases hxy with
      | map hA =>
        rename_i L
        have hb := hs.blk A L hA
        rw [hg] at hb
        obtain ⟨ces, hc, he⟩ := hb
        exact ⟨ces, he, .inr ⟨A, L, clock, rfl, hA, rfl, hg, hc⟩⟩
    · cases hm
  · cases hm

theorem lookupA_sound (hT : T.Fits P) (hs : Sim ρ h w) {t : TypeId} {x y k k' v : Value} {ok : Bool} (hxy : VR ρ x y) (hk : VR ρ k k') (hl : lookupA T t x k ok h = some v) :
    ∃ u, (Instr.lookup t y k' ok).run P w = .ok u w ∧ VR ρ v u := by
  unfold lookupA at hl
  split at hl
  · rename_i kt et hd
    split at hl
    · rename_i hkey
      simp only [Option.bind_eq_some_iff, Option.map_eq_some_iff, Prod.exists] at hl
      obtain ⟨es, hes, r, hr, v', b, hvb, hv⟩ := hl
      have hu := hT.desc _ _ hd
      obtain ⟨hp, hself⟩ := isKey_spec hkey
      have hkk : k' = k := hk.eq_plain hp
      subst hkk
      obtain ⟨ces, he, hy⟩ := mapOf_sound hs hxy hes
      obtain ⟨r', hf, hfr⟩ := findKey_eq hT w hkey he hr
      have hck : ∀ em, (Instr.checkKey em 10000 kt k').run P w = .ok () w := fun em => checkKey_sound hT w em 20 9980 kt k' hself
      have hpack : ∀ u', VR ρ v' u' → VR ρ v (if ok then .tuple #[u', .bool b] else u') := by
        intro u' hvu
        rw [← hv]
        cases ok
        · exact hvu
        · simp only [if_true]
          exact (VRs.cons hvu (.cons (.bool b) (.nil ρ))).toTuple
      cases r with
      | none =>
        cases r' with
        | some q => exact hfr.elim
        | none =>
          simp only [Option.map_eq_some_iff, Prod.mk.injEq] at hvb
          obtain ⟨z, hz, rfl, rfl⟩ := hvb
          obtain ⟨h1, h2⟩ := zero_sound (ρ := ρ) hT hz w
          refine ⟨_, ?_, hpack z h2⟩
          rcases hy with ⟨rfl, rfl⟩ | ⟨A, L, clock, _, _, rfl, _, hc⟩
          · simp only [Instr.lookup, Sem.run_bind, run_underlying hu, Result.andThen_ok, Sem.run_pure, hck, hf, h1]
          · have hg : (getObj L.b).run P w = .ok (.map ces clock) w := by simp [getObj, Sem.run, hc]
            simp only [Instr.lookup, Sem.run_bind, run_underlying hu, Result.andThen_ok, Sem.run_pure, hg, hck, hf, h1]
      | some p =>
        cases r' with
        | none => exact hfr.elim
        | some q =>
          obtain ⟨i, v1⟩ := p
          obtain ⟨j, u1⟩ := q
          simp only [Option.some.injEq, Prod.mk.injEq] at hvb
          obtain ⟨rfl, rfl⟩ := hvb
          refine ⟨_, ?_, hpack u1 hfr.2⟩
          rcases hy with ⟨rfl, rfl⟩ | ⟨A, L, clock, _, _, rfl, _, hc⟩
          · simp only [Instr.lookup, Sem.run_bind, run_underlying hu, Result.andThen_ok, Sem.run_pure, hck, hf]
          · have hg : (getObj L.b).run P w = .ok (.map ces clock) w := by simp [getObj, Sem.run, hc]
            simp only [Instr.lookup, Sem.run_bind, run_underlying hu, Result.andThen_ok, Sem.run_pure, hg, hck, hf]
    · cases hl
  · cases hl

theorem same1_eq : ∀ {x y : Value}, same1 x y = true → x = y := by
  intro x y hh
  unfold same1 at hh
  split at hh
  · simpa using hh
  · simp only [Bool.and_eq_true, decide_eq_true_eq, beq_iff_eq] at hh
    rw [hh.1, hh.2]
  · rename_i a b
    obtain ⟨⟨a⟩⟩ := a
    obtain ⟨⟨b⟩⟩ := b
    simpa using hh
  · cases hh
theorem sameAll_eq : ∀ {l m : List Value}, sameAll l m = true → l = m
  | [], [], _ => rfl
  | x :: l, y :: m, hh => by
    simp only [sameAll, Bool.and_eq_true] at hh
    rw [same1_eq hh.1, sameAll_eq hh.2]
  | [], _ :: _, hh => by cases hh
  | _ :: _, [], hh => by cases hh
theorem same1_bits {x y : Value} (hh : same1 x y = true) (n : Nat) : Instr.sameBits n x y = true := by
  have := same1_eq hh
  subst this
  unfold same1 at hh
  split at hh
  · simp [Instr.sameBits]
  · simp [Instr.sameBits]
  · simp [Instr.sameBits, beq_toListBytes]
  · cases hh
theorem sameAll_bits : ∀ {l m : List Value}, sameAll l m = true → ∀ n, (l.zip m).all (fun (x, y) => Instr.sameBits n x y) = true
  | [], [], _, _ => rfl
  | x :: l, y :: m, hh, n => by
    simp only [sameAll, Bool.and_eq_true] at hh
    simp only [List.zip_cons_cons, List.all_cons, Bool.and_eq_true]
    exact ⟨same1_bits hh.1 n, sameAll_bits hh.2 n⟩
  | [], _ :: _, hh, _ => by cases hh
  | _ :: _, [], hh, _ => by cases hh
theorem sameKey_bits {x y : Value} (hh : sameKey x y = true) : Instr.sameBits 10000 x y = true := by
  unfold sameKey at hh
  split at hh
  · rename_i a b
    have h1 := sameAll_bits hh 9999
    have h2 := sameAll_eq hh
    have h3 : a.size = b.size := by rw [← Array.length_toList, h2, Array.length_toList]
    rw [Instr.sameBits, h3]
    simpa using h1
  · exact same1_bits hh _

theorem updateA_sound (hT : T.Fits P) (hs : Sim ρ h w) {t : TypeId} {x y k k' v v' : Value} (hxy : VR ρ x y) (hk : VR ρ k k') (hv : VR ρ v v') (hl : updateA T t x k v h = some h') :
    ∃ w', (Instr.mapUpdate t y k' v').run P w = .ok () w' ∧ Fr ρ ρ h h' w w' ∧ Sim ρ h' w' := by
  unfold updateA at hl
  split at hl
  · rename_i kt et A hd
    split at hl
    · rename_i es clock hg
      split at hl
      · rename_i hkey
        simp only [Option.bind_eq_some_iff] at hl
        obtain ⟨r, hr, hl⟩ := hl
        have hu := hT.desc _ _ hd
        obtain ⟨hp, hself⟩ := isKey_spec hkey
        have hkk : k' = k := hk.eq_plain hp
        subst hkk
        cases hxy with
        | map hA =>
          rename_i L
          have hb := hs.blk A L hA
          rw [hg] at hb
          obtain ⟨ces, hc, he⟩ := hb
          obtain ⟨r', hf, hfr⟩ := findKey_eq hT w hkey he hr
          have hck : ∀ em, (Instr.checkKey em 10000 kt k').run P w = .ok () w := fun em => checkKey_sound hT w em 20 9980 kt k' hself
          have hset : ∀ o : Obj, (setObj L.b o).run P w = .ok () (w.putObj L.b o) := by
            intro o
            simp [setObj, Sem.run, hc, World.putObj]
          have hlt : L.b < w.heap.size := (Array.getElem?_eq_some_iff.1 hc).1
          have hput : ∀ (b' : Blk) (o : Obj), BlkR ρ (w.putObj L.b o) L (some b') → Fr ρ ρ h (h.set A b') w (w.putObj L.b o) ∧ Sim ρ (h.set A b') (w.putObj L.b o) := by
            intro b' o hb'
            refine setB_sound hs hA hg (by simp) (by simp) rfl rfl rfl (by simp [World.putObj]) (fun q hq => ?_) hb'
            simp only [World.putObj]
            rw [Array.getElem?_setIfInBounds_ne (Ne.symm hq)]
          have hat : ∀ o : Obj, (w.putObj L.b o).heap[L.b]? = some o := by
            intro o
            simp [World.putObj, hlt]
          cases r with
          | none =>
            cases r' with
            | some q => exact hfr.elim
            | none =>
              simp only [Option.some.injEq] at hl
              subst hl
              refine ⟨w.putObj L.b (.map (ces.push { key := k', val := v', born := clock }) (clock + 1)), ?_, hput _ _ ⟨_, hat _, ?_⟩⟩
              · simp [Instr.mapUpdate, run_underlying hu, getObj, Sem.run, hc, hck, hf, hset]
              · refine ⟨by simp [he.1], fun i a b ha hb => ?_⟩
                have hlen := he.1
                rw [Array.toList_push] at hb
                rcases Nat.lt_trichotomy i es.length with h1 | h1 | h1
                · rw [List.getElem?_append_left h1] at ha
                  rw [List.getElem?_append_left (by omega)] at hb
                  exact he.2 i a b ha hb
                · rw [List.getElem?_append_right (by omega)] at ha
                  rw [List.getElem?_append_right (by omega)] at hb
                  have e1 : i - es.length = 0 := by omega
                  have e2 : i - ces.toList.length = 0 := by omega
                  rw [e1] at ha
                  rw [e2] at hb
                  simp at ha hb
                  subst ha hb
                  exact ⟨.of_plain ρ hp, hv, rfl, hp⟩
                · rw [List.getElem?_append_right (by omega)] at ha
                  have : i - es.length = (i - es.length - 1) + 1 := by omega
                  rw [this] at ha
                  simp at ha
          | some q =>
            obtain ⟨i, v1⟩ := q
            cases r' with
            | none => exact hfr.elim
            | some q' =>
              obtain ⟨j, u1⟩ := q'
              obtain ⟨rfl, _⟩ := hfr
              simp only [Option.bind_eq_some_iff] at hl
              obtain ⟨e, hei, hl⟩ := hl
              split at hl
              · rename_i hsame
                cases hl
                have hil : i < ces.size := by
                  have h1 := (List.getElem?_eq_some_iff.1 hei).1
                  have := he.1
                  simp at this
                  omega
                obtain ⟨k1, k2, k3, k4⟩ := he.2 i e ces[i] hei (by simp)
                have hke : ces[i].key = e.key := k1.eq_plain k4
                have hbits := sameKey_bits hsame
                refine ⟨w.putObj L.b (.map (ces.modify i fun e => { e with key := k', val := v' }) clock), ?_, hput _ _ ⟨_, hat _, ?_⟩⟩
                · simp [Instr.mapUpdate, run_underlying hu, getObj, Sem.run, hc, hck, hf, hset, Instr.keyThatStays, hke, hbits, hil]
                · refine ⟨by simp [he.1], fun q a b ha hb => ?_⟩
                  rw [Array.toList_modify] at hb
                  rw [List.getElem?_modify] at ha hb
                  by_cases hq : i = q
                  · subst hq
                    simp only [if_true, Option.map_eq_map, Option.map_eq_some_iff] at ha hb
                    obtain ⟨a0, ha0, rfl⟩ := ha
                    obtain ⟨b0, hb0, rfl⟩ := hb
                    obtain ⟨_, _, h3, _⟩ := he.2 i a0 b0 ha0 hb0
                    exact ⟨.of_plain ρ hp, hv, h3, hp⟩
                  · simp only [if_neg hq] at ha hb
                    exact he.2 q a b (by simpa using ha) (by simpa using hb)
              · cases hl
      · cases hl
    · cases hl
  · cases hl

/-- A map's entries are related, its object is put anew. -/
theorem mapPut_sound (hs : Sim ρ h w) {A : Nat} {L : Loc} {es es' : List MapEntry} {ces ces' : Array MapEntry} {clock clock' : Nat} (hA : ρ A = some L) (hg : h.get A = some (.map es clock)) (hc : w.heap[L.b]? = some (.map ces clock))
    (he : EsR ρ es' ces'.toList) : Fr ρ ρ h (h.set A (.map es' clock')) w (w.putObj L.b (.map ces' clock')) ∧ Sim ρ (h.set A (.map es' clock')) (w.putObj L.b (.map ces' clock')) := by
  have hlt : L.b < w.heap.size := (Array.getElem?_eq_some_iff.1 hc).1
  refine setB_sound hs hA hg (by simp) (by simp) rfl rfl rfl (by simp [World.putObj]) (fun q hq => ?_) ⟨ces', by simp [World.putObj, hlt], he⟩
  simp only [World.putObj]
  rw [Array.getElem?_setIfInBounds_ne (Ne.symm hq)]

theorem EsR.push {es : List MapEntry} {ces : Array MapEntry} (he : EsR ρ es ces.toList) {k v v' : Value} {clock : Nat} (hp : plain k = true) (hv : VR ρ v v') :
    EsR ρ (es ++ [{ key := k, val := v, born := clock }]) (ces.push { key := k, val := v', born := clock }).toList := by
  refine ⟨by simp [he.1], fun i a b ha hb => ?_⟩
  have hlen := he.1
  rw [Array.toList_push] at hb
  rcases Nat.lt_trichotomy i es.length with h1 | h1 | h1
  · rw [List.getElem?_append_left h1] at ha
    rw [List.getElem?_append_left (by omega)] at hb
    exact he.2 i a b ha hb
  · rw [List.getElem?_append_right (by omega)] at ha
    rw [List.getElem?_append_right (by omega)] at hb
    have e1 : i - es.length = 0 := by omega
    have e2 : i - ces.toList.length = 0 := by omega
    rw [e1] at ha
    rw [e2] at hb
    simp at ha hb
    subst ha hb
    exact ⟨.of_plain ρ hp, hv, rfl, hp⟩
  · rw [List.getElem?_append_right (by omega)] at ha
    have : i - es.length = (i - es.length - 1) + 1 := by omega
    rw [this] at ha
    simp at ha

theorem EsR.modify {es : List MapEntry} {ces : Array MapEntry} (he : EsR ρ es ces.toList) (i : Nat) {f g : MapEntry → MapEntry}
    (hfg : ∀ a b, VR ρ a.key b.key → VR ρ a.val b.val → a.born = b.born → plain a.key = true → VR ρ (f a).key (g b).key ∧ VR ρ (f a).val (g b).val ∧ (f a).born = (g b).born ∧ plain (f a).key = true) :
    EsR ρ (es.modify i f) (ces.modify i g).toList := by
  refine ⟨by simp [he.1], fun q a b ha hb => ?_⟩
  rw [Array.toList_modify] at hb
  rw [List.getElem?_modify] at ha hb
  by_cases hq : i = q
  · subst hq
    simp only [if_true, Option.map_eq_map, Option.map_eq_some_iff] at ha hb
    obtain ⟨a0, ha0, rfl⟩ := ha
    obtain ⟨b0, hb0, rfl⟩ := hb
    obtain ⟨h1, h2, h3, h4⟩ := he.2 i a0 b0 ha0 hb0
    exact hfg a0 b0 h1 h2 h3 h4
  · simp only [if_neg hq] at ha hb
    exact he.2 q a b (by simpa using ha) (by simpa using hb)

theorem entryA_sound (hT : T.Fits P) (hs : Sim ρ h w) {t : TypeId} {x y k k' v : Value} (hxy : VR ρ x y) (hk : VR ρ k k') (hl : entryA T t x k h = some (v, h')) :
    ∃ u w', (Instr.mapEntry t y k').run P w = .ok u w' ∧ Fr ρ ρ h h' w w' ∧ Sim ρ h' w' ∧ VR ρ v u := by
  unfold entryA at hl
  split at hl
  · rename_i kt et A hd
    split at hl
    · rename_i es clock hg
      split at hl
      · rename_i hkey
        simp only [Option.bind_eq_some_iff] at hl
        obtain ⟨r, hr, hl⟩ := hl
        have hu := hT.desc _ _ hd
        obtain ⟨hp, hself⟩ := isKey_spec hkey
        have hkk : k' = k := hk.eq_plain hp
        subst hkk
        cases hxy with
        | map hA =>
          rename_i L
          have hb := hs.blk A L hA
          rw [hg] at hb
          obtain ⟨ces, hc, he⟩ := hb
          obtain ⟨r', hf, hfr⟩ := findKey_eq hT w hkey he hr
          have hck : ∀ em, (Instr.checkKey em 10000 kt k').run P w = .ok () w := fun em => checkKey_sound hT w em 20 9980 kt k' hself
          have hset : ∀ o : Obj, (setObj L.b o).run P w = .ok () (w.putObj L.b o) := by
            intro o
            simp [setObj, Sem.run, hc, World.putObj]
          cases r with
          | none =>
            cases r' with
            | some q => exact hfr.elim
            | none =>
              simp only [Option.map_eq_some_iff, Prod.mk.injEq] at hl
              obtain ⟨z, hz, rfl, rfl⟩ := hl
              obtain ⟨z1, z2⟩ := zero_sound (ρ := ρ) hT hz w
              obtain ⟨f1, f2⟩ := mapPut_sound (clock' := clock + 1) hs hA hg hc (he.push (clock := clock) hp z2)
              refine ⟨_, _, ?_, f1, f2, (VRs.cons z2 (.cons (.int .i64 clock) (.nil ρ))).toTuple⟩
              simp [Instr.mapEntry, run_underlying hu, getObj, Sem.run, hc, hck, hf, hset, z1, goInt]
          | some q =>
            obtain ⟨i, v1⟩ := q
            cases r' with
            | none => exact hfr.elim
            | some q' =>
              obtain ⟨j, u1⟩ := q'
              obtain ⟨rfl, hvu⟩ := hfr
              simp only [Option.bind_eq_some_iff] at hl
              obtain ⟨e, hei, hl⟩ := hl
              split at hl
              · rename_i hsame
                cases hl
                have hil : i < ces.size := by
                  have h1 := (List.getElem?_eq_some_iff.1 hei).1
                  have := he.1
                  simp at this
                  omega
                obtain ⟨k1, k2, k3, k4⟩ := he.2 i e ces[i] hei (by simp)
                have hke : ces[i].key = e.key := k1.eq_plain k4
                have hbits := sameKey_bits hsame
                obtain ⟨f1, f2⟩ := mapPut_sound (clock' := clock) hs hA hg hc (he.modify i (f := fun e => { e with key := k' }) (g := fun e => { e with key := k' }) (fun a b h1 h2 h3 h4 => ⟨.of_plain ρ hp, h2, h3, hp⟩))
                refine ⟨_, _, ?_, f1, f2, (VRs.cons hvu (.cons (.int .i64 e.born) (.nil ρ))).toTuple⟩
                simp [Instr.mapEntry, run_underlying hu, getObj, Sem.run, hc, hck, hf, hset, Instr.keyThatStays, hke, hbits, hil, goInt, k3]
              · cases hl
      · cases hl
    · cases hl
  · cases hl

theorem bornAt_spec {s : Int} : ∀ {es ces : List MapEntry} {n i : Nat}, (∀ (i : Nat) a b, es[i]? = some a → ces[i]? = some b → a.born = b.born) → es.length = ces.length → bornAt s es n = some i → n ≤ i ∧ ces.findIdx? (fun e => (e.born : Int) == s) = some (i - n)
  | [], _, _, _, _, _, h => by cases h
  | a :: es, [], _, _, _, hl, _ => by cases hl
  | a :: es, b :: ces, n, i, hb, hl, h => by
    have h0 := hb 0 a b rfl rfl
    rw [bornAt] at h
    rw [List.findIdx?_cons]
    split at h
    · rename_i hc
      cases h
      rw [h0] at hc
      simp [hc]
    · rename_i hc
      rw [h0] at hc
      obtain ⟨h1, h2⟩ := bornAt_spec (es := es) (ces := ces) (fun i a b ha hb' => hb (i + 1) a b (by simpa using ha) (by simpa using hb')) (by simpa using hl) h
      refine ⟨by omega, ?_⟩
      have : ¬ ((b.born : Int) == s) = true := by simpa using hc
      rw [if_neg this, h2]
      simp
      omega

theorem entryStoreA_sound (hs : Sim ρ h w) {t : TypeId} {x y s s' v v' : Value} (hxy : VR ρ x y) (hss : VR ρ s s') (hv : VR ρ v v') (hl : entryStoreA x s v h = some h') :
    ∃ w', (Instr.entryStore t y s' v').run P w = .ok () w' ∧ Fr ρ ρ h h' w w' ∧ Sim ρ h' w' := by
  unfold entryStoreA at hl
  split at hl
  · rename_i A kd b
    split at hl
    · rename_i es clock hg
      simp only [Option.map_eq_some_iff] at hl
      obtain ⟨i, hi, rfl⟩ := hl
      cases hss
      cases hxy with
      | map hA =>
        rename_i L
        have hb := hs.blk A L hA
        rw [hg] at hb
        obtain ⟨ces, hc, he⟩ := hb
        have hset : ∀ o : Obj, (setObj L.b o).run P w = .ok () (w.putObj L.b o) := by
          intro o
          simp [setObj, Sem.run, hc, World.putObj]
        obtain ⟨_, hfi⟩ := bornAt_spec (ces := ces.toList) (fun i a b ha hb => (he.2 i a b ha hb).2.2.1) he.1 hi
        have hfi' : ces.findIdx? (fun e => (e.born : Int) == b) = some i := by
          cases ces with | mk l => simpa using hfi
        obtain ⟨f1, f2⟩ := mapPut_sound (clock' := clock) hs hA hg hc (he.modify i (f := fun e => { e with val := v }) (g := fun e => { e with val := v' }) (fun a b h1 h2 h3 h4 => ⟨h1, hv, h3, h4⟩))
        refine ⟨_, ?_, f1, f2⟩
        simp [Instr.entryStore, getObj, Sem.run, hc, hset, asInt, asIntOf, hfi']
    · cases hl
  · cases hl

end
#print axioms updateA_sound
#print axioms lookupA_sound
end Go.Am

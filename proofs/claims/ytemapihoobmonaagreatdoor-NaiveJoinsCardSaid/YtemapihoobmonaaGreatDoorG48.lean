/- Consequences, by rounds; sources of an older heap. No condition. -/
import Derived.Test.YtemapihoobmonaaGreatDoorG39
import Derived.Test.YtemapihoobmonaaGreatDoorG36
import Derived.Test.YtemapihoobmonaaGreatDoorG41
import Derived.Test.YtemapihoobmonaaGreatDoorG46
import Derived.Test.YtemapihoobmonaaGreatDoorG47
import Derived.Test.YtemapihoobmonaaGreatDoorG10
namespace Go.Am
set_option linter.unusedVariables false
section
variable {cl cl2 : List ClauseD} {facts facts2 : List AtomD}
theorem zoL (hc : ∀ c, c ∈ cl ↔ c ∈ cl2) (hf : ∀ a, a ∈ facts ↔ a ∈ facts2) : MayX cl facts ↔ MayX cl2 facts2 :=
  ⟨fun h => ⟨fun c hh => h.clauses c ((hc c).2 hh), fun a hh => h.facts a ((hf a).2 hh)⟩, fun h => ⟨fun c hh => h.clauses c ((hc c).1 hh), fun a hh => h.facts a ((hf a).1 hh)⟩⟩
theorem zkw (hc : ∀ c ∈ cl, c ∈ cl2) (hf : ∀ a ∈ facts, a ∈ facts2) (h : MayX cl2 facts2) : MayX cl facts := ⟨fun c hh => h.clauses c (hc c hh), fun a hh => h.facts a (hf a hh)⟩
theorem zmt (hm : MayX cl facts) (hc : ∀ c, c ∈ cl ↔ c ∈ cl2) (hf : ∀ a, a ∈ facts ↔ a ∈ facts2) : ∀ n, zbd cl facts n = zbd cl2 facts2 n
  | 0 => rfl
  | n + 1 => by
    have hm2 := (zoL hc hf).1 hm
    show zdw cl facts (zbd cl facts n) = zdw cl2 facts2 (zbd cl2 facts2 n)
    rw [zmt hm hc hf n]
    refine zii (zdo (zdy hm (zby hm2 n))) (zdo (zdy hm2 (zby hm2 n))) (fun x => ⟨fun h => ?_, fun h => ?_⟩)
    · exact zfR (fun c => (hc c).1) (fun a => (hf a).1) (fun _ h => h) h
    · exact zfR (fun c => (hc c).2) (fun a => (hf a).2) (fun _ h => h) h
theorem zh5 (hm : MayX cl2 facts2) (hc : ∀ c ∈ cl, c ∈ cl2) (hf : ∀ a ∈ facts, a ∈ facts2) : ∀ n, ∀ a ∈ zbd cl facts n, a ∈ zbd cl2 facts2 n
  | 0 => nofun
  | n + 1 => fun a ha => by
    have hm1 := zkw hc hf hm
    exact (zdh hm (zby hm n)).2 (zfR hc hf (zh5 hm hc hf n) ((zdh hm1 (zby hm1 n)).1 ha))
theorem zrC (hm : MayX cl facts) {n m : Nat} (h : n ≤ m) : ∀ a ∈ zbd cl facts n, a ∈ zbd cl facts m := by
  induction m with
  | zero => obtain rfl : n = 0 := by omega
            exact fun _ h => h
  | succ m ih =>
    by_cases e : n = m + 1
    · subst e; exact fun _ h => h
    · exact fun a ha => zoE hm m a (ih (by omega) a ha)
theorem zvR (hm : MayX cl facts) {n m : Nat} (h : n ≤ m) : (zbd cl facts n).length ≤ (zbd cl facts m).length := (zrI (zhx cl facts n) (zhx cl facts m) (zrC hm h)).1
theorem zgL {k : Nat} (h : zbd cl facts (k + 1) = zbd cl facts k) : ∀ n, zbd cl facts (k + n) = zbd cl facts k
  | 0 => rfl
  | n + 1 => by
    show zdw cl facts (zbd cl facts (k + n)) = _
    rw [zgL h n]
    exact h
inductive LfpX (cl : List ClauseD) (facts : List AtomD) : List AtomD → Nat → Int → Prop
  | bad : ¬ MayX cl facts → LfpX cl facts [] 0 2
  | all (k : Nat) : MayX cl facts → (∀ i, i < k → (zbd cl facts i).length < (zbd cl facts (i + 1)).length) → (zbd cl facts k).length ≤ 24 → zbd cl facts (k + 1) = zbd cl facts k → LfpX cl facts (zbd cl facts k) k 0
  | much (k : Nat) : MayX cl facts → (∀ i, i < k → (zbd cl facts i).length < (zbd cl facts (i + 1)).length) → 24 < (zbd cl facts (k + 1)).length → LfpX cl facts [] 0 14
theorem LfpX.len {l : List AtomD} {n : Nat} {e : Int} (h : LfpX cl facts l n e) : l.length ≤ 24 := by
  cases h with
  | bad _ => exact Nat.zero_le _
  | all k _ _ h _ => exact h
  | much k _ _ _ => exact Nat.zero_le _
theorem LfpX.fact {l : List AtomD} {n : Nat} {e : Int} (h : LfpX cl facts l n e) : ∀ a ∈ l, FactX a := by
  cases h with
  | bad _ => nofun
  | all _ hm _ _ _ => exact zby hm n
  | much k _ _ _ => nofun
theorem zrD {k : Nat} (hm : MayX cl facts) (hb : ∀ i, i < k → (zbd cl facts i).length < (zbd cl facts (i + 1)).length) : ∀ i, i ≤ k → i ≤ (zbd cl facts i).length
  | 0, _ => Nat.zero_le _
  | i + 1, h => by
    have := zrD hm hb i (by omega)
    have := hb i (by omega)
    omega
theorem LfpX.round {l : List AtomD} {n : Nat} {e : Int} (h : LfpX cl facts l n e) : n ≤ 24 := by
  cases h with
  | bad _ => exact Nat.zero_le _
  | all _ hm hb h _ => exact Nat.le_trans (zrD hm hb n (Nat.le_refl _)) h
  | much k _ _ _ => exact Nat.zero_le _
theorem zkK {k k2 : Nat} (hm : MayX cl facts) (h4 : (zbd cl facts k).length ≤ 24) (hs : zbd cl facts (k + 1) = zbd cl facts k) (h : 24 < (zbd cl facts k2).length) : False := by
  by_cases hk : k2 ≤ k
  · have := zvR hm hk
    omega
  · have := zgL hs (k2 - k)
    rw [show k + (k2 - k) = k2 by omega] at this
    rw [this] at h
    omega
theorem LfpX.one {l l2 : List AtomD} {n n2 : Nat} {e e2 : Int} (h : LfpX cl facts l n e) (h2 : LfpX cl facts l2 n2 e2) : l = l2 ∧ n = n2 ∧ e = e2 := by
  cases h with
  | bad hm =>
    cases h2 with
    | bad _ => exact ⟨rfl, rfl, rfl⟩
    | all k hm2 => exact absurd hm2 hm
    | much k hm2 => exact absurd hm2 hm
  | all _ hm hb h4 hs =>
    cases h2 with
    | bad hm2 => exact absurd hm hm2
    | all _ hm2 hb2 h42 hs2 =>
      have hn : n = n2 := by
        rcases Nat.lt_trichotomy n n2 with hlt | he | hgt
        · have := hb2 n hlt
          rw [hs] at this
          omega
        · exact he
        · have := hb n2 hgt
          rw [hs2] at this
          omega
      subst hn
      exact ⟨rfl, rfl, rfl⟩
    | much k2 hm2 hb2 h2 => exact (zkK hm h4 hs h2).elim
  | much k hm hb h =>
    cases h2 with
    | bad hm2 => exact absurd hm hm2
    | all _ hm2 hb2 h42 hs2 => exact (zkK hm h42 hs2 h).elim
    | much k2 _ _ _ => exact ⟨rfl, rfl, rfl⟩
theorem LfpX.zero {l : List AtomD} {n : Nat} (h : LfpX cl facts l n 0) : MayX cl facts ∧ l = zbd cl facts n ∧ (∀ i, i < n → (zbd cl facts i).length < (zbd cl facts (i + 1)).length) ∧ l.length ≤ 24 ∧ zbd cl facts (n + 1) = l := by
  cases h with
  | all _ hm hb h4 hs => exact ⟨hm, rfl, hb, h4, hs⟩
theorem LfpX.iter {l : List AtomD} {n : Nat} {e : Int} (hm : MayX cl facts ↔ MayX cl2 facts2) (hi : MayX cl facts → ∀ n, zbd cl facts n = zbd cl2 facts2 n) (h : LfpX cl facts l n e) : LfpX cl2 facts2 l n e := by
  cases h with
  | bad h => exact .bad (fun x => h (hm.2 x))
  | all _ h hb h4 hs =>
    rw [hi h n] at h4 ⊢
    rw [hi h, hi h] at hs
    exact .all n (hm.1 h) (fun i hh => by rw [← hi h, ← hi h]; exact hb i hh) h4 hs
  | much k h hb h4 =>
    rw [hi h] at h4
    exact .much k (hm.1 h) (fun i hh => by rw [← hi h, ← hi h]; exact hb i hh) h4
theorem LfpX.same {l : List AtomD} {n : Nat} {e : Int} (hc : ∀ c, c ∈ cl ↔ c ∈ cl2) (hf : ∀ a, a ∈ facts ↔ a ∈ facts2) (h : LfpX cl facts l n e) : LfpX cl2 facts2 l n e :=
  h.iter (zoL hc hf) (fun hm => zmt hm hc hf)
end
def Rep.old {α : Type} (r : Rep α) (B : Heap) : Rep α := { k := r.k, R := fun h cs x => Inc B h ∧ r.R B cs x, len := fun h cs x hh => r.len _ _ _ hh.2, mono := fun h h' cs x i hh => ⟨hh.1.trans i, hh.2⟩, ones := fun h cs x hh => r.ones _ _ _ hh.2 }
theorem Sl.old {α : Type} {r : Rep α} {B : Heap} {v : Value} {l : List α} (f : Sl r B v l) : Sl (r.old B) B v l := by
  rcases f with f | ⟨A, o, c, row, u, ro, e1, e2, e3, e4, e5, e6⟩
  · exact .inl f
  · refine .inr ⟨A, o, c, row, u, ro, e1, e2, e3, e4, e5, fun i x hx => ?_⟩
    obtain ⟨cs, g1, g2⟩ := e6 i x hx
    exact ⟨cs, g1, Inc.refl _, g2⟩
end Go.Am
namespace Go.Am
set_option linter.unusedVariables false
theorem zqZ {head g : AtomD} {m : List BindD} (hv : ValidX head) (hf : FactX g) (ha : zbv head g = true) (h : ∀ i, i < head.cnt → zbc m (head.arg i) = g.arg i) : zb9 m head = g := by
  obtain ⟨e1, e2, e3, e4, e5⟩ := alikeD_iff.1 ha
  refine ztu e1 e2 e3 (fun i hi => ?_)
  rw [zgI m head hi]
  split
  · rename_i hic
    exact h i hic
  · rename_i hic
    have h0 := hv.lo
    unfold AtomD.cnt at hic
    rw [hv.rest i (by omega) hi, hf.valid.rest i (by omega) hi]
theorem zqr {head : AtomD} {ps S : List AtomD} (hv : ValidX head) (hS : ∀ a ∈ S, FactX a) : ∀ a ∈ zbT head S (head :: ps) [], a ∈ S := by
  intro a ha
  obtain ⟨gs, m, h1, h2, h3, rfl⟩ := mem_headsD.1 ha
  match gs, h1, h2, h3 with
  | g :: gs, h1, h2, h3 =>
    obtain ⟨_, _, b3, _⟩ := zjB zpE h1 h3
    obtain ⟨c1, _, c3⟩ := b3 0 head g rfl rfl
    have hg := h2 g List.mem_cons_self
    rw [zqZ hv (hS g hg) c1 c3]
    exact hg
section
variable {cl : List ClauseD} {facts : List AtomD} {c : ClauseD}
def zw7 (c : ClauseD) : ClauseD := ⟨c.head, (c.head :: c.body).take 3⟩
theorem zo3 (hm : MayX (cl ++ [c]) facts) : MayX (cl ++ [zw7 c]) facts := by
  have hc := hm.clauses c (by simp)
  refine ⟨fun d hd => ?_, hm.facts⟩
  rcases List.mem_append.1 hd with hd | hd
  · exact hm.clauses d (List.mem_append_left _ hd)
  · rw [List.mem_singleton.1 hd]
    refine ⟨hc.head, fun b hb => ?_, fun x hx => ⟨c.head, ?_, hx⟩⟩
    · rcases List.mem_cons.1 (List.mem_of_mem_take hb) with e | hb
      · rw [e]; exact hc.head
      · exact hc.body b hb
    · show c.head ∈ (c.head :: c.body).take 3
      simp
theorem zlr (hm : MayX (cl ++ [c]) facts) : ∀ n, zbd (cl ++ [zw7 c]) facts n = zbd cl facts n
  | 0 => rfl
  | n + 1 => by
    have hm1 : MayX cl facts := zkw (fun d hd => List.mem_append_left _ hd) (fun _ h => h) hm
    have hm2 := zo3 hm
    show zdw _ facts (zbd _ facts n) = zdw cl facts (zbd cl facts n)
    rw [zlr hm n]
    refine zii (zdo (zdy hm2 (zby hm1 n))) (zdo (zdy hm1 (zby hm1 n))) (fun x => ⟨fun h => ?_, fun h => ?_⟩)
    · unfold outD at h
      rw [List.flatMap_append, ← List.append_assoc] at h
      rcases List.mem_append.1 h with h | h
      · exact h
      · simp only [List.flatMap_cons, List.flatMap_nil, List.append_nil] at h
        have hx : x ∈ zbd cl facts n := zqr (ps := c.body.take 2) (hm.clauses c (by simp)).head (zby hm1 n) x h
        exact (zdh hm1 (zby hm1 n)).1 (zoE hm1 n x hx)
    · exact zfR (fun d hd => List.mem_append_left _ hd) (fun _ h => h) (fun _ h => h) h
theorem LfpX.whole {l : List AtomD} {n : Nat} (h : LfpX cl facts l n 0) (k : Nat) : ∀ a ∈ zbd cl facts k, a ∈ l := by
  obtain ⟨hm, rfl, _, _, hs⟩ := h.zero
  intro a ha
  by_cases hk : k ≤ n
  · exact zrC hm hk a ha
  · have := zgL hs (k - n)
    rw [show n + (k - n) = k by omega] at this
    rwa [this] at ha
theorem LfpX.e {l : List AtomD} {n : Nat} {e : Int} (hm : MayX cl facts) (h : LfpX cl facts l n e) : e = 0 ∨ (e = 14 ∧ l = []) := by
  cases h with
  | bad h => exact absurd hm h
  | all _ _ _ _ _ => exact .inl rfl
  | much _ _ _ _ => exact .inr ⟨rfl, rfl⟩
theorem LfpX.more {cl2 : List ClauseD} {facts2 l l2 : List AtomD} {n n2 : Nat} {e : Int} (hc : ∀ c ∈ cl, c ∈ cl2) (hf : ∀ a ∈ facts, a ∈ facts2) (h2 : LfpX cl2 facts2 l2 n2 0) (h : LfpX cl facts l n e) : e = 0 ∧ ∀ a ∈ l, a ∈ l2 := by
  obtain ⟨hm2, e2, _, h4, hs2⟩ := h2.zero
  have hm := zkw hc hf hm2
  cases h with
  | bad h => exact absurd hm h
  | all _ _ _ _ _ => exact ⟨rfl, fun a ha => h2.whole _ a (zh5 hm2 hc hf _ a ha)⟩
  | much k _ _ hx =>
    have := (zrI (zhx cl facts (k + 1)) (zhx cl2 facts2 (k + 1)) (zh5 hm2 hc hf (k + 1))).1
    exact (zkK hm2 (by rw [← e2]; exact h4) (by rw [hs2, e2]) (Nat.lt_of_lt_of_le hx this)).elim
theorem LfpX.idle {l : List AtomD} {n : Nat} {e : Int} (hm : MayX (cl ++ [c]) facts) (h : LfpX cl facts l n e) : LfpX (cl ++ [zw7 c]) facts l n e :=
  h.iter ⟨fun _ => zo3 hm, fun _ => zkw (fun d hd => List.mem_append_left _ hd) (fun _ h => h) hm⟩ (fun _ k => (zlr hm k).symm)
end
/-! ### Joins -/
theorem zvZ {c : ClauseD} {hav gs : List AtomD} {m : List BindD} (hm : MayX [c] []) (hf : ∀ a ∈ hav, FactX a) (hl : gs.length = c.body.length) (hg : ∀ g ∈ gs, g ∈ hav) (hb : zeW c.body gs [] = some m) : zb9 m c.head ∈ zdw [c] [] (zco hav) := by
  have hmem : ∀ a, a ∈ zco hav ↔ a ∈ hav := fun a => zcl (zdo hf)
  refine (zdh hm (fun a ha => hf a ((hmem a).1 ha))).2 ?_
  unfold outD
  simp only [List.flatMap_cons, List.flatMap_nil, List.append_nil, List.nil_append]
  exact mem_headsD.2 ⟨gs, m, hl, fun g h => (hmem g).2 (hg g h), hb, rfl⟩
theorem zsL {c : ClauseD} {hav : List AtomD} (hb : c.body.length ≤ 3) (hn : 0 < hav.length) : (zdw [c] [] (zco hav)).length ≤ hav.length * hav.length * hav.length := by
  have h1 := zdC (outD [c] [] (zco hav))
  have h2 : (outD [c] [] (zco hav)).length ≤ (zco hav).length ^ c.body.length := by
    unfold outD
    simp only [List.flatMap_cons, List.flatMap_nil, List.append_nil, List.nil_append]
    exact zdD _ _
  have h3 := Nat.pow_le_pow_left (zdC hav) c.body.length
  have h4 : hav.length ^ c.body.length ≤ hav.length ^ 3 := Nat.pow_le_pow_right hn hb
  have h5 : hav.length ^ 3 = hav.length * hav.length * hav.length := by rw [Nat.pow_succ, Nat.pow_succ, Nat.pow_one]
  rw [h5] at h4
  exact Nat.le_trans h1 (Nat.le_trans h2 (Nat.le_trans h3 h4))
theorem zhF (p : AtomD) (ps : List AtomD) (g : AtomD) (gs : List AtomD) (l : List BindD) : zeW (p :: ps) (g :: gs) l = (extD l p g).bind (zeW ps gs) := by unfold zeW; rfl
theorem zkM (l : List BindD) : zeW [] [] l = some l := by unfold zeW; rfl
theorem zli : ∀ {ps gs : List AtomD} {l : List BindD} {p g : AtomD}, ps.length = gs.length → zeW (ps ++ [p]) (gs ++ [g]) l = (zeW ps gs l).bind fun m => extD m p g
  | [], [], l, p, g, _ => by
    rw [List.nil_append, List.nil_append, zhF, zkM, Option.bind_some]
    generalize extD l p g = x
    cases x with
    | none => rfl
    | some y => rw [Option.bind_some, zkM]
  | q :: ps, r :: gs, l, p, g, h => by
    rw [List.cons_append, List.cons_append, zhF, zhF]
    generalize extD l q r = x
    cases x with
    | none => rfl
    | some y =>
      rw [Option.bind_some, Option.bind_some]
      exact zli (by simpa using h)
  | [], _ :: _, _, _, _, h => by simp at h
  | _ :: _, [], _, _, _, h => by simp at h
theorem znr {h : Heap} {A : Nat} {c : ClauseD} {b : Value} {u : TypeId} {ro : Bool} (q : Holds h A (.row (c.head.cells ++ [b]) u ro)) (hb : Sl Rep.atom h b c.body) : Sl Rep.clause h (.slice (some ⟨A, 0, none⟩) 1 1) [c] := by
  refine .inr ⟨A, 0, 1, c.head.cells ++ [b], u, ro, rfl, (by show 1 ≤ maxLen; decide), .inl ⟨by decide, Nat.le_refl _⟩, q.lt, q.get, fun i x hx => ?_⟩
  cases i with
  | zero =>
    simp at hx
    subst hx
    exact ⟨_, rfl, b, rfl, hb⟩
  | succ i => simp at hx
end Go.Am
namespace Go.Proofs.YtemapihoobmonaaGreatDoor
open Go.Am
set_option linter.unusedSimpArgs false
set_option linter.unusedVariables false
set_option maxRecDepth 100000
set_option maxHeartbeats 0
theorem zwn (a b : Int) : binA Tryz.prog tab .mul 3 (.int .i64 a) (.int .i64 b) = some (.int .i64 (IntKind.i64.wrap (a * b))) := by kernel_rfl
theorem zky (c : ClauseD) (hav : List AtomD) (which : List Int) (cv u w : Value) (h : Heap) (hsp : SpaceAt 1 h) (hc : ztB h cv c) (hh : Sl Rep.atom h u hav) (hw : Sl Rep.int h w which) (K : Value → Heap → Prop)
    (hk : ∀ h', Ext h h' → K (.bool true) h') : Ok Tryz.prog tab ov 3 [cv, u, w] h K := by
  obtain ⟨b, rfl, sb⟩ := hc
  rw [zaa h]
  have z := Ext.refl h
  have hvu := zaI u
  have hvw := zaI w
  have hvb := zaI b
  have hlu := fun (hh2 : Heap) => hh.lenA ds27 hh2
  have hlw := fun (hh2 : Heap) => hw.lenA ds30 hh2
  have hlb := fun (hh2 : Heap) => sb.lenA ds27 hh2
  have hall1 := znZ (a := c.head) sb.one
  refine Ok.into rfl zxm (zaB N3) rfl (m := 92) rfl ?_
  simp -implicitDefEqProofs only [syms, symx, seval, c3]
  refine Ok.over (g := zrd 1) rfl (zvP (hsp.lay _ _)) ?_
  repeat' (first | simp -implicitDefEqProofs only [syms, symx, seval, c3, ↓zfJ, zon] | ((with_reducible_and_instances apply zaf); (· rfl)))
  refine ziW [c] [] _ _ _ (znr (c := c) (b := b) ⟨by rw [zad]; simp, by rw [za4]; rfl⟩ (sb.lay _ _)) Sl.nil _ (fun _ _ e3 h' x => ?_) (fun h' x => ?_)
  rotate_left
  · (( skip); replace z := z.overW x (by (try simp only [lsz]); omega); rw [zaa h'])
    repeat' (first | simp -implicitDefEqProofs only [syms, symx, seval, c3, Bool.not_false] | ((with_reducible_and_instances apply zaf); (· rfl)))
    exact hk _ (z.upW _ _ (by omega))
  have hcb := e3 c List.mem_cons_self
  have q0 := Holds.top (i := 0) x rfl
  have q1 := Holds.top (i := 1) x rfl
  (( skip); replace z := z.overW x (by (try simp only [lsz]); omega); rw [zaa h'])
  obtain ⟨C0, hC0⟩ : ∃ C0, C0 = h.size + 0 := ⟨_, rfl⟩
  obtain ⟨C1, hC1⟩ : ∃ C1, C1 = h.size + 1 := ⟨_, rfl⟩
  rw [← hC0] at q0
  rw [← hC1] at q1
  rw [← hC0, ← hC1]
  repeat' (first | simp -implicitDefEqProofs only [syms, symx, seval, c3, hvu, Bool.not_true] | ((with_reducible_and_instances apply zaf); (· rfl)))
  refine zis hav u 12 _ ((hh.mono z.inc).lay _ _) _ (fun e1 e2 h' x => ?_) (fun h' x => ?_)
  rotate_left
  · (( skip); replace z := z.overW x (by (try simp only [lsz]); omega); (try replace q0 := q0.over x); (try replace q1 := q1.over x); rw [zaa h'])
    repeat' (first | simp -implicitDefEqProofs only [syms, symx, seval, c3, Bool.not_false] | ((with_reducible_and_instances apply zaf); (· rfl)))
    exact hk _ (z.upW _ _ (by omega))
  (( skip); replace z := z.overW x (by (try simp only [lsz]); omega); (try replace q0 := q0.over x); (try replace q1 := q1.over x); rw [zaa h'])
  repeat' (first | simp -implicitDefEqProofs only [syms, symx, seval, c3, hvu, Bool.not_true] | ((with_reducible_and_instances apply zaf); (· rfl)))
  refine zye [c] hav _ u _ (znr (q1.on _ _) ((sb.mono z.inc).lay _ _)) ((hh.mono z.inc).lay _ _) (by simp) (fun d hd => by rw [List.mem_singleton.1 hd]; omega) (by omega) _ (fun hm h' x => ?_) (fun hm h' x => ?_)
  rotate_left
  · (( skip); replace z := z.overW x (by (try simp only [lsz]); omega); (try replace q0 := q0.over x); (try replace q1 := q1.over x); rw [zaa h'])
    repeat' (first | simp -implicitDefEqProofs only [syms, symx, seval, c3, Bool.not_false] | ((with_reducible_and_instances apply zaf); (· rfl)))
    exact hk _ (z.upW _ _ (by omega))
  (( skip); replace z := z.overW x (by (try simp only [lsz]); omega); (try replace q0 := q0.over x); (try replace q1 := q1.over x); rw [zaa h'])
  repeat' (first | simp -implicitDefEqProofs only [syms, symx, seval, c3, hvw, hvu, hlw, hlu, hlb, hvb, q0.lay, zde, Bool.not_true] | ((with_reducible first | apply zaw | apply zdI ) <;> intro _) | ((with_reducible_and_instances apply zaf); (· rfl)))
  · exact hk _ (z.upW _ _ (by omega))
  · exact hk _ (z.upW _ _ (by omega))
  have hwl : c.body.length ≤ which.length := by omega
  have hn0 : 0 < hav.length := by omega
  have hm1 : MayX [c] [] := ⟨hm.clauses, nofun⟩
  refine zrU [c] [] hav _ _ u _ ((hsp.ext z).lay _ _) (znr (q1.on _ _) ((sb.mono z.inc).lay _ _)) Sl.nil ((hh.mono z.inc).lay _ _) (by simp) e3 (by simp) (by omega) hm1 hm.facts _ (fun h' wl x sl => ?_)
  (( skip); replace z := z.overW x (by (try simp only [lsz]); omega); (try replace q0 := q0.over x); (try replace q1 := q1.over x); rw [zaa h'])
  have hvl := zaI wl
  obtain ⟨L, hL⟩ : ∃ L, L = zdw [c] [] (zco hav) := ⟨_, rfl⟩
  rw [← hL] at sl
  have hLf : ∀ a ∈ L, FactX a := by rw [hL]; exact zjG hm1 (fun a ha => hm.facts a ((zcl (zdo hm.facts)).1 ha))
  have hLn := zsL (c := c) hcb hn0
  rw [← hL] at hLn
  have hsq : hav.length * hav.length ≤ 144 := Nat.mul_le_mul (show hav.length ≤ 12 by omega) (show hav.length ≤ 12 by omega)
  have hcu : hav.length * hav.length * hav.length ≤ 1728 := Nat.mul_le_mul hsq (show hav.length ≤ 12 by omega)
  have hll := fun (hh : Heap) => sl.lenA ds27 hh
  repeat' ( simp -implicitDefEqProofs only [syms, symx, seval, c3, hvl])
  obtain ⟨I1, hI1⟩ : ∃ I : Nat → Env → Heap → Prop, I = (fun n e h' => ∃ (i : Nat) (bv : Value) (isb : Bool) (gs : List AtomD) (m : List BindD) (h1 : Heap), h' = h1.lay [] h1.low ∧ Ext h h1 ∧ (n = c.body.length - i ∧ i ≤ c.body.length ∧ (isb = true → gs.length = i ∧ (∀ g ∈ gs, g ∈ hav) ∧ zeW (c.body.take i) gs [] = some m ∧ Sl Rep.bind h1 bv m ∧ m.length ≤ 4 * i) ∧ Sl Rep.atom h1 wl L ∧ Holds h1 C0 (.row (c.head.cells ++ [b]) 29 false)) ∧ ∃ J : Nat → Value, e = (J 0 :: u :: w :: .pointer (some ⟨C0, 0, none⟩) :: jr J 4 4 (wl :: bv :: .bool isb :: .int .i64 i :: jr J 12 83 ([])))) := ⟨_, rfl⟩
  refine zat I1 _ (by rw [hI1]; exact ⟨0, .slice none 0 0, true, [], [], _, rfl, z, ⟨rfl, by omega, fun _ => ⟨rfl, nofun, zkM [], Sl.nil, by simp⟩, sl, q0⟩, junk (by kernel_rfl)⟩) ?_
  intro n e h' hin
  rw [hI1] at hin
  obtain ⟨i, bv, isb, gs, m, h1', rfl, z, hinv, J, rfl⟩ := hin
  clear sl q0
  obtain ⟨rfl, hi, hbd, sl, q0⟩ := hinv
  have hwi : IntKind.i64.wrap ((i : Int) + 1) = ((i + 1 : Nat) : Int) := by rw [zae (by omega) (by omega)]; omega
  have hvbv := zaI bv
  cases isb
  · simp -implicitDefEqProofs only [syms, symx, seval, c3, q0.lay, zde, hvb, hlb]
    have hm1' : IntKind.i64.wrap ((hav.length : Int) * (hav.length : Int)) = ((hav.length * hav.length : Nat) : Int) := by rw [← Int.natCast_mul, zae (by omega) (by omega)]
    have hm2' : IntKind.i64.wrap (((hav.length * hav.length : Nat) : Int) * (hav.length : Int)) = ((hav.length * hav.length * hav.length : Nat) : Int) := by rw [← Int.natCast_mul, zae (by omega) (by omega)]
    obtain ⟨q3, hq3⟩ : ∃ q3, q3 = hav.length * hav.length * hav.length := ⟨_, rfl⟩
    rw [← hq3] at hm2' hLn hcu
    have hm3' : IntKind.i64.wrap ((q3 : Int) + 1) = ((q3 + 1 : Nat) : Int) := by rw [zae (by omega) (by omega)]; omega
    refine zaw (fun _ => ?_) (fun _ => ?_)
    all_goals
      repeat' (first | simp -implicitDefEqProofs only [syms, symx, seval, c3, hvl, hll, hvu, hlu, zwn, hm1', hm2', hm3'] | ((with_reducible  apply zaw ) <;> intro _))
    all_goals first
      | exact hk _ (z.upW _ _ (by omega))
      | (exfalso; omega)
  obtain ⟨hgl, hgm, hgb, sbv, hml⟩ := hbd rfl
  simp -implicitDefEqProofs only [syms, symx, seval, c3, q0.lay, zde, hvb, hlb]
  refine zaw (fun hlt => ?_) (fun hlt => ?_)
  rotate_left
  · have hib : i = c.body.length := by omega
    rw [hib, List.take_length] at hgb
    have hin := zvZ hm1 hm.facts (by omega) hgm hgb
    rw [← hL] at hin
    repeat' ( simp -implicitDefEqProofs only [syms, symx, seval, c3, hvl, hvbv, q0.lay, ↓zhs, zar, zai])
    refine zrN m bv c.head _ (sbv.lay _ _) (by omega) _ (fun h' x => ?_)
    (( skip); replace z := z.overW x (by (try simp only [lsz]); omega); (try replace q0 := q0.over x); (try replace sl := sl.over x); rw [zaa h'])
    repeat' ( simp -implicitDefEqProofs only [syms, symx, seval, c3])
    refine zwZ L _ wl _ (sl.lay _ _) (by omega) (fun a ha => (hLf a ha).valid.light) (hLf _ hin).valid.light _ (fun h' x => ?_)
    rw [(zwj (zdo hLf) (hLf _ hin).plain).2 hin]
    (( skip); replace z := z.overW x (by (try simp only [lsz]); omega); (try replace q0 := q0.over x); (try replace sl := sl.over x); rw [zaa h'])
    repeat' ( simp -implicitDefEqProofs only [syms, symx, seval, c3])
    exact hk _ (z.upW _ _ (by omega))
  obtain ⟨pa, hpa, hpa'⟩ := za6 (l := c.body) (i := i) (by omega)
  obtain ⟨wi, hwi0, hwi'⟩ := za6 (l := which) (i := i) (by omega)
  obtain ⟨p1, p2⟩ := zpH wi (hav.length : Int) (by omega)
  obtain ⟨k, hk1⟩ := Int.eq_ofNat_of_zero_le p1
  obtain ⟨g, hg, hg'⟩ := za6 (l := hav) (i := k) (by omega)
  simp -implicitDefEqProofs only [syms, symx, seval, c3, hvbv]
  with_reducible first | refine zb2 (by simp only [c3]) (z.upW _ _ (by omega)) ?_
  repeat' (first | simp -implicitDefEqProofs only [syms, symx, seval, c3, q0.lay, zde, hvb, hvu, hvw, hvbv, hlu] | with_reducible_and_instances refine zee (sb.mono z.inc) ds27 sz26 (by omega) hpa (fun p hp => ?_) | with_reducible_and_instances refine lda hp ag26 sz26 ?_ | with_reducible_and_instances refine zy9 (hw.mono z.inc) ds30 sz3 (by omega) hwi0 (fun p hp => ?_) | with_reducible_and_instances refine zcU hp ag3 ?_)
  refine zxe wi _ _ _ (by omega) ?_
  rw [hk1]
  obtain ⟨h', eh, x⟩ : ∃ h', h' = h1'.lay [] (h1'.size + 0) ∧ Ext (h1'.lay [] (h1'.size + 0)) h' := ⟨_, rfl, Ext.refl _⟩
  rw [← eh]
  replace sbv := sbv.over x
  (( ((with_reducible refine zaH ?_ ?_ ?_); (· exact (by (try simp only [lsz]); have := z.size; omega)); (·  exact x )) ); replace z := z.overW x (by (try simp only [lsz]); omega); (try replace q0 := q0.over x); (try replace sl := sl.over x); rw [zaa h'])
  clear hp eh
  repeat' (first | simp -implicitDefEqProofs only [syms, symx, seval, c3, hvbv] | with_reducible_and_instances refine zee (hh.mono z.inc) ds27 sz26 (by omega) hg (fun p hp => ?_) | with_reducible_and_instances refine lda hp ag26 sz26 ?_)
  refine zw8 m bv pa g _ (sbv.lay _ _) (by omega) _ (fun h' w2 bb x hn2 hs2 => ?_)
  (( ((with_reducible refine zaH ?_ ?_ ?_); (· exact (by (try simp only [lsz]); have := z.size; omega)); (·  exact x )) ); replace z := z.overW x (by (try simp only [lsz]); omega); (try replace q0 := q0.over x); (try replace sl := sl.over x); rw [zaa h'])
  have hva2 := zaI w2
  cases hx2 : extD m pa g with
  | none =>
    obtain rfl := hn2 hx2
    repeat' (first | simp -implicitDefEqProofs only [syms, symx, seval, c3, hva2] | ((with_reducible refine ⟨z.grw.lay _ _, ?_⟩); (intro _ h' zz x _); (try simp only [zas, List.append_nil] at x); (try replace q0 := q0.over x); (try replace sl := sl.over x); (replace z := zz); (clear zz); rw [zaa h']))
    rw [hwi]
    (rw [hI1]; with_reducible refine zac (m := _) ?_ ⟨i + 1, w2, false, [], [], _, rfl, z, ⟨rfl, by omega, nofun, sl, q0⟩, junk (by kernel_rfl)⟩; omega)
  | some m2 =>
    obtain ⟨rfl, A2, hm2⟩ := hs2 m2 hx2
    have s2 := hm2.sl (by decide)
    have hml2 := zhD hx2
    have htk : c.body.take (i + 1) = c.body.take i ++ [pa] := by rw [List.take_add_one, hpa']; rfl
    have hnb : zeW (c.body.take (i + 1)) (gs ++ [g]) [] = some m2 := by
      rw [htk, zli (by rw [List.length_take]; omega), hgb]
      exact hx2
    have hgm2 : ∀ y ∈ gs ++ [g], y ∈ hav := fun y hy => (List.mem_append.1 hy).elim (hgm y) (fun hy => by rw [List.mem_singleton.1 hy]; exact List.mem_of_getElem? hg')
    repeat' (first | simp -implicitDefEqProofs only [syms, symx, seval, c3, hva2] | ((with_reducible refine ⟨z.grw.lay _ _, ?_⟩); (intro _ h' zz x _); (try simp only [zas, List.append_nil] at x); (try replace q0 := q0.over x); (try replace sl := sl.over x); (try replace s2 := s2.over x); (replace z := zz); (clear zz); rw [zaa h']))
    rw [hwi]
    (rw [hI1]; with_reducible refine zac (m := _) ?_ ⟨i + 1, w2, true, gs ++ [g], m2, _, rfl, z, ⟨rfl, by omega, fun _ => ⟨by rw [List.length_append]; simp only [List.length_singleton]; omega, hgm2, hnb, s2, by omega⟩, sl, q0⟩, junk (by kernel_rfl)⟩; omega)
end Go.Proofs.YtemapihoobmonaaGreatDoor

/- Consequences, by rounds; sources of an older heap. No condition. -/
import Derived.Test.YtemapihoobmonaaGreatDoorG39
import Derived.Test.YtemapihoobmonaaGreatDoorG36
import Derived.Test.YtemapihoobmonaaGreatDoorG40
import Derived.Test.YtemapihoobmonaaGreatDoorG42
import Derived.Test.YtemapihoobmonaaGreatDoorG18
import Derived.Test.YtemapihoobmonaaGreatDoorG41
import Derived.Test.YtemapihoobmonaaGreatDoorG26
namespace Go.Am
set_option linter.unusedVariables false
section
variable {cl cl2 : List ClauseD} {facts facts2 : List AtomD}
theorem zpc (hc : ∀ c, c ∈ cl ↔ c ∈ cl2) (hf : ∀ a, a ∈ facts ↔ a ∈ facts2) : MayX cl facts ↔ MayX cl2 facts2 :=
  ⟨fun h => ⟨fun c hh => h.clauses c ((hc c).2 hh), fun a hh => h.facts a ((hf a).2 hh)⟩, fun h => ⟨fun c hh => h.clauses c ((hc c).1 hh), fun a hh => h.facts a ((hf a).1 hh)⟩⟩
theorem zit (hc : ∀ c ∈ cl, c ∈ cl2) (hf : ∀ a ∈ facts, a ∈ facts2) (h : MayX cl2 facts2) : MayX cl facts := ⟨fun c hh => h.clauses c (hc c hh), fun a hh => h.facts a (hf a hh)⟩
theorem zmN (hm : MayX cl facts) (hc : ∀ c, c ∈ cl ↔ c ∈ cl2) (hf : ∀ a, a ∈ facts ↔ a ∈ facts2) : ∀ n, zaM cl facts n = zaM cl2 facts2 n
  | 0 => rfl
  | n + 1 => by
    have hm2 := (zpc hc hf).1 hm
    show zcm cl facts (zaM cl facts n) = zcm cl2 facts2 (zaM cl2 facts2 n)
    rw [zmN hm hc hf n]
    refine ziA (zdo (zdd hm (zbs hm2 n))) (zdo (zdd hm2 (zbs hm2 n))) (fun x => ⟨fun h => ?_, fun h => ?_⟩)
    · exact zeM (fun c => (hc c).1) (fun a => (hf a).1) (fun _ h => h) h
    · exact zeM (fun c => (hc c).2) (fun a => (hf a).2) (fun _ h => h) h
theorem zhP (hm : MayX cl2 facts2) (hc : ∀ c ∈ cl, c ∈ cl2) (hf : ∀ a ∈ facts, a ∈ facts2) : ∀ n, ∀ a ∈ zaM cl facts n, a ∈ zaM cl2 facts2 n
  | 0 => nofun
  | n + 1 => fun a ha => by
    have hm1 := zit hc hf hm
    exact (zcC hm (zbs hm n)).2 (zeM hc hf (zhP hm hc hf n) ((zcC hm1 (zbs hm1 n)).1 ha))
theorem zsQ (hm : MayX cl facts) {n m : Nat} (h : n ≤ m) : ∀ a ∈ zaM cl facts n, a ∈ zaM cl facts m := by
  induction m with
  | zero => obtain rfl : n = 0 := by omega
            exact fun _ h => h
  | succ m ih =>
    by_cases e : n = m + 1
    · subst e; exact fun _ h => h
    · exact fun a ha => zkn hm m a (ih (by omega) a ha)
theorem zvp (hm : MayX cl facts) {n m : Nat} (h : n ≤ m) : (zaM cl facts n).length ≤ (zaM cl facts m).length := (zkN (zdj cl facts n) (zdj cl facts m) (zsQ hm h)).1
theorem zgD {k : Nat} (h : zaM cl facts (k + 1) = zaM cl facts k) : ∀ n, zaM cl facts (k + n) = zaM cl facts k
  | 0 => rfl
  | n + 1 => by
    show zcm cl facts (zaM cl facts (k + n)) = _
    rw [zgD h n]
    exact h
inductive LfpX (cl : List ClauseD) (facts : List AtomD) : List AtomD → Nat → Int → Prop
  | bad : ¬ MayX cl facts → LfpX cl facts [] 0 2
  | all (k : Nat) : MayX cl facts → (∀ i, i < k → (zaM cl facts i).length < (zaM cl facts (i + 1)).length) → (zaM cl facts k).length ≤ 24 → zaM cl facts (k + 1) = zaM cl facts k → LfpX cl facts (zaM cl facts k) k 0
  | much (k : Nat) : MayX cl facts → (∀ i, i < k → (zaM cl facts i).length < (zaM cl facts (i + 1)).length) → 24 < (zaM cl facts (k + 1)).length → LfpX cl facts [] 0 14
theorem LfpX.len {l : List AtomD} {n : Nat} {e : Int} (h : LfpX cl facts l n e) : l.length ≤ 24 := by
  cases h with
  | bad _ => exact Nat.zero_le _
  | all k _ _ h _ => exact h
  | much k _ _ _ => exact Nat.zero_le _
theorem LfpX.fact {l : List AtomD} {n : Nat} {e : Int} (h : LfpX cl facts l n e) : ∀ a ∈ l, FactX a := by
  cases h with
  | bad _ => nofun
  | all _ hm _ _ _ => exact zbs hm n
  | much k _ _ _ => nofun
theorem zru {k : Nat} (hm : MayX cl facts) (hb : ∀ i, i < k → (zaM cl facts i).length < (zaM cl facts (i + 1)).length) : ∀ i, i ≤ k → i ≤ (zaM cl facts i).length
  | 0, _ => Nat.zero_le _
  | i + 1, h => by
    have := zru hm hb i (by omega)
    have := hb i (by omega)
    omega
theorem LfpX.round {l : List AtomD} {n : Nat} {e : Int} (h : LfpX cl facts l n e) : n ≤ 24 := by
  cases h with
  | bad _ => exact Nat.zero_le _
  | all _ hm hb h _ => exact Nat.le_trans (zru hm hb n (Nat.le_refl _)) h
  | much k _ _ _ => exact Nat.zero_le _
theorem zkl {k k2 : Nat} (hm : MayX cl facts) (h4 : (zaM cl facts k).length ≤ 24) (hs : zaM cl facts (k + 1) = zaM cl facts k) (h : 24 < (zaM cl facts k2).length) : False := by
  by_cases hk : k2 ≤ k
  · have := zvp hm hk
    omega
  · have := zgD hs (k2 - k)
    rw [show k + (k2 - k) = k2 by omega] at this
    rw [this] at h
    omega
theorem LfpX.one {l l2 : List AtomD} {n n2 : Nat} {e e2 : Int} (h : LfpX cl facts l n e) (h2 : LfpX cl facts l2 n2 e2) : l = l2 ∧ n = n2 ∧ e = e2 := by
  cases h with
  | bad hm =>
    cases h2 with
    | bad _ => exact ⟨rfl, rfl, rfl⟩
    | all k hm2 => exact absurd hm2 hm
    | much k hm2 => exact absurd hm2 hm
  | all _ hm hb h4 hs =>
    cases h2 with
    | bad hm2 => exact absurd hm hm2
    | all _ hm2 hb2 h42 hs2 =>
      have hn : n = n2 := by
        rcases Nat.lt_trichotomy n n2 with hlt | he | hgt
        · have := hb2 n hlt
          rw [hs] at this
          omega
        · exact he
        · have := hb n2 hgt
          rw [hs2] at this
          omega
      subst hn
      exact ⟨rfl, rfl, rfl⟩
    | much k2 hm2 hb2 h2 => exact (zkl hm h4 hs h2).elim
  | much k hm hb h =>
    cases h2 with
    | bad hm2 => exact absurd hm hm2
    | all _ hm2 hb2 h42 hs2 => exact (zkl hm h42 hs2 h).elim
    | much k2 _ _ _ => exact ⟨rfl, rfl, rfl⟩
theorem LfpX.zero {l : List AtomD} {n : Nat} (h : LfpX cl facts l n 0) : MayX cl facts ∧ l = zaM cl facts n ∧ (∀ i, i < n → (zaM cl facts i).length < (zaM cl facts (i + 1)).length) ∧ l.length ≤ 24 ∧ zaM cl facts (n + 1) = l := by
  cases h with
  | all _ hm hb h4 hs => exact ⟨hm, rfl, hb, h4, hs⟩
theorem LfpX.iter {l : List AtomD} {n : Nat} {e : Int} (hm : MayX cl facts ↔ MayX cl2 facts2) (hi : MayX cl facts → ∀ n, zaM cl facts n = zaM cl2 facts2 n) (h : LfpX cl facts l n e) : LfpX cl2 facts2 l n e := by
  cases h with
  | bad h => exact .bad (fun x => h (hm.2 x))
  | all _ h hb h4 hs =>
    rw [hi h n] at h4 ⊢
    rw [hi h, hi h] at hs
    exact .all n (hm.1 h) (fun i hh => by rw [← hi h, ← hi h]; exact hb i hh) h4 hs
  | much k h hb h4 =>
    rw [hi h] at h4
    exact .much k (hm.1 h) (fun i hh => by rw [← hi h, ← hi h]; exact hb i hh) h4
theorem LfpX.same {l : List AtomD} {n : Nat} {e : Int} (hc : ∀ c, c ∈ cl ↔ c ∈ cl2) (hf : ∀ a, a ∈ facts ↔ a ∈ facts2) (h : LfpX cl facts l n e) : LfpX cl2 facts2 l n e :=
  h.iter (zpc hc hf) (fun hm => zmN hm hc hf)
end
def Rep.old {α : Type} (r : Rep α) (B : Heap) : Rep α := { k := r.k, R := fun h cs x => Inc B h ∧ r.R B cs x, len := fun h cs x hh => r.len _ _ _ hh.2, mono := fun h h' cs x i hh => ⟨hh.1.trans i, hh.2⟩, ones := fun h cs x hh => r.ones _ _ _ hh.2 }
theorem Sl.old {α : Type} {r : Rep α} {B : Heap} {v : Value} {l : List α} (f : Sl r B v l) : Sl (r.old B) B v l := by
  rcases f with f | ⟨A, o, c, row, u, ro, e1, e2, e3, e4, e5, e6⟩
  · exact .inl f
  · refine .inr ⟨A, o, c, row, u, ro, e1, e2, e3, e4, e5, fun i x hx => ?_⟩
    obtain ⟨cs, g1, g2⟩ := e6 i x hx
    exact ⟨cs, g1, Inc.refl _, g2⟩
theorem zvo {α : Type} {r : Rep α} {B h : Heap} {A : Nat} {v : Value} {l : List α} (hk : 0 < r.k) (f : Sl r B v l) (i : Inc B h) (i2 : Inc B (kill A h)) : ∃ news, srcA v r.k h = some (l.length, news) ∧ Src r (kill A h) l.length news l := by
  obtain ⟨news, h1, h2, h3, h4, h5⟩ := zhj (r := r.old B) (A := A) (h := h) hk (f.old.mono i) (fun cs y hr => ⟨i2, hr.2⟩)
  refine ⟨news, h1, h2, h3, h4, fun j y hy => ?_⟩
  obtain ⟨cs, g1, g2, g3⟩ := h5 j y hy
  exact ⟨cs, g1, r.mono _ _ _ _ i2 g3⟩
end Go.Am
namespace Go.Am
set_option linter.unusedVariables false
theorem zqS {head g : AtomD} {m : List BindD} (hv : ValidX head) (hf : FactX g) (ha : zck head g = true) (h : ∀ i, i < head.cnt → zbC m (head.arg i) = g.arg i) : zcA m head = g := by
  obtain ⟨e1, e2, e3, e4, e5⟩ := alikeD_iff.1 ha
  refine zsb e1 e2 e3 (fun i hi => ?_)
  rw [zgo m head hi]
  split
  · rename_i hic
    exact h i hic
  · rename_i hic
    have h0 := hv.lo
    unfold AtomD.cnt at hic
    rw [hv.rest i (by omega) hi, hf.valid.rest i (by omega) hi]
theorem zqE {head : AtomD} {ps S : List AtomD} (hv : ValidX head) (hS : ∀ a ∈ S, FactX a) : ∀ a ∈ zbJ head S (head :: ps) [], a ∈ S := by
  intro a ha
  obtain ⟨gs, m, h1, h2, h3, rfl⟩ := mem_headsD.1 ha
  match gs, h1, h2, h3 with
  | g :: gs, h1, h2, h3 =>
    obtain ⟨_, _, b3, _⟩ := zjG zo6 h1 h3
    obtain ⟨c1, _, c3⟩ := b3 0 head g rfl rfl
    have hg := h2 g List.mem_cons_self
    rw [zqS hv (hS g hg) c1 c3]
    exact hg
section
variable {cl : List ClauseD} {facts : List AtomD} {c : ClauseD}
def zw7 (c : ClauseD) : ClauseD := ⟨c.head, (c.head :: c.body).take 3⟩
theorem zor (hm : MayX (cl ++ [c]) facts) : MayX (cl ++ [zw7 c]) facts := by
  have hc := hm.clauses c (by simp)
  refine ⟨fun d hd => ?_, hm.facts⟩
  rcases List.mem_append.1 hd with hd | hd
  · exact hm.clauses d (List.mem_append_left _ hd)
  · rw [List.mem_singleton.1 hd]
    refine ⟨hc.head, fun b hb => ?_, fun x hx => ⟨c.head, ?_, hx⟩⟩
    · rcases List.mem_cons.1 (List.mem_of_mem_take hb) with e | hb
      · rw [e]; exact hc.head
      · exact hc.body b hb
    · show c.head ∈ (c.head :: c.body).take 3
      simp
theorem zkX (hm : MayX (cl ++ [c]) facts) : ∀ n, zaM (cl ++ [zw7 c]) facts n = zaM cl facts n
  | 0 => rfl
  | n + 1 => by
    have hm1 : MayX cl facts := zit (fun d hd => List.mem_append_left _ hd) (fun _ h => h) hm
    have hm2 := zor hm
    show zcm _ facts (zaM _ facts n) = zcm cl facts (zaM cl facts n)
    rw [zkX hm n]
    refine ziA (zdo (zdd hm2 (zbs hm1 n))) (zdo (zdd hm1 (zbs hm1 n))) (fun x => ⟨fun h => ?_, fun h => ?_⟩)
    · unfold outD at h
      rw [List.flatMap_append, ← List.append_assoc] at h
      rcases List.mem_append.1 h with h | h
      · exact h
      · simp only [List.flatMap_cons, List.flatMap_nil, List.append_nil] at h
        have hx : x ∈ zaM cl facts n := zqE (ps := c.body.take 2) (hm.clauses c (by simp)).head (zbs hm1 n) x h
        exact (zcC hm1 (zbs hm1 n)).1 (zkn hm1 n x hx)
    · exact zeM (fun d hd => List.mem_append_left _ hd) (fun _ h => h) (fun _ h => h) h
theorem LfpX.whole {l : List AtomD} {n : Nat} (h : LfpX cl facts l n 0) (k : Nat) : ∀ a ∈ zaM cl facts k, a ∈ l := by
  obtain ⟨hm, rfl, _, _, hs⟩ := h.zero
  intro a ha
  by_cases hk : k ≤ n
  · exact zsQ hm hk a ha
  · have := zgD hs (k - n)
    rw [show n + (k - n) = k by omega] at this
    rwa [this] at ha
theorem LfpX.e {l : List AtomD} {n : Nat} {e : Int} (hm : MayX cl facts) (h : LfpX cl facts l n e) : e = 0 ∨ (e = 14 ∧ l = []) := by
  cases h with
  | bad h => exact absurd hm h
  | all _ _ _ _ _ => exact .inl rfl
  | much _ _ _ _ => exact .inr ⟨rfl, rfl⟩
theorem LfpX.more {cl2 : List ClauseD} {facts2 l l2 : List AtomD} {n n2 : Nat} {e : Int} (hc : ∀ c ∈ cl, c ∈ cl2) (hf : ∀ a ∈ facts, a ∈ facts2) (h2 : LfpX cl2 facts2 l2 n2 0) (h : LfpX cl facts l n e) : e = 0 ∧ ∀ a ∈ l, a ∈ l2 := by
  obtain ⟨hm2, e2, _, h4, hs2⟩ := h2.zero
  have hm := zit hc hf hm2
  cases h with
  | bad h => exact absurd hm h
  | all _ _ _ _ _ => exact ⟨rfl, fun a ha => h2.whole _ a (zhP hm2 hc hf _ a ha)⟩
  | much k _ _ hx =>
    have := (zkN (zdj cl facts (k + 1)) (zdj cl2 facts2 (k + 1)) (zhP hm2 hc hf (k + 1))).1
    exact (zkl hm2 (by rw [← e2]; exact h4) (by rw [hs2, e2]) (Nat.lt_of_lt_of_le hx this)).elim
theorem LfpX.idle {l : List AtomD} {n : Nat} {e : Int} (hm : MayX (cl ++ [c]) facts) (h : LfpX cl facts l n e) : LfpX (cl ++ [zw7 c]) facts l n e :=
  h.iter ⟨fun _ => zor hm, fun _ => zit (fun d hd => List.mem_append_left _ hd) (fun _ h => h) hm⟩ (fun _ k => (zkX hm k).symm)
theorem LfpX.fix {l : List AtomD} {n : Nat} (h : LfpX cl facts l n 0) : MayX cl facts ∧ AscD l ∧ zcm cl facts l = l := by
  obtain ⟨hm, e, _, _, hs⟩ := h.zero
  refine ⟨hm, by rw [e]; exact zdj _ _ _, ?_⟩
  have : zcm cl facts (zaM cl facts n) = l := hs
  rwa [← e] at this
theorem LfpX.fixLess {facts2 l : List AtomD} {n : Nat} (hf : ∀ a ∈ facts, a ∈ facts2) (h : LfpX cl facts2 l n 0) : MayX cl facts ∧ AscD l ∧ ∀ a ∈ zcm cl facts l, a ∈ l := by
  obtain ⟨hm, ha, hr⟩ := h.fix
  have hm1 := zit (fun _ h => h) hf hm
  refine ⟨hm1, ha, fun a hh => ?_⟩
  have h1 := (zcC hm1 h.fact).1 hh
  rw [← hr]
  exact (zcC hm h.fact).2 (zeM (fun _ h => h) hf (fun _ h => h) h1)
end
/-! ### Joins -/
end Go.Am
namespace Go.Proofs.YtemapihoobmonaaGreatDoor
open Go.Am
set_option linter.unusedSimpArgs false
set_option linter.unusedVariables false
set_option maxRecDepth 100000
set_option maxHeartbeats 0
theorem zoz (cl : List ClauseD) (facts : List AtomD) (v u : Value) (h : Heap) (hsp : SpaceAt 1 h) (hl : Sl Rep.clause h v cl) (hf : Sl Rep.atom h u facts) (hn : cl.length ≤ 6) (hcb : ∀ c ∈ cl, c.body.length ≤ 3) (hfn : facts.length ≤ 1000)
    (K : Value → Heap → Prop) (hk : ∀ h' w L (k : Nat) e, Ext h h' → Sl Rep.atom h' w L → LfpX cl facts L k e → K (.tuple #[w, .int .i64 k, .int .i64 e]) h') : Ok Tryz.prog tab ov 20 [v, u, .int .i64 24] h K :=
  zxE cl facts v u h hsp hl hf hn hcb hfn K (fun hm h' x => hk _ _ [] 0 2 x Sl.nil (.bad hm)) (fun hm h' w k x s hb h4 hs => hk _ _ _ k 0 x s (.all k hm hb h4 hs)) (fun hm h' k x hb h => hk _ _ [] 0 14 x Sl.nil (.much k hm hb h))
theorem zjF (cl : List ClauseD) (facts hav : List AtomD) (v u w : Value) (h : Heap) (hsp : SpaceAt 1 h) (hl : Sl Rep.clause h v cl) (hf : Sl Rep.atom h u facts) (hh : Sl Rep.atom h w hav) (hn : cl.length ≤ 6) (hcb : ∀ c ∈ cl, c.body.length ≤ 3) (hfn : facts.length ≤ 1000) (hhn : hav.length ≤ 24) (hm : MayX cl facts) (hfx : ∀ a ∈ hav, FactX a) (ha : AscD hav) (hr : ∀ a ∈ zcm cl facts hav, a ∈ hav)
    (K : Value → Heap → Prop) (hk : ∀ h', Ext h h' → K (.bool true) h') : Ok Tryz.prog tab ov 35 [v, u, w] h K := by
  rw [zaa h]
  have z := Ext.refl h
  have hva := zaF v
  have hvu := zaF u
  have hvw := zaF w
  refine Ok.into rfl zvV (zay N35) rfl (m := 18) rfl ?_
  repeat' ( simp -implicitDefEqProofs only [syms, symx, seval, c35, hva, hvu])
  refine znW cl facts v u _ (hsp.lay _ _) (hl.lay _ _) (hf.lay _ _) (by omega) (fun c hc => by have := hcb c hc; omega) (by omega) _ (fun hm h' x => ?_) (fun hm2 => absurd hm hm2)
  ((skip); replace z := z.overW x (by (try simp only [lsz]); omega); rw [zaa h'])
  repeat' ( simp -implicitDefEqProofs only [syms, symx, seval, c35, hva, hvu, hvw])
  refine ziq cl facts hav v u w _ ((hsp.ext z).lay _ _) ((hl.mono z.inc).lay _ _) ((hf.mono z.inc).lay _ _) ((hh.mono z.inc).lay _ _) hn hcb hfn hhn hm hfx _ (fun h' w2 x s2 => ?_)
  rw [zdt ha] at s2
  have hrn : (zcm cl facts hav).length ≤ 24 := Nat.le_trans (zkN (ziu cl facts hav) ha hr).1 hhn
  have hrf := zjo hm hfx
  have hnil : (zbR (zcm cl facts hav)).filter (fun x => !hasA hav x) = [] := by
    rw [zdt (ziu cl facts hav), List.filter_eq_nil_iff]
    intro a h1
    rw [(zpe (zdo hfx) (hrf a h1).plain).2 (hr a h1)]
    simp
  ((skip); replace z := z.overW x (by (try simp only [lsz]); omega); rw [zaa h'])
  have hvw2 := zaF w2
  repeat' ( simp -implicitDefEqProofs only [syms, symx, seval, c35, hvw, hvw2])
  refine zlE hav w _ ((hsp.ext z).lay _ _) ((hh.mono z.inc).lay _ _) (by omega) hfx _ (fun h' w3 x s3 => ?_)
  rw [zdt ha] at s3
  ((skip); replace z := z.overW x (by (try simp only [lsz]); omega); (try replace s2 := s2.over x); rw [zaa h'])
  have hvw3 := zaF w3
  repeat' ( simp -implicitDefEqProofs only [syms, symx, seval, c35, hvw2, hvw3])
  refine zvj (zcm cl facts hav) hav w2 w3 _ (s2.lay _ _) (s3.lay _ _) (by omega) (by omega) (fun a h1 => (hrf a h1).valid.light) (fun a h1 => (hfx a h1).valid.light) _ (fun h' w4 x ho => ?_)
  rw [hnil] at ho
  have s4 := ho.sl
  have hl4 := fun (hh : Heap) => s4.lenA ds27 hh
  have hvw4 := zaF w4
  ((skip); replace z := z.overW x (by (try simp only [lsz]); omega); (try replace s2 := s2.over x); (try replace s3 := s3.over x); rw [zaa h'])
  repeat' ( simp -implicitDefEqProofs only [syms, symx, seval, c35, hvw4, hl4, List.length_nil])
  all_goals first
    | exact hk _ (z.upW _ _ (by omega))
    | omega
theorem zkU (c : Int) (h : Heap) (K : Value → Heap → Prop) (h1 : (97 ≤ c ∧ c ≤ 122) → K (.bool true) h) (h2 : ¬ (97 ≤ c ∧ c ≤ 122) → K (.bool false) h) : Ok Tryz.prog tab ov 156 [.int .u8 c] h K := by
  refine Ok.into rfl ztn (zay N156) rfl (m := 8) rfl ?_
  simp -implicitDefEqProofs only [syms, symx, seval, c156]
  repeat' (refine zax (fun c => ?_) (fun c => ?_) <;> simp -implicitDefEqProofs only [syms, symx, seval, c156])
  all_goals first | exact h1 (by omega) | exact h2 (by omega)
theorem zpf (c : Int) (h : Heap) (K : Value → Heap → Prop) (h1 : (65 ≤ c ∧ c ≤ 90) → K (.bool true) h) (h2 : ¬ (65 ≤ c ∧ c ≤ 90) → K (.bool false) h) : Ok Tryz.prog tab ov 183 [.int .u8 c] h K := by
  refine Ok.into rfl zrw (zay N183) rfl (m := 8) rfl ?_
  simp -implicitDefEqProofs only [syms, symx, seval, c183]
  repeat' (refine zax (fun c => ?_) (fun c => ?_) <;> simp -implicitDefEqProofs only [syms, symx, seval, c183])
  all_goals first | exact h1 (by omega) | exact h2 (by omega)
theorem zoC (c : Int) (h : Heap) (K : Value → Heap → Prop) (h1 : (48 ≤ c ∧ c ≤ 57) → K (.bool true) h) (h2 : ¬ (48 ≤ c ∧ c ≤ 57) → K (.bool false) h) : Ok Tryz.prog tab ov 184 [.int .u8 c] h K := by
  refine Ok.into rfl zrR (zay N184) rfl (m := 8) rfl ?_
  simp -implicitDefEqProofs only [syms, symx, seval, c184]
  repeat' (refine zax (fun c => ?_) (fun c => ?_) <;> simp -implicitDefEqProofs only [syms, symx, seval, c184])
  all_goals first | exact h1 (by omega) | exact h2 (by omega)
theorem zxG : zdZ tab 23 [] = some noTermD.val := by kernel_rfl
theorem zhe (a : AtomD) (k : Nat) (hk : k < 4) : cut a.cells (3 + k * 2) 2 = some (a.arg k).cells := by
  have : k = 0 ∨ k = 1 ∨ k = 2 ∨ k = 3 := by omega
  rcases this with rfl | rfl | rfl | rfl <;> rfl
theorem zfB (a : TermD) : Value.agg a.cells.toArray = a.val := rfl
theorem zoh (a : AtomD) : a.cells[0]? = some (.string a.says) := rfl
theorem znX (a : AtomD) : a.cells[1]? = some (.string a.pred) := rfl
theorem zhC (a : AtomD) : a.cells[2]? = some (.int .i64 a.n) := rfl
end Go.Proofs.YtemapihoobmonaaGreatDoor

/- The code of some functions, node by node, for simp. Written by a program (mkcode.py). No condition. -/
import Derived.Test.YtemapihoobmonaaGreatDoorG17
import Derived.Test.YtemapihoobmonaaGreatDoorG15
import Derived.KernelRfl
import Derived.Test.YtemapihoobmonaaGreatDoorG39
import Derived.Test.YtemapihoobmonaaGreatDoorG36
import Derived.Test.YtemapihoobmonaaGreatDoorG40
import Derived.Test.YtemapihoobmonaaGreatDoorG45
import Derived.Test.YtemapihoobmonaaGreatDoorG46
import Derived.Test.YtemapihoobmonaaGreatDoorG10
import Derived.Test.YtemapihoobmonaaGreatDoorG18
import Derived.Test.YtemapihoobmonaaGreatDoorG41
namespace Go.Proofs.YtemapihoobmonaaGreatDoor
open Go.Am
set_option linter.unusedVariables false
set_option linter.unusedSimpArgs false
set_option maxRecDepth 100000
set_option maxHeartbeats 0
noncomputable def N3 := zaz Tryz.f3
noncomputable def x3 := PLift.up (by have c := zah N3 Tryz.f3; simp only [zao, Tryz.f3, Option.getD_some, zal, opsF, opsX, zag, zaA, dstL, zam, List.append_eq, List.cons_append, List.nil_append, seval] at c; exact nd c <| nd @bs32 <| nd @zep <| nd @zdL <| nd @ix27 <| nd @ix30 <| nd @ld26 <| nd @ld27 <| nd @ld29 <| nd @ld3 <| nd @ln27 <| nd @ln30 <| @fi3)
theorem c3 : type_of% x3.down := x3.down
noncomputable def N4 := zaz Tryz.f4
noncomputable def x4 := PLift.up (by have c := zah N4 Tryz.f4; simp only [zao, Tryz.f4, Option.getD_some, zal, opsF, opsX, zag, zaA, dstL, zam, List.append_eq, List.cons_append, List.nil_append, seval] at c; exact nd c <| nd @al29 <| nd @bs27 <| nd @bs32 <| nd @zep <| nd @zdL <| nd @ix27 <| nd @ix32 <| nd @ld26 <| nd @ld27 <| nd @ld29 <| nd @ln27 <| nd @ln32 <| @fi4)
theorem c4 : type_of% x4.down := x4.down
noncomputable def N7 := zaz Tryz.f7
noncomputable def x7 := PLift.up (by have c := zah N7 Tryz.f7; simp only [zao, Tryz.f7, Option.getD_some, zal, opsF, opsX, zag, zaA, dstL, zam, List.append_eq, List.cons_append, List.nil_append, seval] at c; exact nd c <| nd @ix27 <| nd @ld26 <| nd @ln27 <| @fi7)
end Go.Proofs.YtemapihoobmonaaGreatDoor
namespace Go.Am
set_option linter.unusedVariables false
section
variable {cl cl2 : List ClauseD} {facts facts2 : List AtomD}
theorem zoU (hc : ∀ c, c ∈ cl ↔ c ∈ cl2) (hf : ∀ a, a ∈ facts ↔ a ∈ facts2) : MayX cl facts ↔ MayX cl2 facts2 :=
  ⟨fun h => ⟨fun c hh => h.clauses c ((hc c).2 hh), fun a hh => h.facts a ((hf a).2 hh)⟩, fun h => ⟨fun c hh => h.clauses c ((hc c).1 hh), fun a hh => h.facts a ((hf a).1 hh)⟩⟩
theorem zgp (hc : ∀ c ∈ cl, c ∈ cl2) (hf : ∀ a ∈ facts, a ∈ facts2) (h : MayX cl2 facts2) : MayX cl facts := ⟨fun c hh => h.clauses c (hc c hh), fun a hh => h.facts a (hf a hh)⟩
theorem zkZ (hm : MayX cl facts) (hc : ∀ c, c ∈ cl ↔ c ∈ cl2) (hf : ∀ a, a ∈ facts ↔ a ∈ facts2) : ∀ n, zaJ cl facts n = zaJ cl2 facts2 n
  | 0 => rfl
  | n + 1 => by
    have hm2 := (zoU hc hf).1 hm
    show zdD cl facts (zaJ cl facts n) = zdD cl2 facts2 (zaJ cl2 facts2 n)
    rw [zkZ hm hc hf n]
    refine ziq (zd1 (zdd hm (zbu hm2 n))) (zd1 (zdd hm2 (zbu hm2 n))) (fun x => ⟨fun h => ?_, fun h => ?_⟩)
    · exact zfC (fun c => (hc c).1) (fun a => (hf a).1) (fun _ h => h) h
    · exact zfC (fun c => (hc c).2) (fun a => (hf a).2) (fun _ h => h) h
theorem zh7 (hm : MayX cl2 facts2) (hc : ∀ c ∈ cl, c ∈ cl2) (hf : ∀ a ∈ facts, a ∈ facts2) : ∀ n, ∀ a ∈ zaJ cl facts n, a ∈ zaJ cl2 facts2 n
  | 0 => nofun
  | n + 1 => fun a ha => by
    have hm1 := zgp hc hf hm
    exact (zdG hm (zbu hm n)).2 (zfC hc hf (zh7 hm hc hf n) ((zdG hm1 (zbu hm1 n)).1 ha))
theorem zsW (hm : MayX cl facts) {n m : Nat} (h : n ≤ m) : ∀ a ∈ zaJ cl facts n, a ∈ zaJ cl facts m := by
  induction m with
  | zero => obtain rfl : n = 0 := by omega
            exact fun _ h => h
  | succ m ih =>
    by_cases e : n = m + 1
    · subst e; exact fun _ h => h
    · exact fun a ha => zj1 hm m a (ih (by omega) a ha)
theorem zvr (hm : MayX cl facts) {n m : Nat} (h : n ≤ m) : (zaJ cl facts n).length ≤ (zaJ cl facts m).length := (znZ (zd4 cl facts n) (zd4 cl facts m) (zsW hm h)).1
theorem zgn {k : Nat} (h : zaJ cl facts (k + 1) = zaJ cl facts k) : ∀ n, zaJ cl facts (k + n) = zaJ cl facts k
  | 0 => rfl
  | n + 1 => by
    show zdD cl facts (zaJ cl facts (k + n)) = _
    rw [zgn h n]
    exact h
inductive LfpX (cl : List ClauseD) (facts : List AtomD) : List AtomD → Nat → Int → Prop
  | bad : ¬ MayX cl facts → LfpX cl facts [] 0 2
  | all (k : Nat) : MayX cl facts → (∀ i, i < k → (zaJ cl facts i).length < (zaJ cl facts (i + 1)).length) → (zaJ cl facts k).length ≤ 24 → zaJ cl facts (k + 1) = zaJ cl facts k → LfpX cl facts (zaJ cl facts k) k 0
  | much (k : Nat) : MayX cl facts → (∀ i, i < k → (zaJ cl facts i).length < (zaJ cl facts (i + 1)).length) → 24 < (zaJ cl facts (k + 1)).length → LfpX cl facts [] 0 14
theorem LfpX.len {l : List AtomD} {n : Nat} {e : Int} (h : LfpX cl facts l n e) : l.length ≤ 24 := by
  cases h with
  | bad _ => exact Nat.zero_le _
  | all k _ _ h _ => exact h
  | much k _ _ _ => exact Nat.zero_le _
theorem LfpX.fact {l : List AtomD} {n : Nat} {e : Int} (h : LfpX cl facts l n e) : ∀ a ∈ l, FactX a := by
  cases h with
  | bad _ => nofun
  | all _ hm _ _ _ => exact zbu hm n
  | much k _ _ _ => nofun
theorem zru {k : Nat} (hm : MayX cl facts) (hb : ∀ i, i < k → (zaJ cl facts i).length < (zaJ cl facts (i + 1)).length) : ∀ i, i ≤ k → i ≤ (zaJ cl facts i).length
  | 0, _ => Nat.zero_le _
  | i + 1, h => by
    have := zru hm hb i (by omega)
    have := hb i (by omega)
    omega
theorem LfpX.round {l : List AtomD} {n : Nat} {e : Int} (h : LfpX cl facts l n e) : n ≤ 24 := by
  cases h with
  | bad _ => exact Nat.zero_le _
  | all _ hm hb h _ => exact Nat.le_trans (zru hm hb n (Nat.le_refl _)) h
  | much k _ _ _ => exact Nat.zero_le _
theorem zkO {k k2 : Nat} (hm : MayX cl facts) (h4 : (zaJ cl facts k).length ≤ 24) (hs : zaJ cl facts (k + 1) = zaJ cl facts k) (h : 24 < (zaJ cl facts k2).length) : False := by
  by_cases hk : k2 ≤ k
  · have := zvr hm hk
    omega
  · have := zgn hs (k2 - k)
    rw [show k + (k2 - k) = k2 by omega] at this
    rw [this] at h
    omega
theorem LfpX.one {l l2 : List AtomD} {n n2 : Nat} {e e2 : Int} (h : LfpX cl facts l n e) (h2 : LfpX cl facts l2 n2 e2) : l = l2 ∧ n = n2 ∧ e = e2 := by
  cases h with
  | bad hm =>
    cases h2 with
    | bad _ => exact ⟨rfl, rfl, rfl⟩
    | all k hm2 => exact absurd hm2 hm
    | much k hm2 => exact absurd hm2 hm
  | all _ hm hb h4 hs =>
    cases h2 with
    | bad hm2 => exact absurd hm hm2
    | all _ hm2 hb2 h42 hs2 =>
      have hn : n = n2 := by
        rcases Nat.lt_trichotomy n n2 with hlt | he | hgt
        · have := hb2 n hlt
          rw [hs] at this
          omega
        · exact he
        · have := hb n2 hgt
          rw [hs2] at this
          omega
      subst hn
      exact ⟨rfl, rfl, rfl⟩
    | much k2 hm2 hb2 h2 => exact (zkO hm h4 hs h2).elim
  | much k hm hb h =>
    cases h2 with
    | bad hm2 => exact absurd hm hm2
    | all _ hm2 hb2 h42 hs2 => exact (zkO hm h42 hs2 h).elim
    | much k2 _ _ _ => exact ⟨rfl, rfl, rfl⟩
theorem LfpX.zero {l : List AtomD} {n : Nat} (h : LfpX cl facts l n 0) : MayX cl facts ∧ l = zaJ cl facts n ∧ (∀ i, i < n → (zaJ cl facts i).length < (zaJ cl facts (i + 1)).length) ∧ l.length ≤ 24 ∧ zaJ cl facts (n + 1) = l := by
  cases h with
  | all _ hm hb h4 hs => exact ⟨hm, rfl, hb, h4, hs⟩
theorem LfpX.iter {l : List AtomD} {n : Nat} {e : Int} (hm : MayX cl facts ↔ MayX cl2 facts2) (hi : MayX cl facts → ∀ n, zaJ cl facts n = zaJ cl2 facts2 n) (h : LfpX cl facts l n e) : LfpX cl2 facts2 l n e := by
  cases h with
  | bad h => exact .bad (fun x => h (hm.2 x))
  | all _ h hb h4 hs =>
    rw [hi h n] at h4 ⊢
    rw [hi h, hi h] at hs
    exact .all n (hm.1 h) (fun i hh => by rw [← hi h, ← hi h]; exact hb i hh) h4 hs
  | much k h hb h4 =>
    rw [hi h] at h4
    exact .much k (hm.1 h) (fun i hh => by rw [← hi h, ← hi h]; exact hb i hh) h4
theorem LfpX.same {l : List AtomD} {n : Nat} {e : Int} (hc : ∀ c, c ∈ cl ↔ c ∈ cl2) (hf : ∀ a, a ∈ facts ↔ a ∈ facts2) (h : LfpX cl facts l n e) : LfpX cl2 facts2 l n e :=
  h.iter (zoU hc hf) (fun hm => zkZ hm hc hf)
end
def Rep.old {α : Type} (r : Rep α) (B : Heap) : Rep α := { k := r.k, R := fun h cs x => Inc B h ∧ r.R B cs x, len := fun h cs x hh => r.len _ _ _ hh.2, mono := fun h h' cs x i hh => ⟨hh.1.trans i, hh.2⟩, ones := fun h cs x hh => r.ones _ _ _ hh.2 }
theorem Sl.old {α : Type} {r : Rep α} {B : Heap} {v : Value} {l : List α} (f : Sl r B v l) : Sl (r.old B) B v l := by
  rcases f with f | ⟨A, o, c, row, u, ro, e1, e2, e3, e4, e5, e6⟩
  · exact .inl f
  · refine .inr ⟨A, o, c, row, u, ro, e1, e2, e3, e4, e5, fun i x hx => ?_⟩
    obtain ⟨cs, g1, g2⟩ := e6 i x hx
    exact ⟨cs, g1, Inc.refl _, g2⟩
theorem zwT {T : Tab} {t e : TypeId} {α : Type} {r : Rep α} {B : Heap} {v : Value} {l : List α} (f : Sl r B v l) (hk : 0 < r.k) (hd : T.desc t = some (.slice e)) (hs : zaL T e = some r.k) {b : Nat} {kd : IntKind} (hb : b ≤ l.length) :
    ∃ v', zbb T t v none (some (.int kd b)) none = some v' ∧ Sl r B v' (l.take b) := by
  have h := zxn (bs := []) (w := B.low) f hk hd hs (kd := kd) hb (K := fun v' _ => Sl r B v' (l.take b)) (fun _ h => h)
  cases e : zbb T t v none (some (.int kd b)) none with
  | none => rw [e] at h; exact h.elim
  | some v' => rw [e] at h; exact ⟨v', rfl, h⟩
end Go.Am
namespace Go.Am
set_option linter.unusedVariables false
theorem zpN {head g : AtomD} {m : List BindD} (hv : ValidX head) (hf : FactX g) (ha : zce head g = true) (h : ∀ i, i < head.cnt → zbD m (head.arg i) = g.arg i) : zcy m head = g := by
  obtain ⟨e1, e2, e3, e4, e5⟩ := alikeD_iff.1 ha
  refine zrn e1 e2 e3 (fun i hi => ?_)
  rw [zgz m head hi]
  split
  · rename_i hic
    exact h i hic
  · rename_i hic
    have h0 := hv.lo
    unfold AtomD.cnt at hic
    rw [hv.rest i (by omega) hi, hf.valid.rest i (by omega) hi]
theorem zpl {head : AtomD} {ps S : List AtomD} (hv : ValidX head) (hS : ∀ a ∈ S, FactX a) : ∀ a ∈ zbK head S (head :: ps) [], a ∈ S := by
  intro a ha
  obtain ⟨gs, m, h1, h2, h3, rfl⟩ := mem_headsD.1 ha
  match gs, h1, h2, h3 with
  | g :: gs, h1, h2, h3 =>
    obtain ⟨_, _, b3, _⟩ := zje zoq h1 h3
    obtain ⟨c1, _, c3⟩ := b3 0 head g rfl rfl
    have hg := h2 g List.mem_cons_self
    rw [zpN hv (hS g hg) c1 c3]
    exact hg
section
variable {cl : List ClauseD} {facts : List AtomD} {c : ClauseD}
def ziy (c : ClauseD) : ClauseD := ⟨c.head, (c.head :: c.body).take 3⟩
theorem zoJ (hm : MayX (cl ++ [c]) facts) : MayX (cl ++ [ziy c]) facts := by
  have hc := hm.clauses c (by simp)
  refine ⟨fun d hd => ?_, hm.facts⟩
  rcases List.mem_append.1 hd with hd | hd
  · exact hm.clauses d (List.mem_append_left _ hd)
  · rw [List.mem_singleton.1 hd]
    refine ⟨hc.head, fun b hb => ?_, fun x hx => ⟨c.head, ?_, hx⟩⟩
    · rcases List.mem_cons.1 (List.mem_of_mem_take hb) with e | hb
      · rw [e]; exact hc.head
      · exact hc.body b hb
    · show c.head ∈ (c.head :: c.body).take 3
      simp
theorem zli (hm : MayX (cl ++ [c]) facts) : ∀ n, zaJ (cl ++ [ziy c]) facts n = zaJ cl facts n
  | 0 => rfl
  | n + 1 => by
    have hm1 : MayX cl facts := zgp (fun d hd => List.mem_append_left _ hd) (fun _ h => h) hm
    have hm2 := zoJ hm
    show zdD _ facts (zaJ _ facts n) = zdD cl facts (zaJ cl facts n)
    rw [zli hm n]
    refine ziq (zd1 (zdd hm2 (zbu hm1 n))) (zd1 (zdd hm1 (zbu hm1 n))) (fun x => ⟨fun h => ?_, fun h => ?_⟩)
    · unfold outD at h
      rw [List.flatMap_append, ← List.append_assoc] at h
      rcases List.mem_append.1 h with h | h
      · exact h
      · simp only [List.flatMap_cons, List.flatMap_nil, List.append_nil] at h
        have hx : x ∈ zaJ cl facts n := zpl (ps := c.body.take 2) (hm.clauses c (by simp)).head (zbu hm1 n) x h
        exact (zdG hm1 (zbu hm1 n)).1 (zj1 hm1 n x hx)
    · exact zfC (fun d hd => List.mem_append_left _ hd) (fun _ h => h) (fun _ h => h) h
theorem zh8 (h : ∀ c ∈ cl, c.body ≠ []) : ∀ n, zaJ cl [] n = []
  | 0 => rfl
  | n + 1 => by
    show zdD cl [] (zaJ cl [] n) = []
    rw [zh8 h n]
    have ho : outD cl [] [] = [] := by
      unfold outD
      rw [List.nil_append, List.flatMap_eq_nil_iff]
      intro c hc
      have := h c hc
      cases hb : c.body with
      | nil => exact absurd hb this
      | cons p ps => rfl
    unfold zdD
    rw [ho]
    have := zeM ([] : List AtomD)
    exact List.eq_nil_of_length_eq_zero (by simpa using this)
theorem LfpX.whole {l : List AtomD} {n : Nat} (h : LfpX cl facts l n 0) (k : Nat) : ∀ a ∈ zaJ cl facts k, a ∈ l := by
  obtain ⟨hm, rfl, _, _, hs⟩ := h.zero
  intro a ha
  by_cases hk : k ≤ n
  · exact zsW hm hk a ha
  · have := zgn hs (k - n)
    rw [show n + (k - n) = k by omega] at this
    rwa [this] at ha
theorem LfpX.e {l : List AtomD} {n : Nat} {e : Int} (hm : MayX cl facts) (h : LfpX cl facts l n e) : e = 0 ∨ (e = 14 ∧ l = []) := by
  cases h with
  | bad h => exact absurd hm h
  | all _ _ _ _ _ => exact .inl rfl
  | much _ _ _ _ => exact .inr ⟨rfl, rfl⟩
theorem LfpX.more {cl2 : List ClauseD} {facts2 l l2 : List AtomD} {n n2 : Nat} {e : Int} (hc : ∀ c ∈ cl, c ∈ cl2) (hf : ∀ a ∈ facts, a ∈ facts2) (h2 : LfpX cl2 facts2 l2 n2 0) (h : LfpX cl facts l n e) : e = 0 ∧ ∀ a ∈ l, a ∈ l2 := by
  obtain ⟨hm2, e2, _, h4, hs2⟩ := h2.zero
  have hm := zgp hc hf hm2
  cases h with
  | bad h => exact absurd hm h
  | all _ _ _ _ _ => exact ⟨rfl, fun a ha => h2.whole _ a (zh7 hm2 hc hf _ a ha)⟩
  | much k _ _ hx =>
    have := (znZ (zd4 cl facts (k + 1)) (zd4 cl2 facts2 (k + 1)) (zh7 hm2 hc hf (k + 1))).1
    exact (zkO hm2 (by rw [← e2]; exact h4) (by rw [hs2, e2]) (Nat.lt_of_lt_of_le hx this)).elim
theorem LfpX.idle {l : List AtomD} {n : Nat} {e : Int} (hm : MayX (cl ++ [c]) facts) (h : LfpX cl facts l n e) : LfpX (cl ++ [ziy c]) facts l n e :=
  h.iter ⟨fun _ => zoJ hm, fun _ => zgp (fun d hd => List.mem_append_left _ hd) (fun _ h => h) hm⟩ (fun _ k => (zli hm k).symm)
theorem LfpX.bare {l : List AtomD} {n : Nat} {e : Int} (hm : MayX cl []) (hb : ∀ c ∈ cl, c.body ≠ []) (h : LfpX cl [] l n e) : l = [] ∧ e = 0 := by
  have h0 : LfpX cl [] (zaJ cl [] 0) 0 0 := .all 0 hm (fun i hi => by omega) (Nat.zero_le _) (by rw [zh8 hb, zh8 hb])
  obtain ⟨e1, _, e3⟩ := h.one h0
  exact ⟨e1, e3⟩
end
/-! ### Joins -/
theorem zxb {h : Heap} {A : Nat} {c : ClauseD} {b : Value} {u : TypeId} {ro : Bool} (q : Holds h A (.row (c.head.cells ++ [b]) u ro)) (hb : Sl Rep.atom h b c.body) : Sl Rep.clause h (.slice (some ⟨A, 0, none⟩) 1 1) [c] := by
  refine .inr ⟨A, 0, 1, c.head.cells ++ [b], u, ro, rfl, (by show 1 ≤ maxLen; decide), .inl ⟨by decide, Nat.le_refl _⟩, q.lt, q.get, fun i x hx => ?_⟩
  cases i with
  | zero =>
    simp at hx
    subst hx
    exact ⟨_, rfl, b, rfl, hb⟩
  | succ i => simp at hx
end Go.Am
namespace Go.Proofs.YtemapihoobmonaaGreatDoor
open Go.Am
set_option linter.unusedSimpArgs false
set_option linter.unusedVariables false
set_option maxRecDepth 100000
set_option maxHeartbeats 0
theorem zgY (l m : List AtomD) (v u : Value) (h : Heap) (hl : Sl Rep.atom h v l) (hm : Sl Rep.atom h u m) (hs : l.length ≤ 1000) (hs2 : m.length ≤ 1000) (K : Value → Heap → Prop)
    (hk : ∀ h', Ext h h' → K (.bool (decide (l = m))) h') : Ok Tryz.prog tab ov 21 [v, u] h K := by
  rw [zaa h]
  have z := Ext.refl h
  have hln := fun (hh : Heap) => hl.lenA ds27 hh
  have hlm := fun (hh : Heap) => hm.lenA ds27 hh
  refine Ok.into rfl zvh (zaB N21) rfl (m := 24) rfl ?_
  simp -implicitDefEqProofs only [syms, symx, seval, c21, hln, hlm]
  refine zg4 (fun hne => ?_) (fun heq => ?_)
  · rw [decide_eq_false (show ¬ l = m from fun e => by subst e; exact hne rfl)] at hk
    repeat' ( simp -implicitDefEqProofs only [syms, symx, seval, c21])
    exact hk _ (z.upW _ _ (by omega))
  have hlen : l.length = m.length := by omega
  repeat' ( simp -implicitDefEqProofs only [syms, symx, seval, c21])
  obtain ⟨I1, hI1⟩ : ∃ I : Nat → Env → Heap → Prop, I = (fun n e h' => ∃ (i : Nat) (h1 : Heap), h' = h1.lay [] h1.low ∧ Ext h h1 ∧ (n = l.length - i ∧ i ≤ l.length ∧ l.take i = m.take i) ∧ ∃ J : Nat → Value, e = (v :: u :: jr J 2 3 (.int .i64 i :: jr J 6 20 ([])))) := ⟨_, rfl⟩
  refine zas I1 _ (by rw [hI1]; exact ⟨0, _, rfl, z, ⟨rfl, by omega, rfl⟩, junk (by kernel_rfl)⟩) ?_
  intro n e h' hin
  rw [hI1] at hin
  obtain ⟨i, h1', rfl, z, hinv, J, rfl⟩ := hin
  obtain ⟨rfl, hi, htk⟩ := hinv
  have hw : IntKind.i64.wrap ((i : Int) + 1) = ((i + 1 : Nat) : Int) := by rw [zae (by omega) (by omega)]; omega
  simp -implicitDefEqProofs only [syms, symx, seval, c21, hln]
  refine zaw (fun hlt => ?_) (fun hlt => ?_)
  rotate_left
  · rw [List.take_of_length_le (by omega), List.take_of_length_le (by omega)] at htk
    rw [decide_eq_true htk] at hk
    repeat' ( simp -implicitDefEqProofs only [syms, symx, seval, c21])
    exact hk _ (z.upW _ _ (by omega))
  obtain ⟨r, hr, hr'⟩ := za5 (l := l) (i := i) (by omega)
  obtain ⟨s, hs, hs'⟩ := za5 (l := m) (i := i) (by omega)
  simp -implicitDefEqProofs only [syms, symx, seval, c21]
  repeat' ((first | ((with_reducible  apply zgU ) <;> intro _) | with_reducible_and_instances refine zdN (hl.mono z.inc) ds27 sz26 (by omega) hr (fun p hp => ?_) | with_reducible_and_instances refine zdN (hm.mono z.inc) ds27 sz26 (by omega) hs (fun p hp => ?_) | with_reducible_and_instances refine lda hp ag26 sz26 ?_ | with_reducible refine zbP (by simp only [c21]) (z.upW _ _ (by omega)) ?_ | ((with_reducible refine ⟨z.grw.lay _ _, ?_⟩); (intro _ h' zz x _); (try simp only [zap, List.append_nil] at x); (replace z := zz); (clear zz); rw [zaa h'])) <;> simp -implicitDefEqProofs only [syms, symx, seval, c21, zrY])
  · have hne : ¬ r = s := by assumption
    rw [decide_eq_false (show ¬ l = m from fun e => by
      subst e
      rw [hr'] at hs'
      exact hne (Option.some.inj hs'))] at hk
    exact hk _ (z.upW _ _ (by omega))
  · have he : r = s := by assumption
    rw [hw]
    (rw [hI1]; with_reducible refine zac (m := _) ?_ ⟨i + 1, _, rfl, z, ⟨rfl, by omega, by rw [List.take_add_one, List.take_add_one, hr', hs', htk, he]⟩, junk (by kernel_rfl)⟩; omega)
end Go.Proofs.YtemapihoobmonaaGreatDoor

/- One element appended, cells stored within a row. No condition. -/
import Derived.Test.YtemapihoobmonaaGreatDoorGJoin
import Derived.Test.YtemapihoobmonaaGreatDoorG21
import Derived.Test.YtemapihoobmonaaGreatDoorG23
import Derived.Test.YtemapihoobmonaaGreatDoorGOv
import Derived.Lib.Overlaps
import Derived.Lib.AppendZerosOnto
import Derived.Test.YtemapihoobmonaaGreatDoorG25
namespace Go.Am
set_option linter.unusedVariables false
section
variable {α : Type} {r : Rep α} {h0 h1 : Heap} {v : Value} {l : List α} {t e : TypeId} {A k bytes : Nat} {z : List Value} {T : Tab} {bs : List Blk} {w : Nat} {K : Value → Heap → Prop}
theorem zlH (hd : T.desc t = some (.slice e)) (hi : T.info e = some (k, bytes, z)) (hrk : r.k = k) (hk : 0 < k) {u : TypeId} {ro : Bool} {cs : List Value} {i c : Nat} {x : α} (hg : bs[i]? = some (.row cs u ro)) (hz : h0.size ≤ h1.size) (f : Ow r h0 h1 e A v l) (hr : r.R (kill A (h1.lay bs w)) cs x)
    (hb : (l.length + 1) * bytes ≤ 140737488355328) (hl : l.length + 1 ≤ 1152921504606846976)
    (hK : ∀ v' h' A', Ow r h0 h' e A' v' (l ++ [x]) → Chg A (h1.lay bs w) h' → (A' = A ∨ h1.size ≤ A') → K v' h') : optE (za8 T t v (.slice (some ⟨h1.size + i, 0, none⟩) 1 c) (h1.lay bs w)) K := by
  have hgt : (h1.lay bs w).get (h1.size + i) = some (.row cs u ro) := by rw [zaR]; exact hg
  obtain ⟨hs, hsr⟩ := zdn (r := r) (A := A) (c := c) (y := x) (by omega) hgt hr
  exact zrT hd hi hrk hk hz f (by rw [← hrk]; exact hs) hsr hb hl hK
theorem zgD {u : TypeId} {n o : Nat} {cs vs : List Value} {v : Value} (q : Holds h1 A (.row cs u false)) (hs : zaL T t = some n) (hv : v.cells.toList = vs) (hl : vs.length = n) (hb : o + n ≤ cs.length) (h1' : vs.all one = true)
    (hK : ∀ h', Holds h' A (.row (splice cs o vs) u false) → Chg A (h1.lay bs w) h' → K undef h') : memE (za4 T t (.pointer (some ⟨A, o, none⟩)) v (h1.lay bs w)) K := by
  have hg : (h1.lay bs w).get A = some (.row cs u false) := q.lay bs w
  have hA : A < (h1.lay bs w).size := (q.on bs w).lt
  have hsz : v.cells.size = n := by rw [← hl, ← hv]; simp
  have he : za4 T t (.pointer (some ⟨A, o, none⟩)) v (h1.lay bs w) = some ((h1.lay bs w).set A (.row (splice cs o vs) u false)) := by
    unfold za4
    simp only [hs, Option.bind_some]
    rw [if_pos hsz, hv]
    unfold zcB
    rw [hg]
    simp only
    rw [if_pos (by simp only [Bool.and_eq_true, decide_eq_true_eq]; exact ⟨by omega, h1'⟩)]
  rw [he]
  refine hK _ ⟨by rw [Heap.size_set]; exact hA, by rw [Heap.get_set _ _ _ _ hA, if_pos rfl]⟩ ⟨by rw [Heap.size_set]; exact Nat.le_refl _, fun B hB hne => by rw [Heap.get_set _ _ _ _ hA, if_neg hne], by rw [Heap.low_set]; omega⟩
end
section
variable {P : Program} {T : Tab} {ov : Ov}
theorem zl8 {b : Nat} {ops : Array Oper} {l : List Oper} {j : Nat} {d : Option Tmp} {Q : Env → Heap → Prop} {e : Env} {hh : Heap} {bs0 bs : List Blk} {w s : Nat} {v : Value} (ho : zgm T ops j = true) (hl : bs0.length ≤ bs.length) (hb : b ≤ s)
    (hk : WOpsX P T ov b ops l (j + 1) (put e d v) (hh.lay bs s) Q) : zkC P T ov b ops l j d Q e (hh.lay bs0 w) v (hh.lay bs s) :=
  zmP ho hb (by rw [zad, zad]; omega) hk
end
/-! ### Heaps without one block -/
theorem zcg {h : Heap} {A B : Nat} (hne : B ≠ A) : (kill A h).get B = h.get B := by
  unfold kill
  split
  · rename_i hA
    rw [Heap.get_set _ _ _ _ hA, if_neg hne]
  · rfl
theorem zdw {h : Heap} {A : Nat} (hA : A < h.size) : (kill A h).get A = some .dead := by
  unfold kill
  rw [if_pos hA, Heap.get_set _ _ _ _ hA, if_pos rfl]
structure Kin (B : Heap) (A : Nat) (h : Heap) : Prop where
  lt : A < h.size
  inc : Inc B (kill A h)
section
variable {B h1 h2 : Heap} {A A' : Nat} {bs : List Blk} {w : Nat}
theorem Kin.start (hA : A < h1.size) : Kin (kill A h1) A h1 := ⟨hA, Inc.refl _⟩
theorem Kin.all (k : Kin B A h1) : Inc B h1 := k.inc.trans (zfY _ _)
theorem zhf {a b : Heap} (i : Inc a b) : Inc (kill A a) (kill A b) := ⟨by rw [zbd, zbd]; exact i.size, fun C hC hd => by
  by_cases hCA : C = A
  · subst hCA
    rw [zbd] at hC
    exact absurd (zdw hC) hd
  · rw [zbd] at hC
    rw [zcg hCA] at hd ⊢
    rw [zcg hCA]
    exact i.get C hC hd⟩
theorem Kin.mono (k : Kin B A h1) (i : Inc h1 h2) : Kin B A h2 := ⟨Nat.lt_of_lt_of_le k.lt i.size, k.inc.trans (zhf i)⟩
theorem Kin.over (k : Kin B A h1) (x : Ext (h1.lay bs w) h2) : Kin B A h2 := k.mono ((Inc.lay _ _ _).trans x.inc)
theorem Kin.lay (k : Kin B A h1) (bs : List Blk) (w : Nat) : Kin B A (h1.lay bs w) := k.mono (Inc.lay _ _ _)
theorem Kin.step (k : Kin B A h1) (c : Chg A (h1.lay bs w) h2) (hA : A' = A ∨ h1.size ≤ A') (hl : A' < h2.size) : Kin B A' h2 := by
  have hs : h1.size ≤ (h1.lay bs w).size := by rw [zad]; omega
  refine ⟨hl, ⟨by rw [zbd]; exact Nat.le_trans k.all.size (Nat.le_trans hs c.size), fun C hC hd => ?_⟩⟩
  have h3 := k.inc.get C hC hd
  have hCA : C ≠ A := by
    intro e
    subst e
    rw [zdw k.lt] at h3
    exact hd h3.symm
  have hC1 : C < h1.size := Nat.lt_of_lt_of_le hC k.all.size
  rw [zcg hCA] at h3
  rw [zcg (by rcases hA with e | e <;> omega), c.get C (by omega) hCA, zaQ _ _ _ hC1]
  exact h3
theorem Kin.trans (k : Kin B A h1) (k2 : Kin (kill A (h1.lay bs w)) A' h2) : Kin B A' h2 := ⟨k2.lt, (k.lay bs w).inc.trans k2.inc⟩
theorem Kin.holds {C : Nat} {cs : List Value} {u : TypeId} {ro : Bool} (k : Kin B A h1) (q : Holds B C (.row cs u ro)) : Holds h1 C (.row cs u ro) ∧ C ≠ A := by
  refine ⟨q.mono k.all, fun e => ?_⟩
  have := k.inc.get C q.lt (by rw [q.get]; nofun)
  rw [e, zdw k.lt, ← e, q.get] at this
  cases this
theorem Kin.keep {C : Nat} {cs : List Value} {u : TypeId} {ro : Bool} (k : Kin (kill A (h1.lay bs w)) A' h2) (q : Holds h1 C (.row cs u ro)) (hne : C ≠ A) : Holds h2 C (.row cs u ro) ∧ C ≠ A' :=
  k.holds ⟨by rw [zbd]; exact (q.on bs w).lt, (zcg hne).trans (q.on bs w).get⟩
theorem Kin.mono_sl {α : Type} {r : Rep α} {v : Value} {l : List α} (k : Kin B A h1) (f : Sl r B v l) : Sl r h1 v l := f.mono k.all
theorem Ow.ltN {α : Type} {r : Rep α} {h0 h : Heap} {e A : Nat} {v : Value} {l : List α} (f : Ow r h0 h e A v l) (hne : l ≠ []) : A < h.size := by
  rcases f with ⟨_, e2, _⟩ | ⟨_, _, _, _, e4, _⟩
  · exact absurd e2 hne
  · exact e4
end
section
variable {T : Tab} {t e : TypeId} {v : Value} {B h1 : Heap} {bs : List Blk} {w : Nat} {K : Value → Heap → Prop} {kd : IntKind} {i : Int}
theorem zxz {α : Type} {r : Rep α} {l : List α} {x : α} (f : Sl r B v l) (ic : Inc B h1) (hd : T.desc t = some (.slice e)) (hs : zaL T e = some r.k) (h0 : 0 ≤ i) (hx : l[i.toNat]? = some x) (hk : ∀ p cs, r.R B cs x → AtP h1 p cs → K p (h1.lay bs w)) :
    valE (zat T t v (.int kd i)) (h1.lay bs w) K := by
  have hlt : i.toNat < l.length := (List.getElem?_eq_some_iff.1 hx).1
  rcases f with ⟨rfl, rfl⟩ | ⟨A, o, c, row, u, ro, rfl, e2, e3, e4, e5, e6⟩
  · simp at hx
  · obtain ⟨cs, g1, g2⟩ := e6 i.toNat x hx
    unfold zat
    simp only [hd]
    rw [if_pos ⟨h0, by omega⟩, hs]
    refine hk _ cs g2 ⟨A, _, row, u, ro, rfl, Nat.lt_of_lt_of_le e4 ic.size, ic.at e4 e5, ?_⟩
    rw [r.len _ _ _ g2]
    exact g1
theorem zvv {l : List ClauseD} {x : ClauseD} (f : Sl Rep.clause B v l) (ic : Inc B h1) (hd : T.desc t = some (.slice e)) (hs : zaL T e = some 12) (h0 : 0 ≤ i) (hx : l[i.toNat]? = some x) (hk : ∀ p b, Sl Rep.atom B b x.body → AtP h1 p (x.head.cells ++ [b]) → K p (h1.lay bs w)) : valE (zat T t v (.int kd i)) (h1.lay bs w) K :=
  zxz f ic hd hs h0 hx fun p cs ⟨b, e1, e2⟩ hp => hk p b e2 (by rw [← e1]; exact hp)
end
theorem Inc.chg {a b d : Heap} {A : Nat} (i : Inc a b) (c : Chg A b d) (hA : a.size ≤ A) : Inc a d := ⟨Nat.le_trans i.size c.size, fun B hB hd => (c.get B (Nat.lt_of_lt_of_le hB i.size) (by omega)).trans (i.get B hB hd)⟩
theorem zdB {h h2 : Heap} {A : Nat} (i : Inc h h2) (hA : h.size ≤ A) : Inc h (kill A h2) := ⟨by rw [zbd]; exact i.size, fun C hC hd => by rw [zcg (by omega)]; exact i.get C hC hd⟩
theorem Ow.re {α : Type} {r : Rep α} {h0 h : Heap} {e A B : Nat} {v : Value} (f : Ow r h0 h e A v []) (hB : h0.size ≤ B) : Ow r h0 h e B v [] := by
  rcases f with ⟨_, _, e3⟩ | ⟨_, _, e2, _⟩
  · exact .inl ⟨hB, rfl, e3⟩
  · exact absurd rfl e2
/-! ### Sizes -/
theorem zkE {s : ByteArray} (h : lowX s) : s.size ≤ 300 := by have := h.len; omega
theorem termX.size {t : TermD} (h : termX t) : t.s.size ≤ 300 := by
  unfold termX at h
  split at h
  · have := h.len; omega
  · exact zkE h.1
theorem ztd {a : AtomD} (h0 : a.says.size ≤ 300) (h1 : a.pred.size ≤ 300) (h : ∀ i, i < 4 → (a.arg i).s.size ≤ 300) : a.light = true := by
  unfold AtomD.light
  simp only [Bool.and_eq_true, decide_eq_true_eq]
  exact ⟨h0, h1, h 0 (by omega), h 1 (by omega), h 2 (by omega), h 3 (by omega)⟩
theorem ValidX.light {a : AtomD} (h : ValidX a) : a.light = true := by
  refine ztd (zkE h.says.1.1) (zkE h.pred.1.1) (fun i hi => ?_)
  by_cases hn : (i : Int) < a.n
  · exact (h.terms i hn).size
  · rw [h.rest i (by omega) hi]
    decide
theorem zqT {cl : List ClauseD} {facts hv : List AtomD} (hb : ∀ c ∈ cl, c.body.length ≤ 3) (hc : cl.length ≤ 6) (hh : hv.length ≤ 24) (j : Nat) : (facts ++ (cl.take j).flatMap fun c => zbK c.head hv c.body []).length ≤ facts.length + 82944 := by
  rw [List.length_append]
  have h1 := zhc (fun c : ClauseD => zbK c.head hv c.body []) 13824 (cl.take j) (fun c hc => by
    refine Nat.le_trans (zes _ _) ?_
    have h3 := hb c (List.mem_of_mem_take hc)
    have h4 : c.body.length = 0 ∨ c.body.length = 1 ∨ c.body.length = 2 ∨ c.body.length = 3 := by omega
    rcases h4 with e | e | e | e <;> rw [e]
    · rw [Nat.pow_zero]; omega
    · rw [Nat.pow_one]; omega
    · exact Nat.le_trans (Nat.pow_le_pow_left hh 2) (by decide)
    · exact Nat.le_trans (Nat.pow_le_pow_left hh 3) (by decide))
  rw [List.length_take] at h1
  have : min j cl.length * 13824 ≤ 6 * 13824 := Nat.mul_le_mul_right _ (by omega)
  omega
def zjm (l : List BindD) (a : AtomD) (k : Nat) : AtomD :=
  { a with t0 := if 0 < k then zbD l a.t0 else a.t0, t1 := if 1 < k then zbD l a.t1 else a.t1, t2 := if 2 < k then zbD l a.t2 else a.t2, t3 := if 3 < k then zbD l a.t3 else a.t3 }
theorem zql (l : List BindD) (a : AtomD) : zjm l a a.cnt = zcy l a := rfl
theorem zqV (l : List BindD) (a : AtomD) {k : Nat} (hk : k < 4) : (zjm l a k).arg k = a.arg k := by
  have : k = 0 ∨ k = 1 ∨ k = 2 ∨ k = 3 := by omega
  rcases this with rfl | rfl | rfl | rfl <;> rfl
theorem zpK (l : List BindD) (a : AtomD) {k : Nat} (hk : k < 4) : splice (zjm l a k).cells (3 + k * 2) (zbD l (a.arg k)).cells = (zjm l a (k + 1)).cells := by
  have : k = 0 ∨ k = 1 ∨ k = 2 ∨ k = 3 := by omega
  rcases this with rfl | rfl | rfl | rfl <;> rfl
end Go.Am
namespace Go.Am
open Go.RowKit
set_option linter.unusedVariables false
set_option linter.unusedSimpArgs false
section
variable {P : Program} {gs : List Nat} {ρ : Rho} {h : Heap} {w : World}

end
end Go.Am
namespace Go.Am
set_option linter.unusedVariables false
set_option linter.unusedSimpArgs false
theorem Inc.over {a h1 h2 : Heap} {l : List Blk} {w : Nat} (i : Inc a h1) (x : Ext (h1.lay l w) h2) : Inc a h2 := (i.trans (Inc.lay _ _ _)).trans x.inc
end Go.Am

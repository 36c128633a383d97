/- Arguments that are slices, by what they hold. No condition. -/
import Derived.Test.YtemapihoobmonaaGreatDoorG8
import Derived.Test.YtemapihoobmonaaGreatDoorG13
import Derived.Test.YtemapihoobmonaaGreatDoorG11
namespace Go.Am
set_option linter.unusedVariables false
theorem zgW {α : Type} {r : Rep α} {P : Program} {h : Heap} {n : Nat} {t e : TypeId} {v : Value} (hu : P.underlying t = some (.slice e)) (hk : P.cellsOf e = r.k) (hel : ∀ cs, Shp P h n e cs → ∃ x, r.R h cs x) (hs : Shp P h (n + 1) t [v]) : ∃ l, Sl r h v l := by
  unfold Shp at hs
  rw [hu] at hs
  rcases hs with hs | ⟨A, len, cap, row, u, hv, h1, h2, h3, h4, h5, h6⟩
  · simp only [List.cons.injEq, and_true] at hs
    subst hs
    exact ⟨[], Sl.nil⟩
  · simp only [List.cons.injEq, and_true] at hv
    subst hv
    rw [hk] at h5 h6
    have hx : ∀ i : Fin len, ∃ x, r.R h ((row.drop (i.val * r.k)).take r.k) x := fun i => hel _ (h6 i.val i.isLt)
    refine ⟨List.ofFn fun i => Classical.choose (hx i), .inr ⟨A, 0, cap, row, u, true, by rw [List.length_ofFn], by rw [List.length_ofFn]; omega, .inl ⟨by unfold G; unfold maxLen at h2; omega, by rw [List.length_ofFn]; exact h1⟩, h3, h4, fun i x hi => ?_⟩⟩
    rw [List.getElem?_ofFn] at hi
    split at hi
    · rename_i hlt
      simp only [Option.some.injEq] at hi
      subst hi
      refine ⟨_, ?_, Classical.choose_spec (hx ⟨i, hlt⟩)⟩
      unfold cut
      have : i * r.k + r.k ≤ len * r.k := by rw [← Nat.succ_mul]; exact Nat.mul_le_mul_right _ (by omega)
      rw [Nat.zero_add, if_pos (by omega)]
    · cases hi
end Go.Am
namespace Go.Proofs.YtemapihoobmonaaGreatDoor
open Go.Am
set_option linter.unusedSimpArgs false
set_option linter.unusedVariables false
set_option maxRecDepth 100000
theorem zrz {α : Type} {l : List α} (h : l.length = 11) : ∃ a0 a1 a2 a3 a4 a5 a6 a7 a8 a9 a10, l = [a0, a1, a2, a3, a4, a5, a6, a7, a8, a9, a10] := by
  match l, h with
  | [a0, a1, a2, a3, a4, a5, a6, a7, a8, a9, a10], _ => exact ⟨_, _, _, _, _, _, _, _, _, _, _, rfl⟩
theorem ziH : Tryz.prog.cellsOf 26 = 11 := by kernel_rfl
theorem zoo : Tryz.prog.cellsOf 23 = 2 := by kernel_rfl
theorem zqY : Tryz.prog.cellsOf 9 = 1 := by kernel_rfl
theorem zqG : Tryz.prog.cellsOf 3 = 1 := by kernel_rfl
theorem zbB {h : Heap} {n : Nat} {cs : List Value} (hs : Shp Tryz.prog h (n + 1) 9 cs) : ∃ s : ByteArray, cs = [.string s] := by
  unfold Shp at hs
  rw [Tryz.underlying9] at hs
  exact ⟨hs.choose, hs.choose_spec.1⟩
theorem zvg {h : Heap} {n : Nat} {cs : List Value} (hs : Shp Tryz.prog h (n + 1) 4 cs) : ∃ b : Bool, cs = [.bool b] := by
  unfold Shp at hs
  rw [Tryz.underlying4] at hs
  exact hs
theorem zie {h : Heap} {n : Nat} {cs : List Value} (hs : Shp Tryz.prog h (n + 1) 3 cs) : ∃ b : Int, cs = [.int .i64 b] ∧ (Lit.int .i64 b).wf = true := by
  unfold Shp at hs
  rw [Tryz.underlying3] at hs
  exact hs
theorem zhH {h : Heap} {n : Nat} {x y : Value} (hs : Shp Tryz.prog h (n + 2) 23 [x, y]) : ∃ (b : Bool) (s : ByteArray), x = .bool b ∧ y = .string s := by
  unfold Shp at hs
  rw [Tryz.underlying23] at hs
  obtain ⟨_, hf⟩ := hs
  have h0 : Shp Tryz.prog h (n + 1) 4 (([x, y].drop 0).take 1) := hf 0 _ rfl
  have h1 : Shp Tryz.prog h (n + 1) 9 (([x, y].drop 1).take 1) := hf 1 _ rfl
  obtain ⟨b, hb⟩ := zvg h0
  obtain ⟨s, hs⟩ := zbB h1
  simp at hb hs
  exact ⟨b, s, hb, hs⟩
theorem zka {h : Heap} {n : Nat} {cs : List Value} (hs : Shp Tryz.prog h (n + 4) 26 cs) : ∃ a : AtomD, cs = a.cells := by
  unfold Shp at hs
  rw [Tryz.underlying26] at hs
  obtain ⟨hl, hf⟩ := hs
  rw [ziH] at hl
  obtain ⟨a0, a1, a2, a3, a4, a5, a6, a7, a8, a9, a10, rfl⟩ := zrz hl
  have h0 : Shp Tryz.prog h (n + 3) 9 (([a0, a1, a2, a3, a4, a5, a6, a7, a8, a9, a10].drop 0).take 1) := hf 0 _ rfl
  have h1 : Shp Tryz.prog h (n + 3) 9 (([a0, a1, a2, a3, a4, a5, a6, a7, a8, a9, a10].drop 1).take 1) := hf 1 _ rfl
  have h2 : Shp Tryz.prog h (n + 3) 3 (([a0, a1, a2, a3, a4, a5, a6, a7, a8, a9, a10].drop 2).take 1) := hf 2 _ rfl
  have h3 : Shp Tryz.prog h (n + 3) 24 (([a0, a1, a2, a3, a4, a5, a6, a7, a8, a9, a10].drop 3).take 8) := hf 3 _ rfl
  obtain ⟨s, hs⟩ := zbB h0
  obtain ⟨p, hp⟩ := zbB h1
  obtain ⟨i, hi, _⟩ := zie h2
  unfold Shp at h3
  rw [Tryz.underlying24] at h3
  obtain ⟨_, hg⟩ := h3
  have g0 := hg 0 (by omega)
  have g1 := hg 1 (by omega)
  have g2 := hg 2 (by omega)
  have g3 := hg 3 (by omega)
  simp only [zoo] at g0 g1 g2 g3
  obtain ⟨b0, s0, e0, e0'⟩ := zhH g0
  obtain ⟨b1, s1, e1, e1'⟩ := zhH g1
  obtain ⟨b2, s2, e2, e2'⟩ := zhH g2
  obtain ⟨b3, s3, e3, e3'⟩ := zhH g3
  simp at hs hp hi
  subst hs hp hi e0 e0' e1 e1' e2 e2' e3 e3'
  exact ⟨⟨s, p, i, ⟨b0, s0⟩, ⟨b1, s1⟩, ⟨b2, s2⟩, ⟨b3, s3⟩⟩, rfl⟩
theorem znd {h : Heap} {n : Nat} {v : Value} (hs : Shp Tryz.prog h (n + 5) 27 [v]) : ∃ l, Sl Rep.atom h v l :=
  zgW Tryz.underlying27 ziH (fun cs hc => zka hc) hs
theorem zqw {P : Program} {h : Heap} {n : Nat} {ts us : List TypeId} {args : List Value} (e : ts = us) (hs : zdA P h n ts args) : zdA P h n us args := by
  subst e
  exact hs
theorem zcI {P : Program} {h : Heap} {n : Nat} {t : TypeId} {ts : List TypeId} {args : List Value} (hs : zdA P h n (t :: ts) args) : ∃ v vs, args = v :: vs ∧ zeg P h n t v ∧ zdA P h n ts vs := by
  cases args with
  | nil => exact absurd hs id
  | cons v vs => exact ⟨v, vs, rfl, hs.1, hs.2⟩
theorem znr {P : Program} {h : Heap} {n : Nat} {args : List Value} (hs : zdA P h n [] args) : args = [] := by
  cases args with
  | nil => rfl
  | cons v vs => exact absurd hs id
end Go.Proofs.YtemapihoobmonaaGreatDoor
namespace Go.Am
theorem Ow.slice {α : Type} {r : Rep α} {h0 h : Heap} {e A : Nat} {v : Value} {l : List α} (f : Ow r h0 h e A v l) : ∃ a n c, v = .slice a n c := by
  rcases f with ⟨_, _, rfl | ⟨B, o, rfl, _⟩⟩ | ⟨row, rfl, _⟩
  · exact ⟨_, _, _, rfl⟩
  · exact ⟨_, _, _, rfl⟩
  · exact ⟨_, _, _, rfl⟩
theorem Ow.lt {α : Type} {r : Rep α} {h0 h : Heap} {e A : Nat} {v : Value} {l : List α} (f : Ow r h0 h e A v l) : A < h.size ∨ l = [] := by
  rcases f with ⟨_, h2, _⟩ | ⟨row, _, _, _, h4, _⟩
  · exact .inr h2
  · exact .inl h4
theorem Ow.any {α : Type} {r : Rep α} {h0 h : Heap} {e A : Nat} {v : Value} (f : Ow r h0 h e A v []) (B : Nat) (hB : h0.size ≤ B) : Ow r h0 h e B v [] := by
  rcases f with ⟨_, h2, h3⟩ | ⟨row, _, h2, _⟩
  · exact .inl ⟨hB, h2, h3⟩
  · exact absurd rfl h2
theorem zlg {A : Nat} {h : Heap} (hA : h.size ≤ A) : kill A h = h := if_neg (by omega)
theorem Ow.under {α : Type} {r : Rep α} {hc h : Heap} {e A C : Nat} {v : Value} {l : List α} (hk : 0 < r.k) (hflat : ∀ h h' cs x, r.R h cs x → r.R h' cs x) (f : Ow r hc h e A v l) (hC : C < hc.size ∨ h.size ≤ C) : Sl r (Am.kill C h) v l := by
  rcases hC with hC | hC
  · exact (f.kill hflat hC).sl hk
  · rw [zlg hC]; exact f.sl hk
section
variable {P : Program} {T : Tab} {ov : Ov}
end
section
variable {h1 : Heap} {bs : List Blk} {w : Nat} {T : Tab} {K : Value → Heap → Prop} {t e s : TypeId} {v p : Value} {kd : IntKind} {i : Int}
theorem zwB {l : List TermD} {x : TermD} (f : Sl Rep.term h1 v l) (hd : T.desc t = some (.slice e)) (hs : zaH T e = some 2) (h0 : 0 ≤ i) (hx : l[i.toNat]? = some x) (hk : ∀ p, AtP h1 p (x.cells) → K p (h1.lay bs w)) : valE (zal T t v (.int kd i)) (h1.lay bs w) K :=
  ixt f hd hs h0 (by have := (List.getElem?_eq_some_iff.1 hx).1; omega) fun x' p hx' hp => by
    obtain rfl : x = x' := Option.some.inj (hx.symm.trans hx')
    exact hk p hp
theorem zyN {l : List Int} {x : Int} (f : Sl Rep.int h1 v l) (hd : T.desc t = some (.slice e)) (hs : zaH T e = some 1) (h0 : 0 ≤ i) (hx : l[i.toNat]? = some x) (hk : ∀ p, AtP h1 p ([.int .i64 x]) → K p (h1.lay bs w)) : valE (zal T t v (.int kd i)) (h1.lay bs w) K :=
  ixi f hd hs h0 (by have := (List.getElem?_eq_some_iff.1 hx).1; omega) fun x' p hx' hp => by
    obtain rfl : x = x' := Option.some.inj (hx.symm.trans hx')
    exact hk p hp
theorem zt0 {l : List ByteArray} {x : ByteArray} (f : Sl Rep.str h1 v l) (hd : T.desc t = some (.slice e)) (hs : zaH T e = some 1) (h0 : 0 ≤ i) (hx : l[i.toNat]? = some x) (hk : ∀ p, AtP h1 p ([.string x]) → K p (h1.lay bs w)) : valE (zal T t v (.int kd i)) (h1.lay bs w) K :=
  ixs f hd hs h0 (by have := (List.getElem?_eq_some_iff.1 hx).1; omega) fun x' p hx' hp => by
    obtain rfl : x = x' := Option.some.inj (hx.symm.trans hx')
    exact hk p hp
theorem zwy {l : List ClauseD} {x : ClauseD} (f : Sl Rep.clause h1 v l) (hd : T.desc t = some (.slice e)) (hs : zaH T e = some 12) (h0 : 0 ≤ i) (hx : l[i.toNat]? = some x) (hk : ∀ p b, Sl Rep.atom h1 b x.body → AtP h1 p (x.head.cells ++ [b]) → K p (h1.lay bs w)) : valE (zal T t v (.int kd i)) (h1.lay bs w) K :=
  ixc f hd hs h0 (by have := (List.getElem?_eq_some_iff.1 hx).1; omega) fun x' p b hx' hb hp => by
    obtain rfl : x = x' := Option.some.inj (hx.symm.trans hx')
    exact hk p b hb hp
theorem zbP {α : Type} {l : List α} {i : Nat} (h : (i : Int) < l.length) : ∃ x, l[(i : Int).toNat]? = some x ∧ l[i]? = some x := ⟨l[i]'(by omega), by simp, by simp⟩
end
section
variable {P : Program} {T : Tab}
theorem zwa {op : BinOp} {t : TypeId} {k : IntKind} {a b : Int} {v : Value} (hf : zbO op (.int k a) (.int k b) = none) (hp : zaw P (binOp op t (.int k a) (.int k b)) = some v) (hv : plain v = true) : binA P T op t (.int k a) (.int k b) = some v := by
  have h1 : ((T.desc t).bind fun d => zkk d (.int k a) (.int k b)) = none := by
    cases T.desc t with
    | none => rfl
    | some d => cases d <;> rfl
  unfold binA
  rw [hf]
  simp only [h1]
  rw [if_pos (show (plain (Value.int k a) && plain (Value.int k b)) = true from rfl)]
  rw [hp, Option.bind_some, if_pos hv]
theorem zxv {t : TypeId} {k : IntKind} {a b : Int} (hb : b ≠ 0) : binA P T .rem t (.int k a) (.int k b) = some (.int k (a.tmod b)) := by
  refine zwa rfl ?_ rfl
  simp [binOp, Op.intDiv, hb, zcL]
end
end Go.Am

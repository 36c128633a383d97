/- Arguments that are slices, by what they hold. No condition. -/
import Derived.Test.YtemapihoobmonaaGreatDoorG8
import Derived.Test.YtemapihoobmonaaGreatDoorG13
import Derived.Test.YtemapihoobmonaaGreatDoorG11
import Derived.Test.YtemapihoobmonaaGreatDoorG4
namespace Go.Am
set_option linter.unusedVariables false
theorem zv7 {α : Type} {r : Rep α} {P : Program} {h : Heap} {n : Nat} {t e : TypeId} {v : Value} (hu : P.underlying t = some (.slice e)) (hk : P.cellsOf e = r.k) (hel : ∀ cs, Shp P h n e cs → ∃ x, r.R h cs x) (hs : Shp P h (n + 1) t [v]) : ∃ l, Sl r h v l := by
  unfold Shp at hs
  rw [hu] at hs
  rcases hs with hs | ⟨A, len, cap, row, u, hv, h1, h2, h3, h4, h5, h6⟩
  · simp only [List.cons.injEq, and_true] at hs
    subst hs
    exact ⟨[], Sl.nil⟩
  · simp only [List.cons.injEq, and_true] at hv
    subst hv
    rw [hk] at h5 h6
    have hx : ∀ i : Fin len, ∃ x, r.R h ((row.drop (i.val * r.k)).take r.k) x := fun i => hel _ (h6 i.val i.isLt)
    refine ⟨List.ofFn fun i => Classical.choose (hx i), .inr ⟨A, 0, cap, row, u, true, by rw [List.length_ofFn], by rw [List.length_ofFn]; omega, .inl ⟨by unfold G; unfold maxLen at h2; omega, by rw [List.length_ofFn]; exact h1⟩, h3, h4, fun i x hi => ?_⟩⟩
    rw [List.getElem?_ofFn] at hi
    split at hi
    · rename_i hlt
      simp only [Option.some.injEq] at hi
      subst hi
      refine ⟨_, ?_, Classical.choose_spec (hx ⟨i, hlt⟩)⟩
      unfold cut
      have : i * r.k + r.k ≤ len * r.k := by rw [← Nat.succ_mul]; exact Nat.mul_le_mul_right _ (by omega)
      rw [Nat.zero_add, if_pos (by omega)]
    · cases hi
end Go.Am
namespace Go.Proofs.YtemapihoobmonaaGreatDoor
open Go.Am
set_option linter.unusedSimpArgs false
set_option linter.unusedVariables false
set_option maxRecDepth 100000
theorem zp0 {α : Type} {l : List α} (h : l.length = 11) : ∃ a0 a1 a2 a3 a4 a5 a6 a7 a8 a9 a10, l = [a0, a1, a2, a3, a4, a5, a6, a7, a8, a9, a10] := by
  match l, h with
  | [a0, a1, a2, a3, a4, a5, a6, a7, a8, a9, a10], _ => exact ⟨_, _, _, _, _, _, _, _, _, _, _, rfl⟩
theorem zim : Tryz.prog.cellsOf 26 = 11 := by kernel_rfl
theorem znx : Tryz.prog.cellsOf 23 = 2 := by kernel_rfl
theorem zl1 : Tryz.prog.cellsOf 29 = 12 := by kernel_rfl
theorem zgj {h : Heap} {n : Nat} {cs : List Value} (hs : Shp Tryz.prog h (n + 1) 9 cs) : ∃ s : ByteArray, cs = [.string s] := by
  unfold Shp at hs
  rw [Tryz.underlying9] at hs
  exact ⟨hs.choose, hs.choose_spec.1⟩
theorem zup {h : Heap} {n : Nat} {cs : List Value} (hs : Shp Tryz.prog h (n + 1) 4 cs) : ∃ b : Bool, cs = [.bool b] := by
  unfold Shp at hs
  rw [Tryz.underlying4] at hs
  exact hs
theorem zwe {h : Heap} {n : Nat} {cs : List Value} (hs : Shp Tryz.prog h (n + 1) 3 cs) : ∃ b : Int, cs = [.int .i64 b] ∧ (Lit.int .i64 b).wf = true := by
  unfold Shp at hs
  rw [Tryz.underlying3] at hs
  exact hs
theorem zhd {h : Heap} {n : Nat} {x y : Value} (hs : Shp Tryz.prog h (n + 2) 23 [x, y]) : ∃ (b : Bool) (s : ByteArray), x = .bool b ∧ y = .string s := by
  unfold Shp at hs
  rw [Tryz.underlying23] at hs
  obtain ⟨_, hf⟩ := hs
  have h0 : Shp Tryz.prog h (n + 1) 4 (([x, y].drop 0).take 1) := hf 0 _ rfl
  have h1 : Shp Tryz.prog h (n + 1) 9 (([x, y].drop 1).take 1) := hf 1 _ rfl
  obtain ⟨b, hb⟩ := zup h0
  obtain ⟨s, hs⟩ := zgj h1
  simp at hb hs
  exact ⟨b, s, hb, hs⟩
theorem zo8 {h : Heap} {n : Nat} {cs : List Value} (hs : Shp Tryz.prog h (n + 4) 26 cs) : ∃ a : AtomD, cs = a.cells := by
  unfold Shp at hs
  rw [Tryz.underlying26] at hs
  obtain ⟨hl, hf⟩ := hs
  rw [zim] at hl
  obtain ⟨a0, a1, a2, a3, a4, a5, a6, a7, a8, a9, a10, rfl⟩ := zp0 hl
  have h0 : Shp Tryz.prog h (n + 3) 9 (([a0, a1, a2, a3, a4, a5, a6, a7, a8, a9, a10].drop 0).take 1) := hf 0 _ rfl
  have h1 : Shp Tryz.prog h (n + 3) 9 (([a0, a1, a2, a3, a4, a5, a6, a7, a8, a9, a10].drop 1).take 1) := hf 1 _ rfl
  have h2 : Shp Tryz.prog h (n + 3) 3 (([a0, a1, a2, a3, a4, a5, a6, a7, a8, a9, a10].drop 2).take 1) := hf 2 _ rfl
  have h3 : Shp Tryz.prog h (n + 3) 24 (([a0, a1, a2, a3, a4, a5, a6, a7, a8, a9, a10].drop 3).take 8) := hf 3 _ rfl
  obtain ⟨s, hs⟩ := zgj h0
  obtain ⟨p, hp⟩ := zgj h1
  obtain ⟨i, hi, _⟩ := zwe h2
  unfold Shp at h3
  rw [Tryz.underlying24] at h3
  obtain ⟨_, hg⟩ := h3
  have g0 := hg 0 (by omega)
  have g1 := hg 1 (by omega)
  have g2 := hg 2 (by omega)
  have g3 := hg 3 (by omega)
  simp only [znx] at g0 g1 g2 g3
  obtain ⟨b0, s0, e0, e0'⟩ := zhd g0
  obtain ⟨b1, s1, e1, e1'⟩ := zhd g1
  obtain ⟨b2, s2, e2, e2'⟩ := zhd g2
  obtain ⟨b3, s3, e3, e3'⟩ := zhd g3
  simp at hs hp hi
  subst hs hp hi e0 e0' e1 e1' e2 e2' e3 e3'
  exact ⟨⟨s, p, i, ⟨b0, s0⟩, ⟨b1, s1⟩, ⟨b2, s2⟩, ⟨b3, s3⟩⟩, rfl⟩
theorem zlq {h : Heap} {n : Nat} {v : Value} (hs : Shp Tryz.prog h (n + 5) 27 [v]) : ∃ l, Sl Rep.atom h v l :=
  zv7 Tryz.underlying27 zim (fun cs hc => zo8 hc) hs
theorem zi1 {h : Heap} {n : Nat} {cs : List Value} (hs : Shp Tryz.prog h (n + 6) 29 cs) : ∃ x, Rep.clause.R h cs x := by
  unfold Shp at hs
  rw [Tryz.underlying29] at hs
  obtain ⟨hl, hf⟩ := hs
  rw [zl1] at hl
  have h0 : Shp Tryz.prog h (n + 5) 26 ((cs.drop 0).take 11) := hf 0 _ rfl
  have h1 : Shp Tryz.prog h (n + 5) 27 ((cs.drop 11).take 1) := hf 1 _ rfl
  obtain ⟨a, ha⟩ := zo8 (n := n + 1) h0
  obtain ⟨v, hv⟩ : ∃ v, (cs.drop 11).take 1 = [v] := by
    match hc : (cs.drop 11).take 1, (show ((cs.drop 11).take 1).length = 1 by simp; omega) with
    | [v], _ => exact ⟨v, rfl⟩
  rw [hv] at h1
  obtain ⟨l, hl2⟩ := zlq h1
  refine ⟨⟨a, l⟩, v, ?_, hl2⟩
  have e1 : cs = cs.take 11 ++ cs.drop 11 := (List.take_append_drop 11 cs).symm
  rw [List.take_of_length_le (by simp; omega)] at hv
  rw [List.drop_zero] at ha
  rw [e1, ha, hv]
theorem zn0 {h : Heap} {n : Nat} {v : Value} (hs : Shp Tryz.prog h (n + 7) 32 [v]) : ∃ l, Sl Rep.clause h v l :=
  zv7 Tryz.underlying32 zl1 (fun cs hc => zi1 hc) hs
theorem zti {h : Heap} {n : Nat} {v : Value} (hs : ze3 Tryz.prog h (n + 5) 27 v) : ∃ l, Sl Rep.atom h v l := by
  unfold ze3 at hs
  rw [Tryz.underlying27] at hs
  exact zlq hs
theorem zne {h : Heap} {n : Nat} {v : Value} (hs : ze3 Tryz.prog h (n + 7) 32 v) : ∃ l, Sl Rep.clause h v l := by
  unfold ze3 at hs
  rw [Tryz.underlying32] at hs
  exact zn0 hs
theorem zpm {h : Heap} {n : Nat} {v : Value} (hs : ze3 Tryz.prog h (n + 6) 29 v) : ∃ x, zrf h v x := by
  unfold ze3 at hs
  rw [Tryz.underlying29] at hs
  obtain ⟨cs, rfl, hc⟩ := hs
  obtain ⟨x, b, rfl, hb⟩ := zi1 hc
  exact ⟨x, b, rfl, hb⟩
theorem zqX {P : Program} {h : Heap} {n : Nat} {ts us : List TypeId} {args : List Value} (e : ts = us) (hs : zdo P h n ts args) : zdo P h n us args := by
  subst e
  exact hs
theorem zef {P : Program} {h : Heap} {n : Nat} {t : TypeId} {ts : List TypeId} {args : List Value} (hs : zdo P h n (t :: ts) args) : ∃ v vs, args = v :: vs ∧ ze3 P h n t v ∧ zdo P h n ts vs := by
  cases args with
  | nil => exact absurd hs id
  | cons v vs => exact ⟨v, vs, rfl, hs.1, hs.2⟩
theorem znJ {P : Program} {h : Heap} {n : Nat} {args : List Value} (hs : zdo P h n [] args) : args = [] := by
  cases args with
  | nil => rfl
  | cons v vs => exact absurd hs id
end Go.Proofs.YtemapihoobmonaaGreatDoor
namespace Go.Am
variable {T : Tab} {fn : Func} {K : Value → Heap → Prop} {e : Env} {h : Heap}
theorem zhs (hr : fn.results = #[]) : finE T fn K .ret e h = K undef h := by
  simp [finE, zaM, hr, undef]
theorem zfg (hr : fn.results = #[]) : finE T fn K .normal e h = K undef h := by
  simp [finE, zaM, hr, undef]
theorem zrw {a b c : Tmp} (hr : fn.results = #[.tmp a, .tmp b, .tmp c]) : finE T fn K .ret e h = K (.tuple #[e.get a, e.get b, e.get c]) h := by
  simp [finE, zaM, hr, zbM]
theorem znF {a b : Tmp} {y : TypeId} (hr : fn.results = #[.cell a y, .tmp b]) : finE T fn K .ret e h = valE (za6 T y (e.get a) h) h (fun x h' => K (.tuple #[x, e.get b]) h') := by
  cases hl : za6 T y (e.get a) h with
  | none => simp [finE, zaM, hr, zbM, valE, hl]
  | some x => simp [finE, zaM, hr, zbM, valE, hl]
end Go.Am

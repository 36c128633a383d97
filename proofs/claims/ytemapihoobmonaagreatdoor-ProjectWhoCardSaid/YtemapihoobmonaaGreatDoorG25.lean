/- Requests in bytes; what is read of a part of the bytes. No condition. -/
import Derived.Test.YtemapihoobmonaaGreatDoorG24
import Derived.Test.YtemapihoobmonaaGreatDoorG19
import Derived.Test.YtemapihoobmonaaGreatDoorG4
namespace Go.Am
set_option linter.unusedVariables false
set_option linter.unusedSimpArgs false
theorem zc3 {s : ByteArray} {o p i : Nat} (h : o + i < min p s.size) : zay (s.extract o p) i = zay s (o + i) := by
  have hi : i < (s.extract o p).size := by rw [ByteArray.size_extract]; omega
  unfold zay
  rw [getElem?_pos (s.extract o p) i hi, getElem?_pos s (o + i) (by omega), ByteArray.getElem_extract]
theorem zkH {s : ByteArray} {o n o2 : Nat} (h : numO s o = some (n, o2)) : o ≤ o2 := by
  unfold numO at h
  cases he : numD (s.extract o s.size) with
  | none => rw [he] at h; cases h
  | some x =>
    rw [he] at h
    injection h with h
    injection h with h1 h2
    omega
theorem zfy {s : ByteArray} {o o2 : Nat} {x : ByteArray} (h : zaW s o = some (x, o2)) : o ≤ o2 := by
  unfold zaW at h
  obtain ⟨y, h1, h⟩ := Option.bind_eq_some_iff.1 h
  have := zkH (n := y.1) (o2 := y.2) h1
  split at h
  · injection h with h
    injection h with e1 e2
    omega
  · cases h
section
variable {s : ByteArray} {d : Nat}
theorem zfG (hd : d ≤ s.size) : (s.extract d s.size).size = s.size - d := by rw [ByteArray.size_extract]; omega
theorem zjv (hd : d ≤ s.size) (o : Nat) : numO (s.extract d s.size) o = (numO s (d + o)).map fun x => (x.1, x.2 - d) := by
  unfold numO
  rw [ByteArray.extract_extract, zfG hd, show min (d + (s.size - d)) s.size = s.size by omega, Option.map_map]
  congr 1
  funext x
  show (x.1, o + x.2) = (x.1, d + o + x.2 - d)
  rw [show d + o + x.2 - d = o + x.2 by omega]
theorem zfc (hd : d ≤ s.size) (o : Nat) (ho : d + o ≤ s.size) : zaW (s.extract d s.size) o = (zaW s (d + o)).map fun x => (x.1, x.2 - d) := by
  unfold zaW
  rw [zjv hd]
  cases h : numO s (d + o) with
  | none => rfl
  | some y =>
    have hy := zkH (n := y.1) (o2 := y.2) h
    have hz := (zgt (n := y.1) (o2 := y.2) ho h).1
    simp only [Option.map_some, Option.bind_some]
    rw [zfG hd]
    by_cases hc : y.1 ≤ s.size - y.2
    · rw [if_pos hc, if_pos (by omega), ByteArray.extract_extract, Option.map_some]
      rw [show d + (y.2 - d) = y.2 by omega, show min (d + (y.2 - d + y.1)) s.size = y.2 + y.1 by omega, show y.2 - d + y.1 = y.2 + y.1 - d by omega]
    · rw [if_neg hc, if_neg (by omega)]
      rfl
theorem zob (hd : d ≤ s.size) (o : Nat) : zbp (s.extract d s.size) o = (zbp s (d + o)).map fun x => (x.1, x.2 - d) := by
  unfold zbp
  rw [zfG hd]
  by_cases hl : d + o < s.size
  · rw [zc3 (by omega)]
    by_cases hb : zay s (d + o) ≤ 1
    · rw [if_pos ⟨by omega, hb⟩, if_pos ⟨hl, hb⟩, Option.map_some, show d + o + 1 - d = o + 1 by omega]
    · rw [if_neg (fun h => hb h.2), if_neg (fun h => hb h.2)]
      rfl
  · rw [if_neg (fun h => hl (by omega)), if_neg (fun h => hl h.1)]
    rfl
theorem zpi {o o2 : Nat} {b : Bool} (h : zbp s o = some (b, o2)) : o2 ≤ s.size ∧ o2 = o + 1 := by
  unfold zbp at h
  split at h
  · injection h with h
    injection h with e1 e2
    omega
  · cases h
theorem zpz (hd : d ≤ s.size) (o : Nat) : argO (s.extract d s.size) o = (argO s (d + o)).map fun x => (x.1, x.2 - d) := by
  unfold argO
  rw [zob hd]
  cases h : zbp s (d + o) with
  | none => rfl
  | some y =>
    have hy := zpi (b := y.1) (o2 := y.2) h
    simp only [Option.map_some, Option.bind_some]
    rw [zfc hd _ (by omega), show d + (y.2 - d) = y.2 by omega, Option.map_map, Option.map_map]
    rfl
theorem zwZ {o o2 : Nat} {t : TermD} (h : argO s o = some (t, o2)) : o ≤ o2 := by
  unfold argO at h
  obtain ⟨y, h1, h⟩ := Option.bind_eq_some_iff.1 h
  have := zpi (b := y.1) (o2 := y.2) h1
  cases h2 : zaW s y.2 with
  | none => rw [h2] at h; cases h
  | some w =>
    rw [h2] at h
    have := zfy (x := w.1) (o2 := w.2) h2
    injection h with h
    injection h with e1 e2
    omega
theorem zkZ {a : AtomD} {o : Nat} : ∀ {i o2 : Nat} {b : AtomD}, zbE s a o i = some (b, o2) → o ≤ o2
  | 0, _, _, h => by
    injection h with h
    injection h with h1 h2
    omega
  | i + 1, o2, b, h => by
    have e : zbE s a o (i + 1) = (zbE s a o i).bind fun x => (argO s x.2).map fun y => (x.1.put i y.1, y.2) := rfl
    rw [e] at h
    obtain ⟨x, h1, h⟩ := Option.bind_eq_some_iff.1 h
    have := zkZ (b := x.1) (o2 := x.2) h1
    cases h2 : argO s x.2 with
    | none => rw [h2] at h; cases h
    | some w =>
      rw [h2] at h
      have := zwZ (t := w.1) (o2 := w.2) h2
      injection h with h
      injection h with e1 e2
      omega
theorem ziG (hd : d ≤ s.size) (a : AtomD) (o : Nat) : ∀ i, zbE (s.extract d s.size) a o i = (zbE s a (d + o) i).map fun x => (x.1, x.2 - d)
  | 0 => by
    show some (a, o) = some (a, d + o - d)
    rw [show d + o - d = o by omega]
  | i + 1 => by
    have e : ∀ (s : ByteArray) (o : Nat), zbE s a o (i + 1) = (zbE s a o i).bind fun x => (argO s x.2).map fun y => (x.1.put i y.1, y.2) := fun _ _ => rfl
    rw [e, e, ziG hd a o i]
    cases h : zbE s a (d + o) i with
    | none => rfl
    | some x =>
      have := zkZ (b := x.1) (o2 := x.2) h
      simp only [Option.map_some, Option.bind_some]
      rw [zpz hd, show d + (x.2 - d) = x.2 by omega, Option.map_map, Option.map_map]
      rfl
theorem ztT {o k : Nat} {a : AtomD} (h : zbB s o = some (a, k)) : o ≤ k := by
  unfold zbB at h
  obtain ⟨x, h1, h⟩ := Option.bind_eq_some_iff.1 h
  obtain ⟨y, h2, h⟩ := Option.bind_eq_some_iff.1 h
  obtain ⟨n, h3, h⟩ := Option.bind_eq_some_iff.1 h
  have l1 := zfy (x := x.1) (o2 := x.2) h1
  have l2 := zfy (x := y.1) (o2 := y.2) h2
  have l3 := zkH (n := n.1) (o2 := n.2) h3
  split at h
  · obtain ⟨w, h4, h⟩ := Option.bind_eq_some_iff.1 h
    have l4 := zkZ (b := w.1) (o2 := w.2) h4
    split at h
    · injection h with h
      injection h with e1 e2
      omega
    · cases h
  · cases h
theorem zoe (hd : d ≤ s.size) (o : Nat) (ho : d + o ≤ s.size) : zbB (s.extract d s.size) o = (zbB s (d + o)).map fun x => (x.1, x.2 - d) := by
  unfold zbB
  rw [zfc hd o ho]
  cases h1 : zaW s (d + o) with
  | none => rfl
  | some x =>
    have g1 := zfy (x := x.1) (o2 := x.2) h1
    have l1 := zfR (x := x.1) (o2 := x.2) ho h1
    simp only [Option.map_some, Option.bind_some]
    rw [zfc hd _ (by omega), show d + (x.2 - d) = x.2 by omega]
    cases h2 : zaW s x.2 with
    | none => rfl
    | some y =>
      have g2 := zfy (x := y.1) (o2 := y.2) h2
      have l2 := zfR (x := y.1) (o2 := y.2) l1 h2
      simp only [Option.map_some, Option.bind_some]
      rw [zjv hd, show d + (y.2 - d) = y.2 by omega]
      cases h3 : numO s y.2 with
      | none => rfl
      | some n =>
        have g3 := zkH (n := n.1) (o2 := n.2) h3
        simp only [Option.map_some, Option.bind_some]
        by_cases hn : n.1 ≤ 4
        · rw [if_pos hn, if_pos hn, ziG hd, show d + (n.2 - d) = n.2 by omega]
          cases h4 : zbE s { noAtomD with says := x.1, pred := y.1 } n.2 n.1 with
          | none => rfl
          | some w =>
            simp only [Option.map_some, Option.bind_some]
            by_cases hv : ValidX { w.1 with n := n.1 }
            · rw [if_pos hv, if_pos hv]; rfl
            · rw [if_neg hv, if_neg hv]; rfl
        · rw [if_neg hn, if_neg hn]; rfl
end
noncomputable def reqO (s : ByteArray) : Option (Nat × AtomD) := if s.size ≤ 4096 ∧ 0 < s.size then (zbB s 1).bind fun x => if x.2 = s.size ∧ 1 ≤ zay s 0 ∧ zay s 0 ≤ 3 then some (zay s 0, x.1) else none else none
def zaF (k : Int) (a : AtomD) : List Value := .int .i64 k :: a.cells
def zcm (k : Int) (a : AtomD) : Value := .agg ⟨zaF k a⟩
end Go.Am
namespace Go.Proofs.YtemapihoobmonaaGreatDoor
open Go.Am
set_option linter.unusedSimpArgs false
set_option linter.unusedVariables false
set_option maxRecDepth 100000
theorem zrl : Tryz.prog.cellsOf 57 = 12 := by kernel_rfl
theorem zoo {h : Heap} {n : Nat} {v : Value} (hs : zeX Tryz.prog h (n + 6) 57 v) : ∃ (k : Int) (a : AtomD), v = zcm k a := by
  unfold zeX at hs
  rw [Tryz.underlying57] at hs
  obtain ⟨cs, rfl, hc⟩ := hs
  unfold Shp at hc
  rw [Tryz.underlying57] at hc
  obtain ⟨hl, hf⟩ := hc
  rw [zrl] at hl
  have h0 : Shp Tryz.prog h (n + 5) 3 ((cs.drop 0).take 1) := hf 0 _ rfl
  have h1 : Shp Tryz.prog h (n + 5) 26 ((cs.drop 1).take 11) := hf 1 _ rfl
  obtain ⟨k, hk, _⟩ := zhG h0
  obtain ⟨a, ha⟩ := zg4 (n := n + 1) h1
  refine ⟨k, a, ?_⟩
  have e1 : cs = cs.take 1 ++ cs.drop 1 := (List.take_append_drop 1 cs).symm
  rw [List.drop_zero] at hk
  rw [List.take_of_length_le (by simp; omega)] at ha
  rw [hk, ha] at e1
  rw [e1]
  rfl
end Go.Proofs.YtemapihoobmonaaGreatDoor
namespace Go.Am
variable {T : Tab} {fn : Func} {K : Value → Heap → Prop} {e : Env} {h : Heap}
theorem zxl (hr : fn.results = #[]) : finE T fn K .ret e h = K undef h := by
  simp [finE, zaI, hr, undef]
theorem zwS (hr : fn.results = #[]) : finE T fn K .normal e h = K undef h := by
  simp [finE, zaI, hr, undef]
theorem zl5 {a b c : Tmp} (hr : fn.results = #[.tmp a, .tmp b, .tmp c]) : finE T fn K .ret e h = K (.tuple #[e.get a, e.get b, e.get c]) h := by
  simp [finE, zaI, hr, zbs]
theorem zhB {a b : Tmp} {y : TypeId} (hr : fn.results = #[.cell a y, .tmp b]) : finE T fn K .ret e h = valE (zaS T y (e.get a) h) h (fun x h' => K (.tuple #[x, e.get b]) h') := by
  cases hl : zaS T y (e.get a) h with
  | none => simp [finE, zaI, hr, zbs, valE, hl]
  | some x => simp [finE, zaI, hr, zbs, valE, hl]
end Go.Am

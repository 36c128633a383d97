/- Requests written are read as they were. No condition. -/
import Derived.Test.YtemapihoobmonaaGreatDoorG29
import Derived.Test.YtemapihoobmonaaGreatDoorG40
namespace Go.Am
set_option linter.unusedVariables false
set_option linter.unusedSimpArgs false
def AtB (s : ByteArray) (o : Nat) (x : ByteArray) : Prop := o + x.size ≤ s.size ∧ ∀ j, j < x.size → zay s (o + j) = zay x j
theorem zp2 {x y : ByteArray} {j : Nat} (h : j < x.size) : zay (x ++ y) j = zay x j := by
  unfold zay
  rw [getElem?_pos (x ++ y) j (by rw [ByteArray.size_append]; omega), getElem?_pos x j h, ByteArray.getElem_append_left h]
theorem znp {x y : ByteArray} {j : Nat} (h : j < y.size) : zay (x ++ y) (x.size + j) = zay y j := by
  unfold zay
  rw [getElem?_pos (x ++ y) (x.size + j) (by rw [ByteArray.size_append]; omega), getElem?_pos y j h, ByteArray.getElem_append_right (by omega)]
  simp
theorem AtB.left {s x y : ByteArray} {o : Nat} (h : AtB s o (x ++ y)) : AtB s o x := ⟨by have := h.1; rw [ByteArray.size_append] at this; omega, fun j hj => by rw [h.2 j (by rw [ByteArray.size_append]; omega), zp2 hj]⟩
theorem AtB.right {s x y : ByteArray} {o : Nat} (h : AtB s o (x ++ y)) : AtB s (o + x.size) y := ⟨by have := h.1; rw [ByteArray.size_append] at this; omega, fun j hj => by rw [Nat.add_assoc, h.2 (x.size + j) (by rw [ByteArray.size_append]; omega), znp hj]⟩
theorem AtB.cut {s x : ByteArray} {o : Nat} (h : AtB s o x) : s.extract o (o + x.size) = x := by
  have hs : (s.extract o (o + x.size)).size = x.size := by rw [ByteArray.size_extract]; have := h.1; omega
  refine ByteArray.ext_getElem hs fun i hi hi2 => ?_
  have h1 := h.2 i hi2
  have h2 := zc3 (s := s) (o := o) (p := o + x.size) (i := i) (by have := h.1; omega)
  rw [← h2] at h1
  unfold zay at h1
  rw [getElem?_pos _ i hi, getElem?_pos x i hi2] at h1
  exact UInt8.toNat_inj.1 h1
theorem zaY (l : List Nat) : (zbj l).size = l.length := by
  show (l.map UInt8.ofNat).toArray.size = _
  simp
theorem zmW {l : List Nat} (hl : ∀ x ∈ l, x < 256) {j : Nat} (hj : j < l.length) : zay (zbj l) j = l[j] := by
  unfold zay
  rw [getElem?_pos (zbj l) j (by rw [zaY]; exact hj)]
  have e : (zbj l)[j]'(by rw [zaY]; exact hj) = UInt8.ofNat l[j] := by
    show ((l.map UInt8.ofNat).toArray)[j]'(by simpa using hj) = _
    simp
  rw [Option.getD_some, e, UInt8.toNat_ofNat']
  exact Nat.mod_eq_of_lt (hl _ (List.getElem_mem hj))
theorem zqp : ∀ (n : Nat), ∃ l b, numB n = l ++ [b] ∧ (∀ x ∈ l, 128 ≤ x) ∧ b < 128 := by
  intro n
  induction n using Nat.strongRecOn with
  | ind n ih =>
    by_cases hn : n < 128
    · exact ⟨[], n, za5 hn, by simp, hn⟩
    · obtain ⟨l, b, h1, h2, h3⟩ := ih (n / 128) (by omega)
      refine ⟨(n % 128 + 128) :: l, b, by rw [zbL hn, h1]; rfl, fun x hx => ?_, h3⟩
      rcases List.mem_cons.1 hx with rfl | hx
      · omega
      · exact h2 x hx
theorem zn6 : ∀ (n : Nat), zdx (numB n) = n := by
  intro n
  induction n using Nat.strongRecOn with
  | ind n ih =>
    by_cases hn : n < 128
    · rw [za5 hn]; show n % 128 + 128 * 0 = n; omega
    · rw [zbL hn]
      show (n % 128 + 128) % 128 + 128 * zdx (numB (n / 128)) = n
      rw [ih (n / 128) (by omega)]
      omega
theorem zlR {n : Nat} (h : n ≤ 4294967295) : (numB n).length ≤ 5 := by
  by_cases h0 : n < 128
  · rw [za5 h0]; simp
  rw [zbL h0, List.length_cons]
  by_cases h1 : n / 128 < 128
  · rw [za5 h1]; simp
  rw [zbL h1, List.length_cons]
  by_cases h2 : n / 128 / 128 < 128
  · rw [za5 h2]; simp
  rw [zbL h2, List.length_cons]
  by_cases h3 : n / 128 / 128 / 128 < 128
  · rw [za5 h3]; simp
  rw [zbL h3, List.length_cons, za5 (by omega)]
  simp
theorem zvp {s : ByteArray} {o n : Nat} (hn : n ≤ 4294967295) (h : AtB s o (zbj (numB n))) : numO s o = some (n, o + (numB n).length) := by
  obtain ⟨l, b, h1, h2, h3⟩ := zqp n
  have hl5 := zlR hn
  have hsz : (zbj (numB n)).size = (numB n).length := zaY _
  have hos := h.1
  rw [hsz] at hos
  have hlen : (numB n).length = l.length + 1 := by rw [h1]; simp
  have hby : ∀ j, j < l.length + 1 → ∃ x, (numB n)[j]? = some x ∧ zay (s.extract o s.size) j = x := by
    intro j hj
    have hj2 : j < (numB n).length := by omega
    refine ⟨(numB n)[j], List.getElem?_eq_getElem hj2, ?_⟩
    rw [zc3 (by omega), h.2 j (by rw [hsz]; exact hj2), zmW (zse n) hj2]
  have hlow : ∀ j, j < l.length → 128 ≤ zay (s.extract o s.size) j := by
    intro j hj
    obtain ⟨x, g1, g2⟩ := hby j (by omega)
    rw [g2]
    rw [h1, List.getElem?_append_left hj] at g1
    exact h2 x (List.mem_of_getElem? g1)
  have hb : zay (s.extract o s.size) l.length = b := by
    obtain ⟨x, g1, g2⟩ := hby l.length (by omega)
    rw [g2]
    rw [h1, List.getElem?_append_right (Nat.le_refl _)] at g1
    simp at g1
    exact g1.symm
  have hbs : zbT (s.extract o s.size) (l.length + 1) = numB n := by
    apply List.ext_getElem?
    intro j
    unfold zbT
    by_cases hj : j < l.length + 1
    · obtain ⟨x, g1, g2⟩ := hby j hj
      rw [g1, List.getElem?_map, List.getElem?_range hj, Option.map_some, g2]
    · rw [List.getElem?_eq_none (by simp; omega), List.getElem?_eq_none (by omega)]
  have hac : accN (s.extract o s.size) (l.length + 1) = n := by rw [zkC, hbs, zn6]
  have hend : endN (s.extract o s.size) = some l.length := ziq (by rw [ByteArray.size_extract]; omega) hlow (by rw [hb]; exact h3)
  unfold numO numD
  rw [hend]
  simp only
  rw [hac, if_neg (by
    rintro (g | ⟨g1, g2⟩)
    · omega
    · rw [hb] at g2
      rcases zlZ n l b h1 with e | e
      · rw [e] at g1; simp at g1
      · exact e g2)]
  simp only [Option.map_some]
  rw [hlen]
def zdg (x : ByteArray) : ByteArray := zbj (numB x.size) ++ x
theorem zju (x : ByteArray) : (zdg x).size = (numB x.size).length + x.size := by unfold zdg; rw [ByteArray.size_append, zaY]
theorem znw {s x : ByteArray} {o : Nat} (hx : x.size ≤ 4294967295) (h : AtB s o (zdg x)) : zaW s o = some (x, o + (zdg x).size) := by
  have h1 := zvp hx h.left
  have h2 := h.right
  rw [zaY] at h2
  unfold zaW
  rw [h1]
  simp only [Option.bind_some]
  have := h2.1
  rw [if_pos (by omega), h2.cut, zju, Nat.add_assoc]
def zhe (b : Bool) : ByteArray := if b then ⟨#[1]⟩ else ⟨#[0]⟩
theorem zw9 {s : ByteArray} {o : Nat} {b : Bool} (h : AtB s o (zhe b)) : zbp s o = some (b, o + 1) := by
  have h1 := h.1
  have h2 := h.2 0
  cases b
  · have e : zay s (o + 0) = 0 := h2 (by decide)
    have l : o + 1 ≤ s.size := h1
    rw [Nat.add_zero] at e
    unfold zbp
    rw [if_pos (by omega), e]
    rfl
  · have e : zay s (o + 0) = 1 := h2 (by decide)
    have l : o + 1 ≤ s.size := h1
    rw [Nat.add_zero] at e
    unfold zbp
    rw [if_pos (by omega), e]
    rfl
theorem zdH (b : Bool) : (zhe b).size = 1 := by cases b <;> rfl
def zbP (a : AtomD) : Nat → ByteArray
  | 0 => (zdg a.says ++ zdg a.pred) ++ zbj (numB a.n.toNat)
  | i + 1 => (zbP a i ++ zhe (a.arg i).v) ++ zdg (a.arg i).s
def zlO (a : AtomD) : ByteArray := zbP a a.cnt
def zwf (b a : AtomD) : Nat → AtomD
  | 0 => b
  | i + 1 => (zwf b a i).put i (a.arg i)
theorem zpl {s : ByteArray} {a b : AtomD} {o o3 : Nat} (hb : ∀ i, i < 4 → (a.arg i).s.size ≤ 4294967295) (ho : o3 = o + (zbP a 0).size) : ∀ i, i ≤ 4 → AtB s o (zbP a i) → zbE s b o3 i = some (zwf b a i, o + (zbP a i).size)
  | 0, _, _ => by rw [ho]; rfl
  | i + 1, hi, h => by
    have e : zbE s b o3 (i + 1) = (zbE s b o3 i).bind fun x => (argO s x.2).map fun y => (x.1.put i y.1, y.2) := rfl
    have h1 : AtB s o (zbP a i) := h.left.left
    have h2 : AtB s (o + (zbP a i).size) (zhe (a.arg i).v) := h.left.right
    have h3 := h.right
    rw [ByteArray.size_append, zdH] at h3
    rw [e, zpl hb ho i (by omega) h1]
    simp only [Option.bind_some]
    unfold argO
    rw [zw9 h2]
    simp only [Option.bind_some]
    rw [znw (hb i (by omega)) (by rw [Nat.add_assoc]; exact h3)]
    simp only [Option.map_some]
    have hz : (zbP a (i + 1)).size = (zbP a i).size + 1 + (zdg (a.arg i).s).size := by
      show ((zbP a i ++ zhe (a.arg i).v) ++ zdg (a.arg i).s).size = _
      rw [ByteArray.size_append, ByteArray.size_append, zdH]
    rw [hz]
    congr 2
    omega
theorem zpv {a : AtomD} (h : ValidX a) : ({ zwf { noAtomD with says := a.says, pred := a.pred } a a.cnt with n := (a.cnt : Int) } : AtomD) = a := by
  have h0 := h.lo
  have h4 := h.hi
  have hc : (a.cnt : Int) = a.n := by unfold AtomD.cnt; omega
  have hr := h.rest
  obtain ⟨sa, pr, n, t0, t1, t2, t3⟩ := a
  simp only at h0 h4
  have hn : n = 0 ∨ n = 1 ∨ n = 2 ∨ n = 3 ∨ n = 4 := by omega
  rcases hn with rfl | rfl | rfl | rfl | rfl
  · have r0 := hr 0 (by simp) (by omega)
    have r1 := hr 1 (by simp) (by omega)
    have r2 := hr 2 (by simp) (by omega)
    have r3 := hr 3 (by simp) (by omega)
    simp only [AtomD.arg] at r0 r1 r2 r3
    subst r0 r1 r2 r3
    rfl
  · have r1 := hr 1 (by simp) (by omega)
    have r2 := hr 2 (by simp) (by omega)
    have r3 := hr 3 (by simp) (by omega)
    simp only [AtomD.arg] at r1 r2 r3
    subst r1 r2 r3
    rfl
  · have r2 := hr 2 (by simp) (by omega)
    have r3 := hr 3 (by simp) (by omega)
    simp only [AtomD.arg] at r2 r3
    subst r2 r3
    rfl
  · have r3 := hr 3 (by simp) (by omega)
    simp only [AtomD.arg] at r3
    subst r3
    rfl
  · rfl
theorem zv3 {s : ByteArray} {a : AtomD} {o : Nat} (hv : ValidX a) (h : AtB s o (zlO a)) : zbB s o = some (a, o + (zlO a).size) := by
  have hlt := hv.light
  have hi := hv.hi
  have h0n := hv.lo
  have hcn : a.n.toNat = a.cnt := by unfold AtomD.cnt; omega
  have hc4 : a.cnt ≤ 4 := by unfold AtomD.cnt; omega
  have hsz : a.says.size ≤ 300 ∧ a.pred.size ≤ 300 ∧ ∀ i, i < 4 → (a.arg i).s.size ≤ 300 := by
    unfold AtomD.light at hlt
    simp only [Bool.and_eq_true, decide_eq_true_eq] at hlt
    refine ⟨by omega, by omega, fun i hi => ?_⟩
    have : i = 0 ∨ i = 1 ∨ i = 2 ∨ i = 3 := by omega
    rcases this with rfl | rfl | rfl | rfl <;> (simp only [AtomD.arg]; omega)
  have hz : ∀ i, AtB s o (zbP a i) → AtB s o (zbP a 0) := by
    intro i
    induction i with
    | zero => exact id
    | succ i ih => exact fun h => ih h.left.left
  have hA := hz _ h
  have t1 := znw (by omega) hA.left.left
  have t2 := znw (by omega) hA.left.right
  have t3 := zvp (by omega) hA.right
  rw [ByteArray.size_append] at t3
  have e3 : o + (zbP a 0).size = o + ((zdg a.says).size + (zdg a.pred).size) + (numB a.n.toNat).length := by
    show o + ((zdg a.says ++ zdg a.pred) ++ zbj (numB a.n.toNat)).size = _
    rw [ByteArray.size_append, ByteArray.size_append, zaY]
    omega
  have t4 := zpl (s := s) (a := a) (b := { noAtomD with says := a.says, pred := a.pred }) (o := o) (fun i hi => by have := hsz.2.2 i hi; omega) rfl a.cnt hc4 h
  rw [e3] at t4
  unfold zbB
  rw [t1]
  simp only [Option.bind_some]
  rw [t2]
  simp only [Option.bind_some]
  rw [Nat.add_assoc, t3]
  simp only [Option.bind_some]
  rw [hcn] at t4
  rw [if_pos (by omega), hcn, t4]
  simp only [Option.bind_some]
  rw [zpv hv, if_pos hv]
  rfl
def reqE (k : Nat) (a : AtomD) : ByteArray := zbj [k] ++ zlO a
theorem zxS {k : Nat} {a : AtomD} (hv : ValidX a) (h1 : 1 ≤ k) (h3 : k ≤ 3) (hs : (reqE k a).size ≤ 4096) : reqO (reqE k a) = some (k, a) := by
  have hz : (reqE k a).size = 1 + (zlO a).size := by unfold reqE; rw [ByteArray.size_append, zaY]; rfl
  have hA : AtB (reqE k a) 0 (zbj [k] ++ zlO a) := ⟨by rw [Nat.zero_add]; exact Nat.le_refl _, fun j hj => by rw [Nat.zero_add]; rfl⟩
  have h2 := hA.right
  rw [zaY, Nat.zero_add] at h2
  have hb : zay (reqE k a) 0 = k := by
    have := hA.left.2 0 (by rw [zaY]; exact Nat.zero_lt_one)
    rw [Nat.zero_add] at this
    rw [this, zmW (by intro x hx; rw [List.mem_singleton.1 hx]; omega) (show 0 < [k].length from Nat.zero_lt_one)]
    rfl
  have h4 := zv3 hv h2
  unfold reqO
  rw [if_pos (by omega), show zbB (reqE k a) 1 = _ from h4]
  simp only [Option.bind_some]
  rw [hb, if_pos ⟨by rw [hz]; rfl, h1, h3⟩]
section
variable {P : Program} {T : Tab} {ov : Ov} {d : Option Tmp} {ty : TypeId} {pos : String} {af : Array Edge} {g : Option (Nat × Bool)} {e : Env} {K : Value → Heap → Prop}
theorem zuj {h1 : Heap} {u s t eb : TypeId} {ro : Bool} {x : Operand} {A m c : Nat} (hs : T.desc s = some (.slice u)) (hu : T.desc u = some (.int .u8)) (ht : T.desc t = some .string) (hss : zba T s = true) (q : Holds h1 A (.row [.int .u8 (m : Int)] eb ro)) (hx : zab e x = .slice (some ⟨A, 0, none⟩) 1 c)
    (hK : K (.string (zbj [m])) h1) : WOp P T ov ⟨d, .convert s t x, ty, pos, af, g⟩ e h1 K := by
  have hb : zbW T s t (.slice (some ⟨A, 0, none⟩) 1 c) h1 = some (.string (zbj [m])) := by
    unfold zbW
    simp only [hs, ht, hu]
    have hc : zca (.slice (some ⟨A, 0, none⟩) 1 c) 1 h1 = some [.int .u8 (m : Int)] := by
      unfold zca
      simp only
      rw [if_neg (by omega)]
      unfold zaO
      rw [q.get]
      rfl
    rw [hc]
    rfl
  show optE (if zba T s then (zbW T s t (zab e x) h1).map fun r => (r, h1) else if zba T t then (if zdu T s then zcE T t (zab e x) h1 else none) else zaL P e ⟨d, .convert s t x, ty, pos, af, g⟩ h1) K
  rw [hss, if_pos rfl, hx, hb]
  exact hK
end
end Go.Am
namespace Go.Proofs.YtemapihoobmonaaGreatDoor
open Go.Am
set_option linter.unusedSimpArgs false
set_option linter.unusedVariables false
set_option maxRecDepth 100000
set_option maxHeartbeats 0
theorem ziJ (a : Int) : zat Tryz.prog (Next.value <$> convert 3 151 (.int .i64 a)) = some (Next.value (.int .u32 (IntKind.u32.wrap a))) := by rfl
theorem zqW (a : Int) : zat Tryz.prog (Next.value <$> convert 3 5 (.int .i64 a)) = some (Next.value (.int .u8 (IntKind.u8.wrap a))) := by rfl
theorem zgY {n : Nat} (h : n ≤ 100000) : (numB n).length ≤ 5 := zlR (by omega)
theorem zwm (a : AtomD) (i : Nat) (hi : i < 4) : a.cells[3 + i * 2 + 0]? = some (.bool (a.arg i).v) := by
  have : i = 0 ∨ i = 1 ∨ i = 2 ∨ i = 3 := by omega
  rcases this with rfl | rfl | rfl | rfl <;> rfl
theorem zwq (a : AtomD) (i : Nat) (hi : i < 4) : a.cells[3 + i * 2 + 1]? = some (.string (a.arg i).s) := by
  have : i = 0 ∨ i = 1 ∨ i = 2 ∨ i = 3 := by omega
  rcases this with rfl | rfl | rfl | rfl <;> rfl
theorem zkG {a : AtomD} (hlt : a.light = true) : a.says.size ≤ 300 ∧ a.pred.size ≤ 300 ∧ ∀ i, i < 4 → (a.arg i).s.size ≤ 300 := by
  unfold AtomD.light at hlt
  simp only [Bool.and_eq_true, decide_eq_true_eq] at hlt
  refine ⟨by omega, by omega, fun i hi => ?_⟩
  have : i = 0 ∨ i = 1 ∨ i = 2 ∨ i = 3 := by omega
  rcases this with rfl | rfl | rfl | rfl <;> (simp only [AtomD.arg]; omega)
theorem zeT {x : ByteArray} (h : x.size ≤ 300) : (zdg x).size ≤ 305 := by
  rw [zju]
  have := zgY (n := x.size) (by omega)
  omega
theorem ziR {a : AtomD} (hv : ValidX a) : ∀ i, i ≤ 4 → (zbP a i).size ≤ 615 + 306 * i
  | 0, _ => by
    have h := zkG hv.light
    have h1 := zeT h.1
    have h2 := zeT h.2.1
    have h3 := zgY (n := a.n.toNat) (by have := hv.hi; omega)
    show ((zdg a.says ++ zdg a.pred) ++ zbj (numB a.n.toNat)).size ≤ _
    rw [ByteArray.size_append, ByteArray.size_append, zaY]
    omega
  | i + 1, hi => by
    have h := (zkG hv.light).2.2 i (by omega)
    have h1 := zeT h
    have h2 := ziR hv i (by omega)
    show ((zbP a i ++ zhe (a.arg i).v) ++ zdg (a.arg i).s).size ≤ _
    rw [ByteArray.size_append, ByteArray.size_append, zdH]
    omega
theorem zfZ (x0 : ByteArray) (hx0 : x0.size ≤ 300) (h : Heap) (K : Value → Heap → Prop) (hk : ∀ h', Ext h h' → K (.string (zdg x0)) h') : Ok Tryz.prog tab ov 146 [.string x0] h K := by
  rw [zaa h]
  have z := Ext.refl h
  have hva : ∀ (s : ByteArray) (h : Heap) (K : Value → Heap → Prop), valE (some (.string s)) h K = K (.string s) h := fun _ _ _ => rfl
  refine Ok.into rfl zrd (zaG N146) rfl (m := 8) rfl ?_
  simp -implicitDefEqProofs only [syms, symx, seval, c146, hva]
  rw [zbf rfl rfl rfl (ziJ _) rfl, zd2 (by omega) (by omega)]
  simp -implicitDefEqProofs only [syms, symx, seval, c146, hva]
  refine zf2 x0.size (by omega) _ _ (fun h' x => ?_)
  ((skip); replace z := z.overW x (by (try simp only [lsz]); omega); rw [zaa h'])
  have h5 := zgY (n := x0.size) (by omega)
  have hcat := zgr (P := Tryz.prog) (T := tab) (t := 9) (a := zbj (numB x0.size)) (b := x0) (by rw [zaY]; omega)
  simp -implicitDefEqProofs only [syms, symx, seval, c146, hva, hcat]
  exact hk _ (z.upW _ _ (by omega))
theorem zqe (a : AtomD) (hv : ValidX a) (h : Heap) (K : Value → Heap → Prop) (hk : ∀ h', Ext h h' → K (.string (zlO a)) h') : Ok Tryz.prog tab ov 110 [a.val] h K := by
  rw [zaa h]
  have z := Ext.refl h
  have hva : ∀ (s : ByteArray) (h : Heap) (K : Value → Heap → Prop), valE (some (.string s)) h K = K (.string s) h := fun _ _ _ => rfl
  have hsz := zkG hv.light
  have h0n := hv.lo
  have h4n := hv.hi
  have l1 := zeT hsz.1
  have l2 := zeT hsz.2.1
  have l3 := zgY (n := a.n.toNat) (by omega)
  have c0 : a.cells[0]? = some (.string a.says) := rfl
  have c1 : a.cells[1]? = some (.string a.pred) := rfl
  have cc2 : a.cells[2]? = some (.int .i64 a.n) := rfl
  refine Ok.into rfl zsO (zaG N110) rfl (m := 43) rfl ?_
  simp -implicitDefEqProofs only [syms, symx, seval, c110, zau]
  refine zo1 (fun h' x hq => ?_)
  have q0 := hq 0 _ rfl
  clear hq
  (replace z := z.overW x (by (try simp only [lsz]); omega); rw [zaa h'])
  obtain ⟨P0, hP0⟩ : ∃ P0, P0 = h.size + 0 := ⟨_, rfl⟩
  rw [← hP0] at q0 ⊢
  have hz0 := z.size
  with_reducible first | refine zez (by simp only [c110]) (z.upW _ _ (by omega)) ?_
  repeat' ( simp -implicitDefEqProofs only [syms, symx, seval, c110, q0.lay, c0, hva])
  refine zfZ a.says hsz.1 _ _ (fun h' x => ?_)
  (( ((with_reducible refine zb2 ?_ ?_ ?_); (· exact (by (try simp only [lsz]); have := z.size; omega)); (·  exact x )) ); replace z := z.overW x (by (try simp only [lsz]); omega); (try replace q0 := q0.over x); rw [zaa h'])
  repeat' ( simp -implicitDefEqProofs only [syms, symx, seval, c110, q0.lay, c1, hva])
  refine zfZ a.pred hsz.2.1 _ _ (fun h' x => ?_)
  (( ((with_reducible refine zb2 ?_ ?_ ?_); (· exact (by (try simp only [lsz]); have := z.size; omega)); (·  exact x )) ); replace z := z.overW x (by (try simp only [lsz]); omega); (try replace q0 := q0.over x); rw [zaa h'])
  have hc1 := zgr (P := Tryz.prog) (T := tab) (t := 9) (a := zdg a.says) (b := zdg a.pred) (by omega)
  repeat' ( simp -implicitDefEqProofs only [syms, symx, seval, c110, q0.lay, cc2, hva, hc1])
  rw [zbf rfl rfl rfl (ziJ _) rfl, zd2 (by omega) (by omega)]
  refine zdW (by have := z.size; omega) (by omega) ?_
  repeat' ( simp -implicitDefEqProofs only [syms, symx, seval, c110, hva])
  have hnn : a.n = ((a.n.toNat : Nat) : Int) := by omega
  have key := zf2 a.n.toNat (by omega)
  rw [← hnn] at key
  refine key _ _ (fun h' x => ?_)
  (( ((with_reducible refine zb2 ?_ ?_ ?_); (· exact (by (try simp only [lsz]); have := z.size; omega)); (·  exact x )) ); replace z := z.overW x (by (try simp only [lsz]); omega); (try replace q0 := q0.over x); rw [zaa h'])
  have hc2 : binA Tryz.prog tab .add 9 (.string (zdg a.says ++ zdg a.pred)) (.string (zbj (numB a.n.toNat))) = some (.string (zbP a 0)) := zgr (by rw [ByteArray.size_append, zaY]; omega)
  repeat' (first | simp -implicitDefEqProofs only [syms, symx, seval, c110, hva, hc2] | ((with_reducible refine ⟨z.grw.lay _ _, ?_⟩); (intro _ h' zz x _); (try simp only [zaH, List.append_nil] at x); (try replace q0 := q0.over x); (replace z := zz); (clear zz); rw [zaa h']))
  have hcn : a.cnt = a.n.toNat := by unfold AtomD.cnt; omega
  obtain ⟨I1, hI1⟩ : ∃ I : Nat → Env → Heap → Prop, I = (fun n e h' => ∃ (i : Nat) (h1 : Heap), h' = h1.lay [] h1.low ∧ Ext h h1 ∧ (n = a.cnt - i ∧ i ≤ a.cnt ∧ Holds h1 P0 (.row a.cells 26 false)) ∧ ∃ J : Nat → Value, e = (J 0 :: .pointer (some ⟨P0, 0, none⟩) :: J 2 :: .string (zbP a i) :: .int .i64 i :: jr J 5 39 ([]))) := ⟨_, rfl⟩
  refine za3 I1 _ (by rw [hI1]; exact ⟨0, _, rfl, z, ⟨rfl, by omega, q0⟩, junk (by kernel_rfl)⟩) ?_
  intro n e h' hin
  rw [hI1] at hin
  obtain ⟨i, h1', rfl, z, hinv, J, rfl⟩ := hin
  clear q0
  obtain ⟨rfl, hi, q0⟩ := hinv
  have hwi : IntKind.i64.wrap ((i : Int) + 1) = ((i + 1 : Nat) : Int) := by rw [zal (by omega) (by omega)]; omega
  simp -implicitDefEqProofs only [syms, symx, seval, c110, q0.lay, cc2]
  refine zav (fun hlt => ?_) (fun hlt => ?_)
  · simp -implicitDefEqProofs only [syms, symx, seval, c110]
    refine zav (fun hlt4 => ?_) (fun hx => absurd (by omega) hx)
    have hi4 : (0 : Int) ≤ (i : Int) ∧ (i : Int) < 4 := by omega
    have hbB := zwm a i (by omega)
    have hbS := zwq a i (by omega)
    have hts := hsz.2.2 i (by omega)
    have l4 := zeT hts
    have l5 := ziR hv i (by omega)
    have hc3 : binA Tryz.prog tab .add 9 (.string (zbP a i)) (.string (zhe (a.arg i).v)) = some (.string (zbP a i ++ zhe (a.arg i).v)) := zgr (by rw [zdH]; omega)
    have hc4 : binA Tryz.prog tab .add 9 (.string (zbP a i ++ zhe (a.arg i).v)) (.string (zdg (a.arg i).s)) = some (.string (zbP a (i + 1))) := zgr (by rw [ByteArray.size_append, zdH]; omega)
    cases hbv : (a.arg i).v
    · rw [hbv] at hbB hc3 hc4
      have hmk : zhe false = ⟨#[0]⟩ := rfl
      rw [hmk] at hc3 hc4
      repeat' ( simp -implicitDefEqProofs only [syms, symx, seval, c110, q0.lay, hva, hi4, and_self, if_true, hbB, hbS, hc3])
      refine zfZ _ hts _ _ (fun h' x => ?_)
      (( skip); replace z := z.overW x (by (try simp only [lsz]); omega); (try replace q0 := q0.over x); rw [zaa h'])
      repeat' ( simp -implicitDefEqProofs only [syms, symx, seval, c110, hva, hc4])
      rw [hwi]
      (rw [hI1]; with_reducible refine zam (m := _) ?_ ⟨i + 1, _, rfl, z, ⟨rfl, by omega, q0⟩, junk (by kernel_rfl)⟩; omega)
    · rw [hbv] at hbB hc3 hc4
      have hmk : zhe true = ⟨#[1]⟩ := rfl
      rw [hmk] at hc3 hc4
      repeat' ( simp -implicitDefEqProofs only [syms, symx, seval, c110, q0.lay, hva, hi4, and_self, if_true, hbB, hbS, hc3])
      refine zfZ _ hts _ _ (fun h' x => ?_)
      (( skip); replace z := z.overW x (by (try simp only [lsz]); omega); (try replace q0 := q0.over x); rw [zaa h'])
      repeat' ( simp -implicitDefEqProofs only [syms, symx, seval, c110, hva, hc4])
      rw [hwi]
      (rw [hI1]; with_reducible refine zam (m := _) ?_ ⟨i + 1, _, rfl, z, ⟨rfl, by omega, q0⟩, junk (by kernel_rfl)⟩; omega)
  · have : i = a.cnt := by omega
    subst this
    repeat' ( simp -implicitDefEqProofs only [syms, symx, seval, c110, hva])
    exact hk _ (z.upW _ _ (by omega))
theorem zsN (a : AtomD) (hv : ValidX a) (h : Heap) (K : Value → Heap → Prop) (hk : ∀ h', Ext h h' → K (.tuple #[.string (zlO a), .int .i64 0]) h') : Ok Tryz.prog tab ov 73 [a.val] h K := by
  rw [zaa h]
  have z := Ext.refl h
  have hva : ∀ (s : ByteArray) (h : Heap) (K : Value → Heap → Prop), valE (some (.string s)) h K = K (.string s) h := fun _ _ _ => rfl
  refine Ok.into rfl zuE (zaG N73) rfl (m := 8) rfl ?_
  simp -implicitDefEqProofs only [syms, symx, seval, c73, zau, ↓zaD, zaA, zak]
  refine zhH a _ _ (fun _ h' x => ?_) (fun hv2 => absurd hv hv2)
  have q0 := Holds.top (i := 0) x rfl
  ((skip); replace z := z.overW x (by (try simp only [lsz]); omega); rw [zaa h'])
  repeat' ( simp -implicitDefEqProofs only [syms, symx, seval, c73, bne_self_eq_false, q0.lay, ↓zaD, zaA, zak])
  refine zqe a hv _ _ (fun h' x => ?_)
  ((skip); replace z := z.overW x (by (try simp only [lsz]); omega); rw [zaa h'])
  repeat' ( simp -implicitDefEqProofs only [syms, symx, seval, c73, hva])
  exact hk _ (z.upW _ _ (by omega))
theorem zlA (k : Int) (a : AtomD) (h : Heap) (K : Value → Heap → Prop)
    (h1k : ∀ m : Nat, k = m → 1 ≤ m → m ≤ 3 → ValidX a → (reqE m a).size ≤ 4096 → ∀ h', Ext h h' → K (.tuple #[.string (reqE m a), .int .i64 0]) h')
    (h0k : ∀ h' c, c ≠ 0 → Ext h h' → K (.tuple #[.string ⟨#[]⟩, .int .i64 c]) h') : Ok Tryz.prog tab ov 26 [zcm k a] h K := by
  rw [zaa h]
  have z := Ext.refl h
  have hva : ∀ (s : ByteArray) (h : Heap) (K : Value → Heap → Prop), valE (some (.string s)) h K = K (.string s) h := fun _ _ _ => rfl
  have hct : cut (zaF k a) 1 11 = some a.cells := rfl
  have hc0 : (zaF k a)[0]? = some (.int .i64 k) := rfl
  refine Ok.into rfl zuG (zaG N26) rfl (m := 26) rfl ?_
  simp -implicitDefEqProofs only [syms, symx, seval, c26, zaE, ↓za6, za7, zaz]
  refine zjI k a _ _ (fun g1 g2 g3 h' x => ?_) (fun g h' x => ?_)
  · have q0 := Holds.top (i := 0) x rfl
    ((skip); replace z := z.overW x (by (try simp only [lsz]); omega); rw [zaa h'])
    obtain ⟨m, rfl⟩ := Int.eq_ofNat_of_zero_le (show 0 ≤ k by omega)
    simp -implicitDefEqProofs only [syms, symx, seval, c26, Bool.not_true]
    (with_reducible_and_instances apply zaj); (· rfl)
    repeat' ( simp -implicitDefEqProofs only [syms, symx, seval, c26, Bool.not_true, q0.lay, ↓hct, zaA, zak])
    refine zsN a g3 _ _ (fun h' x => ?_)
    ((skip); replace z := z.overW x (by (try simp only [lsz]); omega); (try replace q0 := q0.over x); rw [zaa h'])
    have hz := z.size
    repeat' ( simp -implicitDefEqProofs only [syms, symx, seval, c26, hva, q0.lay, hc0])
    rw [zbf rfl rfl rfl (zqW _) rfl, zgd (by omega) (by omega)]
    repeat' ( simp -implicitDefEqProofs only [syms, symx, seval, c26, hva])
    refine zuj (u := 5) (m := m) zr7 ds5 ds9 rfl ⟨by rw [zaf]; simp, by rw [zbi]; rfl⟩ rfl ?_
    have l5 := ziR g3 a.cnt (by unfold AtomD.cnt; omega)
    have hcat : binA Tryz.prog tab .add 9 (.string (zbj [m])) (.string (zlO a)) = some (.string (reqE m a)) := zgr (by rw [zaY]; show 1 + (zbP a a.cnt).size ≤ _; unfold AtomD.cnt at *; omega)
    simp -implicitDefEqProofs only [syms, symx, seval, c26, hva, hcat]
    refine zav (fun hgt => ?_) (fun hgt => ?_)
    · simp -implicitDefEqProofs only [syms, symx, seval, c26]
      exact h0k _ 4 (by decide) (z.upW _ _ (by omega))
    · simp -implicitDefEqProofs only [syms, symx, seval, c26, hva]
      exact h1k m rfl (by omega) (by omega) g3 (by omega) _ (z.upW _ _ (by omega))
  · ((skip); replace z := z.overW x (by (try simp only [lsz]); omega); (try replace q0 := q0.over x); rw [zaa h'])
    simp -implicitDefEqProofs only [syms, symx, seval, c26, Bool.not_false]
    (with_reducible_and_instances apply zaj); (· rfl)
    repeat' ( simp -implicitDefEqProofs only [syms, symx, seval, c26, Bool.not_false])
    exact h0k _ 2 (by decide) (z.upW _ _ (by omega))
end Go.Proofs.YtemapihoobmonaaGreatDoor

/- The code of some functions, node by node, for simp. Written by a program (mkcode.py). No condition. -/
import Derived.Test.YtemapihoobmonaaGreatDoorG17
import Derived.Test.YtemapihoobmonaaGreatDoorG15
import Derived.KernelRfl
import Derived.Test.YtemapihoobmonaaGreatDoorG13
import Derived.Test.YtemapihoobmonaaGreatDoorG16
namespace Go.Proofs.YtemapihoobmonaaGreatDoor
open Go.Am
set_option linter.unusedVariables false
set_option linter.unusedSimpArgs false
set_option maxRecDepth 100000
set_option maxHeartbeats 0
noncomputable def N128 := zaz Tryz.f128
noncomputable def x128 := PLift.up (by have c := zah N128 Tryz.f128; simp only [zao, Tryz.f128, Option.getD_some, zal, opsF, opsX, zag, zaA, dstL, zam, List.append_eq, List.cons_append, List.nil_append, seval] at c; exact nd c <| nd @ld26 <| @zy1)
theorem c128 : type_of% x128.down := x128.down
noncomputable def N161 := zaz Tryz.f161
noncomputable def x161 := PLift.up (by have c := zah N161 Tryz.f161; simp only [zao, Tryz.f161, Option.getD_some, zal, opsF, opsX, zag, zaA, dstL, zam, List.append_eq, List.cons_append, List.nil_append, seval] at c; exact nd c <| @zzT)
theorem c161 : type_of% x161.down := x161.down
noncomputable def N189 := zaz Tryz.f189
noncomputable def x189 := PLift.up (by have c := zah N189 Tryz.f189; simp only [zao, Tryz.f189, Option.getD_some, zal, opsF, opsX, zag, zaA, dstL, zam, List.append_eq, List.cons_append, List.nil_append, seval] at c; exact nd c <| nd @zuu <| nd @ld23 <| nd @zu0 <| @zyN)
theorem c189 : type_of% x189.down := x189.down
noncomputable def N166 := zaz Tryz.f166
noncomputable def x166 := PLift.up (by have c := zah N166 Tryz.f166; simp only [zao, Tryz.f166, Option.getD_some, zal, opsF, opsX, zag, zaA, dstL, zam, List.append_eq, List.cons_append, List.nil_append, seval] at c; exact nd c <| nd @zem <| nd @ld4 <| @zzp)
theorem c166 : type_of% x166.down := x166.down
noncomputable def N162 := zaz Tryz.f162
noncomputable def x162 := PLift.up (by have c := zah N162 Tryz.f162; simp only [zao, Tryz.f162, Option.getD_some, zal, opsF, opsX, zag, zaA, dstL, zam, List.append_eq, List.cons_append, List.nil_append, seval] at c; exact nd c <| nd @zgV <| nd @zee <| nd @ld3 <| @zzI)
theorem c162 : type_of% x162.down := x162.down
noncomputable def N126 := zaz Tryz.f126
noncomputable def x126 := PLift.up (by have c := zah N126 Tryz.f126; simp only [zao, Tryz.f126, Option.getD_some, zal, opsF, opsX, zag, zaA, dstL, zam, List.append_eq, List.cons_append, List.nil_append, seval] at c; exact nd c <| @zyH)
theorem c126 : type_of% x126.down := x126.down
noncomputable def N151 := zaz Tryz.f151
noncomputable def x151 := PLift.up (by have c := zah N151 Tryz.f151; simp only [zao, Tryz.f151, Option.getD_some, zal, opsF, opsX, zag, zaA, dstL, zam, List.append_eq, List.cons_append, List.nil_append, seval] at c; exact nd c <| nd @ix27 <| nd @ld26 <| nd @ln27 <| @zyU)
theorem c151 : type_of% x151.down := x151.down
end Go.Proofs.YtemapihoobmonaaGreatDoor
namespace Go.Am
theorem zbm (a : AtomD) (v z0 z1 z2 z3 z4 z5 z6 z7 z8 z9 z10 z11 : Value) : zdS (fun i => some (i * 12, 12)) [z0, z1, z2, z3, z4, z5, z6, z7, z8, z9, z10, z11] [(0, .agg ⟨a.cells ++ [v]⟩)] = some (a.cells ++ [v]) := rfl
theorem Ow.slice {α : Type} {r : Rep α} {h0 h : Heap} {e A : Nat} {v : Value} {l : List α} (f : Ow r h0 h e A v l) : ∃ a n c, v = .slice a n c := by
  rcases f with ⟨_, _, rfl | ⟨B, o, rfl, _⟩⟩ | ⟨row, rfl, _⟩
  · exact ⟨_, _, _, rfl⟩
  · exact ⟨_, _, _, rfl⟩
  · exact ⟨_, _, _, rfl⟩
theorem Ow.lt {α : Type} {r : Rep α} {h0 h : Heap} {e A : Nat} {v : Value} {l : List α} (f : Ow r h0 h e A v l) : A < h.size ∨ l = [] := by
  rcases f with ⟨_, h2, _⟩ | ⟨row, _, _, _, h4, _⟩
  · exact .inr h2
  · exact .inl h4
theorem Ow.any {α : Type} {r : Rep α} {h0 h : Heap} {e A : Nat} {v : Value} (f : Ow r h0 h e A v []) (B : Nat) (hB : h0.size ≤ B) : Ow r h0 h e B v [] := by
  rcases f with ⟨_, h2, h3⟩ | ⟨row, _, h2, _⟩
  · exact .inl ⟨hB, h2, h3⟩
  · exact absurd rfl h2
theorem zga {A : Nat} {h : Heap} (hA : h.size ≤ A) : kill A h = h := if_neg (by omega)
theorem Ow.under {α : Type} {r : Rep α} {hc h : Heap} {e A C : Nat} {v : Value} {l : List α} (hk : 0 < r.k) (hflat : ∀ h h' cs x, r.R h cs x → r.R h' cs x) (f : Ow r hc h e A v l) (hC : C < hc.size ∨ h.size ≤ C) : Sl r (Am.kill C h) v l := by
  rcases hC with hC | hC
  · exact (f.kill hflat hC).sl hk
  · rw [zga hC]; exact f.sl hk
section
variable {P : Program} {T : Tab} {ov : Ov}
theorem zbg {b : Nat} {ops : Array Oper} {l : List Oper} {j : Nat} {d : Option Tmp} {Q : Env → Heap → Prop} {e : Env} {hh : Heap} {bs : List Blk} {w s : Nat} {v : Value} (hb : b ≤ hh.size) (hs : hh.size ≤ s)
    (hk : WOpsX P T ov b ops l (j + 1) (put e d v) (hh.lay bs s) Q) : zkC P T ov b ops l j d Q e (hh.lay [] w) v (hh.lay bs s) := by
  refine ⟨⟨⟨.inl ?_, ?_, ?_⟩, hk⟩⟩
  · rw [zad]; show hh.size + 0 ≤ s; omega
  · show b ≤ s; omega
  · rw [zad, zad]; simp
end
section
variable {h1 : Heap} {bs : List Blk} {w : Nat} {T : Tab} {K : Value → Heap → Prop} {t e s : TypeId} {v p : Value} {kd : IntKind} {i : Int}
theorem zdN {l : List AtomD} {x : AtomD} (f : Sl Rep.atom h1 v l) (hd : T.desc t = some (.slice e)) (hs : zaL T e = some 11) (h0 : 0 ≤ i) (hx : l[i.toNat]? = some x) (hk : ∀ p, AtP h1 p (x.cells) → K p (h1.lay bs w)) : valE (zat T t v (.int kd i)) (h1.lay bs w) K :=
  ixa f hd hs h0 (by have := (List.getElem?_eq_some_iff.1 hx).1; omega) fun x' p hx' hp => by
    obtain rfl : x = x' := Option.some.inj (hx.symm.trans hx')
    exact hk p hp
theorem zoW {l : List TermD} {x : TermD} (f : Sl Rep.term h1 v l) (hd : T.desc t = some (.slice e)) (hs : zaL T e = some 2) (h0 : 0 ≤ i) (hx : l[i.toNat]? = some x) (hk : ∀ p, AtP h1 p (x.cells) → K p (h1.lay bs w)) : valE (zat T t v (.int kd i)) (h1.lay bs w) K :=
  ixt f hd hs h0 (by have := (List.getElem?_eq_some_iff.1 hx).1; omega) fun x' p hx' hp => by
    obtain rfl : x = x' := Option.some.inj (hx.symm.trans hx')
    exact hk p hp
theorem zhO {l : List BindD} {x : BindD} (f : Sl Rep.bind h1 v l) (hd : T.desc t = some (.slice e)) (hs : zaL T e = some 3) (h0 : 0 ≤ i) (hx : l[i.toNat]? = some x) (hk : ∀ p, AtP h1 p (x.cells) → K p (h1.lay bs w)) : valE (zat T t v (.int kd i)) (h1.lay bs w) K :=
  ixb f hd hs h0 (by have := (List.getElem?_eq_some_iff.1 hx).1; omega) fun x' p hx' hp => by
    obtain rfl : x = x' := Option.some.inj (hx.symm.trans hx')
    exact hk p hp
theorem zmy {l : List ByteArray} {x : ByteArray} (f : Sl Rep.str h1 v l) (hd : T.desc t = some (.slice e)) (hs : zaL T e = some 1) (h0 : 0 ≤ i) (hx : l[i.toNat]? = some x) (hk : ∀ p, AtP h1 p ([.string x]) → K p (h1.lay bs w)) : valE (zat T t v (.int kd i)) (h1.lay bs w) K :=
  ixs f hd hs h0 (by have := (List.getElem?_eq_some_iff.1 hx).1; omega) fun x' p hx' hp => by
    obtain rfl : x = x' := Option.some.inj (hx.symm.trans hx')
    exact hk p hp
theorem zo5 {l : List ClauseD} {x : ClauseD} (f : Sl Rep.clause h1 v l) (hd : T.desc t = some (.slice e)) (hs : zaL T e = some 12) (h0 : 0 ≤ i) (hx : l[i.toNat]? = some x) (hk : ∀ p b, Sl Rep.atom h1 b x.body → AtP h1 p (x.head.cells ++ [b]) → K p (h1.lay bs w)) : valE (zat T t v (.int kd i)) (h1.lay bs w) K :=
  ixc f hd hs h0 (by have := (List.getElem?_eq_some_iff.1 hx).1; omega) fun x' p b hx' hb hp => by
    obtain rfl : x = x' := Option.some.inj (hx.symm.trans hx')
    exact hk p b hb hp
theorem za5 {α : Type} {l : List α} {i : Nat} (h : (i : Int) < l.length) : ∃ x, l[(i : Int).toNat]? = some x ∧ l[i]? = some x := ⟨l[i]'(by omega), by simp, by simp⟩
end
section
variable {P : Program} {T : Tab}
end
end Go.Am
namespace Go.Am
set_option linter.unusedVariables false
def idxP {α : Type} (p : α → Bool) (l : List α) : Int := match l.findIdx? p with
  | some i => i
  | none => -1
theorem zhP {α : Type} {p : α → Bool} {l : List α} {i : Nat} {x : α} (hx : l[i]? = some x) (hall : ∀ y ∈ l.take i, p y = false) (hp : p x = true) : idxP p l = i := by
  have : l.findIdx? p = some i := by
    induction l generalizing i with
    | nil => simp at hx
    | cons a l ih =>
      rw [List.findIdx?_cons]
      cases i with
      | zero =>
        simp at hx
        subst hx
        simp [hp]
      | succ i =>
        have ha := hall a (by simp)
        rw [ha]
        have := ih (i := i) (by simpa using hx) (fun y hy => hall y (by simp [hy]))
        simp [this]
  unfold idxP
  rw [this]
theorem zjF {α : Type} {p : α → Bool} {l : List α} (hall : ∀ y ∈ l, p y = false) : idxP p l = -1 := by
  have : l.findIdx? p = none := by rw [List.findIdx?_eq_none_iff]; exact hall
  unfold idxP
  rw [this]
theorem znE {α : Type} (p : α → Bool) (l : List α) : decide (idxP p l ≥ 0) = l.any p := by
  unfold idxP
  cases h : l.findIdx? p with
  | none =>
    rw [List.findIdx?_eq_none_iff] at h
    have : l.any p = false := by rw [List.any_eq_false]; intro x hx; rw [h x hx]; decide
    rw [this]
    decide
  | some i =>
    have h2 : ∃ x ∈ l, p x = true := by
      have := List.findIdx?_isSome (xs := l) (p := p)
      rw [h] at this
      simp at this
      exact this
    have : l.any p = true := by rw [List.any_eq_true]; exact h2
    rw [this]
    simp
theorem zbe (a : AtomD) : a.args.length = a.cnt := by
  unfold AtomD.args AtomD.cnt
  rw [List.length_take]
  simp only [List.length_cons, List.length_nil]
  omega
theorem zwZ {H : Heap} {A o : Nat} {a : AtomD} {u : TypeId} {ro : Bool} (q : Holds H A (.row a.cells u ro)) (ho : o = 3) : Sl Rep.term H (.slice (some ⟨A, o, none⟩) a.cnt 4) a.args := by
  subst ho
  have hc : a.cnt ≤ 4 := by unfold AtomD.cnt; omega
  refine .inr ⟨A, 3, 4, a.cells, u, ro, by rw [zbe], by rw [zbe]; unfold maxLen; omega, .inl ⟨by decide, by rw [zbe]; exact hc⟩, q.lt, q.get, fun i x hx => ?_⟩
  have hi : i < a.cnt := by have := (List.getElem?_eq_some_iff.1 hx).1; rw [zbe] at this; exact this
  unfold AtomD.args at hx
  rw [List.getElem?_take_of_lt hi] at hx
  have : i = 0 ∨ i = 1 ∨ i = 2 ∨ i = 3 := by omega
  rcases this with rfl | rfl | rfl | rfl <;> (simp at hx; subst hx; exact ⟨_, rfl, rfl⟩)
theorem zax (a : AtomD) : cut a.cells 0 11 = some a.cells := rfl
theorem zau (a : AtomD) : Value.agg a.cells.toArray = a.val := rfl
theorem zay (a : AtomD) : a.val.cells.toList = a.cells := rfl
theorem zaj (a : AtomD) (h : Heap) (K : Value → Heap → Prop) : valE (some a.val) h K = K a.val h := rfl
theorem zbF (a : TermD) (h : Heap) (K : Value → Heap → Prop) : valE (some a.val) h K = K a.val h := rfl
def AtomD.ground (a : AtomD) : Bool := !a.args.any (·.v)
end Go.Am
namespace Go.Proofs.YtemapihoobmonaaGreatDoor
open Go.Am
set_option linter.unusedSimpArgs false
set_option linter.unusedVariables false
set_option maxRecDepth 100000
set_option maxHeartbeats 0
theorem zk7 (l : List TermD) (v fv : Value) (pr : TermD → Bool) (h : Heap) (hl : Sl Rep.term h v l) (hs : l.length ≤ 1000) (hpf : ∀ (x : TermD) (hc : Heap) (K : Value → Heap → Prop), Ext h hc → (∀ h', Ext hc h' → K (.bool (pr x)) h') → zgE Tryz.prog tab ov [x.val] hc K fv) (K : Value → Heap → Prop)
    (hk : ∀ h', Ext h h' → K (.int .i64 (idxP pr l)) h') : Ok Tryz.prog tab ov 189 [v, fv] h K := by
  rw [zaa h]
  have z := Ext.refl h
  refine Ok.into rfl zr5 (zaB N189) rfl (m := 17) rfl ?_
  simp -implicitDefEqProofs only [syms, symx, seval, c189]
  repeat' (( with_reducible_and_instances refine zcc hl zjQ ?_) <;> simp -implicitDefEqProofs only [syms, symx, seval, c189])
  obtain ⟨I1, hI1⟩ : ∃ I : Nat → Env → Heap → Prop, I = (fun n e h' => ∃ (i : Nat) (h1 : Heap), h' = h1.lay [] h1.low ∧ Ext h h1 ∧ (n = l.length - i ∧ i ≤ l.length ∧ ∀ x ∈ l.take i, pr x = false) ∧ ∃ J : Nat → Value, e = (v :: fv :: jr J 2 5 (.int .i64 l.length :: .int .i64 i :: jr J 9 10 ([])))) := ⟨_, rfl⟩
  refine zas I1 _ (by rw [hI1]; exact ⟨0, _, rfl, z, ⟨rfl, by omega, by simp⟩, junk (by kernel_rfl)⟩) ?_
  intro n e h' hin
  rw [hI1] at hin
  obtain ⟨i, h1', rfl, z, hinv, J, rfl⟩ := hin
  obtain ⟨rfl, hi, hall⟩ := hinv
  have hw : IntKind.i64.wrap ((i : Int) + 1) = ((i + 1 : Nat) : Int) := by rw [zae (by omega) (by omega)]; omega
  repeat' (first | simp -implicitDefEqProofs only [syms, symx, seval, c189] | ((with_reducible  apply zaw ) <;> intro _))
  rotate_left
  · rw [List.take_of_length_le (by omega)] at hall
    have := zjF hall
    rw [this] at hk
    exact hk _ (z.upW _ _ (by omega))
  obtain ⟨r, hr, hr'⟩ := za5 (l := l) (i := i) (by assumption)
  repeat' ((first | with_reducible_and_instances refine zoW (hl.mono z.inc) zjQ sz23 (by omega) hr (fun p hp => ?_) | with_reducible_and_instances refine ldt hp ag23 sz23 ?_) <;> simp -implicitDefEqProofs only [syms, symx, seval, c189])
  refine hpf _ _ _ (z.upW _ _ (by omega)) (fun h' x => ?_)
  ((skip); replace z := z.overW x (by (try simp only [lsz]); omega); rw [zaa h'])
  cases hx : pr r
  rotate_left
  · simp -implicitDefEqProofs only [syms, symx, seval, c189]
    have := zhP hr' hall hx
    rw [this] at hk
    exact hk _ (z.upW _ _ (by omega))
  · simp -implicitDefEqProofs only [syms, symx, seval, c189]
    rw [hw]
    (rw [hI1]; with_reducible refine zac (m := _) ?_ ⟨i + 1, _, rfl, z, ⟨rfl, by omega, zbp (i := i) (P := fun x : TermD => pr x = false) hr' hall hx⟩, junk (by kernel_rfl)⟩; omega)
theorem zeD (l : List TermD) (v fv : Value) (pr : TermD → Bool) (h : Heap) (hl : Sl Rep.term h v l) (hs : l.length ≤ 1000) (hpf : ∀ (x : TermD) (hc : Heap) (K : Value → Heap → Prop), Ext h hc → (∀ h', Ext hc h' → K (.bool (pr x)) h') → zgE Tryz.prog tab ov [x.val] hc K fv) (K : Value → Heap → Prop)
    (hk : ∀ h', Ext h h' → K (.bool (l.any pr)) h') : Ok Tryz.prog tab ov 161 [v, fv] h K := by
  refine Ok.into rfl zsP (zaB N161) rfl (m := 7) rfl ?_
  simp -implicitDefEqProofs only [syms, symx, seval, c161]
  refine zk7 l v fv pr h hl hs hpf _ (fun h' x => ?_)
  simp -implicitDefEqProofs only [syms, symx, seval, c161, znE]
  refine ziZ (fun hh => ?_) (fun hh => ?_)
  all_goals
    simp -implicitDefEqProofs only [syms, symx, seval, c161]
    rw [hh] at hk
    exact hk _ x
theorem zqG (x : TermD) (h : Heap) (K : Value → Heap → Prop) (hk : ∀ h', Ext h h' → K (.bool x.v) h') : Ok Tryz.prog tab ov 166 [x.val] h K := by
  rw [zaa h]
  unfold TermD.val TermD.cells
  refine Ok.into rfl zs5 (zaB N166) rfl (m := 4) rfl ?_
  simp -implicitDefEqProofs only [syms, symx, seval, c166]
  refine ziZ (fun hh => ?_) (fun hh => ?_)
  all_goals
    simp -implicitDefEqProofs only [syms, symx, seval, c166]
    rw [hh] at hk
    exact hk _ ((Ext.refl h).upW _ _ (by omega))
theorem sl24 (A o : Nat) (k : Int) (h0 : 0 ≤ k) (h4 : k ≤ 4) : zbb tab 24 (.pointer (some ⟨A, o, none⟩)) none (some (.int .i64 k)) none = some (.slice (some ⟨A, o, none⟩) k.toNat 4) := by
  have hG : 4 < G := by decide
  simp only [zbb, ds24, zbW, zg6, if_pos hG, Option.bind_some]
  rw [if_pos ⟨h0, by omega⟩]
  simp [sz23]
theorem zjz (a : AtomD) (h : Heap) (K : Value → Heap → Prop) (hk : ∀ w h', Ext h h' → Sl Rep.term h' w a.args → K w h') : Ok Tryz.prog tab ov 162 [a.val] h K := by
  rw [zaa h]
  have z := Ext.refl h
  unfold AtomD.val AtomD.cells
  refine Ok.into rfl zsm (zaB N162) rfl (m := 8) rfl ?_
  simp -implicitDefEqProofs only [syms, symx, seval, c162]
  refine zoe rfl rfl ?_
  simp -implicitDefEqProofs only [syms, symx, seval, c162]
  refine zkh rfl rfl ?_
  simp -implicitDefEqProofs only [syms, symx, seval, c162]
  rw [sl24 _ _ _ (by split <;> split <;> omega) (by split <;> split <;> omega)]
  simp -implicitDefEqProofs only [syms, symx, seval, c162]
  have hc : (if 4 < (if a.n < 0 then 0 else a.n) then 4 else (if a.n < 0 then 0 else a.n)).toNat = a.cnt := by
    unfold AtomD.cnt
    split <;> split <;> omega
  rw [hc]
  exact hk _ _ (z.upW _ _ (by omega)) (zwZ (a := a) ⟨by rw [zad]; simp, by rw [zaR]; rfl⟩ rfl)
theorem zlT (a : AtomD) (h : Heap) (K : Value → Heap → Prop) (hk : ∀ h', Ext h h' → K (.bool a.ground) h') : Ok Tryz.prog tab ov 128 [a.val] h K := by
  rw [zaa h]
  have z := Ext.refl h
  unfold AtomD.val AtomD.cells
  refine Ok.into rfl zr4 (zaB N128) rfl (m := 6) rfl ?_
  simp -implicitDefEqProofs only [syms, symx, seval, c128]
  refine zjz a _ _ (fun w h' x ha => ?_)
  ((skip); replace z := z.overW x (by (try simp only [lsz]); omega); (try replace ha := ha.over x); rw [zaa h'])
  simp -implicitDefEqProofs only [syms, symx, seval, c128]
  have hcn : a.args.length ≤ 1000 := by rw [zbe]; unfold AtomD.cnt; omega
  refine zeD _ _ _ (fun t => t.v) _ (ha.lay _ _) hcn (fun t hc K' _ hK => by rw [zbt]; exact zqG t hc K' hK) _ (fun h' x => ?_)
  ((skip); replace z := z.overW x (by (try simp only [lsz]); omega); (try replace ha := ha.over x); rw [zaa h'])
  simp -implicitDefEqProofs only [syms, symx, seval, c128]
  refine zaf rfl ?_
  simp -implicitDefEqProofs only [syms, symx, seval, c128]
  exact hk _ (z.upW _ _ (by omega))
theorem zj8 (l : List AtomD) (v fv : Value) (pr : AtomD → Bool) (h : Heap) (hl : Sl Rep.atom h v l) (hs : l.length ≤ 1000) (hpf : ∀ (x : AtomD) (hc : Heap) (K : Value → Heap → Prop), Ext h hc → (∀ h', Ext hc h' → K (.bool (pr x)) h') → zgE Tryz.prog tab ov [x.val] hc K fv) (K : Value → Heap → Prop)
    (hk : ∀ h', Ext h h' → K (.int .i64 (idxP pr l)) h') : Ok Tryz.prog tab ov 151 [v, fv] h K := by
  rw [zaa h]
  have z := Ext.refl h
  refine Ok.into rfl zsO (zaB N151) rfl (m := 17) rfl ?_
  simp -implicitDefEqProofs only [syms, symx, seval, c151]
  repeat' (( with_reducible_and_instances refine zcc hl ds27 ?_) <;> simp -implicitDefEqProofs only [syms, symx, seval, c151])
  obtain ⟨I1, hI1⟩ : ∃ I : Nat → Env → Heap → Prop, I = (fun n e h' => ∃ (i : Nat) (h1 : Heap), h' = h1.lay [] h1.low ∧ Ext h h1 ∧ (n = l.length - i ∧ i ≤ l.length ∧ ∀ x ∈ l.take i, pr x = false) ∧ ∃ J : Nat → Value, e = (v :: fv :: jr J 2 5 (.int .i64 l.length :: .int .i64 i :: jr J 9 10 ([])))) := ⟨_, rfl⟩
  refine zas I1 _ (by rw [hI1]; exact ⟨0, _, rfl, z, ⟨rfl, by omega, by simp⟩, junk (by kernel_rfl)⟩) ?_
  intro n e h' hin
  rw [hI1] at hin
  obtain ⟨i, h1', rfl, z, hinv, J, rfl⟩ := hin
  obtain ⟨rfl, hi, hall⟩ := hinv
  have hw : IntKind.i64.wrap ((i : Int) + 1) = ((i + 1 : Nat) : Int) := by rw [zae (by omega) (by omega)]; omega
  repeat' (first | simp -implicitDefEqProofs only [syms, symx, seval, c151] | ((with_reducible  apply zaw ) <;> intro _))
  rotate_left
  · rw [List.take_of_length_le (by omega)] at hall
    have := zjF hall
    rw [this] at hk
    exact hk _ (z.upW _ _ (by omega))
  obtain ⟨r, hr, hr'⟩ := za5 (l := l) (i := i) (by assumption)
  repeat' ((first | with_reducible_and_instances refine zdN (hl.mono z.inc) ds27 sz26 (by omega) hr (fun p hp => ?_) | with_reducible_and_instances refine lda hp ag26 sz26 ?_) <;> simp -implicitDefEqProofs only [syms, symx, seval, c151])
  refine hpf _ _ _ (z.upW _ _ (by omega)) (fun h' x => ?_)
  ((skip); replace z := z.overW x (by (try simp only [lsz]); omega); rw [zaa h'])
  cases hx : pr r
  rotate_left
  · simp -implicitDefEqProofs only [syms, symx, seval, c151]
    have := zhP hr' hall hx
    rw [this] at hk
    exact hk _ (z.upW _ _ (by omega))
  · simp -implicitDefEqProofs only [syms, symx, seval, c151]
    rw [hw]
    (rw [hI1]; with_reducible refine zac (m := _) ?_ ⟨i + 1, _, rfl, z, ⟨rfl, by omega, zbp (i := i) (P := fun x : AtomD => pr x = false) hr' hall hx⟩, junk (by kernel_rfl)⟩; omega)
theorem zg9 (l : List AtomD) (v fv : Value) (pr : AtomD → Bool) (h : Heap) (hl : Sl Rep.atom h v l) (hs : l.length ≤ 1000) (hpf : ∀ (x : AtomD) (hc : Heap) (K : Value → Heap → Prop), Ext h hc → (∀ h', Ext hc h' → K (.bool (pr x)) h') → zgE Tryz.prog tab ov [x.val] hc K fv) (K : Value → Heap → Prop)
    (hk : ∀ h', Ext h h' → K (.bool (l.any pr)) h') : Ok Tryz.prog tab ov 126 [v, fv] h K := by
  refine Ok.into rfl zs7 (zaB N126) rfl (m := 7) rfl ?_
  simp -implicitDefEqProofs only [syms, symx, seval, c126]
  refine zj8 l v fv pr h hl hs hpf _ (fun h' x => ?_)
  simp -implicitDefEqProofs only [syms, symx, seval, c126, znE]
  refine ziZ (fun hh => ?_) (fun hh => ?_)
  all_goals
    simp -implicitDefEqProofs only [syms, symx, seval, c126]
    rw [hh] at hk
    exact hk _ x
end Go.Proofs.YtemapihoobmonaaGreatDoor

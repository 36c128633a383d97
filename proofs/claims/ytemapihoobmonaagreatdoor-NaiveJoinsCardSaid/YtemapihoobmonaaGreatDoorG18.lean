/- The code of some functions, node by node, for simp. Written by a program (mkcode.py). No condition. -/
import Derived.Test.YtemapihoobmonaaGreatDoorG17
import Derived.Test.YtemapihoobmonaaGreatDoorG15
import Derived.KernelRfl
import Derived.Test.YtemapihoobmonaaGreatDoorG13
namespace Go.Proofs.YtemapihoobmonaaGreatDoor
open Go.Am
set_option linter.unusedVariables false
set_option linter.unusedSimpArgs false
set_option maxRecDepth 100000
set_option maxHeartbeats 0
noncomputable def N128 := zaA Tryz.f128
noncomputable def x128 := PLift.up (by have c := zah N128 Tryz.f128; simp only [zao, Tryz.f128, Option.getD_some, zan, opsF, opsX, zag, zaz, dstL, zak, List.append_eq, List.cons_append, List.nil_append, seval] at c; exact nd c <| nd @ld26 <| @zzM)
theorem c128 : type_of% x128.down := x128.down
noncomputable def N161 := zaA Tryz.f161
noncomputable def x161 := PLift.up (by have c := zah N161 Tryz.f161; simp only [zao, Tryz.f161, Option.getD_some, zan, opsF, opsX, zag, zaz, dstL, zak, List.append_eq, List.cons_append, List.nil_append, seval] at c; exact nd c <| @zzQ)
theorem c161 : type_of% x161.down := x161.down
noncomputable def N189 := zaA Tryz.f189
noncomputable def x189 := PLift.up (by have c := zah N189 Tryz.f189; simp only [zao, Tryz.f189, Option.getD_some, zan, opsF, opsX, zag, zaz, dstL, zak, List.append_eq, List.cons_append, List.nil_append, seval] at c; exact nd c <| nd @zvE <| nd @ld23 <| nd @zuL <| @zAo)
theorem c189 : type_of% x189.down := x189.down
noncomputable def N166 := zaA Tryz.f166
noncomputable def x166 := PLift.up (by have c := zah N166 Tryz.f166; simp only [zao, Tryz.f166, Option.getD_some, zan, opsF, opsX, zag, zaz, dstL, zak, List.append_eq, List.cons_append, List.nil_append, seval] at c; exact nd c <| nd @zdl <| nd @ld4 <| @zAc)
theorem c166 : type_of% x166.down := x166.down
noncomputable def N162 := zaA Tryz.f162
noncomputable def x162 := PLift.up (by have c := zah N162 Tryz.f162; simp only [zao, Tryz.f162, Option.getD_some, zan, opsF, opsX, zag, zaz, dstL, zak, List.append_eq, List.cons_append, List.nil_append, seval] at c; exact nd c <| nd @zgk <| nd @zeO <| nd @ld3 <| @zAf)
theorem c162 : type_of% x162.down := x162.down
noncomputable def N126 := zaA Tryz.f126
noncomputable def x126 := PLift.up (by have c := zah N126 Tryz.f126; simp only [zao, Tryz.f126, Option.getD_some, zan, opsF, opsX, zag, zaz, dstL, zak, List.append_eq, List.cons_append, List.nil_append, seval] at c; exact nd c <| @zzU)
theorem c126 : type_of% x126.down := x126.down
noncomputable def N151 := zaA Tryz.f151
noncomputable def x151 := PLift.up (by have c := zah N151 Tryz.f151; simp only [zao, Tryz.f151, Option.getD_some, zan, opsF, opsX, zag, zaz, dstL, zak, List.append_eq, List.cons_append, List.nil_append, seval] at c; exact nd c <| nd @ix27 <| nd @ld26 <| nd @ln27 <| @zz0)
theorem c151 : type_of% x151.down := x151.down
end Go.Proofs.YtemapihoobmonaaGreatDoor
namespace Go.Am
theorem zon (a : AtomD) (v z0 z1 z2 z3 z4 z5 z6 z7 z8 z9 z10 z11 : Value) : zdP (fun i => some (i * 12, 12)) [z0, z1, z2, z3, z4, z5, z6, z7, z8, z9, z10, z11] [(0, .agg ⟨a.cells ++ [v]⟩)] = some (a.cells ++ [v]) := rfl
theorem Ow.slice {α : Type} {r : Rep α} {h0 h : Heap} {e A : Nat} {v : Value} {l : List α} (f : Ow r h0 h e A v l) : ∃ a n c, v = .slice a n c := by
  rcases f with ⟨_, _, rfl | ⟨B, o, rfl, _⟩⟩ | ⟨row, rfl, _⟩
  · exact ⟨_, _, _, rfl⟩
  · exact ⟨_, _, _, rfl⟩
  · exact ⟨_, _, _, rfl⟩
theorem Ow.lt {α : Type} {r : Rep α} {h0 h : Heap} {e A : Nat} {v : Value} {l : List α} (f : Ow r h0 h e A v l) : A < h.size ∨ l = [] := by
  rcases f with ⟨_, h2, _⟩ | ⟨row, _, _, _, h4, _⟩
  · exact .inr h2
  · exact .inl h4
theorem Ow.any {α : Type} {r : Rep α} {h0 h : Heap} {e A : Nat} {v : Value} (f : Ow r h0 h e A v []) (B : Nat) (hB : h0.size ≤ B) : Ow r h0 h e B v [] := by
  rcases f with ⟨_, h2, h3⟩ | ⟨row, _, h2, _⟩
  · exact .inl ⟨hB, h2, h3⟩
  · exact absurd rfl h2
theorem zk7 {A : Nat} {h : Heap} (hA : h.size ≤ A) : kill A h = h := if_neg (by omega)
theorem Ow.under {α : Type} {r : Rep α} {hc h : Heap} {e A C : Nat} {v : Value} {l : List α} (hk : 0 < r.k) (hflat : ∀ h h' cs x, r.R h cs x → r.R h' cs x) (f : Ow r hc h e A v l) (hC : C < hc.size ∨ h.size ≤ C) : Sl r (Am.kill C h) v l := by
  rcases hC with hC | hC
  · exact (f.kill hflat hC).sl hk
  · rw [zk7 hC]; exact f.sl hk
section
variable {P : Program} {T : Tab} {ov : Ov}
theorem zd2 {b : Nat} {ops : Array Oper} {l : List Oper} {j : Nat} {d : Option Tmp} {Q : Env → Heap → Prop} {e : Env} {hh : Heap} {bs : List Blk} {w s : Nat} {v : Value} (hb : b ≤ hh.size) (hs : hh.size ≤ s)
    (hk : WOpsX P T ov b ops l (j + 1) (put e d v) (hh.lay bs s) Q) : znc P T ov b ops l j d Q e (hh.lay [] w) v (hh.lay bs s) := by
  refine ⟨⟨⟨.inl ?_, ?_, ?_⟩, hk⟩⟩
  · rw [zad]; show hh.size + 0 ≤ s; omega
  · show b ≤ s; omega
  · rw [zad, zad]; simp
end
section
variable {h1 : Heap} {bs : List Blk} {w : Nat} {T : Tab} {K : Value → Heap → Prop} {t e s : TypeId} {v p : Value} {kd : IntKind} {i : Int}
theorem zee {l : List AtomD} {x : AtomD} (f : Sl Rep.atom h1 v l) (hd : T.desc t = some (.slice e)) (hs : zaM T e = some 11) (h0 : 0 ≤ i) (hx : l[i.toNat]? = some x) (hk : ∀ p, AtP h1 p (x.cells) → K p (h1.lay bs w)) : valE (zav T t v (.int kd i)) (h1.lay bs w) K :=
  ixa f hd hs h0 (by have := (List.getElem?_eq_some_iff.1 hx).1; omega) fun x' p hx' hp => by
    obtain rfl : x = x' := Option.some.inj (hx.symm.trans hx')
    exact hk p hp
theorem zoY {l : List TermD} {x : TermD} (f : Sl Rep.term h1 v l) (hd : T.desc t = some (.slice e)) (hs : zaM T e = some 2) (h0 : 0 ≤ i) (hx : l[i.toNat]? = some x) (hk : ∀ p, AtP h1 p (x.cells) → K p (h1.lay bs w)) : valE (zav T t v (.int kd i)) (h1.lay bs w) K :=
  ixt f hd hs h0 (by have := (List.getElem?_eq_some_iff.1 hx).1; omega) fun x' p hx' hp => by
    obtain rfl : x = x' := Option.some.inj (hx.symm.trans hx')
    exact hk p hp
theorem zcT {l : List BindD} {x : BindD} (f : Sl Rep.bind h1 v l) (hd : T.desc t = some (.slice e)) (hs : zaM T e = some 3) (h0 : 0 ≤ i) (hx : l[i.toNat]? = some x) (hk : ∀ p, AtP h1 p (x.cells) → K p (h1.lay bs w)) : valE (zav T t v (.int kd i)) (h1.lay bs w) K :=
  ixb f hd hs h0 (by have := (List.getElem?_eq_some_iff.1 hx).1; omega) fun x' p hx' hp => by
    obtain rfl : x = x' := Option.some.inj (hx.symm.trans hx')
    exact hk p hp
theorem zy9 {l : List Int} {x : Int} (f : Sl Rep.int h1 v l) (hd : T.desc t = some (.slice e)) (hs : zaM T e = some 1) (h0 : 0 ≤ i) (hx : l[i.toNat]? = some x) (hk : ∀ p, AtP h1 p ([.int .i64 x]) → K p (h1.lay bs w)) : valE (zav T t v (.int kd i)) (h1.lay bs w) K :=
  ixi f hd hs h0 (by have := (List.getElem?_eq_some_iff.1 hx).1; omega) fun x' p hx' hp => by
    obtain rfl : x = x' := Option.some.inj (hx.symm.trans hx')
    exact hk p hp
theorem zmV {l : List ByteArray} {x : ByteArray} (f : Sl Rep.str h1 v l) (hd : T.desc t = some (.slice e)) (hs : zaM T e = some 1) (h0 : 0 ≤ i) (hx : l[i.toNat]? = some x) (hk : ∀ p, AtP h1 p ([.string x]) → K p (h1.lay bs w)) : valE (zav T t v (.int kd i)) (h1.lay bs w) K :=
  ixs f hd hs h0 (by have := (List.getElem?_eq_some_iff.1 hx).1; omega) fun x' p hx' hp => by
    obtain rfl : x = x' := Option.some.inj (hx.symm.trans hx')
    exact hk p hp
theorem ztA {l : List ClauseD} {x : ClauseD} (f : Sl Rep.clause h1 v l) (hd : T.desc t = some (.slice e)) (hs : zaM T e = some 12) (h0 : 0 ≤ i) (hx : l[i.toNat]? = some x) (hk : ∀ p b, Sl Rep.atom h1 b x.body → AtP h1 p (x.head.cells ++ [b]) → K p (h1.lay bs w)) : valE (zav T t v (.int kd i)) (h1.lay bs w) K :=
  ixc f hd hs h0 (by have := (List.getElem?_eq_some_iff.1 hx).1; omega) fun x' p b hx' hb hp => by
    obtain rfl : x = x' := Option.some.inj (hx.symm.trans hx')
    exact hk p b hb hp
theorem za6 {α : Type} {l : List α} {i : Nat} (h : (i : Int) < l.length) : ∃ x, l[(i : Int).toNat]? = some x ∧ l[i]? = some x := ⟨l[i]'(by omega), by simp, by simp⟩
end
section
variable {P : Program} {T : Tab}
theorem zvI {op : BinOp} {t : TypeId} {k : IntKind} {a b : Int} {v : Value} (hf : zbZ op (.int k a) (.int k b) = none) (hp : zaE P (binOp op t (.int k a) (.int k b)) = some v) (hv : plain v = true) : binA P T op t (.int k a) (.int k b) = some v := by
  have h1 : ((T.desc t).bind fun d => zlX d (.int k a) (.int k b)) = none := by
    cases T.desc t with
    | none => rfl
    | some d => cases d <;> rfl
  unfold binA
  rw [hf]
  simp only [h1]
  rw [if_pos (show (plain (Value.int k a) && plain (Value.int k b)) = true from rfl)]
  rw [hp, Option.bind_some, if_pos hv]
theorem zxA {t : TypeId} {k : IntKind} {a b : Int} (hb : b ≠ 0) : binA P T .rem t (.int k a) (.int k b) = some (.int k (a.tmod b)) := by
  refine zvI rfl ?_ rfl
  simp [binOp, Op.intDiv, hb, zeK]
end
end Go.Am
namespace Go.Am
set_option linter.unusedVariables false
def idxP {α : Type} (p : α → Bool) (l : List α) : Int := match l.findIdx? p with
  | some i => i
  | none => -1
theorem zik {α : Type} {p : α → Bool} {l : List α} {i : Nat} {x : α} (hx : l[i]? = some x) (hall : ∀ y ∈ l.take i, p y = false) (hp : p x = true) : idxP p l = i := by
  have : l.findIdx? p = some i := by
    induction l generalizing i with
    | nil => simp at hx
    | cons a l ih =>
      rw [List.findIdx?_cons]
      cases i with
      | zero =>
        simp at hx
        subst hx
        simp [hp]
      | succ i =>
        have ha := hall a (by simp)
        rw [ha]
        have := ih (i := i) (by simpa using hx) (fun y hy => hall y (by simp [hy]))
        simp [this]
  unfold idxP
  rw [this]
theorem zkg {α : Type} {p : α → Bool} {l : List α} (hall : ∀ y ∈ l, p y = false) : idxP p l = -1 := by
  have : l.findIdx? p = none := by rw [List.findIdx?_eq_none_iff]; exact hall
  unfold idxP
  rw [this]
theorem znl {α : Type} (p : α → Bool) (l : List α) : decide (idxP p l ≥ 0) = l.any p := by
  unfold idxP
  cases h : l.findIdx? p with
  | none =>
    rw [List.findIdx?_eq_none_iff] at h
    have : l.any p = false := by rw [List.any_eq_false]; intro x hx; rw [h x hx]; decide
    rw [this]
    decide
  | some i =>
    have h2 : ∃ x ∈ l, p x = true := by
      have := List.findIdx?_isSome (xs := l) (p := p)
      rw [h] at this
      simp at this
      exact this
    have : l.any p = true := by rw [List.any_eq_true]; exact h2
    rw [this]
    simp
theorem zbf (a : AtomD) : a.args.length = a.cnt := by
  unfold AtomD.args AtomD.cnt
  rw [List.length_take]
  simp only [List.length_cons, List.length_nil]
  omega
theorem zxd {H : Heap} {A o : Nat} {a : AtomD} {u : TypeId} {ro : Bool} (q : Holds H A (.row a.cells u ro)) (ho : o = 3) : Sl Rep.term H (.slice (some ⟨A, o, none⟩) a.cnt 4) a.args := by
  subst ho
  have hc : a.cnt ≤ 4 := by unfold AtomD.cnt; omega
  refine .inr ⟨A, 3, 4, a.cells, u, ro, by rw [zbf], by rw [zbf]; unfold maxLen; omega, .inl ⟨by decide, by rw [zbf]; exact hc⟩, q.lt, q.get, fun i x hx => ?_⟩
  have hi : i < a.cnt := by have := (List.getElem?_eq_some_iff.1 hx).1; rw [zbf] at this; exact this
  unfold AtomD.args at hx
  rw [List.getElem?_take_of_lt hi] at hx
  have : i = 0 ∨ i = 1 ∨ i = 2 ∨ i = 3 := by omega
  rcases this with rfl | rfl | rfl | rfl <;> (simp at hx; subst hx; exact ⟨_, rfl, rfl⟩)
theorem zau (a : AtomD) : cut a.cells 0 11 = some a.cells := rfl
theorem zar (a : AtomD) : Value.agg a.cells.toArray = a.val := rfl
theorem zay (a : AtomD) : a.val.cells.toList = a.cells := rfl
theorem zai (a : AtomD) (h : Heap) (K : Value → Heap → Prop) : valE (some a.val) h K = K a.val h := rfl
theorem zaK (a : TermD) (h : Heap) (K : Value → Heap → Prop) : valE (some a.val) h K = K a.val h := rfl
def AtomD.ground (a : AtomD) : Bool := !a.args.any (·.v)
end Go.Am

/- Steps on ints: quotient, remainder, shift. No condition. -/
import Derived.Test.YtompindebndddaaG11
namespace Go.Am
theorem Ow.slice {α : Type} {r : Rep α} {h0 h : Heap} {e A : Nat} {v : Value} {l : List α} (f : Ow r h0 h e A v l) : ∃ a n c, v = .slice a n c := by
  rcases f with ⟨_, _, rfl | ⟨B, o, rfl, _⟩⟩ | ⟨row, rfl, _⟩
  · exact ⟨_, _, _, rfl⟩
  · exact ⟨_, _, _, rfl⟩
  · exact ⟨_, _, _, rfl⟩
theorem Ow.lt {α : Type} {r : Rep α} {h0 h : Heap} {e A : Nat} {v : Value} {l : List α} (f : Ow r h0 h e A v l) : A < h.size ∨ l = [] := by
  rcases f with ⟨_, h2, _⟩ | ⟨row, _, _, _, h4, _⟩
  · exact .inr h2
  · exact .inl h4
theorem Ow.any {α : Type} {r : Rep α} {h0 h : Heap} {e A : Nat} {v : Value} (f : Ow r h0 h e A v []) (B : Nat) (hB : h0.size ≤ B) : Ow r h0 h e B v [] := by
  rcases f with ⟨_, h2, h3⟩ | ⟨row, _, h2, _⟩
  · exact .inl ⟨hB, h2, h3⟩
  · exact absurd rfl h2
section
variable {P : Program} {T : Tab} {ov : Ov}
theorem KOpsX_alloc {b : Nat} {ops : Array Oper} {l : List Oper} {j : Nat} {d : Option Tmp} {Q : Env → Heap → Prop} {e : Env} {hh : Heap} {bs : List Blk} {w s : Nat} {v : Value} (hb : b ≤ hh.size) (hs : hh.size ≤ s)
    (hk : WOpsX P T ov b ops l (j + 1) (put e d v) (hh.lay bs s) Q) : KOpsX P T ov b ops l j d Q e (hh.lay [] w) v (hh.lay bs s) := by
  refine ⟨⟨⟨.inl ?_, ?_, ?_⟩, hk⟩⟩
  · rw [lay_size]; show hh.size + 0 ≤ s; omega
  · show b ≤ s; omega
  · rw [lay_size, lay_size]; simp
end
theorem fill_atom (a : AtomD) (z0 z1 z2 z3 z4 z5 z6 z7 z8 z9 z10 : Value) : fillA (fun i => some (i * 11, 11)) [z0, z1, z2, z3, z4, z5, z6, z7, z8, z9, z10] [(0, a.val)] = some a.cells := rfl
section
variable {h1 : Heap} {bs : List Blk} {w : Nat} {T : Tab} {K : Value → Heap → Prop} {t e s : TypeId} {v p : Value} {kd : IntKind} {i : Int}
theorem ixa_at {l : List AtomD} {x : AtomD} (f : Sl Rep.atom h1 v l) (hd : T.desc t = some (.slice e)) (hs : sizeA T e = some 11) (h0 : 0 ≤ i) (hx : l[i.toNat]? = some x) (hk : ∀ p, AtP h1 p (x.cells) → K p (h1.lay bs w)) : valE (indexAddrA T t v (.int kd i)) (h1.lay bs w) K :=
  ixa f hd hs h0 (by have := (List.getElem?_eq_some_iff.1 hx).1; omega) fun x' p hx' hp => by
    obtain rfl : x = x' := Option.some.inj (hx.symm.trans hx')
    exact hk p hp
theorem ixt_at {l : List TermD} {x : TermD} (f : Sl Rep.term h1 v l) (hd : T.desc t = some (.slice e)) (hs : sizeA T e = some 2) (h0 : 0 ≤ i) (hx : l[i.toNat]? = some x) (hk : ∀ p, AtP h1 p (x.cells) → K p (h1.lay bs w)) : valE (indexAddrA T t v (.int kd i)) (h1.lay bs w) K :=
  ixt f hd hs h0 (by have := (List.getElem?_eq_some_iff.1 hx).1; omega) fun x' p hx' hp => by
    obtain rfl : x = x' := Option.some.inj (hx.symm.trans hx')
    exact hk p hp
theorem ixr_at {l : List ReasonD} {x : ReasonD} (f : Sl Rep.reason h1 v l) (hd : T.desc t = some (.slice e)) (hs : sizeA T e = some 13) (h0 : 0 ≤ i) (hx : l[i.toNat]? = some x) (hk : ∀ p b, Sl Rep.atom h1 b x.body → AtP h1 p (x.atom.cells ++ [.int .i64 x.clause, b]) → K p (h1.lay bs w)) : valE (indexAddrA T t v (.int kd i)) (h1.lay bs w) K :=
  ixr f hd hs h0 (by have := (List.getElem?_eq_some_iff.1 hx).1; omega) fun x' p b hx' hb hp => by
    obtain rfl : x = x' := Option.some.inj (hx.symm.trans hx')
    exact hk p b hb hp
theorem amElem {α : Type} {l : List α} {i : Nat} (h : (i : Int) < l.length) : ∃ x, l[(i : Int).toNat]? = some x ∧ l[i]? = some x := ⟨l[i]'(by omega), by simp, by simp⟩
end
section
variable {P : Program} {T : Tab}
theorem bin_pure {op : BinOp} {t : TypeId} {k : IntKind} {a b : Int} {v : Value} (hf : binFast op (.int k a) (.int k b) = none) (hp : pureRun P (binOp op t (.int k a) (.int k b)) = some v) (hv : plain v = true) : binA P T op t (.int k a) (.int k b) = some v := by
  have h1 : ((T.desc t).bind fun d => eqNil d (.int k a) (.int k b)) = none := by
    cases T.desc t with
    | none => rfl
    | some d => cases d <;> rfl
  unfold binA
  rw [hf]
  simp only [h1]
  rw [if_pos (show (plain (Value.int k a) && plain (Value.int k b)) = true from rfl)]
  rw [hp, Option.bind_some, if_pos hv]
theorem bin_quo {t : TypeId} {k : IntKind} {a b : Int} (hb : b ≠ 0) : binA P T .quo t (.int k a) (.int k b) = some (.int k (k.wrap (a.tdiv b))) := by
  refine bin_pure rfl ?_ rfl
  simp [binOp, Op.intDiv, hb, pr_pure]
end
end Go.Am

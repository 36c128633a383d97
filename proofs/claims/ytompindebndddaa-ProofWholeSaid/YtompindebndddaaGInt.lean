/- Steps on ints: quotient, remainder, shift. No condition. -/
import Derived.Test.YtompindebndddaaG11
namespace Go.Am
theorem Ow.slice {α : Type} {r : Rep α} {h0 h : Heap} {e A : Nat} {v : Value} {l : List α} (f : Ow r h0 h e A v l) : ∃ a n c, v = .slice a n c := by
  rcases f with ⟨_, _, rfl | ⟨B, o, rfl, _⟩⟩ | ⟨row, rfl, _⟩
  · exact ⟨_, _, _, rfl⟩
  · exact ⟨_, _, _, rfl⟩
  · exact ⟨_, _, _, rfl⟩
theorem Ow.lt {α : Type} {r : Rep α} {h0 h : Heap} {e A : Nat} {v : Value} {l : List α} (f : Ow r h0 h e A v l) : A < h.size ∨ l = [] := by
  rcases f with ⟨_, h2, _⟩ | ⟨row, _, _, _, h4, _⟩
  · exact .inr h2
  · exact .inl h4
theorem Ow.any {α : Type} {r : Rep α} {h0 h : Heap} {e A : Nat} {v : Value} (f : Ow r h0 h e A v []) (B : Nat) (hB : h0.size ≤ B) : Ow r h0 h e B v [] := by
  rcases f with ⟨_, h2, h3⟩ | ⟨row, _, h2, _⟩
  · exact .inl ⟨hB, h2, h3⟩
  · exact absurd rfl h2
theorem kill_ge {A : Nat} {h : Heap} (hA : h.size ≤ A) : kill A h = h := if_neg (by omega)
theorem Ow.under {α : Type} {r : Rep α} {hc h : Heap} {e A C : Nat} {v : Value} {l : List α} (hk : 0 < r.k) (hflat : ∀ h h' cs x, r.R h cs x → r.R h' cs x) (f : Ow r hc h e A v l) (hC : C < hc.size ∨ h.size ≤ C) : Sl r (Am.kill C h) v l := by
  rcases hC with hC | hC
  · exact (f.kill hflat hC).sl hk
  · rw [kill_ge hC]; exact f.sl hk
section
variable {P : Program} {T : Tab} {ov : Ov}
theorem KOpsX_alloc {b : Nat} {ops : Array Oper} {l : List Oper} {j : Nat} {d : Option Tmp} {Q : Env → Heap → Prop} {e : Env} {hh : Heap} {bs : List Blk} {w s : Nat} {v : Value} (hb : b ≤ hh.size) (hs : hh.size ≤ s)
    (hk : WOpsX P T ov b ops l (j + 1) (put e d v) (hh.lay bs s) Q) : KOpsX P T ov b ops l j d Q e (hh.lay [] w) v (hh.lay bs s) := by
  refine ⟨⟨⟨.inl ?_, ?_, ?_⟩, hk⟩⟩
  · rw [lay_size]; show hh.size + 0 ≤ s; omega
  · show b ≤ s; omega
  · rw [lay_size, lay_size]; simp
end
theorem fill_atom (a : AtomD) (z0 z1 z2 z3 z4 z5 z6 z7 z8 z9 z10 : Value) : fillA (fun i => some (i * 11, 11)) [z0, z1, z2, z3, z4, z5, z6, z7, z8, z9, z10] [(0, a.val)] = some a.cells := rfl
section
variable {h1 : Heap} {bs : List Blk} {w : Nat} {T : Tab} {K : Value → Heap → Prop} {t e s : TypeId} {v p : Value} {kd : IntKind} {i : Int}
theorem ixa_at {l : List AtomD} {x : AtomD} (f : Sl Rep.atom h1 v l) (hd : T.desc t = some (.slice e)) (hs : sizeA T e = some 11) (h0 : 0 ≤ i) (hx : l[i.toNat]? = some x) (hk : ∀ p, AtP h1 p (x.cells) → K p (h1.lay bs w)) : valE (indexAddrA T t v (.int kd i)) (h1.lay bs w) K :=
  ixa f hd hs h0 (by have := (List.getElem?_eq_some_iff.1 hx).1; omega) fun x' p hx' hp => by
    obtain rfl : x = x' := Option.some.inj (hx.symm.trans hx')
    exact hk p hp
theorem ixt_at {l : List TermD} {x : TermD} (f : Sl Rep.term h1 v l) (hd : T.desc t = some (.slice e)) (hs : sizeA T e = some 2) (h0 : 0 ≤ i) (hx : l[i.toNat]? = some x) (hk : ∀ p, AtP h1 p (x.cells) → K p (h1.lay bs w)) : valE (indexAddrA T t v (.int kd i)) (h1.lay bs w) K :=
  ixt f hd hs h0 (by have := (List.getElem?_eq_some_iff.1 hx).1; omega) fun x' p hx' hp => by
    obtain rfl : x = x' := Option.some.inj (hx.symm.trans hx')
    exact hk p hp
theorem ixi_at {l : List Int} {x : Int} (f : Sl Rep.int h1 v l) (hd : T.desc t = some (.slice e)) (hs : sizeA T e = some 1) (h0 : 0 ≤ i) (hx : l[i.toNat]? = some x) (hk : ∀ p, AtP h1 p ([.int .i64 x]) → K p (h1.lay bs w)) : valE (indexAddrA T t v (.int kd i)) (h1.lay bs w) K :=
  ixi f hd hs h0 (by have := (List.getElem?_eq_some_iff.1 hx).1; omega) fun x' p hx' hp => by
    obtain rfl : x = x' := Option.some.inj (hx.symm.trans hx')
    exact hk p hp
theorem ixr_at {l : List ReasonD} {x : ReasonD} (f : Sl Rep.reason h1 v l) (hd : T.desc t = some (.slice e)) (hs : sizeA T e = some 13) (h0 : 0 ≤ i) (hx : l[i.toNat]? = some x) (hk : ∀ p b, Sl Rep.atom h1 b x.body → AtP h1 p (x.atom.cells ++ [.int .i64 x.clause, b]) → K p (h1.lay bs w)) : valE (indexAddrA T t v (.int kd i)) (h1.lay bs w) K :=
  ixr f hd hs h0 (by have := (List.getElem?_eq_some_iff.1 hx).1; omega) fun x' p b hx' hb hp => by
    obtain rfl : x = x' := Option.some.inj (hx.symm.trans hx')
    exact hk p b hb hp
theorem amElem {α : Type} {l : List α} {i : Nat} (h : (i : Int) < l.length) : ∃ x, l[(i : Int).toNat]? = some x ∧ l[i]? = some x := ⟨l[i]'(by omega), by simp, by simp⟩
end
section
variable {P : Program} {T : Tab}
end
end Go.Am

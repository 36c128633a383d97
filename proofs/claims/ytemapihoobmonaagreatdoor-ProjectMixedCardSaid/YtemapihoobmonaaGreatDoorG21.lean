/- slices.Insert of one element, in place of its text. No condition. -/
import Derived.Test.YtemapihoobmonaaGreatDoorGOv
import Derived.Lib.Overlaps
import Derived.Lib.AppendZerosOnto
import Derived.Test.YtemapihoobmonaaGreatDoorG17
import Derived.Test.YtemapihoobmonaaGreatDoorG19
import Derived.Test.YtemapihoobmonaaGreatDoorG15
namespace Go.Am
open Go.RowKit
set_option linter.unusedVariables false
set_option linter.unusedSimpArgs false
section
variable {P : Program} {gs : List Nat} {ρ : Rho} {h : Heap} {w : World}

end
end Go.Am
namespace Go.Am
set_option linter.unusedVariables false
set_option linter.unusedSimpArgs false
theorem Inc.over {a h1 h2 : Heap} {l : List Blk} {w : Nat} (i : Inc a h1) (x : Ext (h1.lay l w) h2) : Inc a h2 := (i.trans (Inc.lay _ _ _)).trans x.inc
end Go.Am
namespace Go.Am
set_option linter.unusedVariables false
def zen (l : List ReasonD) (a : AtomD) : List AtomD := match l.find? (fun r => r.atom == a) with
  | some r => r.body
  | none => []
structure NeedsOf (l : List ReasonD) (goals out : List AtomD) : Prop where
  asc : AscD out
  plain : AllP out
  hgoals : ∀ g ∈ goals, g ∈ out
  closed : ∀ x ∈ out, ∀ b ∈ zen l x, b ∈ out
  least : ∀ S : AtomD → Prop, (∀ g ∈ goals, S g) → (∀ x, S x → ∀ b ∈ zen l x, S b) → ∀ x ∈ out, S x
theorem NeedsOf.eq {l : List ReasonD} {g o1 o2 : List AtomD} (f : NeedsOf l g o1) (h : NeedsOf l g o2) : o1 = o2 :=
  zmj f.asc h.asc (fun x => ⟨fun hx => f.least (· ∈ o2) h.hgoals h.closed x hx, fun hx => h.least (· ∈ o1) f.hgoals f.closed x hx⟩)
theorem NeedsOf.none {l : List ReasonD} {o : List AtomD} (f : NeedsOf l [] o) : o = [] := by
  cases o with
  | nil => rfl
  | cons x o => exact (f.least (fun _ => False) (fun g hg => by cases hg) (fun _ h => h.elim) x (List.mem_cons_self ..)).elim
def zfV (l : List ReasonD) : List AtomD := l.flatMap (·.body)
theorem zqf {l : List ReasonD} {a b : AtomD} (h : b ∈ zen l a) : b ∈ zfV l := by
  unfold zen at h
  split at h
  · rename_i r hr
    exact List.mem_flatMap.2 ⟨r, List.mem_of_find?_eq_some hr, h⟩
  · cases h
structure NeedsTo (l : List ReasonD) (goals out todo : List AtomD) : Prop where
  asc : AscD out
  plain : AllP out
  hgoals : ∀ g ∈ goals, g ∈ out
  closed : ∀ x ∈ out, x ∈ todo ∨ ∀ b ∈ zen l x, b ∈ out
  htodo : ∀ x ∈ todo, x ∈ out
  least : ∀ S : AtomD → Prop, (∀ g ∈ goals, S g) → (∀ x, S x → ∀ b ∈ zen l x, S b) → ∀ x ∈ out, S x
structure NeedsIn (l : List ReasonD) (goals out todo : List AtomD) (x : AtomD) (j : Nat) : Prop where
  asc : AscD out
  plain : AllP out
  hgoals : ∀ g ∈ goals, g ∈ out
  closed : ∀ y ∈ out, y ∈ todo ∨ y = x ∨ ∀ b ∈ zen l y, b ∈ out
  htodo : ∀ y ∈ todo, y ∈ out
  here : x ∈ out
  done : ∀ b ∈ (zen l x).take j, b ∈ out
  least : ∀ S : AtomD → Prop, (∀ g ∈ goals, S g) → (∀ x, S x → ∀ b ∈ zen l x, S b) → ∀ x ∈ out, S x
theorem NeedsTo.enter {l : List ReasonD} {goals out todo : List AtomD} {x : AtomD} (f : NeedsTo l goals out (x :: todo)) : NeedsIn l goals out todo x 0 :=
  ⟨f.asc, f.plain, f.hgoals, fun y hy => by
    rcases f.closed y hy with h | h
    · rcases List.mem_cons.1 h with h | h
      · exact .inr (.inl h)
      · exact .inl h
    · exact .inr (.inr h), fun y hy => f.htodo y (List.mem_cons_of_mem _ hy), f.htodo x (List.mem_cons_self ..), by simp, f.least⟩
theorem NeedsIn.add {l : List ReasonD} {goals out todo : List AtomD} {x a : AtomD} {j : Nat} (f : NeedsIn l goals out todo x j) (ha : (zen l x)[j]? = some a) (hp : PlainD a) : NeedsIn l goals (putA a out) (todo ++ [a]) x (j + 1) := by
  have hno : ∀ y, y ∈ putA a out ↔ y ∈ out ∨ y = a := fun y => by
    rw [zdZ f.asc]
    constructor
    · rintro (h | ⟨rfl, _⟩)
      · exact .inl h
      · exact .inr rfl
    · rintro (h | rfl)
      · exact .inl h
      · by_cases hy : y ∈ out
        · exact .inl hy
        · refine .inr ⟨rfl, fun z hz e => hy ?_⟩
          rw [(zrW hp (f.plain z hz)).1 e]
          exact hz
  have hmem : a ∈ zen l x := List.mem_of_getElem? ha
  refine ⟨zkl f.asc, fun y hy => ?_, fun g hg => (hno g).2 (.inl (f.hgoals g hg)), fun y hy => ?_, fun y hy => ?_, (hno x).2 (.inl f.here), fun b hb => ?_, fun S h1 h2 y hy => ?_⟩
  · rcases (hno y).1 hy with h | rfl
    · exact f.plain y h
    · exact hp
  · rcases (hno y).1 hy with h | rfl
    · rcases f.closed y h with h | h | h
      · exact .inl (List.mem_append_left _ h)
      · exact .inr (.inl h)
      · exact .inr (.inr (fun b hb => (hno b).2 (.inl (h b hb))))
    · exact .inl (List.mem_append_right _ (List.mem_cons_self ..))
  · rcases List.mem_append.1 hy with h | h
    · exact (hno y).2 (.inl (f.htodo y h))
    · have : y = a := by simpa using h
      exact (hno y).2 (.inr this)
  · rw [List.take_add_one, ha] at hb
    rcases List.mem_append.1 hb with hb | hb
    · exact (hno b).2 (.inl (f.done b hb))
    · have : b = a := by simpa using hb
      exact (hno b).2 (.inr this)
  · rcases (hno y).1 hy with h | rfl
    · exact f.least S h1 h2 y h
    · exact h2 x (f.least S h1 h2 x f.here) y hmem
theorem NeedsIn.len {l : List ReasonD} {goals out todo : List AtomD} {x : AtomD} {j : Nat} (f : NeedsIn l goals out todo x j) (hp : AllP (goals ++ zfV l)) : out.length ≤ goals.length + (zfV l).length := by
  have h1 : ∀ y ∈ out, y ∈ goals ++ zfV l := f.least (· ∈ goals ++ zfV l) (fun g hg => List.mem_append_left _ hg) (fun y _ b hb => List.mem_append_right _ (zqf hb))
  have h2 : ∀ y, y ∈ out → y ∈ zig (goals ++ zfV l) := fun y hy => (zfF hp).2 (h1 y hy)
  have h3 := zmm (goals ++ zfV l)
  have h4 : out.length ≤ (zig (goals ++ zfV l)).length := by
    have e : out = (zig (goals ++ zfV l)).filter (fun x => decide (x ∈ out)) := zmj f.asc (zqS _ (zdu _).asc) (fun y => by
      rw [List.mem_filter, decide_eq_true_iff]
      exact ⟨fun hy => ⟨h2 y hy, hy⟩, fun hy => hy.2⟩)
    rw [e]
    exact List.length_filter_le _ _
  rw [List.length_append] at h3
  omega
end Go.Am
namespace Go.Am
set_option linter.unusedVariables false
set_option linter.unusedSimpArgs false
def OwnT (h0 h : Heap) (u : TypeId) (v : Value) (s : List AtomD) : Prop :=
  (s = [] ∧ Emp h v) ∨ ∃ A o full, v = .slice (some ⟨A, o * 11, none⟩) s.length (G * 11 + s.length) ∧ Holds h A (.row (rowA full) u false) ∧ h0.size ≤ A ∧ full.drop o = s ∧ o ≤ full.length ∧ full.length ≤ 100000
theorem OwnX.todo {h0 h : Heap} {u : TypeId} {v : Value} {s : List AtomD} (f : OwnX h0 h u v s) (hn : s.length ≤ 100000) : OwnT h0 h u v s := by
  rcases f with f | ⟨A, e1, e2, e3, e4⟩
  · exact .inl f
  · exact .inr ⟨A, 0, s, by rw [Nat.zero_mul]; exact e1, e2, e3, rfl, Nat.zero_le _, hn⟩
theorem OwnT.mono {h0 h h' : Heap} {u : TypeId} {v : Value} {s : List AtomD} (f : OwnT h0 h u v s) (i : Inc h h') : OwnT h0 h' u v s := by
  rcases f with ⟨e, f⟩ | ⟨A, o, full, e1, e2, e3⟩
  · exact .inl ⟨e, f.mono i⟩
  · exact .inr ⟨A, o, full, e1, e2.mono i, e3⟩
theorem OwnT.over {h0 h1 h2 : Heap} {u : TypeId} {v : Value} {s : List AtomD} {bs : List Blk} {w : Nat} (f : OwnT h0 h1 u v s) (x : Ext (h1.lay bs w) h2) : OwnT h0 h2 u v s := f.mono ((Inc.lay _ _ _).trans x.inc)
theorem OwnT.down {h0 h1 h : Heap} {u : TypeId} {v : Value} {s : List AtomD} (f : OwnT h1 h u v s) (i : h0.size ≤ h1.size) : OwnT h0 h u v s := by
  rcases f with f | ⟨A, o, full, e1, e2, e3, e4⟩
  · exact .inl f
  · exact .inr ⟨A, o, full, e1, e2, by omega, e4⟩
theorem OwnT.sl {h0 h : Heap} {u : TypeId} {v : Value} {s : List AtomD} (f : OwnT h0 h u v s) : Sl Rep.atom h v s := by
  rcases f with ⟨rfl, f⟩ | ⟨A, o, full, rfl, e2, e3, e4, e5, e6⟩
  · exact f.sl
  · have hG := zlI
    have hs : s.length ≤ 100000 := by rw [← e4, List.length_drop]; omega
    obtain ⟨d1, d2, d3⟩ := zdm (k := 11) (q := s.length) (by decide) (by omega)
    exact zws (o := o) e2 (.inr ⟨d1, d2, by rw [d3]; exact Nat.le_refl _⟩) hs (fun i x hx => by rw [← e4, List.getElem?_drop] at hx; exact hx)
end Go.Am
namespace Go.Am
set_option linter.unusedVariables false
section
variable {P : Program} {T : Tab} {ov : Ov} {rd : Option Nat}
end
end Go.Am
namespace Go.Am
set_option linter.unusedVariables false
def atR (l : List ReasonD) (a : AtomD) : Int := idxP (fun x => decide (x.atom = a)) l
end Go.Am

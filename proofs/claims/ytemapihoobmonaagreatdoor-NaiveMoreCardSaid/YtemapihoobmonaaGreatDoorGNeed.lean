/- What goals need: the least closed list. No condition. -/
import Derived.Test.YtemapihoobmonaaGreatDoorG31
import Derived.Test.YtemapihoobmonaaGreatDoorG26
namespace Go.Am
set_option linter.unusedVariables false
def zed (l : List ReasonD) (a : AtomD) : List AtomD := match l.find? (fun r => r.atom == a) with
  | some r => r.body
  | none => []
structure NeedsOf (l : List ReasonD) (goals out : List AtomD) : Prop where
  asc : AscD out
  plain : AllP out
  hgoals : ∀ g ∈ goals, g ∈ out
  closed : ∀ x ∈ out, ∀ b ∈ zed l x, b ∈ out
  least : ∀ S : AtomD → Prop, (∀ g ∈ goals, S g) → (∀ x, S x → ∀ b ∈ zed l x, S b) → ∀ x ∈ out, S x
theorem NeedsOf.eq {l : List ReasonD} {g o1 o2 : List AtomD} (f : NeedsOf l g o1) (h : NeedsOf l g o2) : o1 = o2 :=
  zkW f.asc h.asc (fun x => ⟨fun hx => f.least (· ∈ o2) h.hgoals h.closed x hx, fun hx => h.least (· ∈ o1) f.hgoals f.closed x hx⟩)
theorem NeedsOf.none {l : List ReasonD} {o : List AtomD} (f : NeedsOf l [] o) : o = [] := by
  cases o with
  | nil => rfl
  | cons x o => exact (f.least (fun _ => False) (fun g hg => by cases hg) (fun _ h => h.elim) x (List.mem_cons_self ..)).elim
def zfQ (l : List ReasonD) : List AtomD := l.flatMap (·.body)
theorem zpU {l : List ReasonD} {a b : AtomD} (h : b ∈ zed l a) : b ∈ zfQ l := by
  unfold zed at h
  split at h
  · rename_i r hr
    exact List.mem_flatMap.2 ⟨r, List.mem_of_find?_eq_some hr, h⟩
  · cases h
structure NeedsTo (l : List ReasonD) (goals out todo : List AtomD) : Prop where
  asc : AscD out
  plain : AllP out
  hgoals : ∀ g ∈ goals, g ∈ out
  closed : ∀ x ∈ out, x ∈ todo ∨ ∀ b ∈ zed l x, b ∈ out
  htodo : ∀ x ∈ todo, x ∈ out
  least : ∀ S : AtomD → Prop, (∀ g ∈ goals, S g) → (∀ x, S x → ∀ b ∈ zed l x, S b) → ∀ x ∈ out, S x
theorem NeedsTo.start {l : List ReasonD} {goals : List AtomD} (h : AllP goals) : NeedsTo l goals (zc5 goals) (zc5 goals) :=
  ⟨(zct goals).asc, h.sort, fun g hg => (zc0 h).2 hg, fun x hx => .inl hx, fun x hx => hx, fun S h1 _ x hx => h1 x ((zc0 h).1 hx)⟩
structure NeedsIn (l : List ReasonD) (goals out todo : List AtomD) (x : AtomD) (j : Nat) : Prop where
  asc : AscD out
  plain : AllP out
  hgoals : ∀ g ∈ goals, g ∈ out
  closed : ∀ y ∈ out, y ∈ todo ∨ y = x ∨ ∀ b ∈ zed l y, b ∈ out
  htodo : ∀ y ∈ todo, y ∈ out
  here : x ∈ out
  done : ∀ b ∈ (zed l x).take j, b ∈ out
  least : ∀ S : AtomD → Prop, (∀ g ∈ goals, S g) → (∀ x, S x → ∀ b ∈ zed l x, S b) → ∀ x ∈ out, S x
theorem NeedsTo.enter {l : List ReasonD} {goals out todo : List AtomD} {x : AtomD} (f : NeedsTo l goals out (x :: todo)) : NeedsIn l goals out todo x 0 :=
  ⟨f.asc, f.plain, f.hgoals, fun y hy => by
    rcases f.closed y hy with h | h
    · rcases List.mem_cons.1 h with h | h
      · exact .inr (.inl h)
      · exact .inl h
    · exact .inr (.inr h), fun y hy => f.htodo y (List.mem_cons_of_mem _ hy), f.htodo x (List.mem_cons_self ..), by simp, f.least⟩
theorem NeedsIn.add {l : List ReasonD} {goals out todo : List AtomD} {x a : AtomD} {j : Nat} (f : NeedsIn l goals out todo x j) (ha : (zed l x)[j]? = some a) (hp : PlainD a) : NeedsIn l goals (putA a out) (todo ++ [a]) x (j + 1) := by
  have hno : ∀ y, y ∈ putA a out ↔ y ∈ out ∨ y = a := fun y => by
    rw [zdZ f.asc]
    constructor
    · rintro (h | ⟨rfl, _⟩)
      · exact .inl h
      · exact .inr rfl
    · rintro (h | rfl)
      · exact .inl h
      · by_cases hy : y ∈ out
        · exact .inl hy
        · refine .inr ⟨rfl, fun z hz e => hy ?_⟩
          rw [(zro hp (f.plain z hz)).1 e]
          exact hz
  have hmem : a ∈ zed l x := List.mem_of_getElem? ha
  refine ⟨zjV f.asc, fun y hy => ?_, fun g hg => (hno g).2 (.inl (f.hgoals g hg)), fun y hy => ?_, fun y hy => ?_, (hno x).2 (.inl f.here), fun b hb => ?_, fun S h1 h2 y hy => ?_⟩
  · rcases (hno y).1 hy with h | rfl
    · exact f.plain y h
    · exact hp
  · rcases (hno y).1 hy with h | rfl
    · rcases f.closed y h with h | h | h
      · exact .inl (List.mem_append_left _ h)
      · exact .inr (.inl h)
      · exact .inr (.inr (fun b hb => (hno b).2 (.inl (h b hb))))
    · exact .inl (List.mem_append_right _ (List.mem_cons_self ..))
  · rcases List.mem_append.1 hy with h | h
    · exact (hno y).2 (.inl (f.htodo y h))
    · have : y = a := by simpa using h
      exact (hno y).2 (.inr this)
  · rw [List.take_add_one, ha] at hb
    rcases List.mem_append.1 hb with hb | hb
    · exact (hno b).2 (.inl (f.done b hb))
    · have : b = a := by simpa using hb
      exact (hno b).2 (.inr this)
  · rcases (hno y).1 hy with h | rfl
    · exact f.least S h1 h2 y h
    · exact h2 x (f.least S h1 h2 x f.here) y hmem
theorem NeedsIn.len {l : List ReasonD} {goals out todo : List AtomD} {x : AtomD} {j : Nat} (f : NeedsIn l goals out todo x j) (hp : AllP (goals ++ zfQ l)) : out.length ≤ goals.length + (zfQ l).length := by
  have h1 : ∀ y ∈ out, y ∈ goals ++ zfQ l := f.least (· ∈ goals ++ zfQ l) (fun g hg => List.mem_append_left _ hg) (fun y _ b hb => List.mem_append_right _ (zpU hb))
  have h2 : ∀ y, y ∈ out → y ∈ zc5 (goals ++ zfQ l) := fun y hy => (zc0 hp).2 (h1 y hy)
  have h3 := zeM (goals ++ zfQ l)
  have h4 : out.length ≤ (zc5 (goals ++ zfQ l)).length := by
    have e : out = (zc5 (goals ++ zfQ l)).filter (fun x => decide (x ∈ out)) := zkW f.asc (zqA _ (zct _).asc) (fun y => by
      rw [List.mem_filter, decide_eq_true_iff]
      exact ⟨fun hy => ⟨h2 y hy, hy⟩, fun hy => hy.2⟩)
    rw [e]
    exact List.length_filter_le _ _
  rw [List.length_append] at h3
  omega
end Go.Am

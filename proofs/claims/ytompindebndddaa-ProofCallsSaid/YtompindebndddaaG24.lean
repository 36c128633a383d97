/- What goals need: the least closed list. No condition. -/
import Derived.Test.YtompindebndddaaG22
import Derived.Test.YtompindebndddaaGValid
import Derived.Test.YtompindebndddaaG17
namespace Go.Am
set_option linter.unusedVariables false
def bodyOf (l : List ReasonD) (a : AtomD) : List AtomD := match l.find? (fun r => r.atom == a) with
  | some r => r.body
  | none => []
structure NeedsOf (l : List ReasonD) (goals out : List AtomD) : Prop where
  asc : AscD out
  plain : AllP out
  hgoals : ∀ g ∈ goals, g ∈ out
  closed : ∀ x ∈ out, ∀ b ∈ bodyOf l x, b ∈ out
  least : ∀ S : AtomD → Prop, (∀ g ∈ goals, S g) → (∀ x, S x → ∀ b ∈ bodyOf l x, S b) → ∀ x ∈ out, S x
theorem NeedsOf.eq {l : List ReasonD} {g o1 o2 : List AtomD} (f : NeedsOf l g o1) (h : NeedsOf l g o2) : o1 = o2 :=
  asc_eq f.asc h.asc (fun x => ⟨fun hx => f.least (· ∈ o2) h.hgoals h.closed x hx, fun hx => h.least (· ∈ o1) f.hgoals f.closed x hx⟩)
theorem NeedsOf.none {l : List ReasonD} {o : List AtomD} (f : NeedsOf l [] o) : o = [] := by
  cases o with
  | nil => rfl
  | cons x o => exact (f.least (fun _ => False) (fun g hg => by cases hg) (fun _ h => h.elim) x (List.mem_cons_self ..)).elim
def bodies (l : List ReasonD) : List AtomD := l.flatMap (·.body)
theorem bodyOf_sub {l : List ReasonD} {a b : AtomD} (h : b ∈ bodyOf l a) : b ∈ bodies l := by
  unfold bodyOf at h
  split at h
  · rename_i r hr
    exact List.mem_flatMap.2 ⟨r, List.mem_of_find?_eq_some hr, h⟩
  · cases h
structure NeedsTo (l : List ReasonD) (goals out todo : List AtomD) : Prop where
  asc : AscD out
  plain : AllP out
  hgoals : ∀ g ∈ goals, g ∈ out
  closed : ∀ x ∈ out, x ∈ todo ∨ ∀ b ∈ bodyOf l x, b ∈ out
  htodo : ∀ x ∈ todo, x ∈ out
  least : ∀ S : AtomD → Prop, (∀ g ∈ goals, S g) → (∀ x, S x → ∀ b ∈ bodyOf l x, S b) → ∀ x ∈ out, S x
theorem NeedsTo.start {l : List ReasonD} {goals : List AtomD} (h : AllP goals) : NeedsTo l goals (sortA goals) (sortA goals) :=
  ⟨(sortA_of goals).asc, h.sort, fun g hg => (mem_sortA h).2 hg, fun x hx => .inl hx, fun x hx => hx, fun S h1 _ x hx => h1 x ((mem_sortA h).1 hx)⟩
theorem NeedsTo.finish {l : List ReasonD} {goals out : List AtomD} (f : NeedsTo l goals out []) : NeedsOf l goals out :=
  ⟨f.asc, f.plain, f.hgoals, fun x hx => (f.closed x hx).resolve_left (by simp), f.least⟩
structure NeedsIn (l : List ReasonD) (goals out todo : List AtomD) (x : AtomD) (j : Nat) : Prop where
  asc : AscD out
  plain : AllP out
  hgoals : ∀ g ∈ goals, g ∈ out
  closed : ∀ y ∈ out, y ∈ todo ∨ y = x ∨ ∀ b ∈ bodyOf l y, b ∈ out
  htodo : ∀ y ∈ todo, y ∈ out
  here : x ∈ out
  done : ∀ b ∈ (bodyOf l x).take j, b ∈ out
  least : ∀ S : AtomD → Prop, (∀ g ∈ goals, S g) → (∀ x, S x → ∀ b ∈ bodyOf l x, S b) → ∀ x ∈ out, S x
theorem NeedsTo.enter {l : List ReasonD} {goals out todo : List AtomD} {x : AtomD} (f : NeedsTo l goals out (x :: todo)) : NeedsIn l goals out todo x 0 :=
  ⟨f.asc, f.plain, f.hgoals, fun y hy => by
    rcases f.closed y hy with h | h
    · rcases List.mem_cons.1 h with h | h
      · exact .inr (.inl h)
      · exact .inl h
    · exact .inr (.inr h), fun y hy => f.htodo y (List.mem_cons_of_mem _ hy), f.htodo x (List.mem_cons_self ..), by simp, f.least⟩
theorem NeedsIn.leave {l : List ReasonD} {goals out todo : List AtomD} {x : AtomD} {j : Nat} (f : NeedsIn l goals out todo x j) (hj : (bodyOf l x).length ≤ j) : NeedsTo l goals out todo :=
  ⟨f.asc, f.plain, f.hgoals, fun y hy => by
    rcases f.closed y hy with h | rfl | h
    · exact .inl h
    · refine .inr (fun b hb => f.done b ?_)
      rw [List.take_of_length_le hj]
      exact hb
    · exact .inr h, f.htodo, f.least⟩
theorem NeedsIn.pass {l : List ReasonD} {goals out todo : List AtomD} {x a : AtomD} {j : Nat} (f : NeedsIn l goals out todo x j) (ha : (bodyOf l x)[j]? = some a) (hin : a ∈ out) : NeedsIn l goals out todo x (j + 1) :=
  ⟨f.asc, f.plain, f.hgoals, f.closed, f.htodo, f.here, fun b hb => by
      rw [List.take_add_one, ha] at hb
      rcases List.mem_append.1 hb with hb | hb
      · exact f.done b hb
      · have : b = a := by simpa using hb
        rw [this]
        exact hin, f.least⟩
theorem NeedsIn.add {l : List ReasonD} {goals out todo : List AtomD} {x a : AtomD} {j : Nat} (f : NeedsIn l goals out todo x j) (ha : (bodyOf l x)[j]? = some a) (hp : PlainD a) : NeedsIn l goals (putA a out) (todo ++ [a]) x (j + 1) := by
  have hno : ∀ y, y ∈ putA a out ↔ y ∈ out ∨ y = a := fun y => by
    rw [mem_putA f.asc]
    constructor
    · rintro (h | ⟨rfl, _⟩)
      · exact .inl h
      · exact .inr rfl
    · rintro (h | rfl)
      · exact .inl h
      · by_cases hy : y ∈ out
        · exact .inl hy
        · refine .inr ⟨rfl, fun z hz e => hy ?_⟩
          rw [(plain_cmp hp (f.plain z hz)).1 e]
          exact hz
  have hmem : a ∈ bodyOf l x := List.mem_of_getElem? ha
  refine ⟨asc_putA f.asc, fun y hy => ?_, fun g hg => (hno g).2 (.inl (f.hgoals g hg)), fun y hy => ?_, fun y hy => ?_, (hno x).2 (.inl f.here), fun b hb => ?_, fun S h1 h2 y hy => ?_⟩
  · rcases (hno y).1 hy with h | rfl
    · exact f.plain y h
    · exact hp
  · rcases (hno y).1 hy with h | rfl
    · rcases f.closed y h with h | h | h
      · exact .inl (List.mem_append_left _ h)
      · exact .inr (.inl h)
      · exact .inr (.inr (fun b hb => (hno b).2 (.inl (h b hb))))
    · exact .inl (List.mem_append_right _ (List.mem_cons_self ..))
  · rcases List.mem_append.1 hy with h | h
    · exact (hno y).2 (.inl (f.htodo y h))
    · have : y = a := by simpa using h
      exact (hno y).2 (.inr this)
  · rw [List.take_add_one, ha] at hb
    rcases List.mem_append.1 hb with hb | hb
    · exact (hno b).2 (.inl (f.done b hb))
    · have : b = a := by simpa using hb
      exact (hno b).2 (.inr this)
  · rcases (hno y).1 hy with h | rfl
    · exact f.least S h1 h2 y h
    · exact h2 x (f.least S h1 h2 x f.here) y hmem
theorem NeedsIn.len {l : List ReasonD} {goals out todo : List AtomD} {x : AtomD} {j : Nat} (f : NeedsIn l goals out todo x j) (hp : AllP (goals ++ bodies l)) : out.length ≤ goals.length + (bodies l).length := by
  have h1 : ∀ y ∈ out, y ∈ goals ++ bodies l := f.least (· ∈ goals ++ bodies l) (fun g hg => List.mem_append_left _ hg) (fun y _ b hb => List.mem_append_right _ (bodyOf_sub hb))
  have h2 : ∀ y, y ∈ out → y ∈ sortA (goals ++ bodies l) := fun y hy => (mem_sortA hp).2 (h1 y hy)
  have h3 := sortA_length (goals ++ bodies l)
  have h4 : out.length ≤ (sortA (goals ++ bodies l)).length := by
    have e : out = (sortA (goals ++ bodies l)).filter (fun x => decide (x ∈ out)) := asc_eq f.asc (asc_filter _ (sortA_of _).asc) (fun y => by
      rw [List.mem_filter, decide_eq_true_iff]
      exact ⟨fun hy => ⟨h2 y hy, hy⟩, fun hy => hy.2⟩)
    rw [e]
    exact List.length_filter_le _ _
  rw [List.length_append] at h3
  omega
end Go.Am
namespace Go.Am
set_option linter.unusedVariables false
set_option linter.unusedSimpArgs false
def MapI (h : Heap) (A : Nat) (kv : List (AtomD × Int)) : Prop := ∃ es clock, Holds h A (.map es clock) ∧ es.map (fun x : MapEntry => (x.key, x.val)) = kv.map (fun p => (p.1.val, Value.int .i64 p.2))
def lookI (kv : List (AtomD × Int)) (a : AtomD) : Option Int := (kv.find? (fun p => decide (a = p.1))).map (·.2)
theorem findI {T : Tab} {kt : TypeId} {a : AtomD} (heq : ∀ x y : AtomD, eqIn T 20 kt x.val y.val = some (decide (x = y))) : ∀ (es : List MapEntry) (kv : List (AtomD × Int)) (i : Nat), es.map (fun x : MapEntry => (x.key, x.val)) = kv.map (fun p => (p.1.val, Value.int .i64 p.2)) →
    (lookI kv a = none → findA T kt a.val es i = some none) ∧ ∀ n, lookI kv a = some n → ∃ j, findA T kt a.val es i = some (some (j, .int .i64 n))
  | [], kv, i, hk => by
    cases kv with
    | nil => exact ⟨fun _ => rfl, fun n h => by simp [lookI] at h⟩
    | cons k kv => simp at hk
  | e :: es, kv, i, hk => by
    cases kv with
    | nil => simp at hk
    | cons k kv =>
      simp only [List.map_cons, List.cons.injEq, Prod.mk.injEq] at hk
      obtain ⟨h1, h2⟩ := findI heq es kv (i + 1) hk.2
      unfold findA
      rw [hk.1.1, heq]
      unfold lookI at h1 h2 ⊢
      by_cases hx : a = k.1
      · rw [decide_eq_true hx, List.find?_cons_of_pos (by simpa using hx)]
        simp [hk.1.2]
      · rw [decide_eq_false hx, List.find?_cons_of_neg (by simpa using hx)]
        simp only [Option.bind_some, Bool.false_eq_true, if_false]
        exact ⟨h1, h2⟩
section
variable {T : Tab} {t kt et : TypeId} {A : Nat} {kv : List (AtomD × Int)} {a : AtomD} {h1 : Heap} {bs : List Blk} {w : Nat} {K : Value → Heap → Prop}
theorem MapI.over (m : MapI h1 A kv) {h2 : Heap} (x : Ext (h1.lay bs w) h2) : MapI h2 A kv := by
  obtain ⟨es, cl, m1, m2⟩ := m
  exact ⟨es, cl, m1.over x, m2⟩
theorem MapI.top {h2 : Heap} {i : Nat} (x : Ext (h1.lay bs w) h2) (hi : bs[i]? = some (.map [] 0)) : MapI h2 (h1.size + i) [] := ⟨[], 0, Holds.top x hi, rfl⟩
theorem MapI.step (m : MapI h1 A kv) {B : Nat} {h2 : Heap} (c : Chg B h1 h2) (hB : A ≠ B) : MapI h2 A kv := by
  obtain ⟨es, cl, m1, m2⟩ := m
  exact ⟨es, cl, m1.step c hB, m2⟩
theorem lookI_rule {ok : Bool} (m : MapI h1 A kv) (hd : T.desc t = some (.map kt et)) (heq : ∀ x y : AtomD, eqIn T 20 kt x.val y.val = some (decide (x = y))) (hz : T.zero et = some (.int .i64 0))
    (hK : K (if ok then .tuple #[.int .i64 ((lookI kv a).getD 0), .bool (lookI kv a).isSome] else .int .i64 ((lookI kv a).getD 0)) (h1.lay bs w)) : valE (lookupA T t (.map (some A)) a.val ok (h1.lay bs w)) (h1.lay bs w) K := by
  obtain ⟨es, cl, m1, m2⟩ := m
  obtain ⟨f1, f2⟩ := findI (a := a) heq es kv 0 m2
  have hg : (h1.lay bs w).get A = some (.map es cl) := m1.lay bs w
  unfold lookupA
  simp only [hd, is_key a heq, if_true, mapOf, hg, Option.bind_some]
  cases hl : lookI kv a with
  | none =>
    rw [hl] at hK
    rw [f1 hl]
    simp only [hz, Option.bind_some, Option.map_some]
    exact hK
  | some n =>
    rw [hl] at hK
    obtain ⟨j, hj⟩ := f2 n hl
    rw [hj]
    simp only [Option.bind_some, Option.map_some]
    exact hK
theorem updI_rule {h : Heap} {n : Int} (m : MapI h A kv) (hd : T.desc t = some (.map kt et)) (heq : ∀ x y : AtomD, eqIn T 20 kt x.val y.val = some (decide (x = y))) (ha : lookI kv a = none) :
    ∃ h', updateA T t (.map (some A)) a.val (.int .i64 n) h = some h' ∧ MapI h' A (kv ++ [(a, n)]) ∧ Chg A h h' := by
  obtain ⟨es, cl, m1, m2⟩ := m
  obtain ⟨f1, f2⟩ := findI (a := a) heq es kv 0 m2
  refine ⟨h.set A (.map (es ++ [{ key := a.val, val := .int .i64 n, born := cl }]) (cl + 1)), ?_, ⟨_, _, ⟨by rw [Heap.size_set]; exact m1.lt, by rw [Heap.get_set _ _ _ _ m1.lt, if_pos rfl]⟩, by simp [m2]⟩, ?_, ?_, ?_⟩
  · unfold updateA
    simp only [hd, m1.get, is_key a heq, if_true, f1 ha, Option.bind_some]
  · rw [Heap.size_set]; exact Nat.le_refl _
  · intro B hB hne
    rw [Heap.get_set _ _ _ _ m1.lt, if_neg hne]
  · rw [Heap.low_set]; omega
end
end Go.Am

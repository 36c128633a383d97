/- Calls: the plain machine beside the model; what a run of the plain machine says of the model. No condition. -/
import Derived.Test.YtpnnbjakbplgeaaGDraw3
namespace Go.Am
open Go.RowKit

abbrev Ov := FuncId → Option (List Value → Heap → Option (Value × Heap))

def call (P : Program) (T : Tab) (ov : Ov) : Nat → FuncId → List Value → Heap → Option (Value × Heap)
  | 0, _, _, _ => none
  | n + 1, f, args, h =>
    match ov f with
    | some g => g args h
    | none =>
      (T.fn f).bind fun fn => fn.body.bind fun c =>
      match evalCode P T (call P T ov n) (evalDraw P T (call P T ov n)) n c (args ++ List.replicate (fn.ntmps - args.length) undef) h with
      | some (.ret, e, h') => (resultsA T fn e h').map fun v => (v, h')
      | some (.normal, e, h') => (resultsA T fn e h').map fun v => (v, h')
      | _ => none

/-- What stands in the place of a function's text is right. -/
def OvS (P : Program) (ov : Ov) : Prop :=
  ∀ f g, ov f = some g → ∀ args h v h', g args h = some (v, h') → Keeps h h' ∧ ∀ ρ w (cargs : Array Value), Sim ρ h w → Free ρ h h' → VRs ρ args cargs.toList → CallR P ρ h h' w v f cargs

section
variable {P : Program} {T : Tab} {ov : Ov}

theorem evalOpsK_keeps {C : FuncId → List Value → Heap → Option (Value × Heap)} (hg : Grows C) {ops : Array Oper} (l : List Oper) (e e' : Env) (h h' : Heap) (ks : List Nat) (hev : evalOpsK P T C ops l e h = some (ks, e', h')) : Keeps h h' := by
  induction l generalizing e h ks with
  | nil => simp only [evalOpsK, Option.some.injEq, Prod.mk.injEq] at hev; obtain ⟨_, _, rfl⟩ := hev; exact .refl _
  | cons o l ih =>
    simp only [evalOpsK] at hev
    split at hev
    · split at hev
      · rename_i v h2 hr
        simp only [Option.map_eq_some_iff, Prod.exists, Prod.mk.injEq] at hev
        obtain ⟨ks', x1, x2, hr', _, rfl, rfl⟩ := hev
        have hk := evalOp_keeps hg hr
        refine Keeps.trans ?_ (ih _ _ _ hr')
        exact ⟨hk.size, Nat.min_le_left _ _, fun A h3 h4 => hk.get A h3 (Nat.lt_of_lt_of_le h4 (Nat.min_le_right _ _))⟩
      · cases hev
    · simp only [Option.map_eq_some_iff, Prod.exists, Prod.mk.injEq] at hev
      obtain ⟨ks', x1, x2, hr', _, rfl, rfl⟩ := hev
      exact ih _ _ _ hr'

theorem evalDraw_keeps {C : FuncId → List Value → Heap → Option (Value × Heap)} (hg : Grows C) : DGrows (evalDraw P T C) := by
  intro ops e h e' h' hev
  unfold evalDraw at hev
  split at hev
  · rename_i hr
    split at hev
    · cases hev; exact evalOpsK_keeps hg _ _ _ _ _ _ hr
    · cases hev
  · cases hev

theorem call_keeps (hov : OvS P ov) : ∀ n, Grows (call P T ov n)
  | 0 => by intro f args h v h' hev; simp [call] at hev
  | n + 1 => by
    intro f args h v h' hev
    have ih := call_keeps hov n
    simp only [call] at hev
    split at hev
    · rename_i g hg
      exact (hov f g hg args h v h' hev).1
    · simp only [Option.bind_eq_some_iff] at hev
      obtain ⟨fn, _, c, _, hev⟩ := hev
      split at hev
      · rename_i hr
        simp only [Option.map_eq_some_iff, Prod.mk.injEq] at hev
        obtain ⟨_, _, _, rfl⟩ := hev
        exact evalCode_keeps ih (evalDraw_keeps ih) _ _ _ _ _ _ _ hr
      · rename_i hr
        simp only [Option.map_eq_some_iff, Prod.mk.injEq] at hev
        obtain ⟨_, _, _, rfl⟩ := hev
        exact evalCode_keeps ih (evalDraw_keeps ih) _ _ _ _ _ _ _ hr
      · cases hev

theorem EnvR.enter {ρ : Rho} {args : List Value} {cargs : Array Value} (hv : VRs ρ args cargs.toList) (n : Nat) : EnvR ρ (args ++ List.replicate (n - args.length) undef) (cargs ++ Array.replicate (n - cargs.size) undef) := by
  have hl : args.length = cargs.size := by simpa using hv.1
  refine ⟨by simp [hl], fun i => ?_⟩
  rw [Env.get_eq]
  rcases Nat.lt_or_ge i args.length with h1 | h1
  · rw [List.getElem?_append_left h1]
    have hx : args[i]? = some args[i] := List.getElem?_eq_getElem h1
    obtain ⟨y, hy, hxy⟩ := hv.get hx
    have h2 : i < cargs.size := by omega
    have e1 : (cargs ++ Array.replicate (n - cargs.size) undef).getD i undef = y := by
      have h3 : cargs[i]? = some y := by simpa using hy
      simp [Array.getElem?_append_left h2, h3]
    rw [e1, hx]
    exact hxy
  · rw [List.getElem?_append_right h1]
    have e1 : (cargs ++ Array.replicate (n - cargs.size) undef).getD i undef = undef := by
      have h3 : cargs.size ≤ i := by omega
      simp only [Array.getD_eq_getD_getElem?, Array.getElem?_append_right h3]
      by_cases h4 : i - cargs.size < n - cargs.size
      · simp [h4]
      · simp [h4]
    rw [e1]
    by_cases h4 : i - args.length < n - args.length
    · simp [h4]; exact .undef ρ
    · simp [h4]; exact .undef ρ

theorem call_sound (hmix : P.follows .mixedOrders = true) (hT : T.Fits P) (hov : OvS P ov) : ∀ n, CS P (call P T ov n)
  | 0 => by intro f args h v h' hev; simp [call] at hev
  | n + 1 => by
    intro f args h v h' hev ρ w cargs hs hf hv
    have ihs := call_sound hmix hT hov n
    have ihk := call_keeps (T := T) hov n
    simp only [call] at hev
    split at hev
    · rename_i g hg
      exact (hov f g hg args h v h' hev).2 ρ w cargs hs hf hv
    · simp only [Option.bind_eq_some_iff] at hev
      obtain ⟨fn, hfn, c, hc, hev⟩ := hev
      obtain ⟨hP, hname, hok⟩ := hT.fn f fn hfn
      right
      refine ⟨?_, ?_⟩
      · have hname' : ¬ fn.name = "runtime.NumGoroutine" := by simpa using hname
        simp [callFunc, hP, hname', hc]
      · refine calls_of_wp hP hc ?_
        have he := EnvR.enter hv fn.ntmps
        have go : ∀ (x : Ex) (e : Env) (h2 : Heap), x = .ret ∨ x = .normal → evalCode P T (call P T ov n) (evalDraw P T (call P T ov n)) n c (args ++ List.replicate (fn.ntmps - args.length) undef) h = some (x, e, h2) →
            (resultsA T fn e h2).map (fun v => (v, h2)) = some (v, h') → c.wp P (bodyPost P fn fun ed w' => ∃ ρ' u, ed = .returned u ∧ Fr ρ ρ' h h' w w' ∧ Sim ρ' h' w' ∧ VR ρ' v u) { tmps := cargs ++ Array.replicate (fn.ntmps - cargs.size) undef, defers := [] } w := by
          intro x e h2 hx hr hres
          simp only [Option.map_eq_some_iff, Prod.mk.injEq] at hres
          obtain ⟨v', hres, rfl, rfl⟩ := hres
          refine evalCode_sound hT ihs ihk (evalDraw_sound hmix hT ihs ihk) (evalDraw_keeps ihk) n c _ _ _ _ _ ρ _ w _ hr (hok c hc) hs hf he rfl fun ρ' a' w' f1 s1 e1 d1 => ?_
          obtain ⟨u, hu, hvu⟩ := resultsA_sound hT s1 e1 hres
          rcases hx with rfl | rfl
          · exact ⟨d1, u, hu, ρ', u, rfl, f1, s1, hvu⟩
          · exact ⟨d1, u, hu, ρ', u, rfl, f1, s1, hvu⟩
        split at hev
        · rename_i e h2 hr; exact go .ret e h2 (.inl rfl) hr hev
        · rename_i e h2 hr; exact go .normal e h2 (.inr rfl) hr hev
        · cases hev

/-- Only reading is left of what came in: nothing that was there has turned. -/
theorem Fr.below {ρ ρ' : Rho} {h h' : Heap} {w w' : World} (f : Fr ρ ρ' h h' w w') (hlow : ∀ A L, ρ A = some L → A < h'.low) : Below w.heap.size w w' :=
  ⟨f.os, f.tape, f.output, f.size, fun k hk => f.keep k hk fun A L hA _ => .inl (hlow A L hA)⟩

theorem calls_closed (hmix : P.follows .mixedOrders = true) (hT : T.Fits P) (hov : OvS P ov) {n : Nat} {f : FuncId} {b : Bool} {h' : Heap} (hf : ov f = none) (hrun : call P T ov n f [] .empty = some (.bool b, h')) (w : World) :
    Calls P f #[] w fun e w' => e = .returned (.bool b) ∧ Below w.heap.size w w' := by
  have hs : Sim (fun _ => none) .empty w := ⟨fun A L hA => (by cases hA), fun A A' L L' hA => (by cases hA)⟩
  have hcs := call_sound hmix hT hov n f [] .empty (.bool b) h' hrun (fun _ => none) w #[] hs (fun _ _ _ => rfl) (.nil _)
  rcases hcs with ⟨ρ', u, w', h1, _⟩ | ⟨_, h1⟩
  · exfalso
    cases n with
    | zero => simp [call] at hrun
    | succ n =>
      simp only [call, hf, Option.bind_eq_some_iff] at hrun
      obtain ⟨fn, hfn, c, hc, _⟩ := hrun
      obtain ⟨hP, hname, _⟩ := hT.fn f fn hfn
      have hname' : ¬ fn.name = "runtime.NumGoroutine" := by simpa using hname
      simp [callFunc, hP, hname', hc] at h1
  · refine h1.mono ?_
    rintro e w' ⟨ρ', u, rfl, f1, s1, hv⟩
    refine ⟨?_, f1.below (fun A L hA => by cases hA)⟩
    rw [hv.eq_plain rfl]
end
#print axioms calls_closed
end Go.Am

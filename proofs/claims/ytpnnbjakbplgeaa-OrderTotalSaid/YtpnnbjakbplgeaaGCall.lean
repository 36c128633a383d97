/- Calls: the plain machine beside the model; what a run of the plain machine says of the model. No condition. -/
import Derived.Test.YtpnnbjakbplgeaaGDraw3
namespace Go.Am
open Go.RowKit

abbrev Ov := FuncId → Option (List Value → Heap → Option (Value × Heap))

/-- Yield's arguments go into the loop's places. -/
def setAll : Env → List Tmp → List Value → Env
  | e, t :: ts, v :: vs => setAll (e.set t v) ts vs
  | e, _, _ => e
/-- The record of a round is turned. -/
def endRoundA (A : Nat) (jump : Option Code) (h : Heap) : Option (Value × Heap) :=
  match h.get A with
  | some (.loop env ps assign body _ _) => some (.bool jump.isNone, h.set A (.loop env ps assign body (if jump.isNone then .ready else .done) jump))
  | _ => none
/-- A round, the code's evaluator handed in. -/
def roundA (E : Code → Env → Heap → Option (Ex × Env × Heap)) (A : Nat) (args : List Value) (h : Heap) : Option (Value × Heap) :=
  match h.get A with
  | some (.loop env ps assign body _ _) =>
    if args.length = ps.length then
      match E assign (setAll env ps args) h with
      | some (.normal, e1, h1) => match h1.get A with
        | some (.loop env1 ps1 assign1 body1 .ready pend1) =>
          (match E body e1 (h1.set A (.loop env1 ps1 assign1 body1 .busy pend1)) with
          | some (.normal, _, h2) => endRoundA A none h2
          | some (.ret, _, h2) => endRoundA A (some .ret) h2
          | some (.exit id, _, h2) => endRoundA A (some (.exit id)) h2
          | none => none)
        | _ => none
      | _ => none
    else none
  | _ => none

/-! ### A function that defers one call -/
def deferAt (d : Oper) : Option Tmp := match d.op with
  | .defer ⟨.value (.tmp t), args, _⟩ => if args.isEmpty && d.guard.isNone && d.dst.isNone then some t else none
  | _ => none
/-- What stands ahead; what is laid there; where it lies; what stands behind. -/
def splitD : Code → Option (List Code × Oper × Tmp × Code)
  | .seq (.region id ops false) b => (match ops.toList with
    | [m, d] => (match deferAt d with
      | some t => if m.guard.isNone then some ([], m, t, b) else (splitD b).map fun (pre, m, t, r) => (.region id ops false :: pre, m, t, r)
      | none => (splitD b).map fun (pre, m, t, r) => (.region id ops false :: pre, m, t, r))
    | _ => (splitD b).map fun (pre, m, t, r) => (.region id ops false :: pre, m, t, r))
  | .seq a b => (splitD b).map fun (pre, m, t, r) => (a :: pre, m, t, r)
  | _ => none
def evalPre (E : Code → Env → Heap → Option (Ex × Env × Heap)) : List Code → Env → Heap → Option (Env × Heap)
  | [], e, h => some (e, h)
  | c :: cs, e, h => match E c e h with
    | some (.normal, e', h') => evalPre E cs e' h'
    | _ => none
section
variable (P : Program) (T : Tab)
def leaveA (E : Code → Env → Heap → Option (Ex × Env × Heap)) (fn : Func) (g : Value) (e3 : Env) (h3 : Heap) : Option (Value × Heap) :=
  match g with
  | .func (.func g) fi ca => (T.fn g).bind fun fg => fg.body.bind fun cg => if noRange cg then
      (match E cg ((fi.toList ++ ca.toList) ++ List.replicate (fg.ntmps - (fi.toList ++ ca.toList).length) undef) h3 with
      | some (.ret, e4, h4) => (resultsA T fg e4 h4).bind fun _ => (resultsA T fn e3 h4).map fun v => (v, h4)
      | some (.normal, e4, h4) => (resultsA T fg e4 h4).bind fun _ => (resultsA T fn e3 h4).map fun v => (v, h4)
      | _ => none)
    else none
  | _ => none
def deferA (E : Code → Env → Heap → Option (Ex × Env × Heap)) (C : Fn → List Value → Heap → Option (Value × Heap)) (fn : Func) (c : Code) (e : Env) (h : Heap) : Option (Value × Heap) :=
  (splitD c).bind fun (pre, m, t, rest) => if pre.all noRange && noRange rest then
    (evalPre E pre e h).bind fun (e1, h1) => (evalOp P T C e1 m h1).bind fun (v, h2) =>
      match E rest (put e1 m.dst v) h2 with
      | some (.ret, e3, h3) => leaveA T E fn ((put e1 m.dst v).get t) e3 h3
      | some (.normal, e3, h3) => leaveA T E fn ((put e1 m.dst v).get t) e3 h3
      | _ => none
  else none
end

def call (P : Program) (T : Tab) (ov : Ov) : Nat → Fn → List Value → Heap → Option (Value × Heap)
  | 0, _, _, _ => none
  | n + 1, .func f, args, h =>
    match ov f with
    | some g => g args h
    | none =>
      (T.fn f).bind fun fn => fn.body.bind fun c =>
      if T.dfr f then deferA P T (evalCode P T (call P T ov n) (evalDraw P T (call P T ov n)) none n) (call P T ov n) fn c (args ++ List.replicate (fn.ntmps - args.length) undef) h else
      match evalCode P T (call P T ov n) (evalDraw P T (call P T ov n)) none n c (args ++ List.replicate (fn.ntmps - args.length) undef) h with
      | some (.ret, e, h') => (resultsA T fn e h').map fun v => (v, h')
      | some (.normal, e, h') => (resultsA T fn e h').map fun v => (v, h')
      | _ => none
  | n + 1, .yield A, args, h => roundA (evalCode P T (call P T ov n) (evalDraw P T (call P T ov n)) (some A) n) A args h
  | _, _, _, _ => none

/-- What stands in the place of a function's text is right. -/
def OvS (P : Program) (gs : List Nat) (ov : Ov) : Prop :=
  ∀ f g, ov f = some g → ∀ args h v h', g args h = some (v, h') → Keeps h h' ∧ ∀ ρ w (cargs : Array Value), GlobOk gs ρ → Sim ρ h w → Free ρ h h' → VRs ρ args cargs.toList → CallR P ρ h h' w v f cargs

section
variable {P : Program} {T : Tab} {ov : Ov}

theorem evalOpsK_keeps {C : Fn → List Value → Heap → Option (Value × Heap)} (hg : Grows C) {ops : Array Oper} (l : List Oper) (e e' : Env) (h h' : Heap) (ks : List Nat) (hev : evalOpsK P T C ops l e h = some (ks, e', h')) : Keeps h h' := by
  induction l generalizing e h ks with
  | nil => simp only [evalOpsK, Option.some.injEq, Prod.mk.injEq] at hev; obtain ⟨_, _, rfl⟩ := hev; exact .refl _
  | cons o l ih =>
    simp only [evalOpsK] at hev
    split at hev
    · split at hev
      · rename_i v h2 hr
        simp only [Option.map_eq_some_iff, Prod.exists, Prod.mk.injEq] at hev
        obtain ⟨ks', x1, x2, hr', _, rfl, rfl⟩ := hev
        have hk := evalOp_keeps hg hr
        refine Keeps.trans ?_ (ih _ _ _ hr')
        exact ⟨hk.size, Nat.min_le_left _ _, fun A h3 h4 => hk.get A h3 (Nat.lt_of_lt_of_le h4 (Nat.min_le_right _ _))⟩
      · cases hev
    · simp only [Option.map_eq_some_iff, Prod.exists, Prod.mk.injEq] at hev
      obtain ⟨ks', x1, x2, hr', _, rfl, rfl⟩ := hev
      exact ih _ _ _ hr'

theorem evalDraw_keeps {C : Fn → List Value → Heap → Option (Value × Heap)} (hg : Grows C) : DGrows (evalDraw P T C) := by
  intro ops e h e' h' hev
  unfold evalDraw at hev
  split at hev
  · rename_i hr
    split at hev
    · cases hev; exact evalOpsK_keeps hg _ _ _ _ _ _ hr
    · cases hev
  · cases hev

theorem endRoundA_keeps {A : Nat} {jump : Option Code} {h h' : Heap} {v : Value} (hev : endRoundA A jump h = some (v, h')) : Keeps h h' := by
  unfold endRoundA at hev
  split at hev
  · rename_i hg; cases hev; exact .set _ (Heap.lt_of_get hg)
  · cases hev
theorem roundA_keeps {E : Code → Env → Heap → Option (Ex × Env × Heap)} (hE : ∀ c e h x e' h', E c e h = some (x, e', h') → Keeps h h') {A : Nat} {args : List Value} {h h' : Heap} {v : Value} (hev : roundA E A args h = some (v, h')) : Keeps h h' := by
  unfold roundA at hev
  split at hev
  · split at hev
    · split at hev
      · rename_i h1 hr1
        split at hev
        · rename_i hg1
          have hk : ∀ b, Keeps h (h1.set A b) := fun b => (hE _ _ _ _ _ _ hr1).trans (Keeps.set b (Heap.lt_of_get hg1))
          split at hev
          · rename_i hr2; exact ((hk _).trans (hE _ _ _ _ _ _ hr2)).trans (endRoundA_keeps hev)
          · rename_i hr2; exact ((hk _).trans (hE _ _ _ _ _ _ hr2)).trans (endRoundA_keeps hev)
          · rename_i hr2; exact ((hk _).trans (hE _ _ _ _ _ _ hr2)).trans (endRoundA_keeps hev)
          · cases hev
        · cases hev
      · cases hev
    · cases hev
  · cases hev

theorem evalPre_keeps {E : Code → Env → Heap → Option (Ex × Env × Heap)} (hE : ∀ c e h x e' h', E c e h = some (x, e', h') → Keeps h h') : ∀ (pre : List Code) (e e' : Env) (h h' : Heap), evalPre E pre e h = some (e', h') → Keeps h h'
  | [], e, e', h, h', hev => by simp only [evalPre, Option.some.injEq, Prod.mk.injEq] at hev; obtain ⟨_, rfl⟩ := hev; exact .refl _
  | c :: cs, e, e', h, h', hev => by
    simp only [evalPre] at hev
    split at hev
    · rename_i hr
      exact (hE _ _ _ _ _ _ hr).trans (evalPre_keeps hE cs _ _ _ _ hev)
    · cases hev
theorem leaveA_keeps {E : Code → Env → Heap → Option (Ex × Env × Heap)} (hE : ∀ c e h x e' h', E c e h = some (x, e', h') → Keeps h h') {fn : Func} {g v : Value} {e3 : Env} {h3 h' : Heap} (hev : leaveA T E fn g e3 h3 = some (v, h')) : Keeps h3 h' := by
  unfold leaveA at hev
  split at hev
  · simp only [Option.bind_eq_some_iff] at hev
    obtain ⟨fg, _, cg, _, hev⟩ := hev
    split at hev
    · split at hev
      · rename_i hr
        simp only [Option.bind_eq_some_iff, Option.map_eq_some_iff, Prod.mk.injEq] at hev
        obtain ⟨_, _, _, _, _, rfl⟩ := hev
        exact hE _ _ _ _ _ _ hr
      · rename_i hr
        simp only [Option.bind_eq_some_iff, Option.map_eq_some_iff, Prod.mk.injEq] at hev
        obtain ⟨_, _, _, _, _, rfl⟩ := hev
        exact hE _ _ _ _ _ _ hr
      · cases hev
    · cases hev
  · cases hev
theorem deferA_keeps {C : Fn → List Value → Heap → Option (Value × Heap)} (hC : Grows C) {E : Code → Env → Heap → Option (Ex × Env × Heap)} (hE : ∀ c e h x e' h', E c e h = some (x, e', h') → Keeps h h') {fn : Func} {c : Code} {e : Env} {v : Value} {h h' : Heap} (hev : deferA P T E C fn c e h = some (v, h')) : Keeps h h' := by
  unfold deferA at hev
  simp only [Option.bind_eq_some_iff, Prod.exists] at hev
  obtain ⟨pre, m, t, rest, _, hev⟩ := hev
  split at hev
  · simp only [Option.bind_eq_some_iff, Prod.exists] at hev
    obtain ⟨e1, h1, hp, v1, h2, ho, hev⟩ := hev
    split at hev
    · rename_i hr
      exact (((evalPre_keeps hE _ _ _ _ _ hp).trans (evalOp_keeps hC ho)).trans (hE _ _ _ _ _ _ hr)).trans (leaveA_keeps hE hev)
    · rename_i hr
      exact (((evalPre_keeps hE _ _ _ _ _ hp).trans (evalOp_keeps hC ho)).trans (hE _ _ _ _ _ _ hr)).trans (leaveA_keeps hE hev)
    · cases hev
  · cases hev
theorem call_keeps {gs : List Nat} (hov : OvS P gs ov) : ∀ n, Grows (call P T ov n)
  | 0 => by intro f args h v h' hev; simp [call] at hev
  | n + 1 => by
    intro f args h v h' hev
    have ih := call_keeps hov n
    cases f with
    | func f =>
      simp only [call] at hev
      split at hev
      · rename_i g hg
        exact (hov f g hg args h v h' hev).1
      · simp only [Option.bind_eq_some_iff] at hev
        obtain ⟨fn, _, c, _, hev⟩ := hev
        split at hev
        · exact deferA_keeps ih (fun c e h x e' h' hr => evalCode_keeps ih (evalDraw_keeps ih) _ _ _ _ _ _ _ _ hr) hev
        split at hev
        · rename_i hr
          simp only [Option.map_eq_some_iff, Prod.mk.injEq] at hev
          obtain ⟨_, _, _, rfl⟩ := hev
          exact evalCode_keeps ih (evalDraw_keeps ih) _ _ _ _ _ _ _ _ hr
        · rename_i hr
          simp only [Option.map_eq_some_iff, Prod.mk.injEq] at hev
          obtain ⟨_, _, _, rfl⟩ := hev
          exact evalCode_keeps ih (evalDraw_keeps ih) _ _ _ _ _ _ _ _ hr
        · cases hev
    | yield A =>
      simp only [call] at hev
      exact roundA_keeps (fun c e h x e' h' hr => evalCode_keeps ih (evalDraw_keeps ih) _ _ _ _ _ _ _ _ hr) hev
    | _ => simp [call] at hev

theorem EnvR.enter {ρ : Rho} {args : List Value} {cargs : Array Value} (hv : VRs ρ args cargs.toList) (n : Nat) : EnvR ρ (args ++ List.replicate (n - args.length) undef) (cargs ++ Array.replicate (n - cargs.size) undef) := by
  have hl : args.length = cargs.size := by simpa using hv.1
  refine ⟨by simp [hl], fun i => ?_⟩
  rw [Env.get_eq]
  rcases Nat.lt_or_ge i args.length with h1 | h1
  · rw [List.getElem?_append_left h1]
    have hx : args[i]? = some args[i] := List.getElem?_eq_getElem h1
    obtain ⟨y, hy, hxy⟩ := hv.get hx
    have h2 : i < cargs.size := by omega
    have e1 : (cargs ++ Array.replicate (n - cargs.size) undef).getD i undef = y := by
      have h3 : cargs[i]? = some y := by simpa using hy
      simp [Array.getElem?_append_left h2, h3]
    rw [e1, hx]
    exact hxy
  · rw [List.getElem?_append_right h1]
    have e1 : (cargs ++ Array.replicate (n - cargs.size) undef).getD i undef = undef := by
      have h3 : cargs.size ≤ i := by omega
      simp only [Array.getD_eq_getD_getElem?, Array.getElem?_append_right h3]
      by_cases h4 : i - cargs.size < n - cargs.size
      · simp [h4]
      · simp [h4]
    rw [e1]
    by_cases h4 : i - args.length < n - args.length
    · simp [h4]; exact .undef ρ
    · simp [h4]; exact .undef ρ

theorem EnvR.set {ρ : Rho} {e : Env} {tmps : Array Value} (he : EnvR ρ e tmps) {v u : Value} (hv : VR ρ v u) (d : Nat) : EnvR ρ (Env.set e d v) (tmps.setIfInBounds d u) := by
  have := EnvR.put (a := { tmps := tmps, defers := [] }) he hv (some d)
  exact this

theorem EnvR.setAll {ρ : Rho} : ∀ (ps : List Tmp) (args : List Value) (cargs : List Value) (e : Env) (tmps : Array Value), EnvR ρ e tmps → VRs ρ args cargs → EnvR ρ (Am.setAll e ps args) ((ps.zip cargs).foldl (fun tmps (t, a) => tmps.setIfInBounds t a) tmps)
  | [], args, cargs, e, tmps, he, _ => by cases args <;> exact he
  | t :: ps, [], cargs, e, tmps, he, hv => by rw [hv.of_nil]; exact he
  | t :: ps, v :: args, cargs, e, tmps, he, hv => by
    obtain ⟨u, m, rfl, h1, h2⟩ := hv.of_cons
    exact EnvR.setAll ps args m _ _ (he.set h1 t) h2

/-- What is left when a frame leaves with marks. -/
theorem leaves_marks {ρ : Rho} {h : Heap} {fn : Func} {tmps : Array Value} {R : Ending → World → Prop} {n0 : Nat} : ∀ (rs : List Nat) (w : World), rs.Nodup → (∀ r ∈ rs, n0 ≤ r ∧ w.heap[r]? = some (.deferred (some [])) ∧ ∀ A L, ρ A = some L → L.b ≠ r) → Sim ρ h w →
    (∀ w', Sim ρ h w' → w'.os = w.os → w'.tape = w.tape → w'.output = w.output → w'.heap.size = w.heap.size → (∀ b, (b < n0 ∨ ∃ A L, ρ A = some L ∧ L.b = b) → w'.heap[b]? = w.heap[b]?) → ∃ v, (results fn tmps).run P w' = .ok v w' ∧ R (.returned v) w') →
    LeavesInM Fence.wide 0 P fn tmps R (rs.map fun r => { target := .collected r, args := #[] }) .returning w
  | [], w, _, _, hs, hR => hR w hs rfl rfl rfl rfl (fun _ _ => rfl)
  | r :: rs, w, hnd, hall, hs, hR => by
    obtain ⟨a1, a2, a3⟩ := hall r (by simp)
    have hlt : r < w.heap.size := (Array.getElem?_eq_some_iff.1 a2).1
    refine ⟨by simp, .inl ⟨r, _, rfl, run_takeDeferred a2, ?_⟩⟩
    obtain ⟨hn1, hn2⟩ := List.nodup_cons.1 hnd
    have hsz : (w.putObj r (.deferred none)).heap.size = w.heap.size := by rw [putObj_heap]; simp
    refine leaves_marks (n0 := n0) rs _ hn2 (fun q hq => ?_) ⟨fun A L hA => (hs.blk A L hA).keep (fun _ _ h => h) (by rw [hsz]; exact Nat.le_refl _) (fun _ => putObj_other (a3 A L hA)), hs.inj⟩ fun w' hs' h1 h2 h3 h4 h5 => ?_
    · obtain ⟨b1, b2, b3⟩ := hall q (by simp [hq])
      exact ⟨b1, (putObj_other (fun (e : q = r) => hn1 (e ▸ hq))).trans b2, b3⟩
    · refine hR w' hs' h1 h2 h3 (h4.trans hsz) fun b hb => (h5 b hb).trans (putObj_other fun e => ?_)
      subst e
      rcases hb with hb | ⟨A, L, hA, hb⟩
      · omega
      · exact a3 A L hA hb

/-- What the split says. -/
inductive DSplit (m : Oper) (t : Tmp) (rest : Code) : List Code → Code → Prop where
  | here (id : Nat) (ops : Array Oper) (d : Oper) (args : Array Operand) (ats : Array TypeId) : ops.toList = [m, d] → d.op = .defer ⟨.value (.tmp t), args, ats⟩ → args.isEmpty = true → m.guard = none → d.guard = none → d.dst = none → DSplit m t rest [] (.seq (.region id ops false) rest)
  | step (a b : Code) (pre : List Code) : DSplit m t rest pre b → DSplit m t rest (a :: pre) (.seq a b)
theorem deferAt_spec {d : Oper} {t : Tmp} (h : deferAt d = some t) : ∃ args ats, d.op = .defer ⟨.value (.tmp t), args, ats⟩ ∧ args.isEmpty = true ∧ d.guard = none ∧ d.dst = none := by
  unfold deferAt at h
  split at h
  · rename_i t' args ats hop
    split at h
    · rename_i hc
      cases h
      simp only [Bool.and_eq_true, Option.isNone_iff_eq_none] at hc
      exact ⟨args, ats, hop, hc.1.1, hc.1.2, hc.2⟩
    · cases h
  · cases h
theorem splitD_spec : ∀ (c : Code) (pre : List Code) (m : Oper) (t : Tmp) (rest : Code), splitD c = some (pre, m, t, rest) → DSplit m t rest pre c := by
  intro c
  induction c with
  | seq a b _ ihb =>
    intro pre m t rest h
    have hmap : ∀ (a : Code), ((splitD b).map fun (pre, m, t, r) => (a :: pre, m, t, r)) = some (pre, m, t, rest) → DSplit m t rest pre (.seq a b) := by
      intro a hm
      simp only [Option.map_eq_some_iff, Prod.exists, Prod.mk.injEq] at hm
      obtain ⟨pre', m', t', r', hs, rfl, rfl, rfl, rfl⟩ := hm
      exact .step a b pre' (ihb _ _ _ _ hs)
    unfold splitD at h
    split at h
    · rename_i id ops b' heq
      cases heq
      split at h
      · rename_i m' d hops
        split at h
        · rename_i t' hd
          split at h
          · rename_i hg
            simp only [Option.some.injEq, Prod.mk.injEq] at h
            obtain ⟨rfl, rfl, rfl, rfl⟩ := h
            obtain ⟨args, ats, h1, h2, h3, h4⟩ := deferAt_spec hd
            exact .here id ops d args ats hops h1 h2 (by simpa using hg) h3 h4
          · exact hmap _ h
        · exact hmap _ h
      · exact hmap _ h
    · rename_i a' b' _ heq
      cases heq
      exact hmap _ h
    · cases h
  | _ => intro pre m t rest h; simp [splitD] at h

theorem deferA_sound (hT : T.Fits P) {C : Fn → List Value → Heap → Option (Value × Heap)} {gs : List Nat} (hC : CS P gs C) (hg : Grows C) {E : Code → Env → Heap → Option (Ex × Env × Heap)}
    (hE : ∀ (n0 : Nat) (B : List Deferred) (c : Code) (e : Env) (h : Heap) (x : Ex) (e' : Env) (h' : Heap) (ρ : Rho) (a : Act) (w : World) (Q : Exit → Act → World → Prop), E c e h = some (x, e', h') → CodeOk ρ c → (true = true → noRange c = true) → GlobOk gs ρ → Sim ρ h w → Free ρ h h' → EnvR ρ e a.tmps → Marks n0 B true ρ w a.defers → RdR ρ none none → n0 ≤ w.heap.size →
      (∀ ρ' a' w', Fr ρ ρ' h h' w w' → Sim ρ' h' w' → EnvR ρ' e' a'.tmps → Marks n0 B true ρ' w' a'.defers → Q x.to a' w') → c.wpIn (WR none) 0 P Q a w)
    (hEk : ∀ c e h x e' h', E c e h = some (x, e', h') → Keeps h h')
    {fn : Func} {c : Code} {e : Env} {h h' : Heap} {v : Value} {ρ : Rho} {w : World} {tmps : Array Value} (hgs : ∀ g fg cg, T.fn g = some fg → fg.body = some cg → codeOk gs cg = true) (hok : CodeOk ρ c) (hG : GlobOk gs ρ) (hs : Sim ρ h w) (hf : Free ρ h h') (he : EnvR ρ e tmps)
    (hev : deferA P T E C fn c e h = some (v, h')) :
    c.wpIn Fence.wide 0 P (bodyPostM Fence.wide 0 P fn fun ed w' => ∃ ρ' u, ed = .returned u ∧ Fr ρ ρ' h h' w w' ∧ Sim ρ' h' w' ∧ VR ρ' v u) { tmps, defers := [] } w := by
  have key : ∀ (pre : List Code) (m : Oper) (t : Tmp) (rest : Code) (c : Code), DSplit m t rest pre c → ∀ (e : Env) (h1 : Heap) (ρ1 : Rho) (w1 : World) (a : Act), pre.all noRange = true → noRange rest = true → CodeOk ρ1 c → GlobOk gs ρ1 → Sim ρ1 h1 w1 → Free ρ1 h1 h' → EnvR ρ1 e a.tmps → a.defers = [] → Fr ρ ρ1 h h1 w w1 →
      ((evalPre E pre e h1).bind fun (e1, h1) => (evalOp P T C e1 m h1).bind fun (v, h2) =>
        match E rest (put e1 m.dst v) h2 with
        | some (.ret, e3, h3) => leaveA T E fn ((put e1 m.dst v).get t) e3 h3
        | some (.normal, e3, h3) => leaveA T E fn ((put e1 m.dst v).get t) e3 h3
        | _ => none) = some (v, h') →
      c.wpIn Fence.wide 0 P (bodyPostM Fence.wide 0 P fn fun ed w' => ∃ ρ' u, ed = .returned u ∧ Fr ρ ρ' h h' w w' ∧ Sim ρ' h' w' ∧ VR ρ' v u) a w1 := by
    intro pre m t rest c hsp
    induction hsp with
    | step a0 b0 pre0 _ ih =>
      intro e h1 ρ1 w1 a hpre hrest hok hG hs hf he hd hfr hev
      simp only [List.all_cons, Bool.and_eq_true] at hpre
      simp only [evalPre, Option.bind_eq_some_iff, Prod.exists] at hev
      obtain ⟨e2, h2, hp, hev⟩ := hev
      split at hp
      · rename_i e3 h3 hr
        have hk3 : Keeps h3 h' := by
          obtain ⟨v2, h4, ho, hev⟩ := hev
          have k1 := evalPre_keeps hEk _ _ _ _ _ hp
          have k2 := evalOp_keeps hg ho
          split at hev
          · rename_i hr2; exact ((k1.trans k2).trans (hEk _ _ _ _ _ _ hr2)).trans (leaveA_keeps hEk hev)
          · rename_i hr2; exact ((k1.trans k2).trans (hEk _ _ _ _ _ _ hr2)).trans (leaveA_keeps hEk hev)
          · cases hev
        refine wpIn_seq ?_
        refine hE w1.heap.size [] a0 e h1 .normal e3 h3 ρ1 a w1 _ hr hok.1 (fun _ => hpre.1) hG hs (hf.left hk3.size) he (by rw [hd]; exact Marks.nil) trivial (Nat.le_refl _) fun ρ2 a2 w2 f2 s2 r2 d2 => ?_
        obtain ⟨rs, m1, _, m2, _⟩ := d2
        rw [m2 rfl] at m1
        refine ih e3 h3 ρ2 w2 a2 hpre.2 hrest (hok.2.mono f2.grow) (hG.mono f2.grow) s2 (hf.right f2) r2 (by simpa using m1) (hfr.trans f2) ?_
        simp only [Option.bind_eq_some_iff, Prod.exists]
        exact ⟨e2, h2, hp, hev⟩
      · cases hp
    | here id ops d args ats hops hop hargs hmg hdg hdd =>
      intro e h1 ρ1 w1 a _ hrest hok hG hs hf he hd hfr hev
      simp only [evalPre, Option.bind_eq_some_iff, Prod.exists, Option.some.injEq, Prod.mk.injEq] at hev
      obtain ⟨e1, h1', ⟨rfl, rfl⟩, v1, h2, ho, hev⟩ := hev
      have hk2 : Keeps h2 h' := by
        split at hev
        · rename_i hr2; exact (hEk _ _ _ _ _ _ hr2).trans (leaveA_keeps hEk hev)
        · rename_i hr2; exact (hEk _ _ _ _ _ _ hr2).trans (leaveA_keeps hEk hev)
        · cases hev
      refine wpIn_seq (wpIn_region_list ?_)
      rw [hops]
      have hokm : OpOk ρ1 m := hok.1 m (by rw [hops]; simp)
      have hwm : Region.wanted m (yielded ops a.tmps) = true := by simp [Region.wanted, hmg]
      rw [wpListIn, if_pos hwm]
      have hsd := evalOp_sound hT hC hG hs he hokm (hf.left hk2.size) ho
      refine hsd.wp (rl := none) (evalOp_noDefer ho) fun ρ2 u w2 f2 s2 v2 => ?_
      have he2 : EnvR ρ2 (put e m.dst v1) (a.put m.dst u).tmps := (he.mono f2.grow).put v2 m.dst
      have hd2 : (a.put m.dst u).defers = [] := by cases m.dst <;> exact hd
      have hwd : Region.wanted d (yielded ops (a.put m.dst u).tmps) = true := by simp [Region.wanted, hdg]
      rw [wpListIn, if_pos hwd]
      have hgv := he2.2 t
      /- what lies there -/
      have hleave : ∃ x e3 h3, (x = Ex.ret ∨ x = .normal) ∧ E rest (put e m.dst v1) h2 = some (x, e3, h3) ∧ leaveA T E fn ((put e m.dst v1).get t) e3 h3 = some (v, h') := by
        split at hev
        · rename_i e3 h3 hr2; exact ⟨_, e3, h3, .inl rfl, hr2, hev⟩
        · rename_i e3 h3 hr2; exact ⟨_, e3, h3, .inr rfl, hr2, hev⟩
        · cases hev
      obtain ⟨x, e3, h3, hx, hr2, hlv⟩ := hleave
      unfold leaveA at hlv
      split at hlv
      · rename_i g fi ca hgt
        rw [hgt] at hgv
        generalize hag : (a.put m.dst u).tmps.getD t undef = ag at hgv
        cases hgv with
        | func _ q1 q2 q3 q4 =>
          rename_i fi' ca'
          have hv1 : VRs ρ2 fi.toList fi'.toList := ⟨by simpa using q1, fun i x y hx hy => q3 i x y (by simpa using hx) (by simpa using hy)⟩
          have hv2 : VRs ρ2 ca.toList ca'.toList := ⟨by simpa using q2, fun i x y hx hy => q4 i x y (by simpa using hx) (by simpa using hy)⟩
          simp only [Option.bind_eq_some_iff] at hlv
          obtain ⟨fg, hfg, cg, hcg, hlv⟩ := hlv
          split at hlv
          · rename_i hnr
            have hae : (a.put m.dst u).eval (.tmp t) = .func (.func g) fi' ca' := hag
            have hres : (execOp (a.put m.dst u).eval d).run P w2 = .ok (.defer { target := .fn (.func g) ca', args := fi' }) w2 := by
              have hargs' : args = #[] := by simpa using hargs
              simp [execOp, hop, resolve, hae, Deferred.ofValue, hargs']
            refine ⟨fun fq hq => trivial, ?_⟩
            rw [show Oper.semAt Fence.wide.round (a.put m.dst u).eval d = execOp (a.put m.dst u).eval d from rfl, hres]
            simp only [Oper.uponIn, wpListIn, hdd, hd2]
            have hk3 : Keeps h3 h' := leaveA_keeps hEk (show leaveA T E fn (.func (.func g) fi ca) e3 h3 = some (v, h') by unfold leaveA; simp only [hfg, Option.bind_some, hcg, hnr, if_true]; exact hlv)
            refine hE w2.heap.size [{ target := .fn (.func g) ca', args := fi' }] rest _ _ _ _ _ ρ2 _ w2 _ hr2 (hok.2.mono f2.grow) (fun _ => hrest) (hG.mono f2.grow) s2 ((hf.right f2).left hk3.size) he2 Marks.nil trivial (Nat.le_refl _) fun ρ3 a3 w3 f3 s3 r3 d3 => ?_
            obtain ⟨rs, m1, _, m2, _⟩ := d3
            rw [m2 rfl] at m1
            have m1' : a3.defers = [{ target := .fn (.func g) ca', args := fi' }] := by simpa using m1
            have hl : LeavesInM Fence.wide 0 P fn a3.tmps (fun ed w' => ∃ ρ' u, ed = .returned u ∧ Fr ρ ρ' h h' w w' ∧ Sim ρ' h' w' ∧ VR ρ' v u) a3.defers .returning w3 := by
              rw [m1']
              obtain ⟨hPg, hname, _⟩ := hT.fn g fg hfg
              have hname' : ¬ fg.name = "runtime.NumGoroutine" := by simpa using hname
              refine ⟨by simp, .inr ⟨(fun hh => by cases hh), _, _, g, fi' ++ ca', rfl, ?_, fun _ _ => trivial, ?_⟩⟩
              · show (callFunc g (fi' ++ ca')).run P w3 = _
                simp [callFunc, hPg, hname', hcg]
              · have hvs : VRs ρ3 (fi.toList ++ ca.toList) (fi' ++ ca').toList := by
                  have := (hv1.append hv2).mono f3.grow
                  simpa using this
                have heg := EnvR.enter hvs fg.ntmps
                have hrung : ∃ y e4 h4 vg, (y = Ex.ret ∨ y = .normal) ∧ E cg ((fi.toList ++ ca.toList) ++ List.replicate (fg.ntmps - (fi.toList ++ ca.toList).length) undef) h3 = some (y, e4, h4) ∧ resultsA T fg e4 h4 = some vg ∧ resultsA T fn e3 h4 = some v ∧ h4 = h' := by
                  split at hlv
                  · rename_i e4 h4 hr4
                    simp only [Option.bind_eq_some_iff, Option.map_eq_some_iff, Prod.mk.injEq] at hlv
                    obtain ⟨vg, hvg, v', hv', rfl, rfl⟩ := hlv
                    exact ⟨_, e4, h4, vg, .inl rfl, hr4, hvg, hv', rfl⟩
                  · rename_i e4 h4 hr4
                    simp only [Option.bind_eq_some_iff, Option.map_eq_some_iff, Prod.mk.injEq] at hlv
                    obtain ⟨vg, hvg, v', hv', rfl, rfl⟩ := hlv
                    exact ⟨_, e4, h4, vg, .inr rfl, hr4, hvg, hv', rfl⟩
                  · cases hlv
                obtain ⟨y, e4, h4, vg, hy, hr4, hvg, hvf, rfl⟩ := hrung
                refine (callsDIn_of_wp (R := fun ed w' => ∃ u, ed = .returned u ∧ ∃ vr, (results fn a3.tmps).run P w' = .ok vr w' ∧ ∃ ρ' u', Ending.returned vr = .returned u' ∧ Fr ρ ρ' h h4 w w' ∧ Sim ρ' h4 w' ∧ VR ρ' v u') hPg hcg trivial ?_).mono ?_
                · refine hE w3.heap.size [] cg _ _ _ _ _ ρ3 _ w3 _ hr4 (.of (hG.mono (f2.trans f3).grow) (hgs g fg cg hfg hcg)) (fun _ => hnr) (hG.mono (f2.trans f3).grow) s3 ((hf.right f2).right f3) heg Marks.nil trivial (Nat.le_refl _) fun ρ4 a4 w4 f4 s4 r4 d4 => ?_
                  obtain ⟨rs4, n1, _, n2, _⟩ := d4
                  rw [n2 rfl] at n1
                  have n1' : a4.defers = [] := by simpa using n1
                  obtain ⟨ug, hug, _⟩ := resultsA_sound hT s4 r4 hvg
                  obtain ⟨uf, huf, hvuf⟩ := resultsA_sound hT s4 (r3.mono f4.grow) hvf
                  have hbp : a4.defers = [] ∧ ∃ vv, (results fg a4.tmps).run P w4 = .ok vv w4 ∧ ∃ u, Ending.returned vv = .returned u ∧ ∃ vr, (results fn a3.tmps).run P w4 = .ok vr w4 ∧ ∃ ρ' u', Ending.returned vr = .returned u' ∧ Fr ρ ρ' h h4 w w4 ∧ Sim ρ' h4 w4 ∧ VR ρ' v u' :=
                    ⟨n1', ug, hug, ug, rfl, uf, huf, ρ4, uf, rfl, ((hfr.trans f2).trans f3).trans f4, s4, hvuf⟩
                  rcases hy with rfl | rfl
                  · exact hbp
                  · exact hbp
                · rintro ed u' w' ⟨rfl, uu, rfl, vr, hvr, hR⟩
                  exact ⟨vr, hvr, hR⟩
            rcases hx with rfl | rfl
            · exact hl
            · exact hl
          · cases hlv
      · cases hlv
  unfold deferA at hev
  simp only [Option.bind_eq_some_iff, Prod.exists] at hev
  obtain ⟨pre, m, t, rest, hsp, hev⟩ := hev
  split at hev
  · rename_i hnr
    simp only [Bool.and_eq_true] at hnr
    exact key pre m t rest c (splitD_spec _ _ _ _ _ hsp) e h ρ w _ hnr.1 hnr.2 hok hG hs hf he rfl (Fr.refl _ _ _) hev
  · cases hev

theorem call_sound (hmix : P.follows .mixedOrders = true) (hT : T.Fits P) (hov : OvS P T.gs ov) : ∀ n, CS P T.gs (call P T ov n)
  | 0 => by
    refine ⟨?_, ?_⟩
    · intro f args h v h' hev; simp [call] at hev
    · intro f args h v h' hev; simp [call] at hev
  | n + 1 => by
    have ihs := call_sound hmix hT hov n
    have ihk := call_keeps (T := T) hov n
    have hcode := fun (rd rl : Option Nat) (n0 : Nat) => evalCode_sound hT ihs ihk (evalDraw_sound hmix hT ihs ihk) (evalDraw_keeps ihk) rd rl n0 [] false n
    have hkeep := fun (rd : Option Nat) => evalCode_keeps (P := P) (T := T) ihk (evalDraw_keeps (P := P) (T := T) ihk) rd n
    refine ⟨?_, ?_⟩
    · intro f args h v h' hev ρ w cargs hG hs hf hv
      simp only [call] at hev
      split at hev
      · rename_i g hg
        exact (hov f g hg args h v h' hev).2 ρ w cargs hG hs hf hv
      · simp only [Option.bind_eq_some_iff] at hev
        obtain ⟨fn, hfn, c, hc, hev⟩ := hev
        obtain ⟨hP, hname, hok⟩ := hT.fn f fn hfn
        right
        refine ⟨?_, ?_⟩
        · have hname' : ¬ fn.name = "runtime.NumGoroutine" := by simpa using hname
          simp [callFunc, hP, hname', hc]
        · refine callsIn_wide.1 (callsIn_of_wp_marks (n := 0) hP hc trivial ?_)
          have he := EnvR.enter hv fn.ntmps
          have go : ∀ (x : Ex) (e : Env) (h2 : Heap), x = .ret ∨ x = .normal → evalCode P T (call P T ov n) (evalDraw P T (call P T ov n)) none n c (args ++ List.replicate (fn.ntmps - args.length) undef) h = some (x, e, h2) →
              (resultsA T fn e h2).map (fun v => (v, h2)) = some (v, h') → c.wpIn Fence.wide 0 P (bodyPostM Fence.wide 0 P fn fun ed w' => ∃ ρ' u, ed = .returned u ∧ Fr ρ ρ' h h' w w' ∧ Sim ρ' h' w' ∧ VR ρ' v u) { tmps := cargs ++ Array.replicate (fn.ntmps - cargs.size) undef, defers := [] } w := by
            intro x e h2 hx hr hres
            simp only [Option.map_eq_some_iff, Prod.mk.injEq] at hres
            obtain ⟨v', hres, rfl, rfl⟩ := hres
            refine hcode none none w.heap.size c _ _ _ _ _ ρ _ w _ hr (.of hG (hok c hc)) (fun q => by cases q) hG hs hf he Marks.nil trivial (Nat.le_refl _) fun ρ' a' w' f1 s1 e1 d1 => ?_
            obtain ⟨rs, m1, m2, _, m3⟩ := d1
            rw [List.append_nil] at m1
            have hl : LeavesInM Fence.wide 0 P fn a'.tmps (fun ed w' => ∃ ρ' u, ed = .returned u ∧ Fr ρ ρ' h h2 w w' ∧ Sim ρ' h2 w' ∧ VR ρ' v' u) a'.defers .returning w' := by
              rw [m1]
              refine leaves_marks rs w' m2 m3 s1 fun w2 s2 q1 q2 q3 q4 q5 => ?_
              obtain ⟨u, hu, hvu⟩ := resultsA_sound hT s2 e1 hres
              refine ⟨u, hu, ρ', u, rfl, ⟨f1.grow, f1.fresh, q1.trans f1.os, q2.trans f1.tape, q3.trans f1.output, by rw [q4]; exact f1.size, f1.hsize, f1.low, fun b hb hall => ?_, f1.akeep⟩, s2, hvu⟩
              exact (q5 b (.inl hb)).trans (f1.keep b hb hall)
            rcases hx with rfl | rfl
            · exact hl
            · exact hl
          split at hev
          · exact deferA_sound hT ihs ihk (fun n0 B c e h x e' h' ρ a w Q => evalCode_sound hT ihs ihk (evalDraw_sound hmix hT ihs ihk) (evalDraw_keeps ihk) none none n0 B true n c e h x e' h' ρ a w Q) (fun c e h x e' h' hr => hkeep none c e h x e' h' hr) (fun g fg cg h1 h2 => (hT.fn g fg h1).2.2 cg h2) (.of hG (hok c hc)) hG hs hf he hev
          split at hev
          · rename_i e h2 hr; exact go .ret e h2 (.inl rfl) hr hev
          · rename_i e h2 hr; exact go .normal e h2 (.inr rfl) hr hev
          · cases hev
    · intro A args h v h' hev ρ w cargs L hA hG hs hf hv
      simp only [call] at hev
      unfold roundA at hev
      split at hev
      · rename_i env ps assign body st pend hg
        split at hev
        · rename_i hlen
          split at hev
          · rename_i e1 h1 hr1
            split at hev
            · rename_i env1 ps1 assign1 body1 pend1 hg1
              obtain ⟨lo, l1, l2, l3, l4, l5, l6, l7, l8, l9, _⟩ := loop_sound hs hA hg
              have hcl : args.length = cargs.size := by simpa using hv.1
              have hps : lo.params.size = ps.length := by rw [← l4]; simp
              refine ⟨lo.fn, (lo.params.zip cargs).foldl (fun tmps (t, a) => tmps.setIfInBounds t a) lo.tmps, lo.assign, lo.body, ?_, ?_⟩
              · simp only [Instr.yield, Sem.run_bind, run_getLoop l1, Result.andThen_ok]
                rw [if_neg (by omega)]
                simp
              · have key : ∀ (x : Ex) (e2 : Env) (h2 : Heap) (jump : Option Code), evalCode P T (call P T ov n) (evalDraw P T (call P T ov n)) (some A) n body e1 (h1.set A (.loop env1 ps1 assign1 body1 .busy pend1)) = some (x, e2, h2) →
                    (jump = match x with | .normal => none | .ret => some .ret | .exit id => some (.exit id)) → endRoundA A jump h2 = some (v, h') → RoundIn Fence.wide 0 P L.b lo.fn ((lo.params.zip cargs).foldl (fun tmps (t, a) => tmps.setIfInBounds t a) lo.tmps) lo.assign lo.body w fun ed w' => ∃ ρ' u, ed = .returned u ∧ Fr ρ ρ' h h' w w' ∧ Sim ρ' h' w' ∧ VR ρ' v u := by
                  intro x e2 h2 jump hr2 hjump hend
                  have k1 := hkeep (some A) _ _ _ _ _ _ hr1
                  have k2 := hkeep (some A) _ _ _ _ _ _ hr2
                  have k3 := endRoundA_keeps hend
                  have s1 := k2.size
                  have s2 := k3.size
                  rw [Heap.size_set] at s1
                  refine roundIn_of_wpIn (F := Fence.wide) trivial ?_
                  have he0 : EnvR ρ (setAll env ps args) ((lo.params.zip cargs).foldl (fun tmps (t, a) => tmps.setIfInBounds t a) lo.tmps) := by
                    have := EnvR.setAll ps args cargs.toList env lo.tmps l7 hv
                    rw [← Array.foldl_toList, Array.toList_zip, l4]
                    exact this
                  rw [l5]
                  refine hcode (some A) (some L.b) w.heap.size assign _ _ _ _ _ ρ _ w _ hr1 l8 (fun q => by cases q) hG hs (hf.left (by omega)) he0 Marks.nil ⟨L, hA, rfl⟩ (Nat.le_refl _) fun ρ1 a1 w1 f1 sm1 en1 d1 => ?_
                  have hA1 := f1.grow A L hA
                  obtain ⟨lo1, p1, p2, p3, p4, p5, p6, p7, p8, p9, p10⟩ := loop_sound sm1 hA1 hg1
                  obtain ⟨f2, sm2⟩ := p10 .busy pend1
                  have hlo1 : ({ lo1 with state := LoopState.busy, pending := pend1 } : Loop) = { lo1 with state := LoopState.busy } := by subst p3; rfl
                  rw [hlo1] at f2 sm2
                  refine ⟨_, run_beginRound p1 p2, ?_⟩
                  rw [l6]
                  refine hcode (some A) (some L.b) w.heap.size body _ _ _ _ _ ρ1 a1 _ _ hr2 (l9.mono f1.grow) (fun q => by cases q) (hG.mono f1.grow) sm2 ?_ en1 (d1.step f2) ⟨L, hA1, rfl⟩ (Nat.le_trans f1.size f2.size) fun ρ3 a3 w3 f3 sm3 en3 d3 => ?_
                  · have hfr : Free ρ1 h1 h2 := ((hf.left (by omega)).right f1)
                    exact hfr
                  · have hA3 := f3.grow A L hA1
                    unfold endRoundA at hend
                    split at hend
                    · rename_i env3 ps3 assign3 body3 st3 pend3 hg3
                      cases hend
                      obtain ⟨lo3, z1, z2, z3, z4, z5, z6, z7, z8, z9, z10⟩ := loop_sound sm3 hA3 hg3
                      obtain ⟨f4, sm4⟩ := z10 (if jump.isNone then .ready else .done) jump
                      have hfin : ∃ ρ' u, Ending.returned (.bool jump.isNone) = .returned u ∧ Fr ρ ρ' h (h2.set A (.loop env3 ps3 assign3 body3 (if jump.isNone then .ready else .done) jump)) w (w3.putObj L.b (.loop { lo3 with state := if jump.isNone then .ready else .done, pending := jump })) ∧
                          Sim ρ' (h2.set A (.loop env3 ps3 assign3 body3 (if jump.isNone then .ready else .done) jump)) (w3.putObj L.b (.loop { lo3 with state := if jump.isNone then .ready else .done, pending := jump })) ∧ VR ρ' (.bool jump.isNone) u :=
                        ⟨ρ3, _, rfl, ((f1.trans f2).trans f3).trans f4, sm4, .bool _⟩
                      have hrun := run_endRound (P := P) jump z1
                      cases x with
                      | normal => subst hjump; exact ⟨_, _, hrun, hfin⟩
                      | ret => subst hjump; exact ⟨_, _, hrun, hfin⟩
                      | exit id => subst hjump; exact ⟨_, _, hrun, hfin⟩
                    · cases hend
                split at hev
                · rename_i e2 h2 hr2; exact key _ _ _ _ hr2 rfl hev
                · rename_i e2 h2 hr2; exact key _ _ _ _ hr2 rfl hev
                · rename_i e2 h2 hr2; exact key _ _ _ _ hr2 rfl hev
                · cases hev
            · cases hev
          · cases hev
        · cases hev
      · cases hev

/-- Only reading is left of what came in: nothing that was there has turned. -/
theorem Fr.below {ρ ρ' : Rho} {h h' : Heap} {w w' : World} (f : Fr ρ ρ' h h' w w') (hlow : ∀ A L, ρ A = some L → A < h'.low) : Below w.heap.size w w' :=
  ⟨f.os, f.tape, f.output, f.size, fun k hk => f.keep k hk fun A L hA _ => .inl (hlow A L hA)⟩

/-- A call with no argument, in a world where the package's variables are known. -/
theorem calls_at (hmix : P.follows .mixedOrders = true) (hT : T.Fits P) (hov : OvS P T.gs ov) {n : Nat} {f : FuncId} {b : Bool} {h h' : Heap} (hf : ov f = none) (hrun : call P T ov n (.func f) [] h = some (.bool b, h')) (w : World) (ρ : Rho)
    (hG : GlobOk T.gs ρ) (hs : Sim ρ h w) (hfree : ∀ A, h.size ≤ A → ρ A = none) (hlow : ∀ A L, ρ A = some L → A < h'.low) :
    Calls P f #[] w fun e w' => e = .returned (.bool b) ∧ Below w.heap.size w w' := by
  have hcs := (call_sound hmix hT hov n).fn f [] h (.bool b) h' hrun ρ w #[] hG hs (fun A h1 _ => hfree A h1) (.nil _)
  rcases hcs with ⟨ρ', u, w', h1, _⟩ | ⟨_, h1⟩
  · exfalso
    cases n with
    | zero => simp [call] at hrun
    | succ n =>
      simp only [call, hf, Option.bind_eq_some_iff] at hrun
      obtain ⟨fn, hfn, c, hc, _⟩ := hrun
      obtain ⟨hP, hname, _⟩ := hT.fn f fn hfn
      have hname' : ¬ fn.name = "runtime.NumGoroutine" := by simpa using hname
      simp [callFunc, hP, hname', hc] at h1
  · refine h1.mono ?_
    rintro e w' ⟨ρ', u, rfl, f1, s1, hv⟩
    refine ⟨?_, f1.below hlow⟩
    rw [hv.eq_plain rfl]
theorem calls_closed (hmix : P.follows .mixedOrders = true) (hT : T.Fits P) (hgs : T.gs = []) (hov : OvS P T.gs ov) {n : Nat} {f : FuncId} {b : Bool} {h' : Heap} (hf : ov f = none) (hrun : call P T ov n (.func f) [] .empty = some (.bool b, h')) (w : World) :
    Calls P f #[] w fun e w' => e = .returned (.bool b) ∧ Below w.heap.size w w' :=
  calls_at hmix hT hov hf hrun w (fun _ => none) (by rw [hgs]; intro g hg; cases hg) ⟨fun A L hA => (by cases hA), fun A A' L L' hA => (by cases hA)⟩ (fun _ _ => rfl) (fun A L hA => by cases hA)
end
#print axioms calls_closed
end Go.Am

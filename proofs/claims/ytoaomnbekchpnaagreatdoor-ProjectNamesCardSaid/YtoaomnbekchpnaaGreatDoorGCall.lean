/- Calls: the plain machine beside the model; what a run of the plain machine says of the model. No condition. -/
import Derived.Test.YtoaomnbekchpnaaGreatDoorGDraw3
namespace Go.Am
open Go.RowKit

abbrev Ov := FuncId → Option (List Value → Heap → Option (Value × Heap))

/-- Yield's arguments go into the loop's places. -/
def setAll : Env → List Tmp → List Value → Env
  | e, t :: ts, v :: vs => setAll (e.set t v) ts vs
  | e, _, _ => e
/-- The record of a round is turned. -/
def endRoundA (A : Nat) (jump : Option Code) (h : Heap) : Option (Value × Heap) :=
  match h.get A with
  | some (.loop env ps assign body _ _) => some (.bool jump.isNone, h.set A (.loop env ps assign body (if jump.isNone then .ready else .done) jump))
  | _ => none
/-- A round, the code's evaluator handed in. -/
def roundA (E : Code → Env → Heap → Option (Ex × Env × Heap)) (A : Nat) (args : List Value) (h : Heap) : Option (Value × Heap) :=
  match h.get A with
  | some (.loop env ps assign body _ _) =>
    if args.length = ps.length then
      match E assign (setAll env ps args) h with
      | some (.normal, e1, h1) => match h1.get A with
        | some (.loop env1 ps1 assign1 body1 .ready pend1) =>
          (match E body e1 (h1.set A (.loop env1 ps1 assign1 body1 .busy pend1)) with
          | some (.normal, _, h2) => endRoundA A none h2
          | some (.ret, _, h2) => endRoundA A (some .ret) h2
          | some (.exit id, _, h2) => endRoundA A (some (.exit id)) h2
          | none => none)
        | _ => none
      | _ => none
    else none
  | _ => none

def call (P : Program) (T : Tab) (ov : Ov) : Nat → Fn → List Value → Heap → Option (Value × Heap)
  | 0, _, _, _ => none
  | n + 1, .func f, args, h =>
    match ov f with
    | some g => g args h
    | none =>
      (T.fn f).bind fun fn => fn.body.bind fun c =>
      match evalCode P T (call P T ov n) (evalDraw P T (call P T ov n)) none n c (args ++ List.replicate (fn.ntmps - args.length) undef) h with
      | some (.ret, e, h') => (resultsA T fn e h').map fun v => (v, h')
      | some (.normal, e, h') => (resultsA T fn e h').map fun v => (v, h')
      | _ => none
  | n + 1, .yield A, args, h => roundA (evalCode P T (call P T ov n) (evalDraw P T (call P T ov n)) (some A) n) A args h
  | _, _, _, _ => none

/-- What stands in the place of a function's text is right. -/
def OvS (P : Program) (gs : List Nat) (ov : Ov) : Prop :=
  ∀ f g, ov f = some g → ∀ args h v h', g args h = some (v, h') → Keeps h h' ∧ ∀ ρ w (cargs : Array Value), GlobOk gs ρ → Sim ρ h w → Free ρ h h' → VRs ρ args cargs.toList → CallR P ρ h h' w v f cargs

section
variable {P : Program} {T : Tab} {ov : Ov}

theorem evalOpsK_keeps {C : Fn → List Value → Heap → Option (Value × Heap)} (hg : Grows C) {ops : Array Oper} (l : List Oper) (e e' : Env) (h h' : Heap) (ks : List Nat) (hev : evalOpsK P T C ops l e h = some (ks, e', h')) : Keeps h h' := by
  induction l generalizing e h ks with
  | nil => simp only [evalOpsK, Option.some.injEq, Prod.mk.injEq] at hev; obtain ⟨_, _, rfl⟩ := hev; exact .refl _
  | cons o l ih =>
    simp only [evalOpsK] at hev
    split at hev
    · split at hev
      · rename_i v h2 hr
        simp only [Option.map_eq_some_iff, Prod.exists, Prod.mk.injEq] at hev
        obtain ⟨ks', x1, x2, hr', _, rfl, rfl⟩ := hev
        have hk := evalOp_keeps hg hr
        refine Keeps.trans ?_ (ih _ _ _ hr')
        exact ⟨hk.size, Nat.min_le_left _ _, fun A h3 h4 => hk.get A h3 (Nat.lt_of_lt_of_le h4 (Nat.min_le_right _ _))⟩
      · cases hev
    · simp only [Option.map_eq_some_iff, Prod.exists, Prod.mk.injEq] at hev
      obtain ⟨ks', x1, x2, hr', _, rfl, rfl⟩ := hev
      exact ih _ _ _ hr'

theorem evalDraw_keeps {C : Fn → List Value → Heap → Option (Value × Heap)} (hg : Grows C) : DGrows (evalDraw P T C) := by
  intro ops e h e' h' hev
  unfold evalDraw at hev
  split at hev
  · rename_i hr
    split at hev
    · cases hev; exact evalOpsK_keeps hg _ _ _ _ _ _ hr
    · cases hev
  · cases hev

theorem endRoundA_keeps {A : Nat} {jump : Option Code} {h h' : Heap} {v : Value} (hev : endRoundA A jump h = some (v, h')) : Keeps h h' := by
  unfold endRoundA at hev
  split at hev
  · rename_i hg; cases hev; exact .set _ (Heap.lt_of_get hg)
  · cases hev
theorem roundA_keeps {E : Code → Env → Heap → Option (Ex × Env × Heap)} (hE : ∀ c e h x e' h', E c e h = some (x, e', h') → Keeps h h') {A : Nat} {args : List Value} {h h' : Heap} {v : Value} (hev : roundA E A args h = some (v, h')) : Keeps h h' := by
  unfold roundA at hev
  split at hev
  · split at hev
    · split at hev
      · rename_i h1 hr1
        split at hev
        · rename_i hg1
          have hk : ∀ b, Keeps h (h1.set A b) := fun b => (hE _ _ _ _ _ _ hr1).trans (Keeps.set b (Heap.lt_of_get hg1))
          split at hev
          · rename_i hr2; exact ((hk _).trans (hE _ _ _ _ _ _ hr2)).trans (endRoundA_keeps hev)
          · rename_i hr2; exact ((hk _).trans (hE _ _ _ _ _ _ hr2)).trans (endRoundA_keeps hev)
          · rename_i hr2; exact ((hk _).trans (hE _ _ _ _ _ _ hr2)).trans (endRoundA_keeps hev)
          · cases hev
        · cases hev
      · cases hev
    · cases hev
  · cases hev

theorem call_keeps {gs : List Nat} (hov : OvS P gs ov) : ∀ n, Grows (call P T ov n)
  | 0 => by intro f args h v h' hev; simp [call] at hev
  | n + 1 => by
    intro f args h v h' hev
    have ih := call_keeps hov n
    cases f with
    | func f =>
      simp only [call] at hev
      split at hev
      · rename_i g hg
        exact (hov f g hg args h v h' hev).1
      · simp only [Option.bind_eq_some_iff] at hev
        obtain ⟨fn, _, c, _, hev⟩ := hev
        split at hev
        · rename_i hr
          simp only [Option.map_eq_some_iff, Prod.mk.injEq] at hev
          obtain ⟨_, _, _, rfl⟩ := hev
          exact evalCode_keeps ih (evalDraw_keeps ih) _ _ _ _ _ _ _ _ hr
        · rename_i hr
          simp only [Option.map_eq_some_iff, Prod.mk.injEq] at hev
          obtain ⟨_, _, _, rfl⟩ := hev
          exact evalCode_keeps ih (evalDraw_keeps ih) _ _ _ _ _ _ _ _ hr
        · cases hev
    | yield A =>
      simp only [call] at hev
      exact roundA_keeps (fun c e h x e' h' hr => evalCode_keeps ih (evalDraw_keeps ih) _ _ _ _ _ _ _ _ hr) hev
    | _ => simp [call] at hev

theorem EnvR.enter {ρ : Rho} {args : List Value} {cargs : Array Value} (hv : VRs ρ args cargs.toList) (n : Nat) : EnvR ρ (args ++ List.replicate (n - args.length) undef) (cargs ++ Array.replicate (n - cargs.size) undef) := by
  have hl : args.length = cargs.size := by simpa using hv.1
  refine ⟨by simp [hl], fun i => ?_⟩
  rw [Env.get_eq]
  rcases Nat.lt_or_ge i args.length with h1 | h1
  · rw [List.getElem?_append_left h1]
    have hx : args[i]? = some args[i] := List.getElem?_eq_getElem h1
    obtain ⟨y, hy, hxy⟩ := hv.get hx
    have h2 : i < cargs.size := by omega
    have e1 : (cargs ++ Array.replicate (n - cargs.size) undef).getD i undef = y := by
      have h3 : cargs[i]? = some y := by simpa using hy
      simp [Array.getElem?_append_left h2, h3]
    rw [e1, hx]
    exact hxy
  · rw [List.getElem?_append_right h1]
    have e1 : (cargs ++ Array.replicate (n - cargs.size) undef).getD i undef = undef := by
      have h3 : cargs.size ≤ i := by omega
      simp only [Array.getD_eq_getD_getElem?, Array.getElem?_append_right h3]
      by_cases h4 : i - cargs.size < n - cargs.size
      · simp [h4]
      · simp [h4]
    rw [e1]
    by_cases h4 : i - args.length < n - args.length
    · simp [h4]; exact .undef ρ
    · simp [h4]; exact .undef ρ

theorem EnvR.set {ρ : Rho} {e : Env} {tmps : Array Value} (he : EnvR ρ e tmps) {v u : Value} (hv : VR ρ v u) (d : Nat) : EnvR ρ (Env.set e d v) (tmps.setIfInBounds d u) := by
  have := EnvR.put (a := { tmps := tmps, defers := [] }) he hv (some d)
  exact this

theorem EnvR.setAll {ρ : Rho} : ∀ (ps : List Tmp) (args : List Value) (cargs : List Value) (e : Env) (tmps : Array Value), EnvR ρ e tmps → VRs ρ args cargs → EnvR ρ (Am.setAll e ps args) ((ps.zip cargs).foldl (fun tmps (t, a) => tmps.setIfInBounds t a) tmps)
  | [], args, cargs, e, tmps, he, _ => by cases args <;> exact he
  | t :: ps, [], cargs, e, tmps, he, hv => by rw [hv.of_nil]; exact he
  | t :: ps, v :: args, cargs, e, tmps, he, hv => by
    obtain ⟨u, m, rfl, h1, h2⟩ := hv.of_cons
    exact EnvR.setAll ps args m _ _ (he.set h1 t) h2

/-- What is left when a frame leaves with marks. -/
theorem leaves_marks {ρ : Rho} {h : Heap} {fn : Func} {tmps : Array Value} {R : Ending → World → Prop} {n0 : Nat} : ∀ (rs : List Nat) (w : World), rs.Nodup → (∀ r ∈ rs, n0 ≤ r ∧ w.heap[r]? = some (.deferred (some [])) ∧ ∀ A L, ρ A = some L → L.b ≠ r) → Sim ρ h w →
    (∀ w', Sim ρ h w' → w'.os = w.os → w'.tape = w.tape → w'.output = w.output → w'.heap.size = w.heap.size → (∀ b, (b < n0 ∨ ∃ A L, ρ A = some L ∧ L.b = b) → w'.heap[b]? = w.heap[b]?) → ∃ v, (results fn tmps).run P w' = .ok v w' ∧ R (.returned v) w') →
    LeavesInM Fence.wide 0 P fn tmps R (rs.map fun r => { target := .collected r, args := #[] }) .returning w
  | [], w, _, _, hs, hR => hR w hs rfl rfl rfl rfl (fun _ _ => rfl)
  | r :: rs, w, hnd, hall, hs, hR => by
    obtain ⟨a1, a2, a3⟩ := hall r (by simp)
    have hlt : r < w.heap.size := (Array.getElem?_eq_some_iff.1 a2).1
    refine ⟨by simp, .inl ⟨r, _, rfl, run_takeDeferred a2, ?_⟩⟩
    obtain ⟨hn1, hn2⟩ := List.nodup_cons.1 hnd
    have hsz : (w.putObj r (.deferred none)).heap.size = w.heap.size := by rw [putObj_heap]; simp
    refine leaves_marks (n0 := n0) rs _ hn2 (fun q hq => ?_) ⟨fun A L hA => (hs.blk A L hA).keep (fun _ _ h => h) (by rw [hsz]; exact Nat.le_refl _) (fun _ => putObj_other (a3 A L hA)), hs.inj⟩ fun w' hs' h1 h2 h3 h4 h5 => ?_
    · obtain ⟨b1, b2, b3⟩ := hall q (by simp [hq])
      exact ⟨b1, (putObj_other (fun (e : q = r) => hn1 (e ▸ hq))).trans b2, b3⟩
    · refine hR w' hs' h1 h2 h3 (h4.trans hsz) fun b hb => (h5 b hb).trans (putObj_other fun e => ?_)
      subst e
      rcases hb with hb | ⟨A, L, hA, hb⟩
      · omega
      · exact a3 A L hA hb

theorem call_sound (hmix : P.follows .mixedOrders = true) (hT : T.Fits P) (hov : OvS P T.gs ov) : ∀ n, CS P T.gs (call P T ov n)
  | 0 => by
    refine ⟨?_, ?_⟩
    · intro f args h v h' hev; simp [call] at hev
    · intro f args h v h' hev; simp [call] at hev
  | n + 1 => by
    have ihs := call_sound hmix hT hov n
    have ihk := call_keeps (T := T) hov n
    have hcode := fun (rd rl : Option Nat) (n0 : Nat) => evalCode_sound hT ihs ihk (evalDraw_sound hmix hT ihs ihk) (evalDraw_keeps ihk) rd rl n0 n
    have hkeep := fun (rd : Option Nat) => evalCode_keeps (P := P) (T := T) ihk (evalDraw_keeps (P := P) (T := T) ihk) rd n
    refine ⟨?_, ?_⟩
    · intro f args h v h' hev ρ w cargs hG hs hf hv
      simp only [call] at hev
      split at hev
      · rename_i g hg
        exact (hov f g hg args h v h' hev).2 ρ w cargs hG hs hf hv
      · simp only [Option.bind_eq_some_iff] at hev
        obtain ⟨fn, hfn, c, hc, hev⟩ := hev
        obtain ⟨hP, hname, hok⟩ := hT.fn f fn hfn
        right
        refine ⟨?_, ?_⟩
        · have hname' : ¬ fn.name = "runtime.NumGoroutine" := by simpa using hname
          simp [callFunc, hP, hname', hc]
        · refine callsIn_wide.1 (callsIn_of_wp_marks (n := 0) hP hc trivial ?_)
          have he := EnvR.enter hv fn.ntmps
          have go : ∀ (x : Ex) (e : Env) (h2 : Heap), x = .ret ∨ x = .normal → evalCode P T (call P T ov n) (evalDraw P T (call P T ov n)) none n c (args ++ List.replicate (fn.ntmps - args.length) undef) h = some (x, e, h2) →
              (resultsA T fn e h2).map (fun v => (v, h2)) = some (v, h') → c.wpIn Fence.wide 0 P (bodyPostM Fence.wide 0 P fn fun ed w' => ∃ ρ' u, ed = .returned u ∧ Fr ρ ρ' h h' w w' ∧ Sim ρ' h' w' ∧ VR ρ' v u) { tmps := cargs ++ Array.replicate (fn.ntmps - cargs.size) undef, defers := [] } w := by
            intro x e h2 hx hr hres
            simp only [Option.map_eq_some_iff, Prod.mk.injEq] at hres
            obtain ⟨v', hres, rfl, rfl⟩ := hres
            refine hcode none none w.heap.size c _ _ _ _ _ ρ _ w _ hr (.of hG (hok c hc)) hG hs hf he Marks.nil trivial (Nat.le_refl _) fun ρ' a' w' f1 s1 e1 d1 => ?_
            obtain ⟨rs, m1, m2, m3⟩ := d1
            have hl : LeavesInM Fence.wide 0 P fn a'.tmps (fun ed w' => ∃ ρ' u, ed = .returned u ∧ Fr ρ ρ' h h2 w w' ∧ Sim ρ' h2 w' ∧ VR ρ' v' u) a'.defers .returning w' := by
              rw [m1]
              refine leaves_marks rs w' m2 m3 s1 fun w2 s2 q1 q2 q3 q4 q5 => ?_
              obtain ⟨u, hu, hvu⟩ := resultsA_sound hT s2 e1 hres
              refine ⟨u, hu, ρ', u, rfl, ⟨f1.grow, f1.fresh, q1.trans f1.os, q2.trans f1.tape, q3.trans f1.output, by rw [q4]; exact f1.size, f1.hsize, f1.low, fun b hb hall => ?_, f1.akeep⟩, s2, hvu⟩
              exact (q5 b (.inl hb)).trans (f1.keep b hb hall)
            rcases hx with rfl | rfl
            · exact hl
            · exact hl
          split at hev
          · rename_i e h2 hr; exact go .ret e h2 (.inl rfl) hr hev
          · rename_i e h2 hr; exact go .normal e h2 (.inr rfl) hr hev
          · cases hev
    · intro A args h v h' hev ρ w cargs L hA hG hs hf hv
      simp only [call] at hev
      unfold roundA at hev
      split at hev
      · rename_i env ps assign body st pend hg
        split at hev
        · rename_i hlen
          split at hev
          · rename_i e1 h1 hr1
            split at hev
            · rename_i env1 ps1 assign1 body1 pend1 hg1
              obtain ⟨lo, l1, l2, l3, l4, l5, l6, l7, l8, l9, _⟩ := loop_sound hs hA hg
              have hcl : args.length = cargs.size := by simpa using hv.1
              have hps : lo.params.size = ps.length := by rw [← l4]; simp
              refine ⟨lo.fn, (lo.params.zip cargs).foldl (fun tmps (t, a) => tmps.setIfInBounds t a) lo.tmps, lo.assign, lo.body, ?_, ?_⟩
              · simp only [Instr.yield, Sem.run_bind, run_getLoop l1, Result.andThen_ok]
                rw [if_neg (by omega)]
                simp
              · have key : ∀ (x : Ex) (e2 : Env) (h2 : Heap) (jump : Option Code), evalCode P T (call P T ov n) (evalDraw P T (call P T ov n)) (some A) n body e1 (h1.set A (.loop env1 ps1 assign1 body1 .busy pend1)) = some (x, e2, h2) →
                    (jump = match x with | .normal => none | .ret => some .ret | .exit id => some (.exit id)) → endRoundA A jump h2 = some (v, h') → RoundIn Fence.wide 0 P L.b lo.fn ((lo.params.zip cargs).foldl (fun tmps (t, a) => tmps.setIfInBounds t a) lo.tmps) lo.assign lo.body w fun ed w' => ∃ ρ' u, ed = .returned u ∧ Fr ρ ρ' h h' w w' ∧ Sim ρ' h' w' ∧ VR ρ' v u := by
                  intro x e2 h2 jump hr2 hjump hend
                  have k1 := hkeep (some A) _ _ _ _ _ _ hr1
                  have k2 := hkeep (some A) _ _ _ _ _ _ hr2
                  have k3 := endRoundA_keeps hend
                  have s1 := k2.size
                  have s2 := k3.size
                  rw [Heap.size_set] at s1
                  refine roundIn_of_wpIn (F := Fence.wide) trivial ?_
                  have he0 : EnvR ρ (setAll env ps args) ((lo.params.zip cargs).foldl (fun tmps (t, a) => tmps.setIfInBounds t a) lo.tmps) := by
                    have := EnvR.setAll ps args cargs.toList env lo.tmps l7 hv
                    rw [← Array.foldl_toList, Array.toList_zip, l4]
                    exact this
                  rw [l5]
                  refine hcode (some A) (some L.b) w.heap.size assign _ _ _ _ _ ρ _ w _ hr1 l8 hG hs (hf.left (by omega)) he0 Marks.nil ⟨L, hA, rfl⟩ (Nat.le_refl _) fun ρ1 a1 w1 f1 sm1 en1 d1 => ?_
                  have hA1 := f1.grow A L hA
                  obtain ⟨lo1, p1, p2, p3, p4, p5, p6, p7, p8, p9, p10⟩ := loop_sound sm1 hA1 hg1
                  obtain ⟨f2, sm2⟩ := p10 .busy pend1
                  have hlo1 : ({ lo1 with state := LoopState.busy, pending := pend1 } : Loop) = { lo1 with state := LoopState.busy } := by subst p3; rfl
                  rw [hlo1] at f2 sm2
                  refine ⟨_, run_beginRound p1 p2, ?_⟩
                  rw [l6]
                  refine hcode (some A) (some L.b) w.heap.size body _ _ _ _ _ ρ1 a1 _ _ hr2 (l9.mono f1.grow) (hG.mono f1.grow) sm2 ?_ en1 (d1.step f2) ⟨L, hA1, rfl⟩ (Nat.le_trans f1.size f2.size) fun ρ3 a3 w3 f3 sm3 en3 d3 => ?_
                  · have hfr : Free ρ1 h1 h2 := ((hf.left (by omega)).right f1)
                    exact hfr
                  · have hA3 := f3.grow A L hA1
                    unfold endRoundA at hend
                    split at hend
                    · rename_i env3 ps3 assign3 body3 st3 pend3 hg3
                      cases hend
                      obtain ⟨lo3, z1, z2, z3, z4, z5, z6, z7, z8, z9, z10⟩ := loop_sound sm3 hA3 hg3
                      obtain ⟨f4, sm4⟩ := z10 (if jump.isNone then .ready else .done) jump
                      have hfin : ∃ ρ' u, Ending.returned (.bool jump.isNone) = .returned u ∧ Fr ρ ρ' h (h2.set A (.loop env3 ps3 assign3 body3 (if jump.isNone then .ready else .done) jump)) w (w3.putObj L.b (.loop { lo3 with state := if jump.isNone then .ready else .done, pending := jump })) ∧
                          Sim ρ' (h2.set A (.loop env3 ps3 assign3 body3 (if jump.isNone then .ready else .done) jump)) (w3.putObj L.b (.loop { lo3 with state := if jump.isNone then .ready else .done, pending := jump })) ∧ VR ρ' (.bool jump.isNone) u :=
                        ⟨ρ3, _, rfl, ((f1.trans f2).trans f3).trans f4, sm4, .bool _⟩
                      have hrun := run_endRound (P := P) jump z1
                      cases x with
                      | normal => subst hjump; exact ⟨_, _, hrun, hfin⟩
                      | ret => subst hjump; exact ⟨_, _, hrun, hfin⟩
                      | exit id => subst hjump; exact ⟨_, _, hrun, hfin⟩
                    · cases hend
                split at hev
                · rename_i e2 h2 hr2; exact key _ _ _ _ hr2 rfl hev
                · rename_i e2 h2 hr2; exact key _ _ _ _ hr2 rfl hev
                · rename_i e2 h2 hr2; exact key _ _ _ _ hr2 rfl hev
                · cases hev
            · cases hev
          · cases hev
        · cases hev
      · cases hev

/-- Only reading is left of what came in: nothing that was there has turned. -/
theorem Fr.below {ρ ρ' : Rho} {h h' : Heap} {w w' : World} (f : Fr ρ ρ' h h' w w') (hlow : ∀ A L, ρ A = some L → A < h'.low) : Below w.heap.size w w' :=
  ⟨f.os, f.tape, f.output, f.size, fun k hk => f.keep k hk fun A L hA _ => .inl (hlow A L hA)⟩

/-- A call with no argument, in a world where the package's variables are known. -/
theorem calls_at (hmix : P.follows .mixedOrders = true) (hT : T.Fits P) (hov : OvS P T.gs ov) {n : Nat} {f : FuncId} {b : Bool} {h h' : Heap} (hf : ov f = none) (hrun : call P T ov n (.func f) [] h = some (.bool b, h')) (w : World) (ρ : Rho)
    (hG : GlobOk T.gs ρ) (hs : Sim ρ h w) (hfree : ∀ A, h.size ≤ A → ρ A = none) (hlow : ∀ A L, ρ A = some L → A < h'.low) :
    Calls P f #[] w fun e w' => e = .returned (.bool b) ∧ Below w.heap.size w w' := by
  have hcs := (call_sound hmix hT hov n).fn f [] h (.bool b) h' hrun ρ w #[] hG hs (fun A h1 _ => hfree A h1) (.nil _)
  rcases hcs with ⟨ρ', u, w', h1, _⟩ | ⟨_, h1⟩
  · exfalso
    cases n with
    | zero => simp [call] at hrun
    | succ n =>
      simp only [call, hf, Option.bind_eq_some_iff] at hrun
      obtain ⟨fn, hfn, c, hc, _⟩ := hrun
      obtain ⟨hP, hname, _⟩ := hT.fn f fn hfn
      have hname' : ¬ fn.name = "runtime.NumGoroutine" := by simpa using hname
      simp [callFunc, hP, hname', hc] at h1
  · refine h1.mono ?_
    rintro e w' ⟨ρ', u, rfl, f1, s1, hv⟩
    refine ⟨?_, f1.below hlow⟩
    rw [hv.eq_plain rfl]
theorem calls_closed (hmix : P.follows .mixedOrders = true) (hT : T.Fits P) (hgs : T.gs = []) (hov : OvS P T.gs ov) {n : Nat} {f : FuncId} {b : Bool} {h' : Heap} (hf : ov f = none) (hrun : call P T ov n (.func f) [] .empty = some (.bool b, h')) (w : World) :
    Calls P f #[] w fun e w' => e = .returned (.bool b) ∧ Below w.heap.size w w' :=
  calls_at hmix hT hov hf hrun w (fun _ => none) (by rw [hgs]; intro g hg; cases hg) ⟨fun A L hA => (by cases hA), fun A A' L L' hA => (by cases hA)⟩ (fun _ _ => rfl) (fun A L hA => by cases hA)
end
#print axioms calls_closed
end Go.Am

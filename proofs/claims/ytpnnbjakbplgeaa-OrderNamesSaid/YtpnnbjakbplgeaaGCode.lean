/- A function's body: the plain machine beside the model. No condition. -/
import Derived.Test.YtpnnbjakbplgeaaGStep
import Derived.Tactics
import Derived.LoopN
namespace Go.Am
open Go.RowKit

section
variable {P : Program} {T : Tab} {ρ : Rho} {h h' : Heap} {w : World}

theorem OpR.wp {o : Oper} {a : Act} {v : Value} (hr : OpR P ρ h h' w v ((execOp a.eval o).run P w)) {K : Act → World → Prop} {Q : Exit → Act → World → Prop}
    (hK : ∀ ρ' u w', Fr ρ ρ' h h' w w' → Sim ρ' h' w' → VR ρ' v u → K (a.put o.dst u) w') : o.wp P a w K Q := by
  unfold Oper.wp
  rcases hr with ⟨ρ', u, w', h1, h2, h3, h4⟩ | ⟨f, cargs, h1, h2⟩
  · rcases h1 with h1 | ⟨h1, rfl⟩
    · rw [h1]; exact hK ρ' u w' h2 h3 h4
    · rw [h1]; exact hK ρ' undef w' h2 h3 h4
  · rw [h1]
    refine h2.mono ?_
    rintro ed w' ⟨ρ', u, rfl, h3, h4, h5⟩
    exact hK ρ' u w' h3 h4 h5

theorem wanted_eq {ops : Array Oper} {o : Oper} {e : Env} {tmps : Array Value} (he : EnvR ρ e tmps) : Region.wanted o (yielded ops tmps) = wantedA ops o e := by
  unfold Region.wanted wantedA
  cases o.guard with
  | none => rfl
  | some g =>
    obtain ⟨j, b⟩ := g
    simp only [yielded]
    cases (ops[j]?).bind (·.dst) with
    | none => simp
    | some t =>
      simp only [Option.bind_some]
      have hv := he.2 t
      cases ht : tmps[t]? with
      | none =>
        have hlen : tmps.size ≤ t := by
          rcases Nat.lt_or_ge t tmps.size with hlt | hge
          · rw [Array.getElem?_eq_getElem hlt] at ht; cases ht
          · exact hge
        rw [Env.get_of_ge e t (by rw [he.1]; exact hlen)]
        rfl
      | some u =>
        have hu : tmps.getD t undef = u := by simp [ht]
        rw [hu] at hv
        generalize e.get t = x at hv
        cases hv <;> first | rfl | (cases b <;> rename_i c <;> cases c <;> rfl)

/-! ### The plain heap does not shrink -/
/-- What a step of the plain machine keeps. -/
structure Keeps (h h' : Heap) : Prop where
  size : h.size ≤ h'.size
  low : h'.low ≤ h.low
  get : ∀ A, A < h.size → A < h'.low → h'.get A = h.get A

theorem Keeps.refl (h : Heap) : Keeps h h := ⟨Nat.le_refl _, Nat.le_refl _, fun _ _ _ => rfl⟩
theorem Keeps.trans {h h1 h2 : Heap} (a : Keeps h h1) (b : Keeps h1 h2) : Keeps h h2 :=
  ⟨Nat.le_trans a.size b.size, Nat.le_trans b.low a.low, fun A h3 h4 => (b.get A (Nat.lt_of_lt_of_le h3 a.size) h4).trans (a.get A h3 (Nat.lt_of_lt_of_le h4 b.low))⟩
theorem Keeps.push (h : Heap) (b : Blk) : Keeps h (h.push b) := ⟨Nat.le_succ _, Nat.le_refl _, fun A h3 _ => by rw [Heap.get_push, if_neg (by omega)]⟩
theorem Keeps.set {h : Heap} {A : Nat} (b : Blk) (hA : A < h.size) : Keeps h (h.set A b) :=
  ⟨Nat.le_refl _, Nat.min_le_left _ _, fun A' _ h4 => by rw [Heap.low_set] at h4; rw [Heap.get_set _ _ _ _ hA, if_neg (by omega)]⟩

theorem writeA_keeps {A o : Nat} {vs : List Value} (hw : writeA A o vs h = some h') : Keeps h h' := by
  unfold writeA at hw
  split at hw
  · rename_i hg
    split at hw
    · cases hw; exact .set _ (Heap.lt_of_get hg)
    · cases hw
  · cases hw

theorem appendA_keeps {t : TypeId} {s x v : Value} (ha : appendA T t s x h = some (v, h')) : Keeps h h' := by
  unfold appendA at ha
  split at ha
  · simp only [Option.bind_eq_some_iff, Prod.exists] at ha
    obtain ⟨k, by', z, _, m, news, _, ha⟩ := ha
    split at ha
    · split at ha
      · cases ha; exact .refl _
      · split at ha
        · cases ha
        · split at ha
          · split at ha
            · split at ha
              · simp only [Option.map_eq_some_iff, Prod.mk.injEq] at ha
                obtain ⟨h1, hw, _, rfl⟩ := ha
                exact writeA_keeps hw
              · cases ha
            · cases ha
          · simp only [Option.bind_eq_some_iff] at ha
            obtain ⟨old, _, ha⟩ := ha
            split at ha
            · cases ha; exact .push _ _
            · split at ha
              · split at ha
                · rename_i hg
                  split at ha
                  · cases ha; exact (Keeps.set _ (Heap.lt_of_get hg)).trans (.push _ _)
                  · cases ha
                · cases ha
              · cases ha
    · cases ha
  · cases ha

def Grows (C : FuncId → List Value → Heap → Option (Value × Heap)) : Prop := ∀ f args h v h', C f args h = some (v, h') → Keeps h h'

theorem evalOp_keeps {C : FuncId → List Value → Heap → Option (Value × Heap)} (hC : Grows C) {e : Env} {o : Oper} {v : Value} (hev : evalOp P T C e o h = some (v, h')) : Keeps h h' := by
  have hmap : ∀ {r : Option Value}, (r.map fun x => (x, h)) = some (v, h') → Keeps h h' := by
    intro r hr
    simp only [Option.map_eq_some_iff, Prod.mk.injEq] at hr
    obtain ⟨_, _, _, rfl⟩ := hr
    exact .refl _
  have hpure : pureOp P e o h = some (v, h') → Keeps h h' := by
    intro hp
    unfold pureOp at hp
    split at hp
    · split at hp
      · split at hp
        · cases hp; exact .refl _
        · cases hp
      · cases hp
    · cases hp
  unfold evalOp at hev
  dsimp only at hev
  split at hev
  · cases hev; exact .refl _
  · cases hev; exact .refl _
  · split at hev
    · cases hev; exact .refl _
    · cases hev
  · simp only [Option.map_eq_some_iff, Prod.exists] at hev
    obtain ⟨_, _, z, _, hev⟩ := hev
    have e2 := congrArg Prod.snd hev
    simp only at e2
    subst e2
    exact .push _ _
  · simp only [Option.some.injEq] at hev
    have e2 := congrArg Prod.snd hev
    simp only at e2
    subst e2
    exact .push _ _
  · exact hmap hev
  · unfold buildSliceA at hev
    split at hev
    · simp only [Option.bind_eq_some_iff, Prod.exists] at hev
      obtain ⟨_, _, _, _, hev⟩ := hev
      split at hev
      · cases hev
      · simp only [Option.map_eq_some_iff, Prod.mk.injEq] at hev
        obtain ⟨_, _, _, rfl⟩ := hev
        exact .push _ _
    · cases hev
  · exact hmap hev
  · simp only [Option.map_eq_some_iff, Prod.mk.injEq] at hev
    obtain ⟨h1, hr, _, rfl⟩ := hev
    unfold storeA at hr
    split at hr
    · simp only [Option.bind_eq_some_iff] at hr
      obtain ⟨_, _, hr⟩ := hr
      split at hr
      · exact writeA_keeps hr
      · cases hr
    · cases hr
  · split at hev
    · cases hev; exact .refl _
    · cases hev; exact .refl _
    · cases hev
  · exact hmap hev
  · split at hev
    · cases hev; exact .refl _
    · cases hev
  · unfold makeSliceA at hev
    split at hev
    · simp only [Option.bind_eq_some_iff, Prod.exists] at hev
      obtain ⟨_, _, _, _, hev⟩ := hev
      split at hev
      · cases hev; exact .push _ _
      · cases hev
    · cases hev
  · exact hmap hev
  · exact hmap hev
  · exact hmap hev
  · exact hmap hev
  · split at hev
    · exact hmap hev
    · cases hev
  · exact hpure hev
  · exact hpure hev
  · exact hpure hev
  · split at hev
    · split at hev
      · split at hev
        · exact appendA_keeps hev
        · cases hev
      · cases hev
    · split at hev
      · unfold copyA at hev
        split at hev
        · simp only [Option.bind_eq_some_iff, Prod.exists] at hev
          obtain ⟨_, _, _, _, _, hev⟩ := hev
          split at hev
          · cases hev; exact .refl _
          · split at hev
            · simp only [Option.map_eq_some_iff, Prod.mk.injEq] at hev
              obtain ⟨h1, hw, _, rfl⟩ := hev
              exact writeA_keeps hw
            · cases hev
        · cases hev
      · cases hev
    · split at hev
      · simp only [Option.map_eq_some_iff, Prod.mk.injEq] at hev
        obtain ⟨h1, hr, _, rfl⟩ := hev
        unfold clearA at hr
        split at hr
        · split at hr
          · cases hr; exact .refl _
          · simp only [Option.bind_eq_some_iff, Prod.exists] at hr
            obtain ⟨_, _, _, _, hr⟩ := hr
            split at hr
            · exact writeA_keeps hr
            · cases hr
        · cases hr
      · cases hev
    · split at hev
      · exact hmap hev
      · cases hev
    · exact hpure hev
    · exact hpure hev
    · split at hev
      · exact hC _ _ _ _ _ hev
      · cases hev
    · cases hev
  · cases hev

theorem evalOps_keeps {C : FuncId → List Value → Heap → Option (Value × Heap)} (hC : Grows C) {ops : Array Oper} : ∀ (l : List Oper) (e e' : Env) (h h' : Heap), evalOps P T C ops l e h = some (e', h') → Keeps h h'
  | [], e, e', h, h', hev => by simp only [evalOps, Option.some.injEq, Prod.mk.injEq] at hev; obtain ⟨_, rfl⟩ := hev; exact .refl _
  | o :: l, e, e', h, h', hev => by
    simp only [evalOps] at hev
    split at hev
    · split at hev
      · rename_i v h1 h2
        exact (evalOp_keeps hC h2).trans (evalOps_keeps hC l _ _ _ _ hev)
      · cases hev
    · exact evalOps_keeps hC l _ _ _ _ hev

theorem evalOps_sound (hT : T.Fits P) {C : FuncId → List Value → Heap → Option (Value × Heap)} (hC : CS P C) (hg : Grows C) {ops : Array Oper} {Q : Exit → Act → World → Prop} :
    ∀ (l : List Oper) (e e' : Env) (h h' : Heap) (ρ : Rho) (a : Act) (w : World), evalOps P T C ops l e h = some (e', h') → l.all opOk = true → Sim ρ h w → Free ρ h h' → EnvR ρ e a.tmps → a.defers = [] →
      (∀ ρ' a' w', Fr ρ ρ' h h' w w' → Sim ρ' h' w' → EnvR ρ' e' a'.tmps → a'.defers = [] → Q .normal a' w') → wpList P ops Q l a w
  | [], e, e', h, h', ρ, a, w, hev, _, hs, _, he, hd, hQ => by
    simp only [evalOps, Option.some.injEq, Prod.mk.injEq] at hev
    obtain ⟨rfl, rfl⟩ := hev
    exact hQ ρ a w (Fr.refl _ _ _) hs he hd
  | o :: l, e, e', h, h', ρ, a, w, hev, hok, hs, hf, he, hd, hQ => by
    simp only [List.all_cons, Bool.and_eq_true] at hok
    simp only [evalOps] at hev
    unfold wpList
    rw [wanted_eq he]
    split at hev
    · rename_i hw
      rw [if_pos hw]
      split at hev
      · rename_i v h1 h2
        have hsz := (evalOps_keeps hg l _ _ _ _ hev).size
        left
        refine (evalOp_sound hT hC hs he hok.1 (hf.left hsz) h2).wp fun ρ1 u w1 f1 s1 v1 => ?_
        refine evalOps_sound hT hC hg l _ _ _ _ ρ1 _ w1 hev hok.2 s1 (hf.right f1) ((he.mono f1.grow).put v1 o.dst) (by cases o.dst <;> exact hd) ?_
        intro ρ2 a2 w2 f2 s2 e2 d2
        exact hQ ρ2 a2 w2 (f1.trans f2) s2 e2 d2
      · cases hev
    · rename_i hw
      rw [if_neg hw]
      exact evalOps_sound hT hC hg l _ _ _ _ ρ _ w hev hok.2 hs hf (he.put (.undef ρ) o.dst) (by cases o.dst <;> exact hd) hQ

def Ex.to : Ex → Exit
  | .normal => .normal
  | .exit id => .exit id
  | .ret => .ret

/-- What a drawn region of the plain machine stands for. -/
def DS (P : Program) (D : Array Oper → Env → Heap → Option (Env × Heap)) : Prop :=
  ∀ (id : Nat) (ops : Array Oper) (e e' : Env) (h h' : Heap) (ρ : Rho) (a : Act) (w : World) (Q : Exit → Act → World → Prop), D ops e h = some (e', h') → ops.toList.all opOk = true → Sim ρ h w → Free ρ h h' → EnvR ρ e a.tmps → a.defers = [] →
    (∀ ρ' a' w', Fr ρ ρ' h h' w w' → Sim ρ' h' w' → EnvR ρ' e' a'.tmps → a'.defers = [] → Q .normal a' w') → (Code.region id ops true).wp P Q a w
def DGrows (D : Array Oper → Env → Heap → Option (Env × Heap)) : Prop := ∀ ops e h e' h', D ops e h = some (e', h') → Keeps h h'

theorem iter_keeps {f : Env → Heap → Option (Ex × Env × Heap)} (hf : ∀ e h x e' h', f e h = some (x, e', h') → Keeps h h') : ∀ (n : Nat) (e : Env) (h : Heap) (x : Ex) (e' : Env) (h' : Heap), iter f n e h = some (x, e', h') → Keeps h h'
  | 0, _, _, _, _, _, hi => by simp [iter] at hi
  | n + 1, e, h, x, e', h', hi => by
    simp only [iter] at hi
    split at hi
    · rename_i e1 h1 h2
      exact (hf _ _ _ _ _ h2).trans (iter_keeps hf n _ _ _ _ _ hi)
    · exact hf _ _ _ _ _ hi

theorem evalCode_keeps {C : FuncId → List Value → Heap → Option (Value × Heap)} {D : Array Oper → Env → Heap → Option (Env × Heap)} (hC : Grows C) (hD : DGrows D) (fuel : Nat) : ∀ (c : Code) (e : Env) (h : Heap) (x : Ex) (e' : Env) (h' : Heap), evalCode P T C D fuel c e h = some (x, e', h') → Keeps h h' := by
  intro c
  induction c with
  | skip => intro e h x e' h' hev; simp only [evalCode, Option.some.injEq, Prod.mk.injEq] at hev; obtain ⟨_, _, rfl⟩ := hev; exact .refl _
  | region id ops d =>
    intro e h x e' h' hev
    simp only [evalCode, Option.map_eq_some_iff, Prod.exists, Prod.mk.injEq] at hev
    obtain ⟨e1, h1, hr, _, rfl, rfl⟩ := hev
    split at hr
    · exact hD _ _ _ _ _ hr
    · exact evalOps_keeps hC _ _ _ _ _ hr
  | seq a b iha ihb =>
    intro e h x e' h' hev
    simp only [evalCode] at hev
    split at hev
    · rename_i e1 h1 h2
      exact (iha _ _ _ _ _ h2).trans (ihb _ _ _ _ _ hev)
    · exact iha _ _ _ _ _ hev
  | cond c a b iha ihb =>
    intro e h x e' h' hev
    simp only [evalCode] at hev
    split at hev
    · exact iha _ _ _ _ _ hev
    · exact ihb _ _ _ _ _ hev
    · cases hev
  | block id c ih =>
    intro e h x e' h' hev
    simp only [evalCode] at hev
    split at hev
    · rename_i i e1 h1 h2
      have := ih _ _ _ _ _ h2
      split at hev <;> (simp only [Option.some.injEq, Prod.mk.injEq] at hev; obtain ⟨_, _, rfl⟩ := hev; exact this)
    · exact ih _ _ _ _ _ hev
  | loop c ih => intro e h x e' h' hev; simp only [evalCode] at hev; exact iter_keeps ih _ _ _ _ _ _ hev
  | exit id => intro e h x e' h' hev; simp only [evalCode, Option.some.injEq, Prod.mk.injEq] at hev; obtain ⟨_, _, rfl⟩ := hev; exact .refl _
  | ret => intro e h x e' h' hev; simp only [evalCode, Option.some.injEq, Prod.mk.injEq] at hev; obtain ⟨_, _, rfl⟩ := hev; exact .refl _
  | label l => intro e h x e' h' hev; simp only [evalCode, Option.some.injEq, Prod.mk.injEq] at hev; obtain ⟨_, _, rfl⟩ := hev; exact .refl _
  | rangeFunc f ps a b _ _ => intro e h x e' h' hev; simp [evalCode] at hev
  | scope c _ => intro e h x e' h' hev; simp [evalCode] at hev
  | goto l => intro e h x e' h' hev; simp [evalCode] at hev
  | refuse s => intro e h x e' h' hev; simp [evalCode] at hev

theorem evalCode_sound (hT : T.Fits P) {C : FuncId → List Value → Heap → Option (Value × Heap)} {D : Array Oper → Env → Heap → Option (Env × Heap)} (hC : CS P C) (hg : Grows C) (hD : DS P D) (hdg : DGrows D) (fuel : Nat) :
    ∀ (c : Code) (e : Env) (h : Heap) (x : Ex) (e' : Env) (h' : Heap) (ρ : Rho) (a : Act) (w : World) (Q : Exit → Act → World → Prop), evalCode P T C D fuel c e h = some (x, e', h') → codeOk c = true → Sim ρ h w → Free ρ h h' → EnvR ρ e a.tmps → a.defers = [] →
      (∀ ρ' a' w', Fr ρ ρ' h h' w w' → Sim ρ' h' w' → EnvR ρ' e' a'.tmps → a'.defers = [] → Q x.to a' w') → c.wp P Q a w := by
  intro c
  induction c with
  | skip =>
    intro e h x e' h' ρ a w Q hev _ hs _ he hd hQ
    simp only [evalCode, Option.some.injEq, Prod.mk.injEq] at hev
    obtain ⟨rfl, rfl, rfl⟩ := hev
    exact wp_skip (hQ ρ a w (Fr.refl _ _ _) hs he hd)
  | region id ops d =>
    intro e h x e' h' ρ a w Q hev hok hs hf he hd hQ
    simp only [evalCode, Option.map_eq_some_iff, Prod.exists, Prod.mk.injEq] at hev
    obtain ⟨e1, h1, hr, rfl, rfl, rfl⟩ := hev
    cases d with
    | true =>
      simp only [if_true] at hr
      exact hD id ops e e1 h h1 ρ a w Q hr hok hs hf he hd hQ
    | false =>
      simp only [Bool.false_eq_true, if_false] at hr
      exact wp_region_list (evalOps_sound hT hC hg ops.toList e e1 h h1 ρ a w hr hok hs hf he hd hQ)
  | seq c1 c2 ih1 ih2 =>
    intro e h x e' h' ρ a w Q hev hok hs hf he hd hQ
    simp only [codeOk, Bool.and_eq_true] at hok
    simp only [evalCode] at hev
    refine wp_seq ?_
    split at hev
    · rename_i e1 h1 h2
      have hsz := (evalCode_keeps hg hdg fuel c2 _ _ _ _ _ hev).size
      refine ih1 e h .normal e1 h1 ρ a w _ h2 hok.1 hs (hf.left hsz) he hd fun ρ1 a1 w1 f1 s1 r1 d1 => ?_
      exact ih2 e1 h1 x e' h' ρ1 a1 w1 Q hev hok.2 s1 (hf.right f1) r1 d1 fun ρ2 a2 w2 f2 s2 r2 d2 => hQ ρ2 a2 w2 (f1.trans f2) s2 r2 d2
    · rename_i hne
      refine ih1 e h x e' h' ρ a w _ hev hok.1 hs hf he hd fun ρ1 a1 w1 f1 s1 r1 d1 => ?_
      cases x with
      | normal => exact (hne e' h' hev).elim
      | exit id => exact hQ ρ1 a1 w1 f1 s1 r1 d1
      | ret => exact hQ ρ1 a1 w1 f1 s1 r1 d1
  | cond c c1 c2 ih1 ih2 =>
    intro e h x e' h' ρ a w Q hev hok hs hf he hd hQ
    simp only [codeOk, Bool.and_eq_true] at hok
    have hc := he.operand hok.1.1
    simp only [evalCode] at hev
    split at hev
    · rename_i hb
      rw [hb] at hc
      exact wp_cond_true (hc.eq_plain rfl) (ih1 e h x e' h' ρ a w Q hev hok.1.2 hs hf he hd hQ)
    · rename_i hb
      rw [hb] at hc
      exact wp_cond_false (hc.eq_plain rfl) (ih2 e h x e' h' ρ a w Q hev hok.2 hs hf he hd hQ)
    · cases hev
  | block id c ih =>
    intro e h x e' h' ρ a w Q hev hok hs hf he hd hQ
    simp only [evalCode] at hev
    refine wp_block ?_
    split at hev
    · rename_i i e1 h1 h2
      split at hev
      · rename_i hi
        simp only [Option.some.injEq, Prod.mk.injEq] at hev
        obtain ⟨rfl, rfl, rfl⟩ := hev
        refine ih e h (.exit i) e1 h1 ρ a w _ h2 hok hs hf he hd fun ρ1 a1 w1 f1 s1 r1 d1 => ?_
        simp only [Ex.to, Exit.inBlock, if_pos hi]
        exact hQ ρ1 a1 w1 f1 s1 r1 d1
      · rename_i hi
        simp only [Option.some.injEq, Prod.mk.injEq] at hev
        obtain ⟨rfl, rfl, rfl⟩ := hev
        refine ih e h (.exit i) e1 h1 ρ a w _ h2 hok hs hf he hd fun ρ1 a1 w1 f1 s1 r1 d1 => ?_
        simp only [Ex.to, Exit.inBlock, if_neg hi]
        exact hQ ρ1 a1 w1 f1 s1 r1 d1
    · rename_i hne
      refine ih e h x e' h' ρ a w _ hev hok hs hf he hd fun ρ1 a1 w1 f1 s1 r1 d1 => ?_
      cases x with
      | normal => exact hQ ρ1 a1 w1 f1 s1 r1 d1
      | exit i => exact (hne i e' h' hev).elim
      | ret => exact hQ ρ1 a1 w1 f1 s1 r1 d1
  | loop c ih =>
    intro e h x e' h' ρ a w Q hev hok hs hf he hd hQ
    simp only [evalCode] at hev
    refine wp_loop_rounds fuel ?_
    have key : ∀ (n : Nat) (e : Env) (h : Heap) (ρ : Rho) (a : Act) (w : World), iter (evalCode P T C D fuel c) n e h = some (x, e', h') → Sim ρ h w → Free ρ h h' → EnvR ρ e a.tmps → a.defers = [] →
        (∀ ρ' a' w', Fr ρ ρ' h h' w w' → Sim ρ' h' w' → EnvR ρ' e' a'.tmps → a'.defers = [] → Q x.to a' w') → Code.rounds P c Q n a w := by
      intro n
      induction n with
      | zero => intro e h ρ a w hi; simp [iter] at hi
      | succ n ihn =>
        intro e h ρ a w hi hs hf he hd hQ
        simp only [iter] at hi
        rw [rounds_succ]
        split at hi
        · rename_i e1 h1 h2
          have hsz := (iter_keeps (evalCode_keeps (P := P) (T := T) hg hdg fuel c) n _ _ _ _ _ hi).size
          refine ih e h .normal e1 h1 ρ a w _ h2 hok hs (hf.left hsz) he hd fun ρ1 a1 w1 f1 s1 r1 d1 => ?_
          exact ihn e1 h1 ρ1 a1 w1 hi s1 (hf.right f1) r1 d1 fun ρ2 a2 w2 f2 s2 r2 d2 => hQ ρ2 a2 w2 (f1.trans f2) s2 r2 d2
        · rename_i hne
          refine ih e h x e' h' ρ a w _ hi hok hs hf he hd fun ρ1 a1 w1 f1 s1 r1 d1 => ?_
          cases x with
          | normal => exact (hne e' h' hi).elim
          | exit id => exact hQ ρ1 a1 w1 f1 s1 r1 d1
          | ret => exact hQ ρ1 a1 w1 f1 s1 r1 d1
    exact key fuel e h ρ a w hev hs hf he hd hQ
  | exit id =>
    intro e h x e' h' ρ a w Q hev _ hs _ he hd hQ
    simp only [evalCode, Option.some.injEq, Prod.mk.injEq] at hev
    obtain ⟨rfl, rfl, rfl⟩ := hev
    exact wp_exit (hQ ρ a w (Fr.refl _ _ _) hs he hd)
  | ret =>
    intro e h x e' h' ρ a w Q hev _ hs _ he hd hQ
    simp only [evalCode, Option.some.injEq, Prod.mk.injEq] at hev
    obtain ⟨rfl, rfl, rfl⟩ := hev
    exact wp_ret (hQ ρ a w (Fr.refl _ _ _) hs he hd)
  | label l =>
    intro e h x e' h' ρ a w Q hev _ hs _ he hd hQ
    simp only [evalCode, Option.some.injEq, Prod.mk.injEq] at hev
    obtain ⟨rfl, rfl, rfl⟩ := hev
    exact wp_label (hQ ρ a w (Fr.refl _ _ _) hs he hd)
  | rangeFunc f ps a b _ _ => intro e h x e' h' ρ a w Q hev; simp [evalCode] at hev
  | scope c _ => intro e h x e' h' ρ a w Q hev; simp [evalCode] at hev
  | goto l => intro e h x e' h' ρ a w Q hev; simp [evalCode] at hev
  | refuse s => intro e h x e' h' ρ a w Q hev; simp [evalCode] at hev

def resSem (tmps : Array Value) : ResultVar → Sem Value
  | .tmp t => pure (tmps.getD t undef)
  | .cell a t => do loadVar t (← asAddr (tmps.getD a undef))

theorem results_eq (fn : Func) (tmps : Array Value) : results fn tmps = (do let vs ← fn.results.mapM (resSem tmps); pure (if h : vs.size = 1 then vs[0] else .tuple vs)) := by
  unfold results
  congr 2

theorem resultA_sound (hT : T.Fits P) (hs : Sim ρ h w) {e : Env} {tmps : Array Value} (he : EnvR ρ e tmps) : ∀ {r : ResultVar} {v : Value}, resultA T e h r = some v → ∃ u, (resSem tmps r).run P w = .ok u w ∧ VR ρ v u
  | .tmp t, v, hr => by simp only [resultA, Option.some.injEq] at hr; subst hr; exact ⟨_, rfl, he.2 t⟩
  | .cell a t, v, hr => by
    simp only [resultA] at hr
    have hv := he.2 a
    simp only [resSem]
    generalize e.get a = x at hv hr
    generalize tmps.getD a undef = y at hv
    obtain ⟨u, h1, h2⟩ := loadA_sound hT hs hv hr
    refine ⟨u, ?_, h2⟩
    rw [← h1]
    cases hv <;> first | (simp [loadA] at hr; done) | simp [Instr.loadAt, Instr.sureAddr, asAddr]

theorem resultsA_sound (hT : T.Fits P) (hs : Sim ρ h w) {fn : Func} {e : Env} {tmps : Array Value} (he : EnvR ρ e tmps) {v : Value} (hr : resultsA T fn e h = some v) :
    ∃ u, (results fn tmps).run P w = .ok u w ∧ VR ρ v u := by
  have hlist : ∀ (rs : List ResultVar) (vs : List Value), rs.mapM (resultA T e h) = some vs → ∃ us : List Value, VRs ρ vs us ∧
      (rs.mapM (resSem tmps)).run P w = .ok us w := by
    intro rs
    induction rs with
    | nil => intro vs hvs; simp at hvs; subst hvs; exact ⟨[], .nil ρ, by simp⟩
    | cons r rs ih =>
      intro vs hvs
      rw [List.mapM_cons] at hvs
      simp only [Option.bind_eq_bind, Option.bind_eq_some_iff, Option.pure_def, Option.some.injEq] at hvs
      obtain ⟨v1, hv1, vs', hvs', rfl⟩ := hvs
      obtain ⟨u1, h1, h2⟩ := resultA_sound hT hs he hv1
      obtain ⟨us, h3, h4⟩ := ih vs' hvs'
      refine ⟨u1 :: us, .cons h2 h3, ?_⟩
      rw [List.mapM_cons]
      simp only [Sem.run_bind, h1, Result.andThen_ok, h4, Sem.run_pure]
  have hmap : ∀ us : List Value, (fn.results.toList.mapM (resSem tmps)).run P w = .ok us w →
      (results fn tmps).run P w = .ok (if h : us.toArray.size = 1 then us.toArray[0] else .tuple us.toArray) w := by
    intro us h1
    rw [results_eq, Array.mapM_eq_mapM_toList]
    simp only [Sem.run_bind, Sem.run_map, h1, Result.andThen_ok, Sem.run_pure]
  unfold resultsA at hr
  split at hr
  · rename_i r hrs
    obtain ⟨us, h1, h2⟩ := hlist [r] [v] (by simp [hr])
    obtain ⟨u, us', rfl, hu, hn⟩ := h1.of_cons
    have := hn.of_nil
    subst this
    refine ⟨u, ?_, hu⟩
    have := hmap [u] (by rw [hrs]; exact h2)
    simpa using this
  · rename_i hne
    simp only [Option.map_eq_some_iff] at hr
    obtain ⟨vs, hvs, rfl⟩ := hr
    obtain ⟨us, h1, h2⟩ := hlist _ vs hvs
    refine ⟨.tuple us.toArray, ?_, h1.toTuple⟩
    have := hmap us h2
    rw [this]
    congr 1
    have hlen : us.length ≠ 1 := by
      intro h1'
      have hl : fn.results.toList.length = us.length := by
        have e1 : vs.length = us.length := h1.1
        have e2 : ∀ (rs : List ResultVar) (vs : List Value), rs.mapM (resultA T e h) = some vs → rs.length = vs.length := by
          intro rs
          induction rs with
          | nil => intro vs hvs; simp at hvs; subst hvs; rfl
          | cons r rs ih =>
            intro vs hvs
            rw [List.mapM_cons] at hvs
            simp only [Option.bind_eq_bind, Option.bind_eq_some_iff, Option.pure_def, Option.some.injEq] at hvs
            obtain ⟨v1, hv1, vs', hvs', rfl⟩ := hvs
            simp [ih vs' hvs']
        rw [e2 _ _ hvs, e1]
      rw [h1'] at hl
      match hm : fn.results.toList, hl with
      | [r], _ => exact hne r hm
    rw [dif_neg (by simpa using hlen)]
end
#print axioms evalCode_sound
#print axioms resultsA_sound
end Go.Am

/- A function's body: the plain machine beside the model. No condition. -/
import Derived.Test.YtpnnbjakbplgeaaGStep
import Derived.TacticsIn
import Derived.LoopNIn
import Derived.Scope
import Derived.RangeFuncLeaves
namespace Go.Am
open Go.RowKit

section
variable {P : Program} {T : Tab} {ρ : Rho} {h h' : Heap} {w : World}

/-- No fence but for the round that the frame is of. -/
def WR (rl : Option Nat) : Fence := { Fence.wide with round := rl }
theorem WR_none : WR none = Fence.wide := rfl
theorem callsIn_WR {rl : Option Nat} {n : Nat} {f : FuncId} {args : Array Value} {R : Ending → World → Prop} (hc : Calls P f args w R) : CallsIn (WR rl) n P f args w R :=
  (callsIn_wide (n := n)).2 hc

theorem OpR.wp {o : Oper} {a : Act} {v : Value} (hr : OpR P ρ h h' w v ((execOp a.eval o).run P w)) (hnd : ∀ c, o.op ≠ .defer c) {K : Act → World → Prop} {Q : Exit → Act → World → Prop} {rl : Option Nat}
    (hK : ∀ ρ' u w', Fr ρ ρ' h h' w w' → Sim ρ' h' w' → VR ρ' v u → K (a.put o.dst u) w') : o.wpIn (WR rl) 0 P a w K Q := by
  unfold Oper.wpIn
  refine ⟨fun _ _ => trivial, ?_⟩
  rw [Oper.semAt_eq _ _ _ hnd]
  rcases hr with ⟨ρ', u, w', h1, h2, h3, h4⟩ | ⟨f, cargs, h1, h2⟩ | ⟨l, f, tmps, assign, body, h1, h2⟩
  · rcases h1 with h1 | ⟨h1, rfl⟩
    · rw [h1]; exact hK ρ' u w' h2 h3 h4
    · rw [h1]; exact hK ρ' undef w' h2 h3 h4
  · rw [h1]
    refine ⟨(fun hh => by cases hh), callsIn_WR (h2.mono ?_)⟩
    rintro ed w' ⟨ρ', u, rfl, h3, h4, h5⟩
    exact hK ρ' u w' h3 h4 h5
  · rw [h1]
    refine ⟨(fun hh => by cases hh), RoundIn.mono h2 ?_⟩
    rintro ed w' ⟨ρ', u, rfl, h3, h4, h5⟩
    exact hK ρ' u w' h3 h4 h5

theorem evalOp_noDefer {C : Fn → List Value → Heap → Option (Value × Heap)} {e : Env} {o : Oper} {v : Value} (hev : evalOp P T C e o h = some (v, h')) : ∀ c, o.op ≠ .defer c := by
  intro c hc
  simp [evalOp, hc] at hev

theorem wanted_eq {ops : Array Oper} {o : Oper} {e : Env} {tmps : Array Value} (he : EnvR ρ e tmps) : Region.wanted o (yielded ops tmps) = wantedA ops o e := by
  unfold Region.wanted wantedA
  cases o.guard with
  | none => rfl
  | some g =>
    obtain ⟨j, b⟩ := g
    simp only [yielded]
    cases (ops[j]?).bind (·.dst) with
    | none => simp
    | some t =>
      simp only [Option.bind_some]
      have hv := he.2 t
      cases ht : tmps[t]? with
      | none =>
        have hlen : tmps.size ≤ t := by
          rcases Nat.lt_or_ge t tmps.size with hlt | hge
          · rw [Array.getElem?_eq_getElem hlt] at ht; cases ht
          · exact hge
        rw [Env.get_of_ge e t (by rw [he.1]; exact hlen)]
        rfl
      | some u =>
        have hu : tmps.getD t undef = u := by simp [ht]
        rw [hu] at hv
        generalize e.get t = x at hv
        cases hv <;> first | rfl | (cases b <;> rename_i c <;> cases c <;> rfl)

/-! ### The plain heap does not shrink -/
/-- What a step of the plain machine keeps. -/
structure Keeps (h h' : Heap) : Prop where
  size : h.size ≤ h'.size
  low : h'.low ≤ h.low
  get : ∀ A, A < h.size → A < h'.low → h'.get A = h.get A

theorem Keeps.refl (h : Heap) : Keeps h h := ⟨Nat.le_refl _, Nat.le_refl _, fun _ _ _ => rfl⟩
theorem Keeps.trans {h h1 h2 : Heap} (a : Keeps h h1) (b : Keeps h1 h2) : Keeps h h2 :=
  ⟨Nat.le_trans a.size b.size, Nat.le_trans b.low a.low, fun A h3 h4 => (b.get A (Nat.lt_of_lt_of_le h3 a.size) h4).trans (a.get A h3 (Nat.lt_of_lt_of_le h4 b.low))⟩
theorem Keeps.push (h : Heap) (b : Blk) : Keeps h (h.push b) := ⟨Nat.le_succ _, Nat.le_refl _, fun A h3 _ => by rw [Heap.get_push, if_neg (by omega)]⟩
theorem Keeps.set {h : Heap} {A : Nat} (b : Blk) (hA : A < h.size) : Keeps h (h.set A b) :=
  ⟨Nat.le_refl _, Nat.min_le_left _ _, fun A' _ h4 => by rw [Heap.low_set] at h4; rw [Heap.get_set _ _ _ _ hA, if_neg (by omega)]⟩

theorem writeA_keeps {A o : Nat} {vs : List Value} (hw : writeA A o vs h = some h') : Keeps h h' := by
  unfold writeA at hw
  split at hw
  · rename_i hg
    split at hw
    · cases hw; exact .set _ (Heap.lt_of_get hg)
    · cases hw
  · cases hw

theorem appendA_keeps {t : TypeId} {s x v : Value} (ha : appendA T t s x h = some (v, h')) : Keeps h h' := by
  unfold appendA at ha
  split at ha
  · simp only [Option.bind_eq_some_iff, Prod.exists] at ha
    obtain ⟨k, by', z, _, m, news, _, ha⟩ := ha
    split at ha
    · split at ha
      · cases ha; exact .refl _
      · split at ha
        · cases ha
        · split at ha
          · split at ha
            · split at ha
              · simp only [Option.map_eq_some_iff, Prod.mk.injEq] at ha
                obtain ⟨h1, hw, _, rfl⟩ := ha
                exact writeA_keeps hw
              · cases ha
            · cases ha
          · simp only [Option.bind_eq_some_iff] at ha
            obtain ⟨old, _, ha⟩ := ha
            split at ha
            · cases ha; exact .push _ _
            · split at ha
              · split at ha
                · rename_i hg
                  split at ha
                  · cases ha; exact (Keeps.set _ (Heap.lt_of_get hg)).trans (.push _ _)
                  · cases ha
                · cases ha
              · cases ha
    · cases ha
  · cases ha

theorem updateA_keeps {t : TypeId} {x k v : Value} (hr : updateA T t x k v h = some h') : Keeps h h' := by
  unfold updateA at hr
  split at hr
  · split at hr
    · rename_i hg
      split at hr
      · simp only [Option.bind_eq_some_iff] at hr
        obtain ⟨r, _, hr⟩ := hr
        split at hr
        · simp only [Option.bind_eq_some_iff] at hr
          obtain ⟨e, _, hr⟩ := hr
          split at hr
          · cases hr; exact .set _ (Heap.lt_of_get hg)
          · cases hr
        · cases hr; exact .set _ (Heap.lt_of_get hg)
      · cases hr
    · cases hr
  · cases hr

theorem toBytesA_keeps {d : TypeId} {x v : Value} (hr : toBytesA T d x h = some (v, h')) : Keeps h h' := by
  unfold toBytesA at hr
  split at hr
  · split at hr
    · split at hr
      · cases hr
      · cases hr; exact .push _ _
    · cases hr
  · cases hr
theorem entryA_keeps {t : TypeId} {x k v : Value} (hr : entryA T t x k h = some (v, h')) : Keeps h h' := by
  unfold entryA at hr
  split at hr
  · split at hr
    · rename_i hg
      split at hr
      · simp only [Option.bind_eq_some_iff] at hr
        obtain ⟨r, _, hr⟩ := hr
        split at hr
        · simp only [Option.bind_eq_some_iff] at hr
          obtain ⟨e, _, hr⟩ := hr
          split at hr
          · cases hr; exact .set _ (Heap.lt_of_get hg)
          · cases hr
        · simp only [Option.map_eq_some_iff, Prod.mk.injEq] at hr
          obtain ⟨z, _, _, rfl⟩ := hr
          exact .set _ (Heap.lt_of_get hg)
      · cases hr
    · cases hr
  · cases hr
theorem entryStoreA_keeps {x s v : Value} (hr : entryStoreA x s v h = some h') : Keeps h h' := by
  unfold entryStoreA at hr
  split at hr
  · split at hr
    · rename_i hg
      simp only [Option.map_eq_some_iff] at hr
      obtain ⟨i, _, rfl⟩ := hr
      exact .set _ (Heap.lt_of_get hg)
    · cases hr
  · cases hr

theorem deleteA_keeps {t : TypeId} {x k : Value} (hr : deleteA T t x k h = some h') : Keeps h h' := by
  unfold deleteA at hr
  split at hr
  · split at hr
    · cases hr; exact .refl _
    · cases hr
  · split at hr
    · rename_i hg
      split at hr
      · simp only [Option.bind_eq_some_iff] at hr
        obtain ⟨r, _, hr⟩ := hr
        split at hr
        · cases hr; exact .set _ (Heap.lt_of_get hg)
        · cases hr; exact .set _ (Heap.lt_of_get hg)
      · cases hr
    · cases hr
  · cases hr

def Grows (C : Fn → List Value → Heap → Option (Value × Heap)) : Prop := ∀ f args h v h', C f args h = some (v, h') → Keeps h h'

theorem evalOp_keeps {C : Fn → List Value → Heap → Option (Value × Heap)} (hC : Grows C) {e : Env} {o : Oper} {v : Value} (hev : evalOp P T C e o h = some (v, h')) : Keeps h h' := by
  have hmap : ∀ {r : Option Value}, (r.map fun x => (x, h)) = some (v, h') → Keeps h h' := by
    intro r hr
    simp only [Option.map_eq_some_iff, Prod.mk.injEq] at hr
    obtain ⟨_, _, _, rfl⟩ := hr
    exact .refl _
  have hpure : pureOp P e o h = some (v, h') → Keeps h h' := by
    intro hp
    unfold pureOp at hp
    split at hp
    · split at hp
      · split at hp
        · cases hp; exact .refl _
        · cases hp
      · cases hp
    · cases hp
  unfold evalOp at hev
  dsimp only at hev
  split at hev
  · cases hev; exact .refl _
  · cases hev; exact .refl _
  · split at hev
    · cases hev; exact .refl _
    · cases hev
  · simp only [Option.map_eq_some_iff, Prod.exists] at hev
    obtain ⟨_, _, z, _, hev⟩ := hev
    have e2 := congrArg Prod.snd hev
    simp only at e2
    subst e2
    exact .push _ _
  · simp only [Option.some.injEq] at hev
    have e2 := congrArg Prod.snd hev
    simp only at e2
    subst e2
    exact .push _ _
  · exact hmap hev
  · unfold buildSliceA at hev
    split at hev
    · simp only [Option.bind_eq_some_iff, Prod.exists] at hev
      obtain ⟨_, _, _, _, hev⟩ := hev
      split at hev
      · cases hev
      · simp only [Option.map_eq_some_iff, Prod.mk.injEq] at hev
        obtain ⟨_, _, _, rfl⟩ := hev
        exact .push _ _
    · cases hev
  · exact hmap hev
  · simp only [Option.map_eq_some_iff, Prod.mk.injEq] at hev
    obtain ⟨h1, hr, _, rfl⟩ := hev
    unfold storeA at hr
    split at hr
    · simp only [Option.bind_eq_some_iff] at hr
      obtain ⟨_, _, hr⟩ := hr
      split at hr
      · exact writeA_keeps hr
      · cases hr
    · cases hr
  · split at hev
    · cases hev; exact .refl _
    · cases hev; exact .refl _
    · cases hev; exact .refl _
    · cases hev
  · exact hmap hev
  · split at hev
    · cases hev; exact .refl _
    · cases hev
  · unfold makeSliceA at hev
    split at hev
    · simp only [Option.bind_eq_some_iff, Prod.exists] at hev
      obtain ⟨_, _, _, _, hev⟩ := hev
      split at hev
      · cases hev; exact .push _ _
      · cases hev
    · cases hev
  · exact hmap hev
  · exact hmap hev
  · exact hmap hev
  · exact hmap hev
  · split at hev
    · exact hmap hev
    · cases hev
  · exact hpure hev
  · split at hev
    · exact hmap hev
    · split at hev
      · split at hev
        · exact toBytesA_keeps hev
        · cases hev
      · exact hpure hev
  · exact hpure hev
  · split at hev
    · split at hev
      · split at hev
        · exact appendA_keeps hev
        · cases hev
      · cases hev
    · split at hev
      · unfold copyA at hev
        split at hev
        · simp only [Option.bind_eq_some_iff, Prod.exists] at hev
          obtain ⟨_, _, _, _, _, hev⟩ := hev
          split at hev
          · cases hev; exact .refl _
          · split at hev
            · simp only [Option.map_eq_some_iff, Prod.mk.injEq] at hev
              obtain ⟨h1, hw, _, rfl⟩ := hev
              exact writeA_keeps hw
            · cases hev
        · cases hev
      · cases hev
    · split at hev
      · simp only [Option.map_eq_some_iff, Prod.mk.injEq] at hev
        obtain ⟨h1, hr, _, rfl⟩ := hev
        unfold clearA at hr
        split at hr
        · split at hr
          · cases hr; exact .refl _
          · simp only [Option.bind_eq_some_iff, Prod.exists] at hr
            obtain ⟨_, _, _, _, hr⟩ := hr
            split at hr
            · exact writeA_keeps hr
            · cases hr
        · cases hr
      · cases hev
    · split at hev
      · exact hmap hev
      · cases hev
    · exact hpure hev
    · exact hpure hev
    · split at hev
      · simp only [Option.map_eq_some_iff, Prod.mk.injEq] at hev
        obtain ⟨h1, hr, _, rfl⟩ := hev
        exact deleteA_keeps hr
      · cases hev
    · split at hev
      · exact hmap hev
      · cases hev
    · split at hev
      · simp only [Option.bind_eq_some_iff, Prod.exists] at hev
        obtain ⟨_, _, _, hev⟩ := hev
        exact hC _ _ _ _ _ hev
      · cases hev
    · split at hev
      · exact hC _ _ _ _ _ hev
      · split at hev
        · exact hC _ _ _ _ _ hev
        · cases hev
      · cases hev
    · cases hev
  · split at hev
    · cases hev; exact .push _ _
    · split at hev
      · cases hev; exact .push _ _
      · cases hev
  · exact hmap hev
  · simp only [Option.map_eq_some_iff, Prod.mk.injEq] at hev
    obtain ⟨h1, hr, _, rfl⟩ := hev
    exact updateA_keeps hr
  · simp only [Option.map_eq_some_iff, Prod.mk.injEq] at hev
    obtain ⟨h1, hr, _, rfl⟩ := hev
    exact updateA_keeps hr
  · exact entryA_keeps hev
  · simp only [Option.map_eq_some_iff, Prod.mk.injEq] at hev
    obtain ⟨h1, hr, _, rfl⟩ := hev
    exact entryStoreA_keeps hr
  · exact hmap hev
  · exact hmap hev
  · cases hev

theorem evalOps_keeps {C : Fn → List Value → Heap → Option (Value × Heap)} (hC : Grows C) {ops : Array Oper} : ∀ (l : List Oper) (e e' : Env) (h h' : Heap), evalOps P T C ops l e h = some (e', h') → Keeps h h'
  | [], e, e', h, h', hev => by simp only [evalOps, Option.some.injEq, Prod.mk.injEq] at hev; obtain ⟨_, rfl⟩ := hev; exact .refl _
  | o :: l, e, e', h, h', hev => by
    simp only [evalOps] at hev
    split at hev
    · split at hev
      · rename_i v h1 h2
        exact (evalOp_keeps hC h2).trans (evalOps_keeps hC l _ _ _ _ hev)
      · cases hev
    · exact evalOps_keeps hC l _ _ _ _ hev

theorem evalOps_sound (hT : T.Fits P) {C : Fn → List Value → Heap → Option (Value × Heap)} {gs : List Nat} (hC : CS P gs C) (hg : Grows C) {ops : Array Oper} {Q : Exit → Act → World → Prop} {rl : Option Nat} {dd : List Deferred} :
    ∀ (l : List Oper) (e e' : Env) (h h' : Heap) (ρ : Rho) (a : Act) (w : World), evalOps P T C ops l e h = some (e', h') → (∀ o ∈ l, OpOk ρ o) → GlobOk gs ρ → Sim ρ h w → Free ρ h h' → EnvR ρ e a.tmps → a.defers = dd →
      (∀ ρ' a' w', Fr ρ ρ' h h' w w' → Sim ρ' h' w' → EnvR ρ' e' a'.tmps → a'.defers = dd → Q .normal a' w') → wpListIn (WR rl) 0 P ops Q l a w
  | [], e, e', h, h', ρ, a, w, hev, _, _, hs, _, he, hd, hQ => by
    simp only [evalOps, Option.some.injEq, Prod.mk.injEq] at hev
    obtain ⟨rfl, rfl⟩ := hev
    exact hQ ρ a w (Fr.refl _ _ _) hs he hd
  | o :: l, e, e', h, h', ρ, a, w, hev, hok, hG, hs, hf, he, hd, hQ => by
    have hok1 := hok o (by simp)
    have hok2 : ∀ q ∈ l, OpOk ρ q := fun q hq => hok q (by simp [hq])
    simp only [evalOps] at hev
    unfold wpListIn
    rw [wanted_eq he]
    split at hev
    · rename_i hw
      rw [if_pos hw]
      split at hev
      · rename_i v h1 h2
        have hsz := (evalOps_keeps hg l _ _ _ _ hev).size
        refine (evalOp_sound hT hC hG hs he hok1 (hf.left hsz) h2).wp (evalOp_noDefer h2) fun ρ1 u w1 f1 s1 v1 => ?_
        refine evalOps_sound hT hC hg l _ _ _ _ ρ1 _ w1 hev (fun q hq => (hok2 q hq).mono f1.grow) (hG.mono f1.grow) s1 (hf.right f1) ((he.mono f1.grow).put v1 o.dst) (by cases o.dst <;> exact hd) ?_
        intro ρ2 a2 w2 f2 s2 e2 d2
        exact hQ ρ2 a2 w2 (f1.trans f2) s2 e2 d2
      · cases hev
    · rename_i hw
      rw [if_neg hw]
      refine ⟨fun _ _ => trivial, ?_⟩
      exact evalOps_sound hT hC hg l _ _ _ _ ρ _ w hev hok2 hG hs hf (he.put (.undef ρ) o.dst) (by cases o.dst <;> exact hd) hQ

def Ex.to : Ex → Exit
  | .normal => .normal
  | .exit id => .exit id
  | .ret => .ret

/-- What a drawn region of the plain machine stands for. -/
def DS (P : Program) (gs : List Nat) (D : Array Oper → Env → Heap → Option (Env × Heap)) : Prop :=
  ∀ (rl : Option Nat) (id : Nat) (ops : Array Oper) (e e' : Env) (h h' : Heap) (ρ : Rho) (a : Act) (w : World) (Q : Exit → Act → World → Prop), D ops e h = some (e', h') → (∀ o ∈ ops.toList, OpOk ρ o) → GlobOk gs ρ → Sim ρ h w → Free ρ h h' → EnvR ρ e a.tmps →
    (∀ ρ' a' w', Fr ρ ρ' h h' w w' → Sim ρ' h' w' → EnvR ρ' e' a'.tmps → a'.defers = a.defers → Q .normal a' w') → (Code.region id ops true).wpIn (WR rl) 0 P Q a w
def DGrows (D : Array Oper → Env → Heap → Option (Env × Heap)) : Prop := ∀ ops e h e' h', D ops e h = some (e', h') → Keeps h h'

theorem iter_keeps {f : Env → Heap → Option (Ex × Env × Heap)} (hf : ∀ e h x e' h', f e h = some (x, e', h') → Keeps h h') : ∀ (n : Nat) (e : Env) (h : Heap) (x : Ex) (e' : Env) (h' : Heap), iter f n e h = some (x, e', h') → Keeps h h'
  | 0, _, _, _, _, _, hi => by simp [iter] at hi
  | n + 1, e, h, x, e', h', hi => by
    simp only [iter] at hi
    split at hi
    · rename_i e1 h1 h2
      exact (hf _ _ _ _ _ h2).trans (iter_keeps hf n _ _ _ _ _ hi)
    · exact hf _ _ _ _ _ hi

theorem afterLoop_keeps {l : Nat} {e e' : Env} {x : Ex} (hev : afterLoop l e h = some (x, e', h')) : Keeps h h' := by
  unfold afterLoop at hev
  split at hev
  · rename_i hg
    split at hev
    · cases hev
    · split at hev
      · cases hev; exact .set _ (Heap.lt_of_get hg)
      · cases hev; exact .set _ (Heap.lt_of_get hg)
      · cases hev; exact .set _ (Heap.lt_of_get hg)
      · cases hev
  · cases hev
theorem rangeA_keeps {C : Fn → List Value → Heap → Option (Value × Heap)} (hC : Grows C) {rd : Option Nat} {g : Value} {ps : List Tmp} {assign body : Code} {e e' : Env} {x : Ex} (hev : rangeA T C rd g ps assign body e h = some (x, e', h')) : Keeps h h' := by
  unfold rangeA at hev
  split at hev
  · split at hev
    · split at hev
      · rename_i hc
        exact ((Keeps.push _ _).trans (hC _ _ _ _ _ hc)).trans (afterLoop_keeps hev)
      · cases hev
    · cases hev
  · cases hev

theorem evalCode_keeps {C : Fn → List Value → Heap → Option (Value × Heap)} {D : Array Oper → Env → Heap → Option (Env × Heap)} (hC : Grows C) (hD : DGrows D) (rd : Option Nat) (fuel : Nat) : ∀ (c : Code) (e : Env) (h : Heap) (x : Ex) (e' : Env) (h' : Heap), evalCode P T C D rd fuel c e h = some (x, e', h') → Keeps h h' := by
  intro c
  induction c with
  | skip => intro e h x e' h' hev; simp only [evalCode, Option.some.injEq, Prod.mk.injEq] at hev; obtain ⟨_, _, rfl⟩ := hev; exact .refl _
  | region id ops d =>
    intro e h x e' h' hev
    simp only [evalCode, Option.map_eq_some_iff, Prod.exists, Prod.mk.injEq] at hev
    obtain ⟨e1, h1, hr, _, rfl, rfl⟩ := hev
    split at hr
    · exact hD _ _ _ _ _ hr
    · exact evalOps_keeps hC _ _ _ _ _ hr
  | seq a b iha ihb =>
    intro e h x e' h' hev
    simp only [evalCode] at hev
    split at hev
    · rename_i e1 h1 h2
      exact (iha _ _ _ _ _ h2).trans (ihb _ _ _ _ _ hev)
    · exact iha _ _ _ _ _ hev
  | cond c a b iha ihb =>
    intro e h x e' h' hev
    simp only [evalCode] at hev
    split at hev
    · exact iha _ _ _ _ _ hev
    · exact ihb _ _ _ _ _ hev
    · cases hev
  | block id c ih =>
    intro e h x e' h' hev
    simp only [evalCode] at hev
    split at hev
    · rename_i i e1 h1 h2
      have := ih _ _ _ _ _ h2
      split at hev <;> (simp only [Option.some.injEq, Prod.mk.injEq] at hev; obtain ⟨_, _, rfl⟩ := hev; exact this)
    · exact ih _ _ _ _ _ hev
  | loop c ih => intro e h x e' h' hev; simp only [evalCode] at hev; exact iter_keeps ih _ _ _ _ _ _ hev
  | exit id => intro e h x e' h' hev; simp only [evalCode, Option.some.injEq, Prod.mk.injEq] at hev; obtain ⟨_, _, rfl⟩ := hev; exact .refl _
  | ret => intro e h x e' h' hev; simp only [evalCode, Option.some.injEq, Prod.mk.injEq] at hev; obtain ⟨_, _, rfl⟩ := hev; exact .refl _
  | label l => intro e h x e' h' hev; simp only [evalCode, Option.some.injEq, Prod.mk.injEq] at hev; obtain ⟨_, _, rfl⟩ := hev; exact .refl _
  | rangeFunc f ps a b _ _ => intro e h x e' h' hev; exact rangeA_keeps hC hev
  | scope c ih => intro e h x e' h' hev; exact ih _ _ _ _ _ hev
  | goto l => intro e h x e' h' hev; simp [evalCode] at hev
  | refuse s => intro e h x e' h' hev; simp [evalCode] at hev

/-- A text without ranges over functions. -/
def noRange : Code → Bool
  | .seq a b => noRange a && noRange b
  | .cond _ a b => noRange a && noRange b
  | .block _ c => noRange c
  | .loop c => noRange c
  | .scope c => noRange c
  | .rangeFunc _ _ _ _ => false
  | _ => true
/-- The marks of ranges over functions on a frame's deferred calls. -/
def Marks (n0 : Nat) (B : List Deferred) (nr : Bool) (ρ : Rho) (w : World) (ds : List Deferred) : Prop :=
  ∃ rs : List Nat, ds = rs.map (fun r => { target := .collected r, args := #[] }) ++ B ∧ rs.Nodup ∧ (nr = true → rs = []) ∧ ∀ r ∈ rs, n0 ≤ r ∧ w.heap[r]? = some (.deferred (some [])) ∧ ∀ A L, ρ A = some L → L.b ≠ r
theorem Marks.nil {n0 : Nat} {B : List Deferred} {nr : Bool} : Marks n0 B nr ρ w B := ⟨[], rfl, .nil, fun _ => rfl, by intro r hr; cases hr⟩
theorem Marks.step {n0 : Nat} {B : List Deferred} {nr : Bool} {ρ' : Rho} {w' : World} {ds : List Deferred} (hm : Marks n0 B nr ρ w ds) (f : Fr ρ ρ' h h' w w') : Marks n0 B nr ρ' w' ds := by
  obtain ⟨rs, h1, h2, h0, h3⟩ := hm
  refine ⟨rs, h1, h2, h0, fun r hr => ?_⟩
  obtain ⟨a1, a2, a3⟩ := h3 r hr
  have hlt : r < w.heap.size := (Array.getElem?_eq_some_iff.1 a2).1
  refine ⟨a1, (f.keep r hlt fun A L hA hb => (a3 A L hA hb).elim).trans a2, fun A L hA hb => ?_⟩
  cases hρ : ρ A with
  | some L0 =>
    have e : L0 = L := by have := f.grow A L0 hρ; rw [hA] at this; exact (Option.some.inj this).symm
    subst e
    exact a3 A L0 hρ hb
  | none =>
    rcases (f.fresh A L hA hρ).2.2 with h4 | ⟨A0, L0, h4, h5, _⟩
    · omega
    · exact a3 A0 L0 h4 (h5.trans hb)

/-- The round that a frame is of. -/
def RdR (ρ : Rho) : Option Nat → Option Nat → Prop
  | none, none => True
  | some A, some l => ∃ L, ρ A = some L ∧ L.b = l
  | _, _ => False
theorem RdR.mono {ρ' : Rho} (hg : ∀ A L, ρ A = some L → ρ' A = some L) : ∀ {rd rl : Option Nat}, RdR ρ rd rl → RdR ρ' rd rl
  | none, none, _ => trivial
  | some _, some _, ⟨L, h1, h2⟩ => ⟨L, hg _ _ h1, h2⟩
  | none, some _, hh => hh.elim
  | some _, none, hh => hh.elim

theorem stepR_scope {b : Frame} {a : Act} {k : List Item} {cs : List Frame} {c : Code} : step P (lone (b.atR a (.code (.scope c) :: k)) cs w) = .next (lone (b.atR a (.code c :: .inScope c :: k)) cs w) :=
  step_lone_go (by simp [stepG, stepG.exec, Frame.atR])
theorem stepR_inScope {b : Frame} {a : Act} {k : List Item} {cs : List Frame} {c : Code} : step P (lone (b.atR a (.inScope c :: k)) cs w) = .next (lone (b.atR a k) cs w) :=
  step_lone_go (by simp [stepG, stepG.exec, Frame.atR])
theorem wpIn_scope_straight {F : Fence} {n : Nat} {Q : Exit → Act → World → Prop} {a : Act} {c : Code} (hc : c.wpIn F n P (Exit.noGoto Q) a w) : (Code.scope c).wpIn F n P Q a w := by
  intro b k cs hro hb hr
  have h0 : (lone (b.atR a (.code (.scope c) :: k)) cs w).fenced P F := fenced_calm hb hr rfl
  obtain ⟨e, a₁, w₁, hq, harr⟩ := hc b (.inScope c :: k) cs hro hb hr
  cases e with
  | normal => exact ⟨.normal, a₁, w₁, hq, .head h0 stepR_scope (StepsIn.trans harr (.one (fenced_calm hb hr rfl) stepR_inScope))⟩
  | exit id =>
    have hx : exitTo id (.inScope c :: k) = exitTo id k := by simp [exitTo]
    exact ⟨.exit id, a₁, w₁, hq, fun k' hk => .head h0 stepR_scope (harr.1 k' (by rw [hx]; exact hk)),
      fun hr' hk => let ⟨k₁, h1, h2⟩ := harr.2 hr' (by rw [hx]; exact hk); ⟨k₁, h1, .head h0 stepR_scope h2⟩⟩
  | goto l => exact hq.elim
  | ret => exact ⟨_, a₁, w₁, hq, .of_steps (.one h0 stepR_scope) harr⟩
  | panic ch => exact ⟨_, a₁, w₁, hq, .of_steps (.one h0 stepR_scope) harr⟩
  | outgrown => exact ⟨_, a₁, w₁, hq, .of_steps (.one h0 stepR_scope) harr⟩

theorem putObj_heap (w : World) (r : Nat) (o : Obj) : (w.putObj r o).heap = w.heap.setIfInBounds r o := rfl
theorem putObj_at {r : Nat} {o : Obj} (hlt : r < w.heap.size) : (w.putObj r o).heap[r]? = some o := by rw [putObj_heap]; simp [hlt]
theorem putObj_other {r k : Nat} {o : Obj} (hk : k ≠ r) : (w.putObj r o).heap[k]? = w.heap[k]? := by
  rw [putObj_heap, Array.getElem?_setIfInBounds_ne (Ne.symm hk)]

/-- The record of a loop is turned. -/
theorem loop_sound (hs : Sim ρ h w) {A : Nat} {L : Loc} (hA : ρ A = some L) {env : List Value} {ps : List Tmp} {assign body : Code} {st : LoopState} {pend : Option Code} (hg : h.get A = some (.loop env ps assign body st pend)) :
    ∃ l : Loop, w.heap[L.b]? = some (.loop l) ∧ l.state = st ∧ l.pending = pend ∧ l.params.toList = ps ∧ l.assign = assign ∧ l.body = body ∧ EnvR ρ env l.tmps ∧ CodeOk ρ assign ∧ CodeOk ρ body ∧
      ∀ st' pend', Fr ρ ρ h (h.set A (.loop env ps assign body st' pend')) w (w.putObj L.b (.loop { l with state := st', pending := pend' })) ∧ Sim ρ (h.set A (.loop env ps assign body st' pend')) (w.putObj L.b (.loop { l with state := st', pending := pend' })) := by
  have hb := hs.blk A L hA
  rw [hg] at hb
  obtain ⟨l, h1, h2, h3, h4, h5, h6, h7, h8, h9⟩ := hb
  refine ⟨l, h1, h2, h3, h4, h5, h6, h7, h8, h9, fun st' pend' => ?_⟩
  have hlt : L.b < w.heap.size := (Array.getElem?_eq_some_iff.1 h1).1
  exact setB_sound hs hA hg (by simp) (by simp) rfl rfl rfl (by rw [putObj_heap]; simp) (fun q hq => putObj_other hq) ⟨_, putObj_at hlt, rfl, rfl, h4, h5, h6, h7, h8, h9⟩

theorem evalCode_sound (hT : T.Fits P) {C : Fn → List Value → Heap → Option (Value × Heap)} {D : Array Oper → Env → Heap → Option (Env × Heap)} {gs : List Nat} (hC : CS P gs C) (hg : Grows C) (hD : DS P gs D) (hdg : DGrows D) (rd rl : Option Nat) (n0 : Nat) (B : List Deferred) (nr : Bool) (fuel : Nat) :
    ∀ (c : Code) (e : Env) (h : Heap) (x : Ex) (e' : Env) (h' : Heap) (ρ : Rho) (a : Act) (w : World) (Q : Exit → Act → World → Prop), evalCode P T C D rd fuel c e h = some (x, e', h') → CodeOk ρ c → (nr = true → noRange c = true) → GlobOk gs ρ → Sim ρ h w → Free ρ h h' → EnvR ρ e a.tmps → Marks n0 B nr ρ w a.defers → RdR ρ rd rl → n0 ≤ w.heap.size →
      (∀ ρ' a' w', Fr ρ ρ' h h' w w' → Sim ρ' h' w' → EnvR ρ' e' a'.tmps → Marks n0 B nr ρ' w' a'.defers → Q x.to a' w') → c.wpIn (WR rl) 0 P Q a w := by
  intro c
  induction c with
  | skip =>
    intro e h x e' h' ρ a w Q hev _ _ _ hs _ he hd _ _ hQ
    simp only [evalCode, Option.some.injEq, Prod.mk.injEq] at hev
    obtain ⟨rfl, rfl, rfl⟩ := hev
    exact wpIn_skip (hQ ρ a w (Fr.refl _ _ _) hs he hd)
  | region id ops d =>
    intro e h x e' h' ρ a w Q hev hok _ hG hs hf he hd _ _ hQ
    simp only [evalCode, Option.map_eq_some_iff, Prod.exists, Prod.mk.injEq] at hev
    obtain ⟨e1, h1, hr, rfl, rfl, rfl⟩ := hev
    have hQ' : ∀ ρ' a' w', Fr ρ ρ' h h1 w w' → Sim ρ' h1 w' → EnvR ρ' e1 a'.tmps → a'.defers = a.defers → Q .normal a' w' := fun ρ' a' w' f1 s1 r1 d1 => hQ ρ' a' w' f1 s1 r1 (by rw [d1]; exact hd.step f1)
    cases d with
    | true =>
      simp only [if_true] at hr
      exact hD rl id ops e e1 h h1 ρ a w Q hr hok hG hs hf he hQ'
    | false =>
      simp only [Bool.false_eq_true, if_false] at hr
      exact wpIn_region_list (evalOps_sound hT hC hg ops.toList e e1 h h1 ρ a w hr hok hG hs hf he rfl hQ')
  | seq c1 c2 ih1 ih2 =>
    intro e h x e' h' ρ a w Q hev hok hnr hG hs hf he hd hrd hn hQ
    simp only [evalCode] at hev
    have hnr1 : nr = true → noRange c1 = true := fun q => by have := hnr q; simp only [noRange, Bool.and_eq_true] at this; exact this.1
    have hnr2 : nr = true → noRange c2 = true := fun q => by have := hnr q; simp only [noRange, Bool.and_eq_true] at this; exact this.2
    refine wpIn_seq ?_
    split at hev
    · rename_i e1 h1 h2
      have hsz := (evalCode_keeps hg hdg rd fuel c2 _ _ _ _ _ hev).size
      refine ih1 e h .normal e1 h1 ρ a w _ h2 hok.1 hnr1 hG hs (hf.left hsz) he hd hrd hn fun ρ1 a1 w1 f1 s1 r1 d1 => ?_
      exact ih2 e1 h1 x e' h' ρ1 a1 w1 Q hev (hok.2.mono f1.grow) hnr2 (hG.mono f1.grow) s1 (hf.right f1) r1 d1 (hrd.mono f1.grow) (Nat.le_trans hn f1.size) fun ρ2 a2 w2 f2 s2 r2 d2 => hQ ρ2 a2 w2 (f1.trans f2) s2 r2 d2
    · rename_i hne
      refine ih1 e h x e' h' ρ a w _ hev hok.1 hnr1 hG hs hf he hd hrd hn fun ρ1 a1 w1 f1 s1 r1 d1 => ?_
      cases x with
      | normal => exact (hne e' h' hev).elim
      | exit id => exact hQ ρ1 a1 w1 f1 s1 r1 d1
      | ret => exact hQ ρ1 a1 w1 f1 s1 r1 d1
  | cond c c1 c2 ih1 ih2 =>
    intro e h x e' h' ρ a w Q hev hok hnr hG hs hf he hd hrd hn hQ
    have hc := he.operand hok.1
    have hnr1 : nr = true → noRange c1 = true := fun q => by have := hnr q; simp only [noRange, Bool.and_eq_true] at this; exact this.1
    have hnr2 : nr = true → noRange c2 = true := fun q => by have := hnr q; simp only [noRange, Bool.and_eq_true] at this; exact this.2
    simp only [evalCode] at hev
    split at hev
    · rename_i hb
      rw [hb] at hc
      exact wpIn_cond_true (hc.eq_plain rfl) (ih1 e h x e' h' ρ a w Q hev hok.2.1 hnr1 hG hs hf he hd hrd hn hQ)
    · rename_i hb
      rw [hb] at hc
      exact wpIn_cond_false (hc.eq_plain rfl) (ih2 e h x e' h' ρ a w Q hev hok.2.2 hnr2 hG hs hf he hd hrd hn hQ)
    · cases hev
  | block id c ih =>
    intro e h x e' h' ρ a w Q hev hok hnr hG hs hf he hd hrd hn hQ
    simp only [evalCode] at hev
    refine wpIn_block ?_
    split at hev
    · rename_i i e1 h1 h2
      split at hev
      · rename_i hi
        simp only [Option.some.injEq, Prod.mk.injEq] at hev
        obtain ⟨rfl, rfl, rfl⟩ := hev
        refine ih e h (.exit i) e1 h1 ρ a w _ h2 hok hnr hG hs hf he hd hrd hn fun ρ1 a1 w1 f1 s1 r1 d1 => ?_
        simp only [Ex.to, Exit.inBlock, if_pos hi]
        exact hQ ρ1 a1 w1 f1 s1 r1 d1
      · rename_i hi
        simp only [Option.some.injEq, Prod.mk.injEq] at hev
        obtain ⟨rfl, rfl, rfl⟩ := hev
        refine ih e h (.exit i) e1 h1 ρ a w _ h2 hok hnr hG hs hf he hd hrd hn fun ρ1 a1 w1 f1 s1 r1 d1 => ?_
        simp only [Ex.to, Exit.inBlock, if_neg hi]
        exact hQ ρ1 a1 w1 f1 s1 r1 d1
    · rename_i hne
      refine ih e h x e' h' ρ a w _ hev hok hnr hG hs hf he hd hrd hn fun ρ1 a1 w1 f1 s1 r1 d1 => ?_
      cases x with
      | normal => exact hQ ρ1 a1 w1 f1 s1 r1 d1
      | exit i => exact (hne i e' h' hev).elim
      | ret => exact hQ ρ1 a1 w1 f1 s1 r1 d1
  | loop c ih =>
    intro e h x e' h' ρ a w Q hev hok hnr hG hs hf he hd hrd hn hQ
    simp only [evalCode] at hev
    refine wpIn_loop_rounds fuel ?_
    have key : ∀ (n : Nat) (e : Env) (h : Heap) (ρ : Rho) (a : Act) (w : World), iter (evalCode P T C D rd fuel c) n e h = some (x, e', h') → CodeOk ρ c → GlobOk gs ρ → Sim ρ h w → Free ρ h h' → EnvR ρ e a.tmps → Marks n0 B nr ρ w a.defers → RdR ρ rd rl → n0 ≤ w.heap.size →
        (∀ ρ' a' w', Fr ρ ρ' h h' w w' → Sim ρ' h' w' → EnvR ρ' e' a'.tmps → Marks n0 B nr ρ' w' a'.defers → Q x.to a' w') → Code.roundsIn (WR rl) 0 P c Q n a w := by
      intro n
      induction n with
      | zero => intro e h ρ a w hi; simp [iter] at hi
      | succ n ihn =>
        intro e h ρ a w hi hok hG hs hf he hd hrd hn hQ
        simp only [iter] at hi
        rw [roundsIn_succ]
        split at hi
        · rename_i e1 h1 h2
          have hsz := (iter_keeps (evalCode_keeps (P := P) (T := T) hg hdg rd fuel c) n _ _ _ _ _ hi).size
          refine ih e h .normal e1 h1 ρ a w _ h2 hok hnr hG hs (hf.left hsz) he hd hrd hn fun ρ1 a1 w1 f1 s1 r1 d1 => ?_
          exact ihn e1 h1 ρ1 a1 w1 hi (hok.mono f1.grow) (hG.mono f1.grow) s1 (hf.right f1) r1 d1 (hrd.mono f1.grow) (Nat.le_trans hn f1.size) fun ρ2 a2 w2 f2 s2 r2 d2 => hQ ρ2 a2 w2 (f1.trans f2) s2 r2 d2
        · rename_i hne
          refine ih e h x e' h' ρ a w _ hi hok hnr hG hs hf he hd hrd hn fun ρ1 a1 w1 f1 s1 r1 d1 => ?_
          cases x with
          | normal => exact (hne e' h' hi).elim
          | exit id => exact hQ ρ1 a1 w1 f1 s1 r1 d1
          | ret => exact hQ ρ1 a1 w1 f1 s1 r1 d1
    exact key fuel e h ρ a w hev hok hG hs hf he hd hrd hn hQ
  | exit id =>
    intro e h x e' h' ρ a w Q hev _ _ _ hs _ he hd _ _ hQ
    simp only [evalCode, Option.some.injEq, Prod.mk.injEq] at hev
    obtain ⟨rfl, rfl, rfl⟩ := hev
    exact wpIn_exit (hQ ρ a w (Fr.refl _ _ _) hs he hd)
  | ret =>
    intro e h x e' h' ρ a w Q hev _ _ _ hs _ he hd _ _ hQ
    simp only [evalCode, Option.some.injEq, Prod.mk.injEq] at hev
    obtain ⟨rfl, rfl, rfl⟩ := hev
    exact wpIn_ret (hQ ρ a w (Fr.refl _ _ _) hs he hd)
  | label l =>
    intro e h x e' h' ρ a w Q hev _ _ _ hs _ he hd _ _ hQ
    simp only [evalCode, Option.some.injEq, Prod.mk.injEq] at hev
    obtain ⟨rfl, rfl, rfl⟩ := hev
    exact wpIn_label (hQ ρ a w (Fr.refl _ _ _) hs he hd)
  | rangeFunc g ps assign body _ _ =>
    intro e h x e' h' ρ a w Q hev hok hnr hG hs hf he hd hrd hn hQ
    simp only [evalCode] at hev
    have hnr0 : ¬ nr = true := fun q => by have := hnr q; simp [noRange] at this
    have hgv := he.operand hok.1
    unfold rangeA at hev
    split at hev
    · rename_i f first captured hge
      split at hev
      · rename_i har
        simp only [Bool.and_eq_true] at har
        obtain ⟨har, hbody⟩ := har
        split at hev
        · rename_i r0 h2 hcall
          rw [hge] at hgv
          generalize hag : a.eval g = ag at hgv
          cases hgv with
          | func _ q1 q2 q3 q4 =>
            rename_i first' captured'
            have hv1 : VRs ρ first.toList first'.toList := ⟨by simpa using q1, fun i x y hx hy => q3 i x y (by simpa using hx) (by simpa using hy)⟩
            have hv2 : VRs ρ captured.toList captured'.toList := ⟨by simpa using q2, fun i x y hx hy => q4 i x y (by simpa using hx) (by simpa using hy)⟩
            have hk2 := hg _ _ _ _ _ hcall
            have hk3 := afterLoop_keeps hev
            have hpush : (h.push (.loop e ps.toList assign body .ready none)).size = h.size + 1 := rfl
            have hsz1 := hk2.size
            have hsz2 := hk3.size
            have hnone : ρ h.size = none := hf h.size (Nat.le_refl _) (by omega)
            refine wpIn_rangeFunc fun fn _ => ?_
            /- the record is laid -/
            have henter : ∃ (l : Nat) (mark : List Deferred) (w1 : World) (lo : Loop), (Instr.enterLoop fn a.tmps ps assign body (WR rl).round).run P w = .ok (l, mark) w1 ∧ w.heap.size ≤ l ∧ w1.heap[l]? = some (.loop lo) ∧
                lo.state = .ready ∧ lo.pending = none ∧ lo.params = ps ∧ lo.assign = assign ∧ lo.body = body ∧ lo.tmps = a.tmps ∧ (∀ k, k < w.heap.size → w1.heap[k]? = w.heap[k]?) ∧ w.heap.size ≤ w1.heap.size ∧ w1.os = w.os ∧ w1.tape = w.tape ∧ w1.output = w.output ∧
                (∀ ρ1, (∀ A L, ρ1 A = some L → ρ A = some L ∨ L.b = l) → Marks n0 B nr ρ1 w1 (mark ++ a.defers)) := by
              cases rl with
              | none =>
                refine ⟨_, _, _, { state := .ready, pending := none, fn, tmps := a.tmps, params := ps, assign, body, defers := w.heap.size }, run_enterLoop_outer fn a.tmps ps assign body, Nat.le_succ _, by rw [World.alloc_heap, World.alloc_heap, Array.getElem?_push, if_pos (by simp)], rfl, rfl, rfl, rfl, rfl, rfl, ?_, by simp [World.alloc_heap]; omega, rfl, rfl, rfl, ?_⟩
                · intro k hk
                  rw [World.alloc_heap, World.alloc_heap, Array.getElem?_push, if_neg (by simp; omega), Array.getElem?_push, if_neg (by omega)]
                · intro ρ1 hρ1
                  obtain ⟨rs, m1, m2, _, m3⟩ := hd
                  refine ⟨w.heap.size :: rs, by simp [m1], ?_, fun q => (hnr0 q).elim, ?_⟩
                  · refine List.nodup_cons.2 ⟨fun hmem => ?_, m2⟩
                    have := (Array.getElem?_eq_some_iff.1 (m3 _ hmem).2.1).1
                    omega
                  · intro r hr
                    rcases List.mem_cons.1 hr with rfl | hr
                    · refine ⟨hn, by simp [World.alloc_heap, Array.getElem?_push], fun A L hA hb => ?_⟩
                      rcases hρ1 A L hA with h4 | h4
                      · have := hs.lt h4; omega
                      · omega
                    · obtain ⟨a1, a2, a3⟩ := m3 r hr
                      have hlt : r < w.heap.size := (Array.getElem?_eq_some_iff.1 a2).1
                      refine ⟨a1, ?_, fun A L hA hb => ?_⟩
                      · rw [World.alloc_heap, World.alloc_heap, Array.getElem?_push, if_neg (by simp; omega), Array.getElem?_push, if_neg (by omega)]
                        exact a2
                      · rcases hρ1 A L hA with h4 | h4
                        · exact a3 A L h4 hb
                        · omega
              | some l0 =>
                cases rd with
                | none => exact hrd.elim
                | some A0 =>
                  obtain ⟨L0, hA0, rfl⟩ := hrd
                  have hrec : ∃ lo : Loop, w.heap[L0.b]? = some (.loop lo) := by
                    simp only [aroundOk] at har
                    split at har
                    · rename_i hg0
                      obtain ⟨lo, h4, _⟩ := loop_sound hs hA0 hg0
                      exact ⟨lo, h4⟩
                    · cases har
                  obtain ⟨lo, hlo⟩ := hrec
                  have hrun : (Instr.enterLoop fn a.tmps ps assign body (some L0.b)).run P w = .ok (w.heap.size, []) (w.alloc (.loop { state := .ready, pending := none, fn, tmps := a.tmps, params := ps, assign, body, defers := lo.defers })) := by
                    unfold Instr.enterLoop
                    simp only [Sem.run_bind, run_getLoop hlo, Sem.run_pure, Result.andThen, run_newObj_alloc]
                  refine ⟨_, _, _, { state := .ready, pending := none, fn, tmps := a.tmps, params := ps, assign, body, defers := lo.defers }, hrun, Nat.le_refl _, by simp [World.alloc_heap], rfl, rfl, rfl, rfl, rfl, rfl, ?_, by simp [World.alloc_heap], rfl, rfl, rfl, ?_⟩
                  · intro k hk
                    rw [World.alloc_heap, Array.getElem?_push, if_neg (by omega)]
                  · intro ρ1 hρ1
                    obtain ⟨rs, m1, m2, _, m3⟩ := hd
                    refine ⟨rs, by simp [m1], m2, fun q => (hnr0 q).elim, ?_⟩
                    intro r hr
                    obtain ⟨a1, a2, a3⟩ := m3 r hr
                    have hlt : r < w.heap.size := (Array.getElem?_eq_some_iff.1 a2).1
                    refine ⟨a1, ?_, fun A L hA hb => ?_⟩
                    · rw [World.alloc_heap, Array.getElem?_push, if_neg (by omega)]
                      exact a2
                    · rcases hρ1 A L hA with h4 | h4
                      · exact a3 A L h4 hb
                      · omega
            obtain ⟨l, mark, w1, lo, henter, hl, hw1, l1, l2, l3, l4, l5, l6, hold, hsz, hos, htape, hout, hmark⟩ := henter
            obtain ⟨ρ1, hρ1, f1, s1⟩ := pushB_sound (W := w1) (L := ⟨l, 0, 0⟩) (b := .loop e ps.toList assign body .ready none) hs hnone hold hsz hos htape hout hl
              (fun ρ' hgrow => ⟨lo, hw1, l1, l2, by rw [l3], l4, l5, by rw [l6]; exact he.mono hgrow, hok.2.1.mono hgrow, hok.2.2.mono hgrow⟩)
            have hm1 : Marks n0 B nr ρ1 w1 (mark ++ a.defers) := hmark ρ1 fun A L hA => by
              cases hρ : ρ A with
              | some L0 =>
                have e : L0 = L := by have := f1.grow A L0 hρ; rw [hA] at this; exact (Option.some.inj this).symm
                subst e
                exact .inl rfl
              | none =>
                have h4 := (f1.fresh A L hA hρ)
                have h5 : A = h.size := by have := h4.1; have := h4.2.1; omega
                subst h5
                rw [hρ1] at hA
                cases hA
                exact .inr rfl
            have hfree1 : Free ρ1 (h.push (.loop e ps.toList assign body .ready none)) h2 := (hf.left hsz2).right f1
            have hargs : VRs ρ1 (first.toList ++ [.func (.yield h.size) #[] #[]] ++ captured.toList) (first' ++ #[Value.func (Fn.yield l) #[] #[]] ++ captured').toList := by
              have := ((hv1.mono f1.grow).append (VRs.cons (VR.yield hρ1) (.nil ρ1))).append (hv2.mono f1.grow)
              simpa using this
            have hres : (resolve a.eval (rangeCall g l) 0).run P w1 = .ok { target := .fn (.func f) captured', args := first' ++ #[Value.func (Fn.yield l) #[] #[]] } w1 := by
              have hcv : a.eval (.const (.func (.yield l) #[] #[])) = .func (.yield l) #[] #[] := rfl
              simp [resolve, hag, hcv, Deferred.ofValue]
            have hinv : ∀ w, (invoke (.fn (.func f) captured') (first' ++ #[Value.func (Fn.yield l) #[] #[]])).run P w = (callFunc f (first' ++ #[Value.func (Fn.yield l) #[] #[]] ++ captured')).run P w := fun w => rfl
            rcases hC.fn f _ _ _ _ hcall ρ1 w1 (first' ++ #[Value.func (Fn.yield l) #[] #[]] ++ captured') (hG.mono f1.grow) s1 hfree1 hargs with ⟨_, _, _, hval, _⟩ | ⟨hent, hcalls⟩
            · exfalso
              unfold hasBody at hbody
              split at hbody
              · rename_i fn0 hfn0
                split at hbody
                · rename_i c0 hc0
                  obtain ⟨hP, hname, _⟩ := hT.fn f fn0 hfn0
                  have hname' : ¬ fn0.name = "runtime.NumGoroutine" := by simpa using hname
                  simp [callFunc, hP, hname', hc0] at hval
                · cases hbody
              · cases hbody
            · refine ⟨l, mark, w1, _, w1, f, _, w1, henter, hres, fun _ _ => trivial, (hinv w1).trans hent, (fun hh => by cases hh), callsIn_WR (hcalls.mono ?_)⟩
              rintro ed w3 ⟨ρ3, u, rfl, f3, s3, _⟩
              unfold afterLoop at hev
              split at hev
              · rename_i env ps2 as2 bd2 st pend hgl
                have hρ3 : ρ3 h.size = some ⟨l, 0, 0⟩ := f3.grow _ _ hρ1
                obtain ⟨lo3, g1, g2, g3, _, _, _, _, _, _, g4⟩ := loop_sound s3 hρ3 hgl
                obtain ⟨f4, s4⟩ := g4 .exhausted pend
                have hfin : st ≠ .busy → ∀ x1 : Ex, x1 = x → e = e' → h2.set h.size (.loop env ps2 as2 bd2 .exhausted pend) = h' → (Instr.endLoop l).run P w3 = .ok pend (w3.putObj l (.loop { lo3 with state := .exhausted, pending := pend })) ∧ Q x.to { a with defers := mark ++ a.defers } (w3.putObj l (.loop { lo3 with state := .exhausted, pending := pend })) := by
                  intro hst x1 hx1 he1 hh1
                  subst hx1 he1 hh1
                  have hlo : ({ lo3 with state := LoopState.exhausted, pending := pend } : Loop) = { lo3 with state := LoopState.exhausted } := by
                    subst g3; rfl
                  refine ⟨?_, hQ ρ3 { a with defers := mark ++ a.defers } _ ((f1.trans f3).trans f4) s4 (he.mono (f1.trans f3).grow) ((hm1.step f3).step f4)⟩
                  rw [hlo, ← g3]
                  exact run_endLoop g1 (by rw [g2]; exact hst)
                split at hev
                · cases hev
                · rename_i hst
                  split at hev
                  · simp only [Option.some.injEq, Prod.mk.injEq] at hev
                    obtain ⟨rfl, h5, h6⟩ := hev
                    obtain ⟨k1, k2⟩ := hfin hst _ rfl h5 h6
                    exact ⟨none, _, k1, k2⟩
                  · simp only [Option.some.injEq, Prod.mk.injEq] at hev
                    obtain ⟨rfl, h5, h6⟩ := hev
                    obtain ⟨k1, k2⟩ := hfin hst _ rfl h5 h6
                    exact ⟨_, _, k1, wpIn_exit k2⟩
                  · simp only [Option.some.injEq, Prod.mk.injEq] at hev
                    obtain ⟨rfl, h5, h6⟩ := hev
                    obtain ⟨k1, k2⟩ := hfin hst _ rfl h5 h6
                    exact ⟨_, _, k1, wpIn_ret k2⟩
                  · cases hev
              · cases hev
        · cases hev
      · cases hev
    · cases hev
  | scope c ih =>
    intro e h x e' h' ρ a w Q hev hok hnr hG hs hf he hd hrd hn hQ
    simp only [evalCode] at hev
    refine wpIn_scope_straight (ih e h x e' h' ρ a w _ hev hok hnr hG hs hf he hd hrd hn fun ρ1 a1 w1 f1 s1 r1 d1 => ?_)
    have := hQ ρ1 a1 w1 f1 s1 r1 d1
    cases x <;> exact this
  | goto l => intro e h x e' h' ρ a w Q hev; simp [evalCode] at hev
  | refuse s => intro e h x e' h' ρ a w Q hev; simp [evalCode] at hev

def resSem (tmps : Array Value) : ResultVar → Sem Value
  | .tmp t => pure (tmps.getD t undef)
  | .cell a t => do loadVar t (← asAddr (tmps.getD a undef))

theorem results_eq (fn : Func) (tmps : Array Value) : results fn tmps = (do let vs ← fn.results.mapM (resSem tmps); pure (if h : vs.size = 1 then vs[0] else .tuple vs)) := by
  unfold results
  congr 2

theorem resultA_sound (hT : T.Fits P) (hs : Sim ρ h w) {e : Env} {tmps : Array Value} (he : EnvR ρ e tmps) : ∀ {r : ResultVar} {v : Value}, resultA T e h r = some v → ∃ u, (resSem tmps r).run P w = .ok u w ∧ VR ρ v u
  | .tmp t, v, hr => by simp only [resultA, Option.some.injEq] at hr; subst hr; exact ⟨_, rfl, he.2 t⟩
  | .cell a t, v, hr => by
    simp only [resultA] at hr
    have hv := he.2 a
    simp only [resSem]
    generalize e.get a = x at hv hr
    generalize tmps.getD a undef = y at hv
    obtain ⟨u, h1, h2⟩ := loadA_sound hT hs hv hr
    refine ⟨u, ?_, h2⟩
    rw [← h1]
    cases hv <;> first | (simp [loadA] at hr; done) | simp [Instr.loadAt, Instr.sureAddr, asAddr]

theorem resultsA_sound (hT : T.Fits P) (hs : Sim ρ h w) {fn : Func} {e : Env} {tmps : Array Value} (he : EnvR ρ e tmps) {v : Value} (hr : resultsA T fn e h = some v) :
    ∃ u, (results fn tmps).run P w = .ok u w ∧ VR ρ v u := by
  have hlist : ∀ (rs : List ResultVar) (vs : List Value), rs.mapM (resultA T e h) = some vs → ∃ us : List Value, VRs ρ vs us ∧
      (rs.mapM (resSem tmps)).run P w = .ok us w := by
    intro rs
    induction rs with
    | nil => intro vs hvs; simp at hvs; subst hvs; exact ⟨[], .nil ρ, by simp⟩
    | cons r rs ih =>
      intro vs hvs
      rw [List.mapM_cons] at hvs
      simp only [Option.bind_eq_bind, Option.bind_eq_some_iff, Option.pure_def, Option.some.injEq] at hvs
      obtain ⟨v1, hv1, vs', hvs', rfl⟩ := hvs
      obtain ⟨u1, h1, h2⟩ := resultA_sound hT hs he hv1
      obtain ⟨us, h3, h4⟩ := ih vs' hvs'
      refine ⟨u1 :: us, .cons h2 h3, ?_⟩
      rw [List.mapM_cons]
      simp only [Sem.run_bind, h1, Result.andThen_ok, h4, Sem.run_pure]
  have hmap : ∀ us : List Value, (fn.results.toList.mapM (resSem tmps)).run P w = .ok us w →
      (results fn tmps).run P w = .ok (if h : us.toArray.size = 1 then us.toArray[0] else .tuple us.toArray) w := by
    intro us h1
    rw [results_eq, Array.mapM_eq_mapM_toList]
    simp only [Sem.run_bind, Sem.run_map, h1, Result.andThen_ok, Sem.run_pure]
  unfold resultsA at hr
  split at hr
  · rename_i r hrs
    obtain ⟨us, h1, h2⟩ := hlist [r] [v] (by simp [hr])
    obtain ⟨u, us', rfl, hu, hn⟩ := h1.of_cons
    have := hn.of_nil
    subst this
    refine ⟨u, ?_, hu⟩
    have := hmap [u] (by rw [hrs]; exact h2)
    simpa using this
  · rename_i hne
    simp only [Option.map_eq_some_iff] at hr
    obtain ⟨vs, hvs, rfl⟩ := hr
    obtain ⟨us, h1, h2⟩ := hlist _ vs hvs
    refine ⟨.tuple us.toArray, ?_, h1.toTuple⟩
    have := hmap us h2
    rw [this]
    congr 1
    have hlen : us.length ≠ 1 := by
      intro h1'
      have hl : fn.results.toList.length = us.length := by
        have e1 : vs.length = us.length := h1.1
        have e2 : ∀ (rs : List ResultVar) (vs : List Value), rs.mapM (resultA T e h) = some vs → rs.length = vs.length := by
          intro rs
          induction rs with
          | nil => intro vs hvs; simp at hvs; subst hvs; rfl
          | cons r rs ih =>
            intro vs hvs
            rw [List.mapM_cons] at hvs
            simp only [Option.bind_eq_bind, Option.bind_eq_some_iff, Option.pure_def, Option.some.injEq] at hvs
            obtain ⟨v1, hv1, vs', hvs', rfl⟩ := hvs
            simp [ih vs' hvs']
        rw [e2 _ _ hvs, e1]
      rw [h1'] at hl
      match hm : fn.results.toList, hl with
      | [r], _ => exact hne r hm
    rw [dif_neg (by simpa using hlen)]
end
#print axioms evalCode_sound
#print axioms resultsA_sound
end Go.Am

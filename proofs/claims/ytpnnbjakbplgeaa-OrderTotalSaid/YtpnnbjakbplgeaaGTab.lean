/- Tables for the plain machine, read off a program. No condition. -/
import Derived.Test.YtpnnbjakbplgeaaGCall
namespace Go.Am

/-- Rows of sixteen. -/
def getC {α : Type} : List (List α) → Nat → Option α
  | [], _ => none
  | c :: cs, i => match Nat.blt i 16 with
    | true => c[i]?
    | false => getC cs (i - 16)
def wfC {α : Type} : List (List α) → Bool
  | [] => true
  | [_] => true
  | c :: cs => c.length == 16 && wfC cs

theorem getC_flatten {α : Type} : ∀ (l : List (List α)) (i : Nat) (x : α), wfC l = true → getC l i = some x → l.flatten[i]? = some x
  | [], _, _, _, h => by simp [getC] at h
  | [c], i, x, _, h => by
    simp only [getC] at h
    split at h
    · simpa using h
    · simp at h
  | c :: d :: cs, i, x, hw, h => by
    simp only [wfC, Bool.and_eq_true, beq_iff_eq] at hw
    rw [List.flatten_cons]
    simp only [getC] at h
    split at h
    · rename_i hb
      have hlt : i < 16 := by simpa [Nat.blt_eq] using hb
      rw [List.getElem?_append_left (by omega)]
      exact h
    · rename_i hb
      have hge : ¬ i < 16 := by
        intro hlt
        have : Nat.blt i 16 = true := by simpa [Nat.blt_eq] using hlt
        rw [this] at hb
        cases hb
      rw [List.getElem?_append_right (by omega), hw.1]
      exact getC_flatten (d :: cs) (i - 16) x hw.2 (by simpa [getC] using h)

def descOf (tys : List (List TypeInfo)) (t : TypeId) : Option TypeDesc :=
  match getC tys t with
  | some i => match i.desc with
    | .named _ u => (getC tys u).map (·.desc)
    | d => some d
  | none => none

/-- A type whose zero value has its cells, none with an address. -/
def tyOk (i : TypeInfo) : Bool := match i.zero with
  | some z => z.cells.toList.length == i.size && z.cells.toList.all plain1
  | none => false
def infoOf (tys : List (List TypeInfo)) (oks : List (List Bool)) (t : TypeId) : Option (Nat × Nat × List Value) :=
  match getC oks t with
  | some true => match getC tys t with
    | some i => match i.zero with
      | some z => some (i.size, i.bytes, z.cells.toList)
      | none => none
    | none => none
  | _ => none

def zeroOf (tys : List (List TypeInfo)) (oks : List (List Bool)) (t : TypeId) : Option Value :=
  match getC oks t with
  | some true => match getC tys t with
    | some i => i.zero
    | none => none
  | _ => none

def methOf (tys : List (List TypeInfo)) (t : TypeId) (name : String) : Option Method :=
  match getC tys t with
  | some i => i.methods.find? (·.name == name)
  | none => none

def bodyOk (gs : List Nat) (f : Func) : Bool := match f.body with
  | some c => codeOk gs c
  | none => false
def fnOk (gs : List Nat) (f : Func) : Bool := !(f.name == "runtime.NumGoroutine") && bodyOk gs f
def fnOf (fns : List (List Func)) (oks : List (List Bool)) (f : FuncId) : Option Func :=
  match getC oks f with
  | some true => getC fns f
  | _ => none

/-- A type that is compared part by part. -/
def cmpOk (P : Program) (t : TypeId) : Bool := !P.stoodInHeld t && !P.eqGuardType P.depth t
def cmpOf (cs : List TypeId) (t : TypeId) : Bool := cs.any (Nat.beq t)
def mkTab (tys : List (List TypeInfo)) (tyOks : List (List Bool)) (fns : List (List Func)) (fnOks : List (List Bool)) (cs : List TypeId) (gs : List Nat) (ds : List FuncId) : Tab :=
  { desc := descOf tys, info := infoOf tys tyOks, fn := fnOf fns fnOks, cmp := cmpOf cs, zero := zeroOf tys tyOks, gs := gs, meth := methOf tys, dfr := fun f => ds.any (Nat.beq f) }

theorem mkTab_fits {P : Program} {tys : List (List TypeInfo)} {tyOks : List (List Bool)} {fns : List (List Func)} {fnOks : List (List Bool)} {cs : List TypeId} {gs : List Nat} {ds : List FuncId} (hcs : cs.all (cmpOk P) = true)
    (w1 : wfC tys = true) (w2 : wfC tyOks = true) (w3 : wfC fns = true) (w4 : wfC fnOks = true) (h1 : P.types.toList = tys.flatten) (h2 : P.types.toList.map tyOk = tyOks.flatten) (h3 : P.funcs.toList = fns.flatten) (h4 : P.funcs.toList.map (fnOk gs) = fnOks.flatten) :
    (mkTab tys tyOks fns fnOks cs gs ds).Fits P := by
  have hat : ∀ t i, getC tys t = some i → P.types.toList[t]? = some i := fun t i hi => by rw [h1]; exact getC_flatten tys t i w1 hi
  have hty : ∀ t i, getC tys t = some i → P.info? t = some i := by
    intro t i hi
    have hi' : P.types[t]? = some i := by simpa using hat t i hi
    have hlt : t < P.types.size := (Array.getElem?_eq_some_iff.1 hi').1
    unfold Tables.info?
    rw [if_pos hlt, hi']
  refine ⟨?_, ?_, ?_, ?_, ?_, ?_⟩
  · intro t d hd
    simp only [mkTab, descOf] at hd
    split at hd
    · rename_i i hi
      have h4 := hty t i hi
      unfold Program.underlying
      rw [h4]
      obtain ⟨desc, str, size, bytes, hp, al, fa, zero, comp, ms⟩ := i
      cases desc <;> simp only at hd ⊢ <;> first
        | exact hd
        | (simp only [Option.map_eq_some_iff] at hd
           obtain ⟨j, hj, rfl⟩ := hd
           rw [hty _ j hj]
           rfl)
    · cases hd
  · intro t n b z hz
    simp only [mkTab, infoOf] at hz
    split at hz
    · rename_i hok
      split at hz
      · rename_i i hi
        split at hz
        · rename_i zv hzv
          simp only [Option.some.injEq, Prod.mk.injEq] at hz
          obtain ⟨rfl, rfl, rfl⟩ := hz
          have h5 := getC_flatten tyOks t true w2 hok
          rw [← h2, List.getElem?_map, hat t i hi, Option.map_some, Option.some.injEq] at h5
          simp only [tyOk, hzv, Bool.and_eq_true, beq_iff_eq] at h5
          exact ⟨i, zv, hty t i hi, rfl, rfl, hzv, rfl, h5.1, h5.2⟩
        · cases hz
      · cases hz
    · cases hz
  · intro f fn hf
    simp only [mkTab, fnOf] at hf
    split at hf
    · rename_i hok
      have h5 := getC_flatten fnOks f true w4 hok
      have h6 := getC_flatten fns f fn w3 hf
      rw [← h3] at h6
      rw [← h4, List.getElem?_map, h6, Option.map_some, Option.some.injEq] at h5
      simp only [fnOk, Bool.and_eq_true, Bool.not_eq_true'] at h5
      refine ⟨by simpa using h6, h5.1, fun c hcb => ?_⟩
      have := h5.2
      unfold bodyOk at this
      rw [hcb] at this
      exact this
    · cases hf
  · intro t ht
    simp only [mkTab, cmpOf, List.any_eq_true] at ht
    obtain ⟨u, hu, he⟩ := ht
    have : t = u := Nat.eq_of_beq_eq_true he
    subst this
    have := List.all_eq_true.1 hcs t hu
    simpa [cmpOk] using this
  · intro t v hv
    simp only [mkTab, zeroOf] at hv
    split at hv
    · rename_i hok
      split at hv
      · rename_i i hi
        have h5 := getC_flatten tyOks t true w2 hok
        rw [← h2, List.getElem?_map, hat t i hi, Option.map_some, Option.some.injEq] at h5
        simp only [tyOk, hv, Bool.and_eq_true, beq_iff_eq] at h5
        refine ⟨⟨i, hty t i hi, hv⟩, ?_⟩
        have h6 := h5.2
        cases v <;> simpa [plain, Value.cells] using h6
      · cases hv
    · cases hv
  · intro t name m hm
    simp only [mkTab, methOf] at hm
    split at hm
    · rename_i i hi; exact ⟨i, hty t i hi, hm⟩
    · cases hm
#print axioms mkTab_fits
end Go.Am

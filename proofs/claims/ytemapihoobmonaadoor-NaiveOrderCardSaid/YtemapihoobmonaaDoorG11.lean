/- Tables for the plain machine, read off a program. No condition. -/
import Derived.Test.YtemapihoobmonaaDoorG1
import Derived.Test.YtemapihoobmonaaDoorProg
import Derived.KernelRfl
namespace Go.Am

def getC {α : Type} : List (List α) → Nat → Option α
  | [], _ => none
  | c :: cs, i => match Nat.blt i 16 with
    | true => c[i]?
    | false => getC cs (i - 16)
def wfC {α : Type} : List (List α) → Bool
  | [] => true
  | [_] => true
  | c :: cs => c.length == 16 && wfC cs

theorem getC_flatten {α : Type} : ∀ (l : List (List α)) (i : Nat) (x : α), wfC l = true → getC l i = some x → l.flatten[i]? = some x
  | [], _, _, _, h => by simp [getC] at h
  | [c], i, x, _, h => by
    simp only [getC] at h
    split at h
    · simpa using h
    · simp at h
  | c :: d :: cs, i, x, hw, h => by
    simp only [wfC, Bool.and_eq_true, beq_iff_eq] at hw
    rw [List.flatten_cons]
    simp only [getC] at h
    split at h
    · rename_i hb
      have hlt : i < 16 := by simpa [Nat.blt_eq] using hb
      rw [List.getElem?_append_left (by omega)]
      exact h
    · rename_i hb
      have hge : ¬ i < 16 := by
        intro hlt
        have : Nat.blt i 16 = true := by simpa [Nat.blt_eq] using hlt
        rw [this] at hb
        cases hb
      rw [List.getElem?_append_right (by omega), hw.1]
      exact getC_flatten (d :: cs) (i - 16) x hw.2 (by simpa [getC] using h)

def descOf (tys : List (List TypeInfo)) (t : TypeId) : Option TypeDesc :=
  match getC tys t with
  | some i => match i.desc with
    | .named _ u => (getC tys u).map (·.desc)
    | d => some d
  | none => none

def tyOk (i : TypeInfo) : Bool := match i.zero with
  | some z => z.cells.toList.length == i.size && z.cells.toList.all plain1
  | none => false
def infoOf (tys : List (List TypeInfo)) (oks : List (List Bool)) (t : TypeId) : Option (Nat × Nat × List Value) :=
  match getC oks t with
  | some true => match getC tys t with
    | some i => match i.zero with
      | some z => some (i.size, i.bytes, z.cells.toList)
      | none => none
    | none => none
  | _ => none

def zeroOf (tys : List (List TypeInfo)) (oks : List (List Bool)) (t : TypeId) : Option Value :=
  match getC oks t with
  | some true => match getC tys t with
    | some i => i.zero
    | none => none
  | _ => none

def methOf (tys : List (List TypeInfo)) (t : TypeId) (name : String) : Option Method :=
  match getC tys t with
  | some i => i.methods.find? (·.name == name)
  | none => none

def bodyOk (gs : List Nat) (f : Func) : Bool := match f.body with
  | some c => codeOk gs c
  | none => false
def fnOk (gs : List Nat) (f : Func) : Bool := !(f.name == "runtime.NumGoroutine") && bodyOk gs f
def fnOf (fns : List (List Func)) (oks : List (List Bool)) (f : FuncId) : Option Func :=
  match getC oks f with
  | some true => getC fns f
  | _ => none

def cmpOk (P : Program) (t : TypeId) : Bool := !P.stoodInHeld t && !P.eqGuardType P.depth t
def cmpOf (cs : List TypeId) (t : TypeId) : Bool := cs.any (Nat.beq t)
def mkTab (tys : List (List TypeInfo)) (tyOks : List (List Bool)) (fns : List (List Func)) (fnOks : List (List Bool)) (cs : List TypeId) (gs : List Nat) (ds : List FuncId) : Tab :=
  { desc := descOf tys, info := infoOf tys tyOks, fn := fnOf fns fnOks, cmp := cmpOf cs, zero := zeroOf tys tyOks, gs := gs, meth := methOf tys, dfr := fun f => ds.any (Nat.beq f) }

theorem mkTab_fits {P : Program} {tys : List (List TypeInfo)} {tyOks : List (List Bool)} {fns : List (List Func)} {fnOks : List (List Bool)} {cs : List TypeId} {gs : List Nat} {ds : List FuncId} (hcs : cs.all (cmpOk P) = true)
    (w1 : wfC tys = true) (w2 : wfC tyOks = true) (w3 : wfC fns = true) (w4 : wfC fnOks = true) (h1 : P.types.toList = tys.flatten) (h2 : P.types.toList.map tyOk = tyOks.flatten) (h3 : P.funcs.toList = fns.flatten) (h4 : P.funcs.toList.map (fnOk gs) = fnOks.flatten) :
    (mkTab tys tyOks fns fnOks cs gs ds).Fits P := by
  have hat : ∀ t i, getC tys t = some i → P.types.toList[t]? = some i := fun t i hi => by rw [h1]; exact getC_flatten tys t i w1 hi
  have hty : ∀ t i, getC tys t = some i → P.info? t = some i := by
    intro t i hi
    have hi' : P.types[t]? = some i := by simpa using hat t i hi
    have hlt : t < P.types.size := (Array.getElem?_eq_some_iff.1 hi').1
    unfold Tables.info?
    rw [if_pos hlt, hi']
  refine ⟨?_, ?_, ?_, ?_, ?_, ?_⟩
  · intro t d hd
    simp only [mkTab, descOf] at hd
    split at hd
    · rename_i i hi
      have h4 := hty t i hi
      unfold Program.underlying
      rw [h4]
      obtain ⟨desc, str, size, bytes, hp, al, fa, zero, comp, ms⟩ := i
      cases desc <;> simp only at hd ⊢ <;> first
        | exact hd
        | (simp only [Option.map_eq_some_iff] at hd
           obtain ⟨j, hj, rfl⟩ := hd
           rw [hty _ j hj]
           rfl)
    · cases hd
  · intro t n b z hz
    simp only [mkTab, infoOf] at hz
    split at hz
    · rename_i hok
      split at hz
      · rename_i i hi
        split at hz
        · rename_i zv hzv
          simp only [Option.some.injEq, Prod.mk.injEq] at hz
          obtain ⟨rfl, rfl, rfl⟩ := hz
          have h5 := getC_flatten tyOks t true w2 hok
          rw [← h2, List.getElem?_map, hat t i hi, Option.map_some, Option.some.injEq] at h5
          simp only [tyOk, hzv, Bool.and_eq_true, beq_iff_eq] at h5
          exact ⟨i, zv, hty t i hi, rfl, rfl, hzv, rfl, h5.1, h5.2⟩
        · cases hz
      · cases hz
    · cases hz
  · intro f fn hf
    simp only [mkTab, fnOf] at hf
    split at hf
    · rename_i hok
      have h5 := getC_flatten fnOks f true w4 hok
      have h6 := getC_flatten fns f fn w3 hf
      rw [← h3] at h6
      rw [← h4, List.getElem?_map, h6, Option.map_some, Option.some.injEq] at h5
      simp only [fnOk, Bool.and_eq_true, Bool.not_eq_true'] at h5
      refine ⟨by simpa using h6, h5.1, fun c hcb => ?_⟩
      have := h5.2
      unfold bodyOk at this
      rw [hcb] at this
      exact this
    · cases hf
  · intro t ht
    simp only [mkTab, cmpOf, List.any_eq_true] at ht
    obtain ⟨u, hu, he⟩ := ht
    have : t = u := Nat.eq_of_beq_eq_true he
    subst this
    have := List.all_eq_true.1 hcs t hu
    simpa [cmpOk] using this
  · intro t v hv
    simp only [mkTab, zeroOf] at hv
    split at hv
    · rename_i hok
      split at hv
      · rename_i i hi
        have h5 := getC_flatten tyOks t true w2 hok
        rw [← h2, List.getElem?_map, hat t i hi, Option.map_some, Option.some.injEq] at h5
        simp only [tyOk, hv, Bool.and_eq_true, beq_iff_eq] at h5
        refine ⟨⟨i, hty t i hi, hv⟩, ?_⟩
        have h6 := h5.2
        cases v <;> simpa [plain, Value.cells] using h6
      · cases hv
    · cases hv
  · intro t name m hm
    simp only [mkTab, methOf] at hm
    split at hm
    · rename_i i hi; exact ⟨i, hty t i hi, hm⟩
    · cases hm
end Go.Am
namespace Go.Proofs.YtemapihoobmonaaDoor
open Go.Am
noncomputable def tyTab : List (List TypeInfo) := [[Tryd.t0, Tryd.t1, Tryd.t2, Tryd.t3, Tryd.t4, Tryd.t5, Tryd.t6, Tryd.t7, Tryd.t8, Tryd.t9, Tryd.t10, Tryd.t11, Tryd.t12, Tryd.t13, Tryd.t14, Tryd.t15],
  [Tryd.t16, Tryd.t17, Tryd.t18, Tryd.t19, Tryd.t20, Tryd.t21, Tryd.t22, Tryd.t23, Tryd.t24, Tryd.t25, Tryd.t26, Tryd.t27, Tryd.t28, Tryd.t29, Tryd.t30, Tryd.t31],
  [Tryd.t32, Tryd.t33, Tryd.t34, Tryd.t35, Tryd.t36, Tryd.t37, Tryd.t38, Tryd.t39, Tryd.t40, Tryd.t41, Tryd.t42, Tryd.t43, Tryd.t44, Tryd.t45, Tryd.t46, Tryd.t47],
  [Tryd.t48, Tryd.t49, Tryd.t50, Tryd.t51, Tryd.t52, Tryd.t53, Tryd.t54, Tryd.t55, Tryd.t56, Tryd.t57, Tryd.t58, Tryd.t59, Tryd.t60, Tryd.t61, Tryd.t62, Tryd.t63],
  [Tryd.t64, Tryd.t65, Tryd.t66, Tryd.t67, Tryd.t68, Tryd.t69, Tryd.t70, Tryd.t71, Tryd.t72, Tryd.t73, Tryd.t74, Tryd.t75, Tryd.t76, Tryd.t77, Tryd.t78, Tryd.t79],
  [Tryd.t80, Tryd.t81, Tryd.t82, Tryd.t83, Tryd.t84, Tryd.t85, Tryd.t86, Tryd.t87, Tryd.t88, Tryd.t89, Tryd.t90, Tryd.t91, Tryd.t92, Tryd.t93, Tryd.t94, Tryd.t95],
  [Tryd.t96, Tryd.t97, Tryd.t98, Tryd.t99, Tryd.t100, Tryd.t101, Tryd.t102, Tryd.t103, Tryd.t104, Tryd.t105, Tryd.t106, Tryd.t107, Tryd.t108, Tryd.t109, Tryd.t110, Tryd.t111],
  [Tryd.t112, Tryd.t113, Tryd.t114, Tryd.t115, Tryd.t116, Tryd.t117, Tryd.t118, Tryd.t119, Tryd.t120, Tryd.t121, Tryd.t122, Tryd.t123, Tryd.t124, Tryd.t125, Tryd.t126, Tryd.t127],
  [Tryd.t128, Tryd.t129, Tryd.t130, Tryd.t131, Tryd.t132, Tryd.t133, Tryd.t134, Tryd.t135, Tryd.t136, Tryd.t137, Tryd.t138, Tryd.t139, Tryd.t140, Tryd.t141, Tryd.t142, Tryd.t143],
  [Tryd.t144, Tryd.t145, Tryd.t146, Tryd.t147, Tryd.t148, Tryd.t149, Tryd.t150, Tryd.t151]]
def tyOks : List (List Bool) := [[false, true, true, true, true, true, true, true, true, true, true, true, true, true, true, true],
  [true, true, true, true, true, true, true, true, true, true, true, false, true, true, true, true],
  [true, true, true, true, true, true, true, true, false, true, true, true, true, true, true, true],
  [true, true, true, true, true, true, false, true, true, false, true, true, true, true, true, true],
  [true, true, true, false, true, true, true, true, false, true, true, true, true, true, true, true],
  [true, true, true, true, true, true, true, true, true, true, true, true, true, true, true, true],
  [true, true, true, true, true, true, true, true, true, true, false, true, true, true, true, true],
  [true, true, true, true, true, true, true, true, true, true, true, true, true, true, true, true],
  [true, true, true, true, true, true, true, true, true, true, true, true, true, true, true, true],
  [true, true, true, true, true, true, true, true]]
noncomputable def fnTab : List (List Func) := [[Tryd.f0, Tryd.f1, Tryd.f2, Tryd.f3, Tryd.f4, Tryd.f5, Tryd.f6, Tryd.f7, Tryd.f8, Tryd.f9, Tryd.f10, Tryd.f11, Tryd.f12, Tryd.f13, Tryd.f14, Tryd.f15],
  [Tryd.f16, Tryd.f17, Tryd.f18, Tryd.f19, Tryd.f20, Tryd.f21, Tryd.f22, Tryd.f23, Tryd.f24, Tryd.f25, Tryd.f26, Tryd.f27, Tryd.f28, Tryd.f29, Tryd.f30, Tryd.f31],
  [Tryd.f32, Tryd.f33, Tryd.f34, Tryd.f35, Tryd.f36, Tryd.f37, Tryd.f38, Tryd.f39, Tryd.f40, Tryd.f41, Tryd.f42, Tryd.f43, Tryd.f44, Tryd.f45, Tryd.f46, Tryd.f47],
  [Tryd.f48, Tryd.f49, Tryd.f50, Tryd.f51, Tryd.f52, Tryd.f53, Tryd.f54, Tryd.f55, Tryd.f56, Tryd.f57, Tryd.f58, Tryd.f59, Tryd.f60, Tryd.f61, Tryd.f62, Tryd.f63],
  [Tryd.f64, Tryd.f65, Tryd.f66, Tryd.f67, Tryd.f68, Tryd.f69, Tryd.f70, Tryd.f71, Tryd.f72, Tryd.f73, Tryd.f74, Tryd.f75, Tryd.f76, Tryd.f77, Tryd.f78, Tryd.f79],
  [Tryd.f80, Tryd.f81, Tryd.f82, Tryd.f83, Tryd.f84, Tryd.f85, Tryd.f86, Tryd.f87, Tryd.f88, Tryd.f89, Tryd.f90, Tryd.f91, Tryd.f92, Tryd.f93, Tryd.f94, Tryd.f95],
  [Tryd.f96, Tryd.f97, Tryd.f98, Tryd.f99, Tryd.f100, Tryd.f101, Tryd.f102, Tryd.f103, Tryd.f104, Tryd.f105, Tryd.f106, Tryd.f107, Tryd.f108, Tryd.f109, Tryd.f110, Tryd.f111],
  [Tryd.f112, Tryd.f113, Tryd.f114, Tryd.f115, Tryd.f116, Tryd.f117, Tryd.f118, Tryd.f119, Tryd.f120]]
def fnOks : List (List Bool) := [[false, false, true, true, true, true, true, true, true, true, true, true, true, true, true, true],
  [true, true, true, true, true, true, true, true, true, true, true, true, true, true, true, true],
  [true, true, true, true, true, true, true, true, true, true, true, true, true, true, true, true],
  [true, true, true, true, true, true, true, true, true, true, true, true, true, true, true, true],
  [true, true, true, true, true, true, true, true, true, true, false, true, true, true, true, true],
  [true, true, true, true, true, true, true, true, true, false, false, true, false, true, true, true],
  [false, false, false, false, false, false, false, false, false, false, false, false, false, false, false, false],
  [false, false, false, false, false, false, false, false, false]]
def cmpTys : List TypeId := [7, 8, 32, 33, 34, 35, 36, 53, 70, 71, 117, 121, 122, 131, 132, 134, 135]
noncomputable def tab : Tab := mkTab tyTab tyOks fnTab fnOks cmpTys [1] []
theorem tab_types : Tryd.prog.types.toList = tyTab.flatten := by kernel_rfl
theorem tab_tyOks : Tryd.prog.types.toList.map tyOk = tyOks.flatten := by kernel_rfl
theorem tab_funcs : Tryd.prog.funcs.toList = fnTab.flatten := by kernel_rfl
theorem tab_fnOks : Tryd.prog.funcs.toList.map (fnOk [1]) = fnOks.flatten := by kernel_rfl
theorem tab_fits : tab.Fits Tryd.prog := mkTab_fits (show cmpTys.all (cmpOk Tryd.prog) = true by kernel_rfl) (by kernel_rfl) (by kernel_rfl) (by kernel_rfl) (by kernel_rfl) tab_types tab_tyOks tab_funcs tab_fnOks
theorem mixed : Tryd.prog.follows .mixedOrders = true := by kernel_rfl
theorem tab_info9 : tab.info 9 = some (1, 16, [.string ⟨#[]⟩]) := by kernel_rfl
theorem tab_info23 : tab.info 23 = some (1, 24, [.slice none 0 0]) := by kernel_rfl
theorem tab_info33 : tab.info 33 = some (2, 24, [.bool false, .string ⟨#[]⟩]) := by kernel_rfl
theorem tab_info36 : tab.info 36 = some (11, 136, [.string ⟨#[]⟩, .string ⟨#[]⟩, .int .i64 0, .bool false, .string ⟨#[]⟩, .bool false, .string ⟨#[]⟩, .bool false, .string ⟨#[]⟩, .bool false, .string ⟨#[]⟩]) := by kernel_rfl
theorem tab_info46 : tab.info 46 = some (12, 160, [.string ⟨#[]⟩, .string ⟨#[]⟩, .int .i64 0, .bool false, .string ⟨#[]⟩, .bool false, .string ⟨#[]⟩, .bool false, .string ⟨#[]⟩, .bool false, .string ⟨#[]⟩, .slice none 0 0]) := by kernel_rfl
theorem tab_info47 : tab.info 47 = some (1, 8, [.map none]) := by kernel_rfl
theorem tab_info53 : tab.info 53 = some (0, 0, []) := by kernel_rfl
theorem tab_info71 : tab.info 71 = some (3, 40, [.string ⟨#[]⟩, .bool false, .string ⟨#[]⟩]) := by kernel_rfl
theorem tab_fn3 : tab.fn 3 = some Tryd.f3 := by kernel_rfl
theorem tab_fn4 : tab.fn 4 = some Tryd.f4 := by kernel_rfl
theorem tab_fn5 : tab.fn 5 = some Tryd.f5 := by kernel_rfl
theorem tab_fn6 : tab.fn 6 = some Tryd.f6 := by kernel_rfl
theorem tab_fn7 : tab.fn 7 = some Tryd.f7 := by kernel_rfl
theorem tab_fn8 : tab.fn 8 = some Tryd.f8 := by kernel_rfl
theorem tab_fn9 : tab.fn 9 = some Tryd.f9 := by kernel_rfl
theorem tab_fn10 : tab.fn 10 = some Tryd.f10 := by kernel_rfl
theorem tab_fn11 : tab.fn 11 = some Tryd.f11 := by kernel_rfl
theorem tab_fn14 : tab.fn 14 = some Tryd.f14 := by kernel_rfl
theorem tab_fn15 : tab.fn 15 = some Tryd.f15 := by kernel_rfl
theorem tab_fn16 : tab.fn 16 = some Tryd.f16 := by kernel_rfl
theorem tab_fn17 : tab.fn 17 = some Tryd.f17 := by kernel_rfl
theorem tab_fn18 : tab.fn 18 = some Tryd.f18 := by kernel_rfl
theorem tab_fn19 : tab.fn 19 = some Tryd.f19 := by kernel_rfl
theorem tab_fn20 : tab.fn 20 = some Tryd.f20 := by kernel_rfl
theorem tab_fn21 : tab.fn 21 = some Tryd.f21 := by kernel_rfl
theorem tab_fn23 : tab.fn 23 = some Tryd.f23 := by kernel_rfl
theorem tab_fn24 : tab.fn 24 = some Tryd.f24 := by kernel_rfl
theorem tab_fn25 : tab.fn 25 = some Tryd.f25 := by kernel_rfl
theorem tab_fn26 : tab.fn 26 = some Tryd.f26 := by kernel_rfl
theorem tab_fn27 : tab.fn 27 = some Tryd.f27 := by kernel_rfl
theorem tab_fn28 : tab.fn 28 = some Tryd.f28 := by kernel_rfl
theorem tab_fn29 : tab.fn 29 = some Tryd.f29 := by kernel_rfl
theorem tab_fn30 : tab.fn 30 = some Tryd.f30 := by kernel_rfl
theorem tab_fn31 : tab.fn 31 = some Tryd.f31 := by kernel_rfl
theorem tab_fn32 : tab.fn 32 = some Tryd.f32 := by kernel_rfl
theorem tab_fn33 : tab.fn 33 = some Tryd.f33 := by kernel_rfl
theorem tab_fn34 : tab.fn 34 = some Tryd.f34 := by kernel_rfl
theorem tab_fn35 : tab.fn 35 = some Tryd.f35 := by kernel_rfl
theorem tab_fn36 : tab.fn 36 = some Tryd.f36 := by kernel_rfl
theorem tab_fn37 : tab.fn 37 = some Tryd.f37 := by kernel_rfl
theorem tab_fn38 : tab.fn 38 = some Tryd.f38 := by kernel_rfl
theorem tab_fn39 : tab.fn 39 = some Tryd.f39 := by kernel_rfl
theorem tab_fn40 : tab.fn 40 = some Tryd.f40 := by kernel_rfl
theorem tab_fn41 : tab.fn 41 = some Tryd.f41 := by kernel_rfl
theorem tab_fn42 : tab.fn 42 = some Tryd.f42 := by kernel_rfl
theorem tab_fn43 : tab.fn 43 = some Tryd.f43 := by kernel_rfl
theorem tab_fn44 : tab.fn 44 = some Tryd.f44 := by kernel_rfl
theorem tab_fn45 : tab.fn 45 = some Tryd.f45 := by kernel_rfl
theorem tab_fn46 : tab.fn 46 = some Tryd.f46 := by kernel_rfl
theorem tab_fn47 : tab.fn 47 = some Tryd.f47 := by kernel_rfl
theorem tab_fn48 : tab.fn 48 = some Tryd.f48 := by kernel_rfl
theorem tab_fn49 : tab.fn 49 = some Tryd.f49 := by kernel_rfl
theorem tab_fn50 : tab.fn 50 = some Tryd.f50 := by kernel_rfl
theorem tab_fn51 : tab.fn 51 = some Tryd.f51 := by kernel_rfl
theorem tab_fn52 : tab.fn 52 = some Tryd.f52 := by kernel_rfl
theorem tab_fn53 : tab.fn 53 = some Tryd.f53 := by kernel_rfl
theorem tab_fn54 : tab.fn 54 = some Tryd.f54 := by kernel_rfl
theorem tab_fn55 : tab.fn 55 = some Tryd.f55 := by kernel_rfl
theorem tab_fn56 : tab.fn 56 = some Tryd.f56 := by kernel_rfl
theorem tab_fn57 : tab.fn 57 = some Tryd.f57 := by kernel_rfl
theorem tab_fn58 : tab.fn 58 = some Tryd.f58 := by kernel_rfl
theorem tab_fn59 : tab.fn 59 = some Tryd.f59 := by kernel_rfl
theorem tab_fn60 : tab.fn 60 = some Tryd.f60 := by kernel_rfl
theorem tab_fn61 : tab.fn 61 = some Tryd.f61 := by kernel_rfl
theorem tab_fn63 : tab.fn 63 = some Tryd.f63 := by kernel_rfl
theorem tab_fn64 : tab.fn 64 = some Tryd.f64 := by kernel_rfl
theorem tab_fn65 : tab.fn 65 = some Tryd.f65 := by kernel_rfl
theorem tab_fn66 : tab.fn 66 = some Tryd.f66 := by kernel_rfl
theorem tab_fn67 : tab.fn 67 = some Tryd.f67 := by kernel_rfl
theorem tab_fn68 : tab.fn 68 = some Tryd.f68 := by kernel_rfl
theorem tab_fn69 : tab.fn 69 = some Tryd.f69 := by kernel_rfl
theorem tab_fn70 : tab.fn 70 = some Tryd.f70 := by kernel_rfl
theorem tab_fn71 : tab.fn 71 = some Tryd.f71 := by kernel_rfl
theorem tab_fn72 : tab.fn 72 = some Tryd.f72 := by kernel_rfl
theorem tab_fn73 : tab.fn 73 = some Tryd.f73 := by kernel_rfl
theorem tab_fn78 : tab.fn 78 = some Tryd.f78 := by kernel_rfl
theorem tab_fn79 : tab.fn 79 = some Tryd.f79 := by kernel_rfl
theorem tab_fn80 : tab.fn 80 = some Tryd.f80 := by kernel_rfl
theorem tab_fn81 : tab.fn 81 = some Tryd.f81 := by kernel_rfl
theorem tab_fn82 : tab.fn 82 = some Tryd.f82 := by kernel_rfl
theorem tab_fn83 : tab.fn 83 = some Tryd.f83 := by kernel_rfl
theorem tab_fn84 : tab.fn 84 = some Tryd.f84 := by kernel_rfl
theorem tab_fn87 : tab.fn 87 = some Tryd.f87 := by kernel_rfl
theorem tab_fn88 : tab.fn 88 = some Tryd.f88 := by kernel_rfl
end Go.Proofs.YtemapihoobmonaaDoor

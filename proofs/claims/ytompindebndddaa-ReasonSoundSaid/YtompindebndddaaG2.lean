/- Tables for the plain machine, read off a program. No condition. -/
import Derived.Test.YtompindebndddaaG1
import Derived.Test.YtompindebndddaaProg
import Derived.KernelRfl
namespace Go.Am

def getC {α : Type} : List (List α) → Nat → Option α
  | [], _ => none
  | c :: cs, i => match Nat.blt i 16 with
    | true => c[i]?
    | false => getC cs (i - 16)
def wfC {α : Type} : List (List α) → Bool
  | [] => true
  | [_] => true
  | c :: cs => c.length == 16 && wfC cs

theorem getC_flatten {α : Type} : ∀ (l : List (List α)) (i : Nat) (x : α), wfC l = true → getC l i = some x → l.flatten[i]? = some x
  | [], _, _, _, h => by simp [getC] at h
  | [c], i, x, _, h => by
    simp only [getC] at h
    split at h
    · simpa using h
    · simp at h
  | c :: d :: cs, i, x, hw, h => by
    simp only [wfC, Bool.and_eq_true, beq_iff_eq] at hw
    rw [List.flatten_cons]
    simp only [getC] at h
    split at h
    · rename_i hb
      have hlt : i < 16 := by simpa [Nat.blt_eq] using hb
      rw [List.getElem?_append_left (by omega)]
      exact h
    · rename_i hb
      have hge : ¬ i < 16 := by
        intro hlt
        have : Nat.blt i 16 = true := by simpa [Nat.blt_eq] using hlt
        rw [this] at hb
        cases hb
      rw [List.getElem?_append_right (by omega), hw.1]
      exact getC_flatten (d :: cs) (i - 16) x hw.2 (by simpa [getC] using h)

def descOf (tys : List (List TypeInfo)) (t : TypeId) : Option TypeDesc :=
  match getC tys t with
  | some i => match i.desc with
    | .named _ u => (getC tys u).map (·.desc)
    | d => some d
  | none => none

def tyOk (i : TypeInfo) : Bool := match i.zero with
  | some z => z.cells.toList.length == i.size && z.cells.toList.all plain1
  | none => false
def infoOf (tys : List (List TypeInfo)) (oks : List (List Bool)) (t : TypeId) : Option (Nat × Nat × List Value) :=
  match getC oks t with
  | some true => match getC tys t with
    | some i => match i.zero with
      | some z => some (i.size, i.bytes, z.cells.toList)
      | none => none
    | none => none
  | _ => none

def zeroOf (tys : List (List TypeInfo)) (oks : List (List Bool)) (t : TypeId) : Option Value :=
  match getC oks t with
  | some true => match getC tys t with
    | some i => i.zero
    | none => none
  | _ => none

def methOf (tys : List (List TypeInfo)) (t : TypeId) (name : String) : Option Method :=
  match getC tys t with
  | some i => i.methods.find? (·.name == name)
  | none => none

def bodyOk (gs : List Nat) (f : Func) : Bool := match f.body with
  | some c => codeOk gs c
  | none => false
def fnOk (gs : List Nat) (f : Func) : Bool := !(f.name == "runtime.NumGoroutine") && bodyOk gs f
def fnOf (fns : List (List Func)) (oks : List (List Bool)) (f : FuncId) : Option Func :=
  match getC oks f with
  | some true => getC fns f
  | _ => none

def cmpOk (P : Program) (t : TypeId) : Bool := !P.stoodInHeld t && !P.eqGuardType P.depth t
def cmpOf (cs : List TypeId) (t : TypeId) : Bool := cs.any (Nat.beq t)
def mkTab (tys : List (List TypeInfo)) (tyOks : List (List Bool)) (fns : List (List Func)) (fnOks : List (List Bool)) (cs : List TypeId) (gs : List Nat) (ds : List FuncId) : Tab :=
  { desc := descOf tys, info := infoOf tys tyOks, fn := fnOf fns fnOks, cmp := cmpOf cs, zero := zeroOf tys tyOks, gs := gs, meth := methOf tys, dfr := fun f => ds.any (Nat.beq f) }

theorem mkTab_fits {P : Program} {tys : List (List TypeInfo)} {tyOks : List (List Bool)} {fns : List (List Func)} {fnOks : List (List Bool)} {cs : List TypeId} {gs : List Nat} {ds : List FuncId} (hcs : cs.all (cmpOk P) = true)
    (w1 : wfC tys = true) (w2 : wfC tyOks = true) (w3 : wfC fns = true) (w4 : wfC fnOks = true) (h1 : P.types.toList = tys.flatten) (h2 : P.types.toList.map tyOk = tyOks.flatten) (h3 : P.funcs.toList = fns.flatten) (h4 : P.funcs.toList.map (fnOk gs) = fnOks.flatten) :
    (mkTab tys tyOks fns fnOks cs gs ds).Fits P := by
  have hat : ∀ t i, getC tys t = some i → P.types.toList[t]? = some i := fun t i hi => by rw [h1]; exact getC_flatten tys t i w1 hi
  have hty : ∀ t i, getC tys t = some i → P.info? t = some i := by
    intro t i hi
    have hi' : P.types[t]? = some i := by simpa using hat t i hi
    have hlt : t < P.types.size := (Array.getElem?_eq_some_iff.1 hi').1
    unfold Tables.info?
    rw [if_pos hlt, hi']
  refine ⟨?_, ?_, ?_, ?_, ?_, ?_⟩
  · intro t d hd
    simp only [mkTab, descOf] at hd
    split at hd
    · rename_i i hi
      have h4 := hty t i hi
      unfold Program.underlying
      rw [h4]
      obtain ⟨desc, str, size, bytes, hp, al, fa, zero, comp, ms⟩ := i
      cases desc <;> simp only at hd ⊢ <;> first
        | exact hd
        | (simp only [Option.map_eq_some_iff] at hd
           obtain ⟨j, hj, rfl⟩ := hd
           rw [hty _ j hj]
           rfl)
    · cases hd
  · intro t n b z hz
    simp only [mkTab, infoOf] at hz
    split at hz
    · rename_i hok
      split at hz
      · rename_i i hi
        split at hz
        · rename_i zv hzv
          simp only [Option.some.injEq, Prod.mk.injEq] at hz
          obtain ⟨rfl, rfl, rfl⟩ := hz
          have h5 := getC_flatten tyOks t true w2 hok
          rw [← h2, List.getElem?_map, hat t i hi, Option.map_some, Option.some.injEq] at h5
          simp only [tyOk, hzv, Bool.and_eq_true, beq_iff_eq] at h5
          exact ⟨i, zv, hty t i hi, rfl, rfl, hzv, rfl, h5.1, h5.2⟩
        · cases hz
      · cases hz
    · cases hz
  · intro f fn hf
    simp only [mkTab, fnOf] at hf
    split at hf
    · rename_i hok
      have h5 := getC_flatten fnOks f true w4 hok
      have h6 := getC_flatten fns f fn w3 hf
      rw [← h3] at h6
      rw [← h4, List.getElem?_map, h6, Option.map_some, Option.some.injEq] at h5
      simp only [fnOk, Bool.and_eq_true, Bool.not_eq_true'] at h5
      refine ⟨by simpa using h6, h5.1, fun c hcb => ?_⟩
      have := h5.2
      unfold bodyOk at this
      rw [hcb] at this
      exact this
    · cases hf
  · intro t ht
    simp only [mkTab, cmpOf, List.any_eq_true] at ht
    obtain ⟨u, hu, he⟩ := ht
    have : t = u := Nat.eq_of_beq_eq_true he
    subst this
    have := List.all_eq_true.1 hcs t hu
    simpa [cmpOk] using this
  · intro t v hv
    simp only [mkTab, zeroOf] at hv
    split at hv
    · rename_i hok
      split at hv
      · rename_i i hi
        have h5 := getC_flatten tyOks t true w2 hok
        rw [← h2, List.getElem?_map, hat t i hi, Option.map_some, Option.some.injEq] at h5
        simp only [tyOk, hv, Bool.and_eq_true, beq_iff_eq] at h5
        refine ⟨⟨i, hty t i hi, hv⟩, ?_⟩
        have h6 := h5.2
        cases v <;> simpa [plain, Value.cells] using h6
      · cases hv
    · cases hv
  · intro t name m hm
    simp only [mkTab, methOf] at hm
    split at hm
    · rename_i i hi; exact ⟨i, hty t i hi, hm⟩
    · cases hm
end Go.Am
namespace Go.Proofs.Ytompindebndddaa
open Go.Am
noncomputable def tyTab : List (List TypeInfo) := [[Try.t0, Try.t1, Try.t2, Try.t3, Try.t4, Try.t5, Try.t6, Try.t7, Try.t8, Try.t9, Try.t10, Try.t11, Try.t12, Try.t13, Try.t14, Try.t15],
  [Try.t16, Try.t17, Try.t18, Try.t19, Try.t20, Try.t21, Try.t22, Try.t23, Try.t24, Try.t25, Try.t26, Try.t27, Try.t28, Try.t29, Try.t30, Try.t31],
  [Try.t32, Try.t33, Try.t34, Try.t35, Try.t36, Try.t37, Try.t38, Try.t39, Try.t40, Try.t41, Try.t42, Try.t43, Try.t44, Try.t45, Try.t46, Try.t47],
  [Try.t48, Try.t49, Try.t50, Try.t51, Try.t52, Try.t53, Try.t54, Try.t55, Try.t56, Try.t57, Try.t58, Try.t59, Try.t60, Try.t61, Try.t62, Try.t63],
  [Try.t64, Try.t65, Try.t66, Try.t67, Try.t68, Try.t69, Try.t70, Try.t71, Try.t72, Try.t73, Try.t74, Try.t75, Try.t76, Try.t77, Try.t78, Try.t79],
  [Try.t80, Try.t81, Try.t82, Try.t83, Try.t84, Try.t85, Try.t86, Try.t87, Try.t88, Try.t89, Try.t90, Try.t91, Try.t92, Try.t93, Try.t94, Try.t95],
  [Try.t96, Try.t97, Try.t98, Try.t99, Try.t100, Try.t101, Try.t102, Try.t103, Try.t104, Try.t105, Try.t106, Try.t107, Try.t108, Try.t109, Try.t110, Try.t111],
  [Try.t112, Try.t113, Try.t114, Try.t115, Try.t116, Try.t117, Try.t118, Try.t119, Try.t120, Try.t121, Try.t122, Try.t123, Try.t124, Try.t125, Try.t126, Try.t127],
  [Try.t128, Try.t129, Try.t130, Try.t131, Try.t132, Try.t133, Try.t134, Try.t135, Try.t136, Try.t137, Try.t138, Try.t139, Try.t140, Try.t141, Try.t142, Try.t143],
  [Try.t144, Try.t145, Try.t146, Try.t147, Try.t148, Try.t149, Try.t150, Try.t151, Try.t152, Try.t153, Try.t154, Try.t155, Try.t156, Try.t157, Try.t158, Try.t159],
  [Try.t160, Try.t161, Try.t162, Try.t163, Try.t164, Try.t165, Try.t166, Try.t167, Try.t168, Try.t169, Try.t170, Try.t171, Try.t172, Try.t173, Try.t174, Try.t175],
  [Try.t176, Try.t177, Try.t178, Try.t179, Try.t180, Try.t181, Try.t182, Try.t183, Try.t184, Try.t185, Try.t186, Try.t187, Try.t188, Try.t189, Try.t190, Try.t191],
  [Try.t192, Try.t193, Try.t194, Try.t195, Try.t196, Try.t197, Try.t198, Try.t199, Try.t200, Try.t201, Try.t202, Try.t203, Try.t204, Try.t205, Try.t206, Try.t207],
  [Try.t208, Try.t209, Try.t210, Try.t211, Try.t212, Try.t213, Try.t214, Try.t215, Try.t216, Try.t217, Try.t218, Try.t219, Try.t220, Try.t221, Try.t222, Try.t223],
  [Try.t224, Try.t225, Try.t226, Try.t227, Try.t228, Try.t229, Try.t230, Try.t231, Try.t232, Try.t233, Try.t234, Try.t235, Try.t236, Try.t237, Try.t238, Try.t239],
  [Try.t240, Try.t241, Try.t242, Try.t243, Try.t244, Try.t245, Try.t246, Try.t247, Try.t248, Try.t249, Try.t250, Try.t251, Try.t252, Try.t253]]
def tyOks : List (List Bool) := [[false, true, true, true, true, true, true, true, true, true, true, true, true, true, true, true],
  [true, true, true, true, true, true, true, true, true, true, true, true, true, true, false, true],
  [true, true, true, true, true, true, true, true, true, true, true, false, true, true, true, true],
  [true, true, true, true, true, true, true, true, true, true, true, true, true, true, true, true],
  [true, true, true, true, true, true, true, true, true, true, true, true, false, true, false, true],
  [true, true, true, true, true, false, true, true, true, true, true, false, true, true, true, true],
  [true, true, true, true, false, true, true, true, true, false, true, true, true, true, true, true],
  [true, true, true, true, true, true, true, true, true, true, true, true, true, true, true, true],
  [true, true, true, true, true, true, true, true, true, true, true, true, true, false, true, true],
  [true, true, true, true, true, true, true, true, true, true, false, true, true, true, true, true],
  [true, true, true, false, true, true, true, true, true, true, true, true, true, true, true, true],
  [true, true, true, true, true, true, true, true, true, true, true, true, false, true, true, true],
  [true, false, true, true, true, true, true, true, false, true, true, true, true, true, true, true],
  [true, true, true, true, true, true, true, true, false, true, true, true, true, true, true, true],
  [true, true, true, true, true, true, true, true, true, true, true, true, false, true, true, true],
  [true, true, true, true, true, true, true, true, true, true, true, true, true, true]]
noncomputable def fnTab : List (List Func) := [[Try.f0, Try.f1, Try.f2, Try.f3, Try.f4, Try.f5, Try.f6, Try.f7, Try.f8, Try.f9, Try.f10, Try.f11, Try.f12, Try.f13, Try.f14, Try.f15],
  [Try.f16, Try.f17, Try.f18, Try.f19, Try.f20, Try.f21, Try.f22, Try.f23, Try.f24, Try.f25, Try.f26, Try.f27, Try.f28, Try.f29, Try.f30, Try.f31],
  [Try.f32, Try.f33, Try.f34, Try.f35, Try.f36, Try.f37, Try.f38, Try.f39, Try.f40, Try.f41, Try.f42, Try.f43, Try.f44, Try.f45, Try.f46, Try.f47],
  [Try.f48, Try.f49, Try.f50, Try.f51, Try.f52, Try.f53, Try.f54, Try.f55, Try.f56, Try.f57, Try.f58, Try.f59, Try.f60, Try.f61, Try.f62, Try.f63],
  [Try.f64, Try.f65, Try.f66, Try.f67, Try.f68, Try.f69, Try.f70, Try.f71, Try.f72, Try.f73, Try.f74, Try.f75, Try.f76, Try.f77, Try.f78, Try.f79],
  [Try.f80, Try.f81, Try.f82, Try.f83, Try.f84, Try.f85, Try.f86, Try.f87, Try.f88, Try.f89, Try.f90, Try.f91, Try.f92, Try.f93, Try.f94, Try.f95],
  [Try.f96, Try.f97, Try.f98, Try.f99, Try.f100, Try.f101, Try.f102, Try.f103, Try.f104, Try.f105, Try.f106, Try.f107, Try.f108, Try.f109, Try.f110, Try.f111],
  [Try.f112, Try.f113, Try.f114, Try.f115, Try.f116, Try.f117, Try.f118, Try.f119, Try.f120, Try.f121, Try.f122, Try.f123, Try.f124, Try.f125, Try.f126, Try.f127],
  [Try.f128, Try.f129, Try.f130, Try.f131, Try.f132, Try.f133, Try.f134, Try.f135, Try.f136, Try.f137, Try.f138, Try.f139, Try.f140, Try.f141, Try.f142, Try.f143],
  [Try.f144, Try.f145, Try.f146, Try.f147, Try.f148, Try.f149, Try.f150, Try.f151, Try.f152, Try.f153, Try.f154, Try.f155, Try.f156, Try.f157, Try.f158, Try.f159],
  [Try.f160, Try.f161, Try.f162, Try.f163, Try.f164, Try.f165, Try.f166, Try.f167, Try.f168, Try.f169, Try.f170, Try.f171, Try.f172, Try.f173, Try.f174, Try.f175],
  [Try.f176, Try.f177, Try.f178, Try.f179, Try.f180, Try.f181, Try.f182, Try.f183, Try.f184, Try.f185, Try.f186, Try.f187, Try.f188, Try.f189, Try.f190, Try.f191],
  [Try.f192, Try.f193, Try.f194, Try.f195, Try.f196, Try.f197, Try.f198, Try.f199, Try.f200, Try.f201, Try.f202, Try.f203, Try.f204, Try.f205, Try.f206, Try.f207],
  [Try.f208, Try.f209, Try.f210, Try.f211, Try.f212, Try.f213, Try.f214, Try.f215, Try.f216, Try.f217, Try.f218, Try.f219, Try.f220, Try.f221, Try.f222, Try.f223],
  [Try.f224, Try.f225, Try.f226, Try.f227, Try.f228, Try.f229, Try.f230, Try.f231, Try.f232, Try.f233, Try.f234, Try.f235, Try.f236, Try.f237, Try.f238, Try.f239],
  [Try.f240, Try.f241, Try.f242, Try.f243]]
def fnOks : List (List Bool) := [[false, false, true, true, true, true, true, true, true, true, true, true, true, true, true, true],
  [true, true, true, true, true, true, true, true, true, true, true, true, true, true, true, true],
  [true, true, true, true, true, true, true, true, true, true, true, true, true, true, true, true],
  [true, true, true, true, true, true, true, true, true, true, true, true, true, true, true, true],
  [true, true, true, true, true, true, true, true, true, true, true, true, true, true, true, true],
  [true, true, true, true, true, true, true, true, true, true, true, true, true, true, true, true],
  [true, true, true, true, true, true, true, true, true, true, true, true, true, true, true, true],
  [true, true, true, true, true, true, true, true, true, true, true, true, true, true, true, true],
  [true, true, true, true, true, true, true, true, true, true, true, true, true, true, true, true],
  [true, true, true, true, true, true, true, true, true, true, true, true, false, true, true, true],
  [true, true, true, true, true, true, true, true, true, true, true, true, true, true, true, true],
  [true, true, true, true, true, true, true, true, true, true, true, true, true, true, true, true],
  [false, true, true, true, true, true, true, true, true, true, true, true, true, true, true, true],
  [true, true, true, true, true, true, true, true, true, true, true, true, true, true, true, true],
  [true, false, false, false, false, false, false, false, false, false, false, false, false, false, false, false],
  [false, false, false, false]]
def cmpTys : List TypeId := [7, 8, 35, 36, 37, 38, 39, 104, 122, 123, 191, 192]
noncomputable def tab : Tab := mkTab tyTab tyOks fnTab fnOks cmpTys [] []
theorem tab_types : Try.prog.types.toList = tyTab.flatten := by kernel_rfl
theorem tab_tyOks : Try.prog.types.toList.map tyOk = tyOks.flatten := by kernel_rfl
theorem tab_funcs : Try.prog.funcs.toList = fnTab.flatten := by kernel_rfl
theorem tab_fnOks : Try.prog.funcs.toList.map (fnOk []) = fnOks.flatten := by kernel_rfl
theorem tab_fits : tab.Fits Try.prog := mkTab_fits (show cmpTys.all (cmpOk Try.prog) = true by kernel_rfl) (by kernel_rfl) (by kernel_rfl) (by kernel_rfl) (by kernel_rfl) tab_types tab_tyOks tab_funcs tab_fnOks
theorem mixed : Try.prog.follows .mixedOrders = true := by kernel_rfl
theorem tab_info3 : tab.info 3 = some (1, 8, [.int .i64 0]) := by kernel_rfl
theorem tab_info9 : tab.info 9 = some (1, 16, [.string ⟨#[]⟩]) := by kernel_rfl
theorem tab_info23 : tab.info 23 = some (1, 24, [.slice none 0 0]) := by kernel_rfl
theorem tab_info36 : tab.info 36 = some (2, 24, [.bool false, .string ⟨#[]⟩]) := by kernel_rfl
theorem tab_info39 : tab.info 39 = some (11, 136, [.string ⟨#[]⟩, .string ⟨#[]⟩, .int .i64 0, .bool false, .string ⟨#[]⟩, .bool false, .string ⟨#[]⟩, .bool false, .string ⟨#[]⟩, .bool false, .string ⟨#[]⟩]) := by kernel_rfl
theorem tab_info41 : tab.info 41 = some (13, 168, [.string ⟨#[]⟩, .string ⟨#[]⟩, .int .i64 0, .bool false, .string ⟨#[]⟩, .bool false, .string ⟨#[]⟩, .bool false, .string ⟨#[]⟩, .bool false, .string ⟨#[]⟩, .int .i64 0, .slice none 0 0]) := by kernel_rfl
theorem tab_info47 : tab.info 47 = some (12, 160, [.string ⟨#[]⟩, .string ⟨#[]⟩, .int .i64 0, .bool false, .string ⟨#[]⟩, .bool false, .string ⟨#[]⟩, .bool false, .string ⟨#[]⟩, .bool false, .string ⟨#[]⟩, .slice none 0 0]) := by kernel_rfl
theorem tab_info103 : tab.info 103 = some (1, 8, [.map none]) := by kernel_rfl
theorem tab_info104 : tab.info 104 = some (0, 0, []) := by kernel_rfl
theorem tab_info192 : tab.info 192 = some (3, 40, [.string ⟨#[]⟩, .bool false, .string ⟨#[]⟩]) := by kernel_rfl
theorem tab_fn3 : tab.fn 3 = some Try.f3 := by kernel_rfl
theorem tab_fn13 : tab.fn 13 = some Try.f13 := by kernel_rfl
theorem tab_fn14 : tab.fn 14 = some Try.f14 := by kernel_rfl
theorem tab_fn15 : tab.fn 15 = some Try.f15 := by kernel_rfl
theorem tab_fn16 : tab.fn 16 = some Try.f16 := by kernel_rfl
theorem tab_fn17 : tab.fn 17 = some Try.f17 := by kernel_rfl
theorem tab_fn18 : tab.fn 18 = some Try.f18 := by kernel_rfl
theorem tab_fn19 : tab.fn 19 = some Try.f19 := by kernel_rfl
theorem tab_fn20 : tab.fn 20 = some Try.f20 := by kernel_rfl
theorem tab_fn21 : tab.fn 21 = some Try.f21 := by kernel_rfl
theorem tab_fn22 : tab.fn 22 = some Try.f22 := by kernel_rfl
theorem tab_fn23 : tab.fn 23 = some Try.f23 := by kernel_rfl
theorem tab_fn28 : tab.fn 28 = some Try.f28 := by kernel_rfl
theorem tab_fn29 : tab.fn 29 = some Try.f29 := by kernel_rfl
theorem tab_fn36 : tab.fn 36 = some Try.f36 := by kernel_rfl
theorem tab_fn42 : tab.fn 42 = some Try.f42 := by kernel_rfl
theorem tab_fn46 : tab.fn 46 = some Try.f46 := by kernel_rfl
theorem tab_fn50 : tab.fn 50 = some Try.f50 := by kernel_rfl
theorem tab_fn51 : tab.fn 51 = some Try.f51 := by kernel_rfl
theorem tab_fn55 : tab.fn 55 = some Try.f55 := by kernel_rfl
theorem tab_fn75 : tab.fn 75 = some Try.f75 := by kernel_rfl
theorem tab_fn76 : tab.fn 76 = some Try.f76 := by kernel_rfl
theorem tab_fn77 : tab.fn 77 = some Try.f77 := by kernel_rfl
theorem tab_fn78 : tab.fn 78 = some Try.f78 := by kernel_rfl
theorem tab_fn79 : tab.fn 79 = some Try.f79 := by kernel_rfl
theorem tab_fn80 : tab.fn 80 = some Try.f80 := by kernel_rfl
theorem tab_fn81 : tab.fn 81 = some Try.f81 := by kernel_rfl
theorem tab_fn82 : tab.fn 82 = some Try.f82 := by kernel_rfl
theorem tab_fn83 : tab.fn 83 = some Try.f83 := by kernel_rfl
theorem tab_fn84 : tab.fn 84 = some Try.f84 := by kernel_rfl
theorem tab_fn86 : tab.fn 86 = some Try.f86 := by kernel_rfl
theorem tab_fn87 : tab.fn 87 = some Try.f87 := by kernel_rfl
theorem tab_fn88 : tab.fn 88 = some Try.f88 := by kernel_rfl
theorem tab_fn111 : tab.fn 111 = some Try.f111 := by kernel_rfl
theorem tab_fn113 : tab.fn 113 = some Try.f113 := by kernel_rfl
theorem tab_fn115 : tab.fn 115 = some Try.f115 := by kernel_rfl
theorem tab_fn130 : tab.fn 130 = some Try.f130 := by kernel_rfl
theorem tab_fn131 : tab.fn 131 = some Try.f131 := by kernel_rfl
theorem tab_fn132 : tab.fn 132 = some Try.f132 := by kernel_rfl
theorem tab_fn133 : tab.fn 133 = some Try.f133 := by kernel_rfl
theorem tab_fn134 : tab.fn 134 = some Try.f134 := by kernel_rfl
theorem tab_fn135 : tab.fn 135 = some Try.f135 := by kernel_rfl
theorem tab_fn136 : tab.fn 136 = some Try.f136 := by kernel_rfl
theorem tab_fn137 : tab.fn 137 = some Try.f137 := by kernel_rfl
theorem tab_fn138 : tab.fn 138 = some Try.f138 := by kernel_rfl
theorem tab_fn139 : tab.fn 139 = some Try.f139 := by kernel_rfl
theorem tab_fn140 : tab.fn 140 = some Try.f140 := by kernel_rfl
theorem tab_fn142 : tab.fn 142 = some Try.f142 := by kernel_rfl
theorem tab_fn143 : tab.fn 143 = some Try.f143 := by kernel_rfl
theorem tab_fn144 : tab.fn 144 = some Try.f144 := by kernel_rfl
theorem tab_fn150 : tab.fn 150 = some Try.f150 := by kernel_rfl
theorem tab_fn155 : tab.fn 155 = some Try.f155 := by kernel_rfl
theorem tab_fn158 : tab.fn 158 = some Try.f158 := by kernel_rfl
theorem tab_fn165 : tab.fn 165 = some Try.f165 := by kernel_rfl
theorem tab_fn166 : tab.fn 166 = some Try.f166 := by kernel_rfl
theorem tab_fn167 : tab.fn 167 = some Try.f167 := by kernel_rfl
theorem tab_fn168 : tab.fn 168 = some Try.f168 := by kernel_rfl
theorem tab_fn169 : tab.fn 169 = some Try.f169 := by kernel_rfl
theorem tab_fn170 : tab.fn 170 = some Try.f170 := by kernel_rfl
theorem tab_fn171 : tab.fn 171 = some Try.f171 := by kernel_rfl
theorem tab_fn172 : tab.fn 172 = some Try.f172 := by kernel_rfl
theorem tab_fn173 : tab.fn 173 = some Try.f173 := by kernel_rfl
theorem tab_fn174 : tab.fn 174 = some Try.f174 := by kernel_rfl
theorem tab_fn175 : tab.fn 175 = some Try.f175 := by kernel_rfl
theorem tab_fn176 : tab.fn 176 = some Try.f176 := by kernel_rfl
theorem tab_fn177 : tab.fn 177 = some Try.f177 := by kernel_rfl
theorem tab_fn180 : tab.fn 180 = some Try.f180 := by kernel_rfl
theorem tab_fn198 : tab.fn 198 = some Try.f198 := by kernel_rfl
theorem tab_fn199 : tab.fn 199 = some Try.f199 := by kernel_rfl
theorem tab_fn200 : tab.fn 200 = some Try.f200 := by kernel_rfl
theorem tab_fn201 : tab.fn 201 = some Try.f201 := by kernel_rfl
theorem tab_fn202 : tab.fn 202 = some Try.f202 := by kernel_rfl
theorem tab_fn203 : tab.fn 203 = some Try.f203 := by kernel_rfl
theorem tab_fn204 : tab.fn 204 = some Try.f204 := by kernel_rfl
theorem tab_fn205 : tab.fn 205 = some Try.f205 := by kernel_rfl
theorem tab_fn206 : tab.fn 206 = some Try.f206 := by kernel_rfl
theorem tab_fn207 : tab.fn 207 = some Try.f207 := by kernel_rfl
theorem tab_fn208 : tab.fn 208 = some Try.f208 := by kernel_rfl
theorem tab_fn209 : tab.fn 209 = some Try.f209 := by kernel_rfl
theorem tab_fn210 : tab.fn 210 = some Try.f210 := by kernel_rfl
theorem tab_fn221 : tab.fn 221 = some Try.f221 := by kernel_rfl
theorem tab_fn222 : tab.fn 222 = some Try.f222 := by kernel_rfl
end Go.Proofs.Ytompindebndddaa

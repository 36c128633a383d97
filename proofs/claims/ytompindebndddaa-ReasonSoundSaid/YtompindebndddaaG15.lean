/- Functions of the library with a contract of the kit's, for the plain machine. No condition. -/
import Derived.Test.YtompindebndddaaG1
import Derived.Shelf.Small.Strs
import Derived.Lib.Join
import Derived.Shelf.Strings.Builder1
import Derived.Shelf.Strings.Builder2
import Derived.Shelf.Strings.OnBuilder
import Derived.Test.YtompindebndddaaProg
namespace Go.Am
open Go.RowKit
section
variable {P : Program} {gs : List Nat} {ρ : Rho} {h : Heap} {w w' : World}

theorem Sim.below (hs : Sim ρ h w) (hb : Below w.heap.size w w') : Sim ρ h w' :=
  ⟨fun A L hA => (hs.blk A L hA).keep (fun _ _ h => h) hb.size (fun _ => hb.block _ (hs.lt hA)), hs.inj⟩
theorem Fr.of_below (ρ : Rho) (h : Heap) (hb : Below w.heap.size w w') : Fr ρ ρ h h w w' :=
  ⟨fun _ _ h => h, fun A L h1 h2 => (by rw [h1] at h2; cases h2), hb.os, hb.tape, hb.output, hb.size, Nat.le_refl _, Nat.le_refl _, fun b hl _ => hb.block b hl, fun _ _ _ => rfl⟩

theorem run_enter {T : Tab} (hT : T.Fits P) {f : FuncId} {fn : Func} (hf : T.fn f = some fn) {c : Code} (hc : fn.body = some c) (cargs : Array Value) (w : World) : (callFunc f cargs).run P w = .ok (.enter f cargs) w := by
  obtain ⟨hP, hname, _⟩ := hT.fn f fn hf
  have hname' : ¬ fn.name = "runtime.NumGoroutine" := by simpa using hname
  simp [callFunc, hP, hname', hc]

def Ov1 (P : Program) (gs : List Nat) (f : FuncId) (g : List Value → Heap → Option (Value × Heap)) : Prop :=
  ∀ args h v h', g args h = some (v, h') → Keeps h h' ∧ ∀ ρ w (cargs : Array Value), GlobOk gs ρ → Sim ρ h w → Free ρ h h' → VRs ρ args cargs.toList → CallR P ρ h h' w v f cargs

theorem ov1_pure {f : FuncId} {g : List Value → Heap → Option (Value × Heap)} (henter : ∀ cargs w, (callFunc f cargs).run P w = .ok (.enter f cargs) w)
    (hg : ∀ args h v h', g args h = some (v, h') → h' = h ∧ plain v = true ∧ ∀ ρ w (cargs : Array Value), Sim ρ h w → VRs ρ args cargs.toList → Calls P f cargs w fun e w' => e = .returned v ∧ Below w.heap.size w w') : Ov1 P gs f g := by
  intro args h v h' hev
  obtain ⟨rfl, hp, hc⟩ := hg args h v h' hev
  refine ⟨.refl _, fun ρ w cargs _ hs _ hv => .inr ⟨henter cargs w, (hc ρ w cargs hs hv).mono ?_⟩⟩
  rintro e w' ⟨rfl, hb⟩
  exact ⟨ρ, v, rfl, .of_below ρ _ hb, hs.below hb, .of_plain ρ hp⟩

def strs : List Value → Option (List ByteArray)
  | [] => some []
  | .string s :: l => (strs l).map (s :: ·)
  | _ => none

def joinA (args : List Value) (h : Heap) : Option (Value × Heap) := match args with
  | [.slice a n _, .string sep] =>
    if n = 0 then some (.string ⟨#[]⟩, h) else
    match a with
    | some ⟨A, o, none⟩ => (cellsAt A o n h).bind fun l => (strs l).bind fun xs =>
      if n ≤ 140737488355328 ∧ (Lib.join (xs.map (·.data.toList)) sep.data.toList).length ≤ 140737488355328 then some (.string ⟨(Lib.join (xs.map (·.data.toList)) sep.data.toList).toArray⟩, h) else none
    | _ => none
  | _ => none

def compareA (args : List Value) (h : Heap) : Option (Value × Heap) := match args with
  | [.string a, .string b] => some (.int .i64 (Lib.compareBytes a.data.toList b.data.toList), h)
  | _ => none

theorem strs_get : ∀ (l : List Value) (xs : List ByteArray), strs l = some xs → xs.length = l.length ∧ ∀ (j : Nat) (x : ByteArray), xs[j]? = some x → l[j]? = some (.string x)
  | [], xs, hx => by simp only [strs, Option.some.injEq] at hx; subst hx; exact ⟨rfl, fun j x hj => by simp at hj⟩
  | v :: l, xs, hx => by
    cases v with
    | string s =>
      simp only [strs, Option.map_eq_some_iff] at hx
      obtain ⟨ys, hy, rfl⟩ := hx
      obtain ⟨h1, h2⟩ := strs_get l ys hy
      refine ⟨by simp [h1], fun j x hj => ?_⟩
      cases j with
      | zero => simp at hj; simp [hj]
      | succ j => simpa using h2 j x (by simpa using hj)
    | _ => simp [strs] at hx

theorem ov1_compare {f : FuncId} (henter : ∀ cargs w, (callFunc f cargs).run P w = .ok (.enter f cargs) w)
    (hc : ∀ a b w, Calls P f #[.string a, .string b] w fun e w' => e = .returned (.int .i64 (Lib.compareBytes a.data.toList b.data.toList)) ∧ w' = w) : Ov1 P gs f compareA := by
  refine ov1_pure henter fun args h v h' hev => ?_
  unfold compareA at hev
  split at hev
  · rename_i a b
    cases hev
    refine ⟨rfl, rfl, fun ρ w cargs hs hv => ?_⟩
    obtain ⟨x, m, h1, hx, hv⟩ := hv.of_cons
    obtain ⟨y, m', h2, hy, hv⟩ := hv.of_cons
    have := hv.of_nil
    subst this
    cases hx
    cases hy
    subst h2
    have hca : cargs = #[.string a, .string b] := by rw [← Array.toList_inj]; exact h1
    subst hca
    refine (hc a b w).mono ?_
    rintro e w' ⟨rfl, rfl⟩
    exact ⟨rfl, .refl _ _⟩
  · cases hev

theorem ov1_join {f : FuncId} (henter : ∀ cargs w, (callFunc f cargs).run P w = .ok (.enter f cargs) w)
    (h0 : ∀ a c sep w, Calls P f #[.slice a 0 c, .string sep] w fun e w' => e = .returned (.string ⟨#[]⟩) ∧ w' = w)
    (hj : ∀ (bk o c : Nat) (xs : List ByteArray) (sep : ByteArray) (w : World), (∀ (j : Nat) x, xs[j]? = some x → w.cell? ⟨bk, o + j, none⟩ = some (.string x)) → bk < w.heap.size → xs.length ≤ 140737488355328 → xs.length ≤ c → (Lib.join (xs.map (·.data.toList)) sep.data.toList).length ≤ 140737488355328 →
      Calls P f #[.slice (some ⟨bk, o, none⟩) xs.length c, .string sep] w fun e w' => e = .returned (.string ⟨(Lib.join (xs.map (·.data.toList)) sep.data.toList).toArray⟩) ∧ Below w.heap.size w w') : Ov1 P gs f joinA := by
  refine ov1_pure henter fun args h v h' hev => ?_
  unfold joinA at hev
  split at hev
  · rename_i a n c sep
    split at hev
    · rename_i hn
      cases hev
      subst hn
      refine ⟨rfl, rfl, fun ρ w cargs hs hv => ?_⟩
      obtain ⟨x, m, h1, hx, hv⟩ := hv.of_cons
      obtain ⟨y, m', h2, hy, hv⟩ := hv.of_cons
      have := hv.of_nil
      subst this
      cases hy
      subst h2
      have hxs : ∃ a' c', x = .slice a' 0 c' := by cases hx <;> exact ⟨_, _, rfl⟩
      obtain ⟨a', c', rfl⟩ := hxs
      have hca : cargs = #[.slice a' 0 c', .string sep] := by rw [← Array.toList_inj]; exact h1
      subst hca
      refine (h0 a' c' sep w).mono ?_
      rintro e w' ⟨rfl, rfl⟩
      exact ⟨rfl, .refl _ _⟩
    · rename_i hn
      split at hev
      · rename_i A o
        simp only [Option.bind_eq_some_iff] at hev
        obtain ⟨l, hl, xs, hxs, hev⟩ := hev
        split at hev
        · rename_i hle
          cases hev
          refine ⟨rfl, rfl, fun ρ w cargs hs hv => ?_⟩
          obtain ⟨x, m, h1, hx, hv⟩ := hv.of_cons
          obtain ⟨y, m', h2, hy, hv⟩ := hv.of_cons
          have := hv.of_nil
          subst this
          cases hy
          subst h2
          have key : ∃ L c', ρ A = some L ∧ n ≤ c' ∧ x = .slice (some ⟨L.b, L.s + o, none⟩) n c' := by
            cases hx with
            | slice hA hc hnc had => exact ⟨_, _, hA, hnc, by rw [had (by omega)]⟩
            | sliceG hA hc hlo hnc hk hm had => exact ⟨_, _, hA, Nat.le_trans hnc hlo, by rw [(had (by omega)).1]⟩
          obtain ⟨L, c', hA, hnc, rfl⟩ := key
          have hca : cargs = #[.slice (some ⟨L.b, L.s + o, none⟩) n c', .string sep] := by rw [← Array.toList_inj]; exact h1
          subst hca
          obtain ⟨ms, hms, hmlen, hrange⟩ := cellsAt_sound hs hA hl
          obtain ⟨hxl, hxg⟩ := strs_get l xs hxs
          have hnl : xs.length = n := by rw [hxl, hms.1, hmlen]
          have := hj L.b (L.s + o) c' xs sep w (fun j x hx => by
            obtain ⟨y, hy, hxy⟩ := hms.get (hxg j x hx)
            cases hxy
            exact hrange j _ hy) (hs.lt hA) (by omega) (by omega) hle.2
          rw [hnl] at this
          exact this
        · cases hev
      · cases hev
  · cases hev
def trueA (args : List Value) (h : Heap) : Option (Value × Heap) := match args with
  | [] => some (.bool true, h)
  | _ => none
theorem ov1_true {f : FuncId} (henter : ∀ cargs w, (callFunc f cargs).run P w = .ok (.enter f cargs) w) (hc : ∀ w, Calls P f #[] w fun e w' => e = .returned (.bool true) ∧ Below w.heap.size w w') : Ov1 P gs f trueA := by
  refine ov1_pure henter fun args h v h' hev => ?_
  unfold trueA at hev
  split at hev
  · cases hev
    refine ⟨rfl, rfl, fun ρ w cargs hs hv => ?_⟩
    have := hv.of_nil
    have hca : cargs = #[] := by rw [← Array.toList_inj]; exact this
    subst hca
    exact hc w
  · cases hev
end
end Go.Am
namespace Go.Proofs
open Go.Shelf
def Try.lays156_ren : Go.Shelf.Ren := ⟨fun | 156 => 155 | 165 => 193 | 166 => 194 | 169 => 195 | 240 => 218 | 241 => 219 | 276 => 225 | 277 => 226 | n => n, fun | 31 => 60 | 9 => 9 | 3 => 3 | 4 => 4 | 0 => 0 | 20 => 20 | 72 => 212 | 76 => 216 | 70 => 209 | 37 => 210 | 75 => 215 | 127 => 233 | 164 => 238 | 5 => 5 | 80 => 218 | n => n, fun | n => n⟩
theorem Try.lays156 : Go.Proofs.Lays.n156 Try.prog Try.lays156_ren := {
  mixed := by kernel_rfl
  f156 := Try.func155.trans (congrArg some (by kernel_rfl))
  f165 := Try.func193.trans (congrArg some (by kernel_rfl))
  f166 := Try.func194.trans (congrArg some (by kernel_rfl))
  f169 := Try.func195.trans (congrArg some (by kernel_rfl))
  f240 := Try.func218.trans (congrArg some (by kernel_rfl))
  f241 := Try.func219.trans (congrArg some (by kernel_rfl))
  f276 := Try.func225.trans (congrArg some (by kernel_rfl))
  f277 := Try.func226.trans (congrArg some (by kernel_rfl))
  t0 := Try.underlying0
  a0 := Try.isAgg0
  z0 := Try.sizeOf0
  v0 := Try.zeroValue0
  t3 := Try.underlying3
  a3 := Try.isAgg3
  z3 := Try.sizeOf3
  v3 := Try.zeroValue3
  t4 := Try.underlying4
  a4 := Try.isAgg4
  z4 := Try.sizeOf4
  v4 := Try.zeroValue4
  t9 := Try.underlying9
  a9 := Try.isAgg9
  z9 := Try.sizeOf9
  v9 := Try.zeroValue9
  t20 := Try.underlying20
  a20 := Try.isAgg20
  z20 := Try.sizeOf20
  v20 := Try.zeroValue20
  t31 := Try.underlying60
  a31 := Try.isAgg60
  z31 := Try.sizeOf60
  v31 := Try.zeroValue60
  t37 := Try.underlying210
  a37 := Try.isAgg210
  z37 := Try.sizeOf210
  v37 := Try.zeroValue210
  t70 := Try.underlying209
  a70 := Try.isAgg209
  z70 := Try.sizeOf209
  v70 := Try.zeroValue209
  t72 := Try.underlying212
  a72 := Try.isAgg212
  z72 := Try.sizeOf212
  v72 := Try.zeroValue212
  t75 := Try.underlying215
  a75 := Try.isAgg215
  z75 := Try.sizeOf215
  v75 := Try.zeroValue215
  t76 := Try.underlying216
  a76 := Try.isAgg216
  z76 := Try.sizeOf216
  v76 := Try.zeroValue216
  t127 := Try.underlying233
  a127 := Try.isAgg233
  z127 := Try.sizeOf233
  v127 := Try.zeroValue233
  t164 := Try.underlying238
  a164 := Try.isAgg238
  z164 := Try.sizeOf238
  v164 := Try.zeroValue238 }
theorem Try.Builder_Extra_156 : Builder.Extra Try.prog Try.lays156_ren := {
  sizeBuilder := by kernel_rfl
  liesBuilder := by kernel_rfl
  t5 := Try.underlying5
  a5 := Try.isAgg5
  z5 := Try.sizeOf5
  v5 := Try.zeroValue5
  infoByte := by kernel_rfl
  cellsByte := by kernel_rfl
  sizeByte := by kernel_rfl
  neB5 := by decide }
open Go.RowKit in
theorem Try.strings_Join_none (a : Option Addr) (c : Nat) (sep : ByteArray) (w : World) :
    Calls Try.prog 155 #[.slice a 0 c, .string sep] w fun e w' => e = .returned (.string ⟨#[]⟩) ∧ w' = w := Any.strings_Join_none Try.lays156 Try.Builder_Extra_156 a c sep w
open Go.RowKit in
theorem Try.strings_Join (bk o c : Nat) (xs : List ByteArray) (sep : ByteArray) (w : World) (hcells : ∀ (j : Nat) x, xs[j]? = some x → w.cell? ⟨bk, o + j, none⟩ = some (.string x)) (hbk : bk < w.heap.size) (hN : xs.length ≤ 140737488355328) (hcap : xs.length ≤ c) (hlen : (Lib.join (xs.map (·.data.toList)) sep.data.toList).length ≤ 140737488355328) :
    Calls Try.prog 155 #[.slice (some ⟨bk, o, none⟩) xs.length c, .string sep] w fun e w' => e = .returned (.string ⟨(Lib.join (xs.map (·.data.toList)) sep.data.toList).toArray⟩) ∧ Below w.heap.size w w' := Any.strings_Join Try.lays156 Try.Builder_Extra_156 bk o c xs sep w hcells hbk hN hcap hlen
def Try.lays106_ren : Go.Shelf.Ren := ⟨fun | 106 => 111 | 213 => 154 | 265 => 192 | n => n, fun | 9 => 9 | 3 => 3 | n => n, fun | n => n⟩
theorem Try.lays106 : Go.Proofs.Lays.n106 Try.prog Try.lays106_ren := {
  mixed := by kernel_rfl
  f106 := Try.func111.trans (congrArg some (by kernel_rfl))
  f213 := Try.func154.trans (congrArg some (by kernel_rfl))
  f265 := Try.func192.trans (congrArg some (by kernel_rfl))
  t3 := Try.underlying3
  a3 := Try.isAgg3
  z3 := Try.sizeOf3
  v3 := Try.zeroValue3
  t9 := Try.underlying9
  a9 := Try.isAgg9
  z9 := Try.sizeOf9
  v9 := Try.zeroValue9 }
open Go.RowKit in
theorem Try.strings_Compare (a b : ByteArray) (w : World) :
    Calls Try.prog 111 #[.string a, .string b] w fun e w' => e = .returned (.int .i64 (Lib.compareBytes a.data.toList b.data.toList)) ∧ w' = w := Any.strings_Compare Try.lays106 a b w
end Go.Proofs

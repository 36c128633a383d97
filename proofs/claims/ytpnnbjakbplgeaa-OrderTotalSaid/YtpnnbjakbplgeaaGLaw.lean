/- A law over plain arguments: from a walk in the plain machine to the row. No condition. -/
import Derived.Test.YtpnnbjakbplgeaaGOpen
import Derived.ProofKit
import Derived.HandedShaped
import Derived.WideKeyArgs
namespace Go.Am
open Go.RowKit Go.ChangeShapes Go.WideShapes Go.ChangeAt
section
variable {P : Program} {T : Tab} {ov : Ov} {W : World} {H : Type} {enc : TypeId × Value → H}
theorem wide_exists (W : World) : ∃ M, Wide W M := by
  have key : ∀ n, ∃ M, ∀ b, b < n → (rowOf W b).length < M := by
    intro n
    induction n with
    | zero => exact ⟨0, fun b hb => absurd hb (Nat.not_lt_zero _)⟩
    | succ n ih =>
      obtain ⟨M, hM⟩ := ih
      refine ⟨max M ((rowOf W n).length + 1), fun b hb => ?_⟩
      by_cases h : b < n
      · have := hM b h; omega
      · have : b = n := by omega
        subst this; omega
  exact key W.heap.size
theorem calls_args (hmix : P.follows .mixedOrders = true) (hT : T.Fits P) (hov : OvS P T.gs ov) {f : FuncId} {h : Heap} {ρ : Rho} (hf : ov f = none) {args : List Value} {cargs : Array Value}
    (hG : GlobOk T.gs ρ) (hs : Sim ρ h W) (hfree : ∀ A, h.size ≤ A → ρ A = none) (hl : h.low = h.size) (hv : VRs ρ args cargs.toList) (hok : Ok P T ov f args h fun v h' => v = .bool true ∧ Ext h h') :
    Calls P f cargs W fun e w' => e = .returned (.bool true) ∧ Below W.heap.size W w' := by
  obtain ⟨n, v, h', hrun, rfl, hx⟩ := hok
  have hcs := (call_sound hmix hT hov n).fn f args h (.bool true) h' hrun ρ W cargs hG hs (fun A h1 _ => hfree A h1) hv
  rcases hcs with ⟨ρ', u, w', h1, _⟩ | ⟨_, h1⟩
  · exfalso
    cases n with
    | zero => simp [call] at hrun
    | succ n =>
      simp only [call, hf, Option.bind_eq_some_iff] at hrun
      obtain ⟨fn, hfn, c, hc, _⟩ := hrun
      obtain ⟨hP, hname, _⟩ := hT.fn f fn hfn
      have hname' : ¬ fn.name = "runtime.NumGoroutine" := by simpa using hname
      simp [callFunc, hP, hname', hc] at h1
  · refine h1.mono ?_
    rintro e w' ⟨ρ', u, rfl, f1, s1, hv⟩
    refine ⟨?_, f1.below fun A L hA => ?_⟩
    · rw [hv.eq_plain rfl]
    · have h2 : A < h.size := by
        apply Nat.lt_of_not_le
        intro hh
        rw [hfree A hh] at hA
        cases hA
      have := hx.low
      omega

/-- An argument of a type. -/
def ArgShp (P : Program) (h : Heap) (n : Nat) (t : TypeId) (v : Value) : Prop := match P.underlying t with
  | some (.struct _) | some (.array _ _) => ∃ cs, v = .agg ⟨cs⟩ ∧ Shp P h n t cs
  | _ => Shp P h n t [v]
def ArgsShp (P : Program) (h : Heap) (n : Nat) : List TypeId → List Value → Prop
  | [], [] => True
  | t :: ts, v :: vs => ArgShp P h n t v ∧ ArgsShp P h n ts vs
  | _, _ => False
def imgV (N M : Nat) : Value → Value
  | .agg cs => .agg ⟨cs.toList.map (img N M)⟩
  | v => img N M v

theorem VRs_map {ρ : Rho} {h : Heap} {M : Nat} (hS : 0 < W.heap.size) (hM : 0 < M) {cs : List Value} (hc : ∀ u ∈ cs, opnB W.heap.size M u = true) : VRs (openRho W h ρ M) (cs.map (img h.size M)) cs := by
  refine ⟨by simp, fun i x y hx hy => ?_⟩
  rw [List.getElem?_map, hy] at hx
  cases hx
  exact img_VR hS hM (hc y (List.mem_of_getElem? hy))

theorem open_arg {h : Heap} {ρ : Rho} {M n base : Nat} {t : TypeId} {v : Value} {d : DataW H} {ps : List MemPlace} (hS : 0 < W.heap.size) (hMw : Wide W M) (hc : coverB P n t = true) (hval : Value.okWide P W .any base t v) (ht : DataW.Trod enc P W 0 (fun _ => true) true t v d ps) :
    VR (openRho W h ρ M) (imgV h.size M v) v ∧ ArgShp P (openHeap W h M) n t (imgV h.size M v) := by
  have hM : 0 < M := Nat.lt_of_le_of_lt (Nat.zero_le _) (hMw 0 hS)
  obtain ⟨fuel, ht⟩ := ht
  obtain ⟨h1, h2⟩ := open_shape (h := h) hS hMw n t _ fuel _ hc ht
  have agg : ∀ cs, v = .agg cs → VR (openRho W h ρ M) (imgV h.size M v) v ∧ imgV h.size M v = .agg ⟨v.cells.toList.map (img h.size M)⟩ := by
    rintro cs rfl
    refine ⟨?_, rfl⟩
    have := VRs_map (ρ := ρ) (h := h) hS hM h1
    have := this.toArray
    simpa [imgV, Value.cells] using this
  have one : v.cells = #[v] → VR (openRho W h ρ M) (imgV h.size M v) v ∧ v.cells.toList.map (img h.size M) = [imgV h.size M v] := by
    intro hv
    rw [hv] at h1 ⊢
    have hb := h1 v (by simp)
    have hi : imgV h.size M v = img h.size M v := by
      cases v with
      | agg cs => simp [opnB] at hb
      | _ => rfl
    rw [hi]
    exact ⟨img_VR hS hM hb, rfl⟩
  unfold ArgShp
  unfold Value.okWide at hval
  cases n with
  | zero => simp [coverB] at hc
  | succ n =>
    simp only [coverB] at hc
    cases hu : P.underlying t with
    | none => rw [hu] at hc; simp at hc
    | some dd =>
      rw [hu] at hc hval
      cases dd with
      | struct fs =>
        obtain ⟨cs, hv, _⟩ := hval
        obtain ⟨a1, a2⟩ := agg cs hv
        exact ⟨a1, _, a2, h2⟩
      | array m e =>
        obtain ⟨cs, hv, _⟩ := hval
        obtain ⟨a1, a2⟩ := agg cs hv
        exact ⟨a1, _, a2, h2⟩
      | bool =>
        simp only [Cell.okWide, Cell.ok, hu] at hval
        cases v <;> simp at hval
        obtain ⟨a1, a2⟩ := one rfl
        exact ⟨a1, by rw [← a2]; exact h2⟩
      | int k =>
        simp only [Cell.okWide, Cell.ok, hu] at hval
        cases v <;> simp at hval
        obtain ⟨a1, a2⟩ := one rfl
        exact ⟨a1, by rw [← a2]; exact h2⟩
      | string =>
        simp only [Cell.okWide, Cell.ok, hu] at hval
        cases v <;> simp at hval
        obtain ⟨a1, a2⟩ := one rfl
        exact ⟨a1, by rw [← a2]; exact h2⟩
      | slice e =>
        simp only [Cell.okWide, Cell.ok, hu] at hval
        cases v <;> simp at hval
        obtain ⟨a1, a2⟩ := one rfl
        exact ⟨a1, by rw [← a2]; exact h2⟩
      | _ => simp at hc

theorem open_args {h : Heap} {ρ : Rho} {M n base : Nat} (hS : 0 < W.heap.size) (hMw : Wide W M) : ∀ (ts : List TypeId) (vs : List Value) (ds : List (DataW H)) (ps : List MemPlace), ts.all (coverB P n) = true →
    (∀ (j : Nat) t v, ts[j]? = some t → vs[j]? = some v → Value.okWide P W .any base t v) → DataW.TrodAll enc P W 0 (fun _ => true) true ts vs ds ps →
    VRs (openRho W h ρ M) (vs.map (imgV h.size M)) vs ∧ ArgsShp P (openHeap W h M) n ts (vs.map (imgV h.size M))
  | [], [], [], _, _, _, _ => ⟨.nil _, trivial⟩
  | t :: ts, v :: vs, d :: ds, ps, hc, hval, ht => by
    simp only [List.all_cons, Bool.and_eq_true] at hc
    obtain ⟨p, q, h1, h2, _⟩ := ht
    obtain ⟨a1, a2⟩ := open_arg (h := h) (ρ := ρ) hS hMw hc.1 (hval 0 t v rfl rfl) h1
    obtain ⟨b1, b2⟩ := open_args (h := h) (ρ := ρ) hS hMw ts vs ds q hc.2 (fun j t v h3 h4 => hval (j + 1) t v (by simpa using h3) (by simpa using h4)) h2
    exact ⟨.cons a1 b1, a2, b2⟩
  | [], [], _ :: _, _, _, _, ht => ht.elim
  | [], _ :: _, _, _, _, _, ht => by cases ht
  | _ :: _, [], _, _, _, _, ht => by cases ht
  | _ :: _, _ :: _, [], _, _, _, ht => by cases ht

theorem trodAll_stays (hl : laidOutB P = true) {W W' : World} (hb : Below W.heap.size W W') (sp : Nat → Bool) : ∀ (ts : List TypeId) (vs : List Value) (ds : List (DataW H)) (ps : List MemPlace), ts.all (fun t => P.readableRec t && decide (t < P.types.size)) = true →
    (∀ x ∈ ps, x.block < W.heap.size) → (∀ x ∈ ps, sp x.block = true) → DataW.TrodAll enc P W 0 (fun _ => true) true ts vs ds ps → DataW.TrodAll enc P W' 0 sp true ts vs ds ps
  | [], [], [], _, _, _, _, h => h
  | t :: ts, v :: vs, d :: ds, ps, hr, hlt, hsp, h => by
    simp only [List.all_cons, Bool.and_eq_true, decide_eq_true_eq] at hr
    obtain ⟨p, q, h1, h2, rfl⟩ := h
    exact ⟨p, q, WideElems.Trod_stays hl hr.1.1 hr.1.2 h1 (fun x hx => hb.same (hlt x (by simp [hx]))) (fun x hx => hsp x (by simp [hx])),
      trodAll_stays hl hb sp ts vs ds q hr.2 (fun x hx => hlt x (by simp [hx])) (fun x hx => hsp x (by simp [hx])) h2, rfl⟩
  | [], [], _ :: _, _, _, _, _, h => h.elim
  | [], _ :: _, _, _, _, _, _, h => by cases h
  | _ :: _, [], _, _, _, _, _, h => by cases h
  | _ :: _, _ :: _, [], _, _, _, _, h => by cases h

/-- The whole road for a law over plain arguments, no package variable read. -/
theorem law_contract (hmix : P.follows .mixedOrders = true) (hT : T.Fits P) (hgs : T.gs = []) (hov : OvS P T.gs ov) {k : FuncId} {fn : Func} {s : ChangeSpec} {n boolT : Nat} {apart fresh handsOn again : Bool} {base : Nat} {args : Array Value} {ds gs : List (DataW H)} {before : List MemPlace}
    (hk : ov k = none) (hpos : P.globals.size < (begin P (fun _ _ => 0) default).world.heap.size) (hl : laidOutB P = true) (hvars : s.vars = []) (hres : fn.resultTypes.toList = [boolT]) (hrs : fn.resultTypes.size = 1) (hbool : P.underlying boolT = some .bool)
    (hcov : fn.params.toList.all (coverB P n) = true) (hread : fn.params.toList.all (fun t => P.readableRec t && decide (t < P.types.size)) = true)
    (hfn : ∀ ds : List (DataW H), ds.length = fn.params.size → s.fn H ds = { results := [.lit (.bool true)], args := ds })
    (hok : ∀ (h : Heap) (args : List Value), h.low = h.size → ArgsShp P h n fn.params.toList args → Ok P T ov k args h fun v h' => v = .bool true ∧ Ext h h')
    (hval : ∀ (j : Nat) t v, fn.params[j]? = some t → args[j]? = some v → Value.okWide P W .any base t v)
    (hW : DataW.Whole enc P fn.params.toList s.vars apart W args.toList ds gs before) (hsh : W.ShapedOpen P) :
    Calls P k args W fun e W' => ∃ v, e = .returned v ∧ s.post enc P fn apart fresh handsOn again W args v W' := by
  have hS : 0 < W.heap.size := by
    obtain ⟨o, _, ho, _⟩ := hsh.2 P.globals.size (Nat.le_refl _) hpos
    have := (Array.getElem?_eq_some_iff.1 ho).1
    omega
  obtain ⟨M, hMw⟩ := wide_exists W
  have hM : 0 < M := Nat.lt_of_le_of_lt (Nat.zero_le _) (hMw 0 hS)
  have hW' := hW
  obtain ⟨p, q, hA, hV, rfl, hfz, hnd⟩ := hW
  rw [hvars] at hV
  obtain ⟨rfl, rfl⟩ := trodVars_none hV
  have hlen : ∀ (ts : List TypeId) (vs : List Value) (ds : List (DataW H)) (ps : List MemPlace), DataW.TrodAll enc P W 0 (fun _ => true) true ts vs ds ps → ds.length = ts.length := by
    intro ts
    induction ts with
    | nil => intro vs ds ps h; cases vs <;> cases ds <;> first | rfl | cases h
    | cons t ts ih =>
      intro vs ds ps h
      cases vs with
      | nil => cases h
      | cons v vs =>
        cases ds with
        | nil => cases h
        | cons d ds => obtain ⟨_, _, _, h2, _⟩ := h; simp [ih vs ds _ h2]
  have hdl := hlen _ _ _ _ hA
  obtain ⟨hvr, hshp⟩ := open_args (h := Heap.empty) (ρ := fun _ => none) (n := n) (base := base) hS hMw fn.params.toList args.toList ds p hcov (fun j t v h1 h2 => hval j t v (by simpa using h1) (by simpa using h2)) hA
  have hsim := open_sim (W := W) (h := Heap.empty) (ρ := fun _ => none) (M := M) ⟨fun A L hA => (by cases hA), fun A A' L L' hA => (by cases hA)⟩ (fun _ _ => rfl) (fun A L hA => by cases hA) hM
  have hlow : (openHeap W Heap.empty M).low = (openHeap W Heap.empty M).size := by rw [openHeap_size]; rfl
  refine (calls_args hmix hT hov hk (by rw [hgs]; intro g hg; cases hg) hsim (fun A hA' => ?_) hlow hvr (hok _ _ hlow hshp)).mono fun e W' ⟨he, hb⟩ => ?_
  · rw [openHeap_size] at hA'
    unfold openRho
    rw [if_neg (by omega)]
  · subst he
    have hfn' := hfn (ds ++ []) (by rw [List.append_nil, hdl]; simp)
    refine ⟨_, rfl, endBelow (pa := p) (pv := []) hW' (fun b sp hd => ?_) (fun sp hsp => ?_) (fun sp _ => ?_) (by simp) hb (fun j t r h1 h2 => ?_)⟩
    · rw [hres, hrs, hfn']
      exact trodAll_mk1 (shut_bool hbool true)
    · rw [hfn']
      rw [List.append_nil]
      exact trodAll_stays hl hb sp _ _ _ _ hread (fun x hx => hW'.lt x (by simp [hx])) (fun x hx => hsp x (by simp [hx])) hA
    · rw [hvars, hfn']
      rfl
    · rw [hrs] at h2
      have hj : fn.resultTypes[j]? = some t := h1
      have h3 : fn.resultTypes.toList[j]? = some t := by simpa using hj
      rw [hres] at h3
      cases j with
      | zero =>
        simp at h3 h2
        subst h3
        have : r = .bool true := by simpa [Value.resultList] using h2.symm
        subst this
        exact okWide_bool_mk hbool true
      | succ j => simp at h3
end
#print axioms law_contract
end Go.Am

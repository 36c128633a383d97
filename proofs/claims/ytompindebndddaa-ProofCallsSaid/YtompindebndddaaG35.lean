/- Rounds of a range over a function. No condition. -/
import Derived.Test.YtompindebndddaaGTodo
import Derived.Test.YtompindebndddaaG31
import Derived.Test.YtompindebndddaaZK10
namespace Go.Am
set_option linter.unusedVariables false
section
variable {P : Program} {T : Tab} {ov : Ov} {rd : Option Nat}
theorem yield_rule {A : Nat} {env : Env} {ps : List Tmp} {assign body : Code} {args : List Value} {h : Heap} {K : Value → Heap → Prop} (hg : h.get A = some (.loop env ps assign body .ready none)) (hl : args.length = ps.length)
    (hw : W P T ov (some A) assign (setAll env ps args) h fun x e1 h1 => x = .normal ∧ h1.get A = some (.loop env ps assign body .ready none) ∧
      W P T ov (some A) body e1 (h1.set A (.loop env ps assign body .busy none)) fun x _ h2 => h2.get A = some (.loop env ps assign body .busy none) ∧ match x with
        | .normal => K (.bool true) (h2.set A (.loop env ps assign body .ready none))
        | .exit id => K (.bool false) (h2.set A (.loop env ps assign body .done (some (.exit id))))
        | .ret => K (.bool false) (h2.set A (.loop env ps assign body .done (some .ret)))) :
    callE P T ov args h K (.func (.yield A) #[] #[]) := by
  refine ⟨rfl, OkF.round hg hl ?_⟩
  obtain ⟨x, e1, h1, hx, hq⟩ := W.one _ _ _ _ hw
  obtain ⟨rfl, hg1, hb⟩ := hx
  refine hq _ ⟨rfl, env, ps, assign, body, none, hg1, ?_⟩
  obtain ⟨x, e2, h2, hx, hq⟩ := W.one _ _ _ _ hb
  refine hq _ ?_
  obtain ⟨hg2, hk⟩ := hx
  unfold endRoundA
  rw [hg2]
  cases x <;> exact hk
theorem range_rule {ps : List Tmp} {assign body : Code} {e : Env} {h : Heap} {Q : Ex → Env → Heap → Prop} {f : FuncId} {ca : List Value} (hb : hasBody T f = true)
    (hok : Ok P T ov f (.func (.yield h.size) ⟨[]⟩ ⟨[]⟩ :: ca) (h.push (.loop e ps assign body .ready none)) fun _ h2 => ∃ st pd, h2.get h.size = some (.loop e ps assign body st pd) ∧
      ((st = .ready ∧ pd = none ∧ Q .normal e (h2.set h.size (.loop e ps assign body .exhausted none))) ∨ (∃ id, st = .done ∧ pd = some (.exit id) ∧ Q (.exit id) e (h2.set h.size (.loop e ps assign body .exhausted (some (.exit id))))) ∨
        (st = .done ∧ pd = some .ret ∧ Q .ret e (h2.set h.size (.loop e ps assign body .exhausted (some .ret)))))) :
    rangeE P T ov none (.func (.func f) ⟨[]⟩ ⟨ca⟩) ps assign body e h Q := by
  refine ⟨by simp [aroundOk, hb], ?_⟩
  obtain ⟨n, v, h', h1, st, pd, h2, h3⟩ := hok
  refine ⟨n, v, h', h1, ?_⟩
  show codeE (afterLoop h.size e h') Q
  unfold afterLoop
  rw [h2]
  rcases h3 with ⟨rfl, rfl, h3⟩ | ⟨id, rfl, rfl, h3⟩ | ⟨rfl, rfl, h3⟩
  · exact h3
  · exact h3
  · exact h3
end
end Go.Am
namespace Go.Proofs.Ytompindebndddaa
open Go.Am
set_option linter.unusedSimpArgs false
set_option linter.unusedVariables false
set_option maxRecDepth 100000
set_option maxHeartbeats 0
theorem ok_back (l : List ReasonD) (v : Value) (A B : Nat) (h hs : Heap) (z : Ext h hs) (Inv : Nat → Heap → Prop) (Stop : Heap → Prop) (hI : Inv l.length hs) (hn : l.length ≤ 1000)
    (hbox : ∀ i h', Inv i h' → Holds h' B (.row [v] 24 false)) (hsl : ∀ i h', Inv i h' → Sl Rep.reason h' v l)
    (round : ∀ i r b h' (K' : Value → Heap → Prop), l[i]? = some r → Ext h h' → Inv (i + 1) h' → Sl Rep.atom h' b r.body → (∀ h2, Ext h h2 → Inv i h2 → K' (.bool true) h2) → (∀ h2, Ext h h2 → Stop h2 → K' (.bool false) h2) →
      callE Try.prog tab ov [.int .i64 i, .agg ⟨r.atom.cells ++ [.int .i64 r.clause, b]⟩] h' K' (.func (.yield A) ⟨[]⟩ ⟨[]⟩))
    (K : Value → Heap → Prop) (h0k : ∀ h', Ext h h' → Inv 0 h' → K undef h') (h1k : ∀ h', Ext h h' → Stop h' → K undef h') : Ok Try.prog tab ov 159 [.func (.yield A) ⟨[]⟩ ⟨[]⟩, .pointer (some ⟨B, 0, none⟩)] hs K := by
  rw [lay_nil hs]
  have hva := vSelf v
  have q := hbox _ _ hI
  have hl := hsl _ _ hI
  have hln := fun (hh : Heap) => hl.lenA ds24 hh
  refine Ok.into rfl tab_fn159 (bodyF N159) rfl (m := 17) rfl ?_
  repeat' ( simp -implicitDefEqProofs only [syms, symx, seval, c159, q.lay, hva, hln])
  have hw0 : IntKind.i64.wrap ((l.length : Int) - 1) = (l.length : Int) - 1 := by rw [wrap_i64 (by omega) (by omega)]
  rw [hw0]
  clear q hl hln
  obtain ⟨I1, hI1⟩ : ∃ I : Nat → Env → Heap → Prop, I = (fun n e h' => ∃ (k : Nat) (h1 : Heap), h' = h1.lay [] h1.low ∧ Ext h h1 ∧ (n = 1 + k ∧ k ≤ l.length ∧ Inv k h1) ∧ ∃ J : Nat → Value, e = (.func (.yield A) ⟨[]⟩ ⟨[]⟩ :: .pointer (some ⟨B, 0, none⟩) :: J 2 :: .int .i64 ((k : Int) - 1) :: jr J 4 15 ([]))) := ⟨_, rfl⟩
  refine W_loopN I1 _ (by rw [hI1]; exact ⟨l.length, _, rfl, z, ⟨rfl, by omega, hI⟩, junk (by kernel_rfl)⟩) ?_
  intro n e h' hin
  rw [hI1] at hin
  obtain ⟨k, h1', rfl, z, hinv, J, rfl⟩ := hin
  clear hI
  obtain ⟨rfl, hk, hI⟩ := hinv
  have q := hbox _ _ hI
  have hl := hsl _ _ hI
  have hvy : ∀ (h : Heap) (K : Value → Heap → Prop), valE (some (.func (.yield A) ⟨[]⟩ ⟨[]⟩)) h K = K (.func (.yield A) ⟨[]⟩ ⟨[]⟩) h := fun _ _ => rfl
  simp -implicitDefEqProofs only [syms, symx, seval, c159]
  refine forkD (fun hge => ?_) (fun hge => ?_)
  rotate_left
  · have : k = 0 := by omega
    subst this
    repeat' ( simp -implicitDefEqProofs only [syms, symx, seval, c159])
    rw [← lay_nil]
    exact h0k _ z hI
  obtain ⟨i, hki⟩ : ∃ i, k = i + 1 := ⟨k - 1, by omega⟩
  subst hki
  have hci : ((i + 1 : Nat) : Int) - 1 = (i : Int) := by omega
  rw [hci]
  have hwi : IntKind.i64.wrap ((i : Int) - 1) = (i : Int) - 1 := by rw [wrap_i64 (by omega) (by omega)]
  obtain ⟨r, hr, hr'⟩ := amElem (l := l) (i := i) (by omega)
  repeat' (first | simp -implicitDefEqProofs only [syms, symx, seval, c159, q.lay, hva, hvy] | with_reducible_and_instances refine ixr_at hl ds24 sz41 (by omega) hr (fun p bd hbd hp => ?_) | with_reducible_and_instances refine ldr hp ag41 sz41 ?_)
  rw [← lay_nil h1']
  refine round i r bd h1' _ hr' z hI hbd (fun h2 x hI2 => ?_) (fun h2 x hS => ?_)
  · replace z := x
    rw [lay_nil h2]
    repeat' (first | simp -implicitDefEqProofs only [syms, symx, seval, c159, Bool.not_true] | ((with_reducible_and_instances apply unop_not); (· rfl)))
    rw [hwi]
    (rw [hI1]; with_reducible refine loopN_normal (m := _) ?_ ⟨i, _, rfl, z, ⟨rfl, by omega, hI2⟩, junk (by kernel_rfl)⟩; omega)
  · replace z := x
    rw [lay_nil h2]
    repeat' (first | simp -implicitDefEqProofs only [syms, symx, seval, c159, Bool.not_false] | ((with_reducible_and_instances apply unop_not); (· rfl)))
    rw [← lay_nil]
    exact h1k _ z hS
theorem range_back {assign body : Code} {e : Env} {p q : Tmp} {hs : Heap} {Q : Ex → Env → Heap → Prop} (l : List ReasonD) (v : Value) (B : Nat) (h : Heap) (z : Ext h hs) (qb : Holds hs B (.row [v] 24 false)) (hl : Sl Rep.reason h v l) (hn : l.length ≤ 1000)
    (J : Nat → Heap → Prop) (S : Heap → Prop) (hJ : ∀ i h1 h2, J i h1 → Chg hs.size h1 h2 → J i h2) (hS : ∀ h1 h2, S h1 → Chg hs.size h1 h2 → S h2) (h0 : J l.length hs)
    (round : ∀ i r b h', l[i]? = some r → Ext h h' → Holds h' B (.row [v] 24 false) → hs.size < h'.size → J (i + 1) h' → Sl Rep.atom h' b r.body → W Try.prog tab ov (some hs.size) assign ((e.set p (.int .i64 i)).set q (.agg ⟨r.atom.cells ++ [.int .i64 r.clause, b]⟩)) h' fun x e1 h1 => x = .normal ∧ Ext h' h1 ∧
      ∀ H bk, Chg hs.size h1 H → Ext h H → Holds H hs.size bk → W Try.prog tab ov (some hs.size) body e1 H fun x _ h2 => Ext h h2 ∧ Holds h2 hs.size bk ∧ Holds h2 B (.row [v] 24 false) ∧ ((x = .normal ∧ J i h2) ∨ (x = .ret ∧ S h2)))
    (hend : ∀ h', Ext h h' → J 0 h' → Q .normal e h') (hstop : ∀ h', Ext h h' → S h' → Q .ret e h') : rangeE Try.prog tab ov none (.func (.func 159) ⟨[]⟩ ⟨[.pointer (some ⟨B, 0, none⟩)]⟩) [p, q] assign body e hs Q := by
  have hBlt := qb.lt
  have hzs := z.size
  have hch : ∀ (h1 : Heap) (b : Blk), hs.size < h1.size → Chg hs.size h1 (h1.set hs.size b) ∧ Holds (h1.set hs.size b) hs.size b := fun h1 b hlt => ⟨⟨by rw [Heap.size_set]; exact Nat.le_refl _, fun B hB hne => by rw [Heap.get_set _ _ _ _ hlt, if_neg hne], by rw [Heap.low_set]; omega⟩, ⟨by rw [Heap.size_set]; exact hlt, by rw [Heap.get_set _ _ _ _ hlt, if_pos rfl]⟩⟩
  have hpx : Ext hs (hs.push (.loop e [p, q] assign body .ready none)) := ⟨by rw [Heap.size_push]; omega, fun A hA => by rw [Heap.get_push, if_neg (by omega)], by rw [Heap.low_push]; omega⟩
  have hpa : Holds (hs.push (.loop e [p, q] assign body .ready none)) hs.size (.loop e [p, q] assign body .ready none) := ⟨by rw [Heap.size_push]; omega, by rw [Heap.get_push, if_pos rfl]⟩
  refine range_rule (by kernel_rfl) ?_
  refine ok_back l v hs.size B h _ (z.trans hpx) (fun i h' => J i h' ∧ Holds h' hs.size (.loop e [p, q] assign body .ready none) ∧ Holds h' B (.row [v] 24 false) ∧ Ext h h') (fun h' => S h' ∧ Holds h' hs.size (.loop e [p, q] assign body .done (some .ret)) ∧ Ext h h')
    ⟨hJ _ _ _ h0 hpx.chg, hpa, qb.ext hpx, z.trans hpx⟩ hn (fun i h' hi => hi.2.2.1) (fun i h' hi => hl.mono hi.2.2.2.inc) ?_ _ ?_ ?_
  · rintro i r b h' K' hr zz ⟨hj, ha, hb, _⟩ hbd hk1 hk2
    refine yield_rule (env := e) (ps := [p, q]) (assign := assign) (body := body) ha.get rfl ?_
    refine W.mono assign _ _ _ _ ?_ (round i r b h' hr zz hb ha.lt hj hbd)
    rintro x e1 h1 ⟨hx, x1, hw⟩
    have ha1 := ha.ext x1
    obtain ⟨c1, q1⟩ := hch h1 (.loop e [p, q] assign body .busy none) ha1.lt
    refine ⟨hx, ha1.get, W.mono body _ _ _ _ ?_ (hw _ _ c1 ((zz.trans x1).step c1 hzs) q1)⟩
    rintro y e2 h2 ⟨z2, q2, q3, hc⟩
    refine ⟨q2.get, ?_⟩
    rcases hc with ⟨rfl, hj2⟩ | ⟨rfl, hs2⟩
    · obtain ⟨c3, q4⟩ := hch h2 (.loop e [p, q] assign body .ready none) q2.lt
      exact hk1 _ (z2.step c3 hzs) ⟨hJ _ _ _ hj2 c3, q4, q3.step c3 (by omega), z2.step c3 hzs⟩
    · obtain ⟨c3, q4⟩ := hch h2 (.loop e [p, q] assign body .done (some .ret)) q2.lt
      exact hk2 _ (z2.step c3 hzs) ⟨hS _ _ hs2 c3, q4, z2.step c3 hzs⟩
  · rintro h' zz ⟨hj, ha, _⟩
    refine ⟨_, _, ha.get, .inl ⟨rfl, rfl, ?_⟩⟩
    obtain ⟨c3, _⟩ := hch h' (.loop e [p, q] assign body .exhausted none) ha.lt
    exact hend _ (zz.step c3 hzs) (hJ _ _ _ hj c3)
  · rintro h' zz ⟨hs2, ha, _⟩
    refine ⟨_, _, ha.get, .inr (.inr ⟨rfl, rfl, ?_⟩)⟩
    obtain ⟨c3, _⟩ := hch h' (.loop e [p, q] assign body .exhausted (some .ret)) ha.lt
    exact hstop _ (zz.step c3 hzs) (hS _ _ hs2 c3)
end Go.Proofs.Ytompindebndddaa

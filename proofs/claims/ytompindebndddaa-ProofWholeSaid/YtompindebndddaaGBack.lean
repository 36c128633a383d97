/- Rounds of a range over a function. No condition. -/
import Derived.Test.YtompindebndddaaGTodo
namespace Go.Am
set_option linter.unusedVariables false
section
variable {P : Program} {T : Tab} {ov : Ov} {rd : Option Nat}
theorem yield_rule {A : Nat} {env : Env} {ps : List Tmp} {assign body : Code} {args : List Value} {h : Heap} {K : Value → Heap → Prop} (hg : h.get A = some (.loop env ps assign body .ready none)) (hl : args.length = ps.length)
    (hw : W P T ov (some A) assign (setAll env ps args) h fun x e1 h1 => x = .normal ∧ h1.get A = some (.loop env ps assign body .ready none) ∧
      W P T ov (some A) body e1 (h1.set A (.loop env ps assign body .busy none)) fun x _ h2 => h2.get A = some (.loop env ps assign body .busy none) ∧ match x with
        | .normal => K (.bool true) (h2.set A (.loop env ps assign body .ready none))
        | .exit id => K (.bool false) (h2.set A (.loop env ps assign body .done (some (.exit id))))
        | .ret => K (.bool false) (h2.set A (.loop env ps assign body .done (some .ret)))) :
    callE P T ov args h K (.func (.yield A) #[] #[]) := by
  refine ⟨rfl, OkF.round hg hl ?_⟩
  obtain ⟨x, e1, h1, hx, hq⟩ := W.one _ _ _ _ hw
  obtain ⟨rfl, hg1, hb⟩ := hx
  refine hq _ ⟨rfl, env, ps, assign, body, none, hg1, ?_⟩
  obtain ⟨x, e2, h2, hx, hq⟩ := W.one _ _ _ _ hb
  refine hq _ ?_
  obtain ⟨hg2, hk⟩ := hx
  unfold endRoundA
  rw [hg2]
  cases x <;> exact hk
theorem range_rule {ps : List Tmp} {assign body : Code} {e : Env} {h : Heap} {Q : Ex → Env → Heap → Prop} {f : FuncId} {ca : List Value} (hb : hasBody T f = true)
    (hok : Ok P T ov f (.func (.yield h.size) ⟨[]⟩ ⟨[]⟩ :: ca) (h.push (.loop e ps assign body .ready none)) fun _ h2 => ∃ st pd, h2.get h.size = some (.loop e ps assign body st pd) ∧
      ((st = .ready ∧ pd = none ∧ Q .normal e (h2.set h.size (.loop e ps assign body .exhausted none))) ∨ (∃ id, st = .done ∧ pd = some (.exit id) ∧ Q (.exit id) e (h2.set h.size (.loop e ps assign body .exhausted (some (.exit id))))) ∨
        (st = .done ∧ pd = some .ret ∧ Q .ret e (h2.set h.size (.loop e ps assign body .exhausted (some .ret)))))) :
    rangeE P T ov none (.func (.func f) ⟨[]⟩ ⟨ca⟩) ps assign body e h Q := by
  refine ⟨by simp [aroundOk, hb], ?_⟩
  obtain ⟨n, v, h', h1, st, pd, h2, h3⟩ := hok
  refine ⟨n, v, h', h1, ?_⟩
  show codeE (afterLoop h.size e h') Q
  unfold afterLoop
  rw [h2]
  rcases h3 with ⟨rfl, rfl, h3⟩ | ⟨id, rfl, rfl, h3⟩ | ⟨rfl, rfl, h3⟩
  · exact h3
  · exact h3
  · exact h3
end
end Go.Am

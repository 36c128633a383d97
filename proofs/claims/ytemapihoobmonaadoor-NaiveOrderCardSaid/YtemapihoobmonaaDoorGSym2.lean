/- Steps on values without addresses. No condition. -/
import Derived.Test.YtemapihoobmonaaDoorGSym
import Derived.Laws.Strings
set_option linter.unusedSimpArgs false
namespace Go.Am
section
variable {P : Program} {T : Tab} {ov : Ov} {d : Option Tmp} {ty : TypeId} {pos : String} {af : Array Edge} {g : Option (Nat × Bool)} {e : Env} {h : Heap} {K : Value → Heap → Prop}

theorem pr_program {α : Type} (k : Program → Sem α) : pureRun P (program >>= k) = pureRun P (k P) := rfl
theorem pr_pure {α : Type} (a : α) : pureRun P (pure a : Sem α) = some a := rfl
theorem pr_bind {α β : Type} (a : α) (k : α → Sem β) : ((pure a : Sem α) >>= k) = k a := rfl
theorem pr_map {α β : Type} (a : α) (k : α → β) : k <$> (pure a : Sem α) = pure (k a) := rfl
theorem forkD {p : Prop} [Decidable p] (h1 : p → K (.bool true) h) (h2 : ¬ p → K (.bool false) h) : forkE (decide p) h K :=
  ⟨fun hp => h1 (of_decide_eq_true hp), fun hp => h2 (of_decide_eq_false hp)⟩
theorem forkB {a b : Int} (h1 : a = b → K (.bool true) h) (h2 : ¬ a = b → K (.bool false) h) : forkE (a == b) h K :=
  ⟨fun hp => h1 (by simpa using hp), fun hp => h2 (by simpa using hp)⟩
theorem forkN {a b : Int} (h1 : ¬ a = b → K (.bool true) h) (h2 : a = b → K (.bool false) h) : forkE (a != b) h K :=
  ⟨fun hp => h1 (by simpa using hp), fun hp => h2 (by simpa using hp)⟩
def byteAt (s : ByteArray) (i : Nat) : Int := ((s[i]?).getD 0).toNat
theorem index_str {t : TypeId} {x i : Operand} {s : ByteArray} {k : IntKind} {j : Int} (hd : P.underlying t = some .string) (hx : evalOperand e x = .string s) (hi : evalOperand e i = .int k j) (h0 : 0 ≤ j) (h1 : j < s.size)
    (hk : K (.int .u8 (byteAt s j.toNat)) h) : optE (pureOp P e ⟨d, .index t x i, ty, pos, af, g⟩ h) K := by
  have hlt : j.toNat < s.size := by omega
  have hs : s[j.toNat]? = some s[j.toNat] := by simp [hlt]
  have : pureOp P e ⟨d, .index t x i, ty, pos, af, g⟩ h = some (.int .u8 (byteAt s j.toNat), h) := by
    unfold pureOp
    rw [if_pos (by simp [Op.operands, hx, hi, plain, plain1])]
    have : pureRun P (execOp (evalOperand e) ⟨d, .index t x i, ty, pos, af, g⟩) = some (.value (.int .u8 (byteAt s j.toNat))) := by
      simp [execOp, Instr.index, hx, hi, asIntOf, underlying, hd, h0, hs, pr_program, pr_pure, pr_bind, pr_map, byteAt]
    rw [this]
    rfl
  rw [this]
  exact hk
theorem unop_not {t : TypeId} {x : Operand} {b : Bool} (hx : evalOperand e x = .bool b) (hk : K (.bool !b) h) : optE (pureOp P e ⟨d, .unOp .not t x, ty, pos, af, g⟩ h) K := by
  have : pureOp P e ⟨d, .unOp .not t x, ty, pos, af, g⟩ h = some (.bool !b, h) := by
    unfold pureOp
    rw [if_pos (by simp [Op.operands, hx, plain, plain1])]
    have : pureRun P (execOp (evalOperand e) ⟨d, .unOp .not t x, ty, pos, af, g⟩) = some (.value (.bool !b)) := by
      simp [execOp, hx, Op.unary, pr_program, pr_pure, pr_bind, pr_map]
    rw [this]
    rfl
  rw [this]
  exact hk
theorem min_int {x y : Operand} {ats : Array TypeId} {k : IntKind} {a b : Int} (hx : evalOperand e x = .int k a) (hy : evalOperand e y = .int k b) (hk : K (.int k (if b < a then b else a)) h) : optE (pureOp P e ⟨d, .call ⟨.builtin .min, #[x, y], ats⟩, ty, pos, af, g⟩ h) K := by
  have : pureOp P e ⟨d, .call ⟨.builtin .min, #[x, y], ats⟩, ty, pos, af, g⟩ h = some (.int k (if b < a then b else a), h) := by
    unfold pureOp
    rw [if_pos (by simp [Op.operands, Call.operands, hx, hy, plain, plain1])]
    have : pureRun P (execOp (evalOperand e) ⟨d, .call ⟨.builtin .min, #[x, y], ats⟩, ty, pos, af, g⟩) = some (.value (.int k (if b < a then b else a))) := by
      simp [execOp, hx, hy, resolve, invoke, builtin, Builtin.min_, Builtin.min2, pr_program, pr_pure, pr_bind, pr_map]
    rw [this]
    rfl
  rw [this]
  exact hk
theorem max_int {x y : Operand} {ats : Array TypeId} {k : IntKind} {a b : Int} (hx : evalOperand e x = .int k a) (hy : evalOperand e y = .int k b) (hk : K (.int k (if a < b then b else a)) h) : optE (pureOp P e ⟨d, .call ⟨.builtin .max, #[x, y], ats⟩, ty, pos, af, g⟩ h) K := by
  have : pureOp P e ⟨d, .call ⟨.builtin .max, #[x, y], ats⟩, ty, pos, af, g⟩ h = some (.int k (if a < b then b else a), h) := by
    unfold pureOp
    rw [if_pos (by simp [Op.operands, Call.operands, hx, hy, plain, plain1])]
    have : pureRun P (execOp (evalOperand e) ⟨d, .call ⟨.builtin .max, #[x, y], ats⟩, ty, pos, af, g⟩) = some (.value (.int k (if a < b then b else a))) := by
      simp [execOp, hx, hy, resolve, invoke, builtin, Builtin.max_, Builtin.max2, pr_program, pr_pure, pr_bind, pr_map]
    rw [this]
    rfl
  rw [this]
  exact hk

theorem bin_str {op : BinOp} {t : TypeId} {a b : ByteArray} {v : Value} (hp : plain v = true) (hv : pureRun P (Op.stringOp op a b) = some v) (hb : binFast op (.string a) (.string b) = none) : binA P T op t (.string a) (.string b) = some v := by
  have h1 : (T.desc t).bind (fun d => eqNil d (.string a) (.string b)) = none := by
    cases T.desc t with
    | none => rfl
    | some d => cases d <;> rfl
  have h2 : pureRun P (binOp op t (.string a) (.string b)) = some v := by
    rw [← hv]
    cases op <;> rfl
  unfold binA
  rw [hb]
  simp only [h1, h2]
  rw [if_pos (show (plain (Value.string a) && plain (Value.string b)) = true from rfl)]
  simp only [Option.bind_some]
  rw [if_pos hp]
theorem toList_data (a : ByteArray) : a.toList = a.data.toList := ByteArray.toList_eq a
theorem bin_cat {t : TypeId} {a b : ByteArray} (hs : a.size + b.size ≤ 9223372036854775807) : binA P T .add t (.string a) (.string b) = some (.string (a ++ b)) := by
  refine bin_str rfl ?_ rfl
  unfold Op.stringOp
  simp only
  rw [if_neg (by simp only [IntKind.max, IntKind.signed, IntKind.bits]; simp; omega)]
  rfl
theorem bin_seq {t : TypeId} {a b : ByteArray} : binA P T .eql t (.string a) (.string b) = some (.bool (decide (a = b))) := by
  refine bin_str rfl ?_ rfl
  have : (a.toList == b.toList) = decide (a = b) := by
    rw [toList_data, toList_data]
    by_cases h : a = b
    · subst h; simp
    · have h2 : a.data ≠ b.data := fun hh => h (by cases a; cases b; simp at hh; simp [hh])
      simp [h, h2]
  unfold Op.stringOp
  simp only [this]
  rfl
theorem bin_sne {t : TypeId} {a b : ByteArray} : binA P T .neq t (.string a) (.string b) = some (.bool (decide (a ≠ b))) := by
  refine bin_str rfl ?_ rfl
  have : (a.toList == b.toList) = decide (a = b) := by
    rw [toList_data, toList_data]
    by_cases h : a = b
    · subst h; simp
    · have h2 : a.data ≠ b.data := fun hh => h (by cases a; cases b; simp at hh; simp [hh])
      simp [h, h2]
  unfold Op.stringOp
  simp only [this]
  simp [pr_pure]
end
end Go.Am

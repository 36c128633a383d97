/- What the fast machine says, the plain one does. No condition. -/
import Derived.Test.YtemapihoobmonaaGreatDoorGFast
namespace Go.Am

/-! ### The places of a frame -/
theorem zh4 : ∀ (n m i j : Nat), i < n → j < m → zl7 n i = zl7 m j → i = j
  | 0, _, _, _, h, _, _ => by omega
  | _ + 1, 0, _, _, _, h, _ => by omega
  | n + 1, m + 1, i, j, hi, hj, h => by
    cases i with
    | zero => cases j with
      | zero => rfl
      | succ j =>
        simp only [zl7] at h
        split at h <;> cases h
    | succ i => cases j with
      | zero =>
        simp only [zl7] at h
        split at h <;> cases h
      | succ j =>
        simp only [zl7] at h
        split at h
        · rename_i h1
          split at h
          · rename_i h2
            have := zh4 n m (i / 2) (j / 2) (by omega) (by omega) (Pth.l.inj h)
            omega
          · cases h
        · rename_i k1 h1
          split at h
          · cases h
          · rename_i k2 h2
            have := zh4 n m (i / 2) (j / 2) (by omega) (by omega) (Pth.r.inj h)
            omega
theorem zj3 {i j : Nat} (h : zcj i = zcj j) : i = j := zh4 _ _ i j (Nat.lt_succ_self _) (Nat.lt_succ_self _) h
theorem ET.get_leaf : ∀ p : Pth, ET.get p .leaf = undef
  | .here => rfl
  | .l _ => rfl
  | .r _ => rfl
theorem ET.get_set : ∀ (p q : Pth) (v : Value) (t : ET), (p = q → ET.get q (ET.set p v t) = v) ∧ (p ≠ q → ET.get q (ET.set p v t) = ET.get q t)
  | .here, .here, v, t => ⟨fun _ => by cases t <;> rfl, fun h => (h rfl).elim⟩
  | .here, .l q, v, t => ⟨fun h => (by cases h), fun _ => by
      cases t with
      | leaf => exact ET.get_leaf q
      | node x l r => rfl⟩
  | .here, .r q, v, t => ⟨fun h => (by cases h), fun _ => by
      cases t with
      | leaf => exact ET.get_leaf q
      | node x l r => rfl⟩
  | .l p, .here, v, t => ⟨fun h => (by cases h), fun _ => by cases t <;> rfl⟩
  | .r p, .here, v, t => ⟨fun h => (by cases h), fun _ => by cases t <;> rfl⟩
  | .l p, .r q, v, t => ⟨fun h => (by cases h), fun _ => by
      cases t with
      | leaf => exact ET.get_leaf q
      | node x l r => rfl⟩
  | .r p, .l q, v, t => ⟨fun h => (by cases h), fun _ => by
      cases t with
      | leaf => exact ET.get_leaf q
      | node x l r => rfl⟩
  | .l p, .l q, v, t => by
    cases t with
    | leaf => exact ⟨fun h => (ET.get_set p q v .leaf).1 (Pth.l.inj h), fun h => ((ET.get_set p q v .leaf).2 (fun e => h (by rw [e]))).trans (ET.get_leaf q)⟩
    | node x l r => exact ⟨fun h => (ET.get_set p q v l).1 (Pth.l.inj h), fun h => (ET.get_set p q v l).2 (fun e => h (by rw [e]))⟩
  | .r p, .r q, v, t => by
    cases t with
    | leaf => exact ⟨fun h => (ET.get_set p q v .leaf).1 (Pth.r.inj h), fun h => ((ET.get_set p q v .leaf).2 (fun e => h (by rw [e]))).trans (ET.get_leaf q)⟩
    | node x l r => exact ⟨fun h => (ET.get_set p q v r).1 (Pth.r.inj h), fun h => (ET.get_set p q v r).2 (fun e => h (by rw [e]))⟩
theorem ET.setK_eq : ∀ (p : Pth) (v : Value) (t : ET) (k : ET → Bool), ET.setK p v t k = k (ET.set p v t)
  | .here, v, t, k => by cases t <;> rfl
  | .l p, v, t, k => by
    cases t with
    | leaf => exact ET.setK_eq p v .leaf _
    | node x l r => exact ET.setK_eq p v l _
  | .r p, v, t, k => by
    cases t with
    | leaf => exact ET.setK_eq p v .leaf _
    | node x l r => exact ET.setK_eq p v r _

def ERel (e : FE) (l : Env) : Prop := e.n = l.length ∧ ∀ i, ET.get (zcj i) e.t = l.get i

theorem zas {e : FE} {l : Env} (hr : ERel e l) (o : Operand) : fval o e = zaa l o := by
  cases o with
  | tmp t => exact hr.2 t
  | const v => rfl
  | global g => rfl
  | func f => rfl

theorem zdR {d : Option Tmp} {v : Value} {e : FE} {l : Env} {k : FE → Bool} (hr : ERel e l) (h : fPut d v e k = true) : ∃ e', ERel e' (put l d v) ∧ k e' = true := by
  cases d with
  | none => exact ⟨e, hr, h⟩
  | some i =>
    simp only [fPut] at h
    split at h
    · rename_i hb
      rw [ET.setK_eq] at h
      refine ⟨_, ⟨?_, fun j => ?_⟩, h⟩
      · simp only [put, Env.length_set]; exact hr.1
      · simp only [put, Env.get_set]
        have hi : i < l.length := by rw [← hr.1]; simpa [Nat.blt_eq] using hb
        by_cases hj : j = i
        · subst hj
          rw [if_pos ⟨rfl, hi⟩]
          exact (ET.get_set _ _ _ _).1 rfl
        · rw [if_neg (fun h => hj h.1), (ET.get_set _ _ _ _).2 (fun hp => hj (zj3 hp).symm)]
          exact hr.2 j
    · rename_i hb
      have hi : ¬ i < l.length := by rw [← hr.1]; intro h1; have : Nat.blt i e.n = true := by simpa [Nat.blt_eq] using h1
                                     rw [this] at hb; cases hb
      refine ⟨e, ⟨by simp only [put, Env.length_set]; exact hr.1, fun j => ?_⟩, h⟩
      simp only [put, Env.get_set]
      rw [if_neg (fun h => hi h.2)]
      exact hr.2 j

section
variable {P : Program} {T : Tab} {ov : Ov}

theorem zja {e : FE} {l : Env} (hr : ERel e l) : ∀ ps : List (Nat × Operand), zj4 ps e = ps.map fun (i, x) => (i, zaa l x)
  | [] => rfl
  | (i, x) :: ps => by
    show (i, fval x e) :: zj4 ps e = _
    rw [zja hr ps, zas hr]; rfl
theorem zeb {e : FE} {l : Env} (hr : ERel e l) : ∀ ps : List Operand, zjl ps e = ps.map (zaa l)
  | [] => rfl
  | x :: ps => by
    show fval x e :: zjl ps e = _
    rw [zeb hr ps, zas hr]; rfl
theorem zkN {e : FE} {l : Env} (hr : ERel e l) (o : Option Operand) : zoe o e = o.map (zaa l) := by
  cases o with
  | none => rfl
  | some x => show some (fval x e) = _; rw [zas hr]; rfl

theorem zaN {r : Option Value} {h : Heap} {k : FK} (hh : zcp r h k = true) : optE (r.map fun v => (v, h)) (fun v h' => k v h' = true) := by
  cases r with
  | none => cases hh
  | some v => exact hh
theorem zc2 {r : Option Heap} {k : FK} (hh : fMem r k = true) : optE (r.map fun h' => (undef, h')) (fun v h' => k v h' = true) := by
  cases r with
  | none => cases hh
  | some v => exact hh
theorem zcu {r : Option (Value × Heap)} {k : FK} (hh : zhn r k = true) : optE r (fun v h' => k v h' = true) := by
  cases r with
  | none => cases hh
  | some v => exact hh
theorem zwX (l m : List Value) : catL l m = l ++ m := by cases m <;> simp [catL]

theorem zcF {o : Oper} {e : FE} {l : Env} {h : Heap} {k : FK} (hr : ERel e l) (hh : zhZ P o e h k = true) : optE (zaL P l o h) (fun v h' => k v h' = true) := by
  unfold zhZ at hh
  unfold zaL
  rw [zeb hr, show (fun x => fval x e) = zaa l from funext (zas hr)] at hh
  have e1 : (o.op.operands.toList.all fun x => plain (zaa l x)) = (o.op.operands.toList.map (zaa l)).all plain := by rw [List.all_map]; rfl
  rw [e1]
  split at hh
  · rename_i h1
    rw [h1, if_pos rfl]
    split at hh
    · rename_i v h2
      rw [h2]
      simp only
      split at hh
      · rename_i h3; rw [h3, if_pos rfl]; exact hh
      · cases hh
    · cases hh
  · cases hh

def CF (P : Program) (T : Tab) (ov : Ov) (C : Fn → List Value → Heap → FK → Bool) : Prop := ∀ f args h k, C f args h k = true → OkF P T ov f args h fun v h' => k v h' = true

theorem zi8 {C : Fn → List Value → Heap → FK → Bool} (hC : CF P T ov C) {o : Oper} {e : FE} {l : Env} {h : Heap} {k : FK} (hr : ERel e l) (hh : fOp P T C o e h k = true) : WOp P T ov o l h fun v h' => k v h' = true := by
  obtain ⟨d, op, ty, pos, af, g⟩ := o
  cases op with
  | move x => have hh : k (fval x e) h = true := hh; rw [zas hr] at hh; exact hh
  | assign x => have hh : k (fval x e) h = true := hh; rw [zas hr] at hh; exact hh
  | pick c a b =>
    have hh : znM (fval c e) (k (fval a e) h) (k (fval b e) h) = true := hh
    rw [zas hr, zas hr, zas hr] at hh
    show optE (match zaa l c with | .bool t => some (if t then zaa l a else zaa l b, h) | _ => none) _
    unfold znM at hh
    split at hh
    · rename_i t ht
      rw [ht]
      cases t <;> exact hh
    · cases hh
  | alloc t =>
    have hh : znP T t e h k = true := hh
    show optE ((T.info t).map fun (_, _, z) => newRow t z h) _
    unfold znP at hh
    split at hh
    · rename_i n b z hz; rw [hz]; exact hh
    · cases hh
  | box t x => have hh : k (.pointer (some ⟨h.size, 0, none⟩)) (h.push (.row (fval x e).cells.toList t false)) = true := hh; rw [zas hr] at hh; exact hh
  | build t ps =>
    have hh := zaN (show zcp (zc6 T t (zj4 ps.toList e)) h k = true from hh)
    rw [zja hr] at hh
    exact hh
  | buildSlice t n ps =>
    have hh := zcu (show zhn (zaG T t n (zj4 ps.toList e) h) k = true from hh)
    rw [zja hr] at hh
    exact hh
  | load t a =>
    have hh := zaN (show zcp (zaM T t (fval a e) h) h k = true from hh)
    rw [zas hr] at hh
    exact hh
  | store t a x =>
    have hh := zc2 (show fMem (zaZ T t (fval a e) (fval x e) h) k = true from hh)
    rw [zas hr, zas hr] at hh
    exact hh
  | nilCheck x =>
    have hh : zgJ x e h k = true := hh
    show optE (match zaa l x with | .pointer (some a) => some (.pointer (some a), h) | .func (.func f) a b => some (.func (.func f) a b, h) | .iface t a => some (.iface t a, h) | _ => none) _
    unfold zgJ at hh
    rw [zas hr] at hh
    split at hh
    · rename_i a ha; rw [ha]; exact hh
    · rename_i f a b ha; rw [ha]; exact hh
    · rename_i t a ha; rw [ha]; exact hh
    · cases hh
  | binOp op t x y yt =>
    have hh := zaN (show zcp (binA P T op t (fval x e) (fval y e)) h k = true from hh)
    rw [zas hr, zas hr] at hh
    exact hh
  | unOp op t x => exact zcF hr hh
  | convert s t x =>
    have hh : ziC P T ⟨d, .convert s t x, ty, pos, af, g⟩ s t x e h k = true := hh
    show optE (if zbF T s then (zeQ T s t (zaa l x) h).map fun r => (r, h) else if zbF T t then (if zeO T s then zdw T t (zaa l x) h else none) else zaL P l ⟨d, .convert s t x, ty, pos, af, g⟩ h) _
    unfold ziC at hh
    split at hh
    · rename_i hc
      rw [if_pos hc]
      have := zaN hh
      rw [zas hr] at this
      exact this
    · rename_i hc
      rw [if_neg (by rw [hc]; simp)]
      split at hh
      · rename_i hd
        rw [if_pos hd]
        split at hh
        · rename_i hs
          rw [if_pos hs]
          have := zcu hh
          rw [zas hr] at this
          exact this
        · cases hh
      · rename_i hd
        rw [if_neg (by rw [hd]; simp)]
        exact zcF hr hh
  | makeInterface t x =>
    have hh := zaN (show zcp (zmJ T t (fval x e)) h k = true from hh)
    rw [zas hr] at hh
    exact hh
  | typeAssert x xt t ok =>
    have hh := zaN (show zcp (zh7 T (fval x e) t ok) h k = true from hh)
    rw [zas hr] at hh
    exact hh
  | index t x i => exact zcF hr hh
  | makeFunc fn fi ca =>
    cases fn with
    | func f =>
      have hh : k (.func (.func f) ⟨zjl fi.toList e⟩ ⟨zjl ca.toList e⟩) h = true := hh
      show k (.func (.func f) (fi.map (zaa l)) (ca.map (zaa l))) h = true
      rw [zeb hr, zeb hr, ← Array.toList_map, ← Array.toList_map] at hh
      exact hh
    | _ => cases hh
  | makeSlice t a c =>
    have hh := zcu (show zhn (zcs T t (fval a e) (fval c e) h) k = true from hh)
    rw [zas hr, zas hr] at hh
    exact hh
  | slice t x lo hi m =>
    have hh := zaN (show zcp (zbo T t (fval x e) (zoe lo e) (zoe hi e) (zoe m e)) h k = true from hh)
    rw [zas hr, zkN hr, zkN hr, zkN hr] at hh
    exact hh
  | fieldAddr s x f =>
    have hh := zaN (show zcp (zac T s (fval x e) f) h k = true from hh)
    rw [zas hr] at hh
    exact hh
  | field s x f =>
    have hh := zaN (show zcp (zjx T s (fval x e) f) h k = true from hh)
    rw [zas hr] at hh
    exact hh
  | indexAddr t x i =>
    have hh := zaN (show zcp (zal T t (fval x e) (fval i e)) h k = true from hh)
    rw [zas hr, zas hr] at hh
    exact hh
  | extract t i =>
    have hh : zh1 t i e h k = true := hh
    show optE (match zaa l t with | .tuple vs => (vs[i]?).map fun r => (r, h) | _ => none) _
    unfold zh1 at hh
    rw [zas hr] at hh
    split at hh
    · rename_i vs hv
      rw [hv]
      have := zaN hh
      rw [Array.getElem?_toList] at this
      exact this
    · cases hh
  | call c =>
    obtain ⟨callee, args, ats⟩ := c
    cases callee with
    | value f =>
      have hh : zos C f args.toList e h k = true := hh
      show (match zaa l f with | .func (.func g) fi ca => Ok P T ov g (fi.toList ++ args.toList.map (zaa l) ++ ca.toList) h _ | .func (.yield A) fi ca => (fi.isEmpty && ca.isEmpty) = true ∧ OkF P T ov (.yield A) (args.toList.map (zaa l)) h _ | _ => False)
      unfold zos at hh
      rw [zas hr] at hh
      split at hh
      · rename_i g fi ca hv
        rw [hv]
        simp only
        rw [zwX, zeb hr, ← List.append_assoc] at hh
        exact hC _ _ _ _ hh
      · rename_i A fi ca hv
        rw [hv]
        simp only
        split at hh
        · rename_i hc
          rw [zeb hr] at hh
          exact ⟨hc, hC _ _ _ _ hh⟩
        · cases hh
      · cases hh
    | invoke rv m =>
      have hh : zkF T C rv m args.toList e h k = true := hh
      show (match zaa l rv with | .iface t x => (match zgs T t x m h with | some (f, y) => Ok P T ov f (y :: args.toList.map (zaa l)) h _ | none => False) | _ => False)
      unfold zkF at hh
      rw [zas hr] at hh
      split at hh
      · rename_i t x hv
        rw [hv]
        simp only
        split at hh
        · rename_i f y hm
          rw [hm]
          simp only
          rw [zeb hr] at hh
          exact hC _ _ _ _ hh
        · cases hh
      · cases hh
    | builtin b =>
      have hh : zmS P T b ⟨d, .call ⟨.builtin b, args, ats⟩, ty, pos, af, g⟩ ats.toList args.toList e h k = true := hh
      cases b with
      | append =>
        have hh : zlf T ats.toList args.toList e h k = true := hh
        show optE (match ats.toList, args.toList with | [t, u], [s, x] => if zfJ T t u then zbc T t (zaa l s) (zaa l x) h else none | _, _ => none) _
        unfold zlf at hh
        split at hh
        · rename_i t u s x h1 h2
          rw [h1, h2]
          simp only
          split at hh
          · rename_i h3
            rw [if_pos h3]
            have := zcu hh
            rw [zas hr, zas hr] at this
            exact this
          · cases hh
        · cases hh
      | copy =>
        have hh : zub T ats.toList args.toList e h k = true := hh
        show optE (match ats.toList, args.toList with | [t, _], [d, s] => zor T t (zaa l d) (zaa l s) h | _, _ => none) _
        unfold zub at hh
        split at hh
        · rename_i t u s x h1 h2
          rw [h1, h2]
          have := zcu hh
          rw [zas hr, zas hr] at this
          exact this
        · cases hh
      | clear =>
        have hh : znG T ats.toList args.toList e h k = true := hh
        show optE (match ats.toList, args.toList with | [t], [x] => (zdp T t (zaa l x) h).map fun h' => (undef, h') | _, _ => none) _
        unfold znG at hh
        split at hh
        · rename_i t x h1 h2
          rw [h1, h2]
          have := zc2 hh
          rw [zas hr] at this
          exact this
        · cases hh
      | len =>
        have hh : zxQ T ats.toList args.toList e h k = true := hh
        show optE (match ats.toList, args.toList with | t :: _, [x] => (lenA T t (zaa l x) h).map fun r => (r, h) | _, _ => none) _
        unfold zxQ at hh
        split at hh
        · rename_i t u x h1 h2
          rw [h1, h2]
          have := zaN hh
          rw [zas hr] at this
          exact this
        · cases hh
      | min => exact zcF hr hh
      | max => exact zcF hr hh
      | delete =>
        have hh : zk5 T ats.toList args.toList e h k = true := hh
        show optE (match ats.toList, args.toList with | t :: _, [m, k] => (zfl T t (zaa l m) (zaa l k) h).map fun h' => (undef, h') | _, _ => none) _
        unfold zk5 at hh
        split at hh
        · rename_i t u m i h1 h2
          rw [h1, h2]
          have := zc2 hh
          rw [zas hr, zas hr] at this
          exact this
        · cases hh
      | cap =>
        have hh : zwT T ats.toList args.toList e h k = true := hh
        show optE (match ats.toList, args.toList with | t :: _, [x] => (capA T t (zaa l x)).map fun r => (r, h) | _, _ => none) _
        unfold zwT at hh
        split at hh
        · rename_i t u x h1 h2
          rw [h1, h2]
          have := zaN hh
          rw [zas hr] at this
          exact this
        · cases hh
      | _ => cases hh
  | makeMap t r =>
    have hh : ziy T t r e h k = true := hh
    cases r with
    | none => exact hh
    | some x =>
      show optE (match T.desc t, zaa l x with | some (.map _ _), .int _ _ => some (.map (some h.size), h.push (.map [] 0)) | _, _ => none) _
      simp only [ziy] at hh
      rw [zas hr] at hh
      split at hh
      · rename_i h1 h2; rw [h1, h2]; exact hh
      · cases hh
  | lookup t x i ok =>
    have hh := zaN (show zcp (zhT T t (fval x e) (fval i e) ok h) h k = true from hh)
    rw [zas hr, zas hr] at hh
    exact hh
  | mapUpdate t m i x =>
    have hh := zc2 (show fMem (zd3 T t (fval m e) (fval i e) (fval x e) h) k = true from hh)
    rw [zas hr, zas hr, zas hr] at hh
    exact hh
  | insert t m i x =>
    have hh := zc2 (show fMem (zd3 T t (fval m e) (fval i e) (fval x e) h) k = true from hh)
    rw [zas hr, zas hr, zas hr] at hh
    exact hh
  | mapEntry t m i =>
    have hh := zcu (show zhn (zim T t (fval m e) (fval i e) h) k = true from hh)
    rw [zas hr, zas hr] at hh
    exact hh
  | entryStore t m s x =>
    have hh := zc2 (show fMem (zb7 (fval m e) (fval s e) (fval x e) h) k = true from hh)
    rw [zas hr, zas hr, zas hr] at hh
    exact hh
  | _ => cases hh

theorem ziX {ops : List Oper} {o : Oper} {e : FE} {l : Env} {a b : Bool} {A B : Prop} (hr : ERel e l) (hh : zvb ops o.guard e a b = true) (ha : a = true → A) (hb : b = true → B) : zdC (zaW ⟨ops⟩ o l) A B := by
  have key : (zaW ⟨ops⟩ o l = true ∧ a = true) ∨ (zaW ⟨ops⟩ o l = false ∧ b = true) := by
    unfold zvb at hh
    unfold zaW
    split at hh
    · rename_i hg
      rw [hg]
      exact .inl ⟨rfl, hh⟩
    · rename_i j c hg
      rw [hg]
      simp only [List.getElem?_toArray]
      split at hh
      · rename_i t ht
        rw [ht]
        simp only
        rw [hr.2 t] at hh
        split at hh
        · rename_i d hd
          rw [hd]
          cases d <;> cases c <;> first | exact .inl ⟨rfl, hh⟩ | exact .inr ⟨rfl, hh⟩
        · rename_i hne
          refine .inr ⟨?_, hh⟩
          split
          · rename_i d hd; exact (hne d hd).elim
          · rfl
      · rename_i ht
        rw [ht]
        exact .inr ⟨rfl, hh⟩
  unfold zdC
  rcases key with ⟨h1, h2⟩ | ⟨h1, h2⟩
  · rw [h1, if_pos rfl]; exact ha h2
  · rw [h1, if_neg (by simp)]; exact hb h2

theorem zth (h : Heap) (k : Heap → Bool) : fLow h k = k h := by
  unfold fLow
  obtain ⟨s, t, l⟩ := h
  cases l <;> rfl
theorem zgx {C : Fn → List Value → Heap → FK → Bool} (hC : CF P T ov C) {ops : List Oper} : ∀ (os : List Oper) (e : FE) (l : Env) (h : Heap) (k : FE → Heap → Bool), ERel e l → fOps P T C ops os e h k = true →
    WOps P T ov ⟨ops⟩ os l h fun l' h' => ∃ e', ERel e' l' ∧ k e' h' = true
  | [], e, l, h, k, hr, hh => ⟨e, hr, hh⟩
  | o :: os, e, l, h, k, hr, hh => by
    have hh : fOne P T C ops o (fOps P T C ops os) e h k = true := hh
    refine ziX hr hh (fun ha => ?_) (fun hb => ?_)
    · refine WOp.mono (fun v h' hk => ?_) (zi8 hC hr ha)
      rw [zth] at hk
      obtain ⟨e', hr', hk⟩ := zdR hr hk
      exact zgx hC os e' _ h' k hr' hk
    · obtain ⟨e', hr', hk⟩ := zdR hr hb
      exact zgx hC os e' _ h k hr' hk

/-! ### A region that draws its order -/
theorem ziF (ks : List Nat) : ∀ ps : List (Nat × Nat), zdb ks ps = true → ∀ i j, (i, j) ∈ ps → kOk (ks.getD i 2) (ks.getD j 2) = true
  | [], _, _, _, h => by cases h
  | (a, b) :: r, h, i, j, hm => by
    simp only [zdb, Bool.and_eq_true] at h
    rcases List.mem_cons.1 hm with h1 | h1
    · cases h1; exact h.1
    · exact ziF ks r h.2 i j h1
theorem zlS {ops : Array Oper} {ms ks : List Nat} (h1 : zcX ops ms = true) (h2 : zdb ks (znQ T ops ms) = true) (h3 : ∀ i, i < ops.size → zaV T ops i = true → ks.getD i 2 = 0) : zgZ ops ks ms = true := by
  unfold zgZ
  rw [List.all_eq_true]
  intro j hj
  have hjs : j < ops.size := List.mem_range.1 hj
  unfold zcX at h1
  have h1 := List.all_eq_true.1 h1 j hj
  unfold zgk
  split
  · rename_i oj hoj
    rw [hoj] at h1
    simp only [Bool.and_eq_true] at h1 ⊢
    refine ⟨h1.1, ?_⟩
    rw [List.all_eq_true]
    intro i hi
    have hij : i < j := List.mem_range.1 hi
    have h4 := List.all_eq_true.1 h1.2 i hi
    cases ht : (ms.getD j 0).testBit i with
    | true => rfl
    | false =>
      rw [ht] at h4
      simp only [Bool.false_or] at h4 ⊢
      split at h4
      · rename_i oi hoi
        rw [hoi]
        simp only
        rw [Bool.and_eq_true]
        refine ⟨h4, ?_⟩
        cases hbi : zaV T ops i with
        | true => rw [h3 i (by omega) hbi]; rfl
        | false =>
          cases hbj : zaV T ops j with
          | true => rw [h3 j hjs hbj]; simp [kOk]
          | false =>
            refine ziF ks _ h2 i j ?_
            unfold znQ
            rw [List.mem_flatMap]
            refine ⟨j, hj, ?_⟩
            rw [List.mem_filterMap]
            exact ⟨i, hi, by rw [ht, hbi, hbj]; rfl⟩
      · rename_i hoi; rw [hoi]
  · rfl

theorem zu3 {o : Oper} {e : FE} {l : Env} {h h' : Heap} (hr : ERel e l) (hb : za9 T o = false) : zxF o e h.size h'.low = zbY T o l h h' := by
  have hb' : ¬ za9 T o = true := by rw [hb]; simp
  unfold zxF zbY
  rw [if_neg hb']
  by_cases hle : h.size ≤ h'.low
  · have h5 : Nat.ble h.size h'.low = true := Nat.ble_eq_true_of_le hle
    rw [if_pos hle]
    simp only [h5]
    cases o.op <;> simp only [zas hr] <;> rfl
  · have h5 : Nat.ble h.size h'.low = false := by
      cases h7 : Nat.ble h.size h'.low with
      | false => rfl
      | true => exact (hle (Nat.le_of_ble_eq_true h7)).elim
    rw [if_neg hle]
    simp only [h5]
    cases o.op <;> simp only [zas hr] <;> rfl
theorem zd1 {C : Fn → List Value → Heap → FK → Bool} (hC : CF P T ov C) {ops : List Oper} : ∀ (os pre : List Oper) (ks : List Nat) (e : FE) (l : Env) (h : Heap) (k : List Nat → FE → Heap → Bool), ops = pre ++ os → ks.length = pre.length →
    (∀ i, i < pre.length → zaV T ⟨ops⟩ i = true → ks.getD i 2 = 0) → ERel e l → zwW P T C ops os ks.reverse e h k = true →
    WOpsK P T ov ⟨ops⟩ os ks l h fun ks' l' h' => ks'.length = ops.length ∧ (∀ i, i < ops.length → zaV T ⟨ops⟩ i = true → ks'.getD i 2 = 0) ∧ ∃ e', ERel e' l' ∧ k ks'.reverse e' h' = true
  | [], pre, ks, e, l, h, k, hp, hl, hb, hr, hh => by
    rw [List.append_nil] at hp
    subst hp
    exact ⟨hl, hb, e, hr, hh⟩
  | o :: os, pre, ks, e, l, h, k, hp, hl, hb, hr, hh => by
    have hh : zyV P T C ops o (zwW P T C ops os) ks.reverse e h k = true := hh
    have hat : zaV T ⟨ops⟩ pre.length = za9 T o := by
      simp [zaV, hp]
    have hb' : ∀ c, (za9 T o = true → c = 0) → ∀ i, i < (pre ++ [o]).length → zaV T ⟨ops⟩ i = true → (ks ++ [c]).getD i 2 = 0 := by
      intro c hc i hi hbi
      rw [List.length_append, List.length_singleton] at hi
      by_cases hlt : i < pre.length
      · have := hb i hlt hbi
        rw [List.getD_eq_getElem?_getD] at this ⊢
        rw [List.getElem?_append_left (by omega)]
        exact this
      · have : i = pre.length := by omega
        subst this
        rw [hat] at hbi
        rw [List.getD_eq_getElem?_getD, List.getElem?_append_right (by omega), hl, Nat.sub_self]
        simp [hc hbi]
    have hp' : ops = (pre ++ [o]) ++ os := by rw [hp]; simp
    have hl' : ∀ c : Nat, (ks ++ [c]).length = (pre ++ [o]).length := by intro c; simp [hl]
    have hrev : ∀ c : Nat, c :: ks.reverse = (ks ++ [c]).reverse := by intro c; simp
    refine ziX hr hh (fun ha => ?_) (fun hb2 => ?_)
    · refine WOp.mono (fun v h' hk => ?_) (zi8 hC hr ha)
      obtain ⟨e', hr', hk⟩ := zdR hr hk
      simp only [zth] at hk
      cases hob : za9 T o with
      | true =>
        rw [hob] at hk
        rw [zfe hob]
        simp only [hrev] at hk
        exact zd1 hC os (pre ++ [o]) (ks ++ [0]) e' _ _ k hp' (hl' 0) (hb' 0 fun _ => rfl) hr' hk
      | false =>
        rw [hob] at hk
        rw [zu3 hr hob] at hk
        simp only [hrev] at hk
        exact zd1 hC os (pre ++ [o]) (ks ++ [zbY T o l h h']) e' _ _ k hp' (hl' _) (hb' _ fun h6 => by rw [hob] at h6; cases h6) hr' hk
    · obtain ⟨e', hr', hk⟩ := zdR hr hb2
      rw [hrev] at hk
      exact zd1 hC os (pre ++ [o]) (ks ++ [0]) e' _ _ k hp' (hl' 0) (hb' 0 fun _ => rfl) hr' hk

theorem zny {C : Fn → List Value → Heap → FK → Bool} (hC : CF P T ov C) {ops : Array Oper} {e : FE} {l : Env} {h : Heap} {k : FE → Heap → Bool} (hr : ERel e l) (hh : zw0 P T C ops e h k = true) :
    WOpsK P T ov ops ops.toList [] l h fun ks l' h' => zgZ ops ks (zcA ops.toList []) = true ∧ ∃ e', ERel e' l' ∧ k e' h' = true := by
  unfold zw0 at hh
  split at hh
  · rename_i ps hd
    unfold zo0 at hd
    split at hd
    · rename_i ha
      cases hd
      refine WOpsK.mono _ _ _ _ _ _ ?_ (zd1 hC ops.toList [] [] e l h _ rfl rfl (fun i hi => by simp at hi) hr hh)
      rintro ks l' h' ⟨h1, h2, e', hr', hk⟩
      rw [List.reverse_reverse] at hk
      split at hk
      · rename_i hlo
        exact ⟨zlS ha hlo (fun i hi => h2 i (by simpa using hi)), e', hr', hk⟩
      · cases hk
    · cases hd
  · cases hh

/-! ### Code -/
theorem zn1 {v : Value} {a b : Bool} {A B : Prop} (hh : znM v a b = true) (ha : a = true → A) (hb : b = true → B) : zkZ v A B := by
  unfold znM at hh
  unfold zkZ
  split at hh
  · rename_i t
    cases t with
    | true => exact ⟨fun _ => ha hh, fun h => (by cases h)⟩
    | false => exact ⟨fun h => (by cases h), fun _ => hb hh⟩
  · cases hh

theorem zxb {e : FE} {l : Env} (hr : ERel e l) : fEnv e = l := by
  unfold fEnv
  rw [hr.1]
  refine List.ext_getElem? fun i => ?_
  rw [List.getElem?_map]
  by_cases hi : i < l.length
  · rw [List.getElem?_range hi, List.getElem?_eq_getElem hi, Option.map_some, hr.2 i, Env.get_eq, List.getElem?_eq_getElem hi]
    rfl
  · rw [List.getElem?_eq_none (by simpa using hi), List.getElem?_eq_none (by omega)]
    rfl
theorem zm2 {e : FE} {l : Env} (hr : ERel e l) {A : Nat} {h : Heap} {q : FQ} (hh : zs1 A e h q = true) : zq2 (zcJ A l h) fun x l' h' => ∃ e', ERel e' l' ∧ q x e' h' = true := by
  unfold zs1 at hh
  unfold zcJ
  split at hh
  · rename_i env ps assign body st pend hg
    rw [hg]
    cases st <;> cases pend <;> first | cases hh | exact ⟨e, hr, hh⟩ | (rename_i c; cases c <;> first | exact ⟨e, hr, hh⟩ | cases hh)
  · cases hh

theorem zct {C : Fn → List Value → Heap → FK → Bool} (hC : CF P T ov C) {rd : Option Nat} {fuel : Nat} : ∀ (c : Code) (e : FE) (l : Env) (h : Heap) (q : FQ), ERel e l → zfi P T C rd fuel c e h q = true →
    W P T ov rd c l h fun x l' h' => ∃ e', ERel e' l' ∧ q x e' h' = true := by
  intro c
  induction c with
  | skip => intro e l h q hr hh; exact ⟨e, hr, hh⟩
  | region id ops d =>
    intro e l h q hr hh
    cases d with
    | false => exact zgx hC _ _ _ _ _ hr hh
    | true => exact zny hC hr hh
  | seq a b iha ihb =>
    intro e l h q hr hh
    simp only [W]
    refine W.mono _ _ _ _ _ ?_ (iha e l h _ hr hh)
    rintro x l' h' ⟨e', hr', hq⟩
    cases x with
    | normal => exact ihb e' l' h' q hr' hq
    | exit i => exact ⟨e', hr', hq⟩
    | ret => exact ⟨e', hr', hq⟩
  | cond c a b iha ihb =>
    intro e l h q hr hh
    have hh : znM (fval c e) (zfi P T C rd fuel a e h q) (zfi P T C rd fuel b e h q) = true := hh
    rw [zas hr] at hh
    exact zn1 hh (iha e l h q hr) (ihb e l h q hr)
  | block id c ih =>
    intro e l h q hr hh
    simp only [W]
    refine W.mono _ _ _ _ _ ?_ (ih e l h _ hr hh)
    rintro x l' h' ⟨e', hr', hq⟩
    cases x with
    | normal => exact ⟨e', hr', hq⟩
    | exit i =>
      have hq : (match Nat.beq i id with | true => q .normal e' h' | false => q (.exit i) e' h') = true := hq
      split at hq
      · rename_i hb
        simp only [if_pos (Nat.eq_of_beq_eq_true hb)]
        exact ⟨e', hr', hq⟩
      · rename_i hb
        simp only [if_neg (Nat.ne_of_beq_eq_false hb)]
        exact ⟨e', hr', hq⟩
    | ret => exact ⟨e', hr', hq⟩
  | loop c ih =>
    intro e l h q hr hh
    have hh : zxh (zfi P T C rd fuel c) fuel e h q = true := hh
    have key : ∀ (n : Nat) (e : FE) (l : Env) (h : Heap), ERel e l → zxh (zfi P T C rd fuel c) n e h q = true → WIter (W P T ov rd c) (fun x l' h' => ∃ e', ERel e' l' ∧ q x e' h' = true) n l h := by
      intro n
      induction n with
      | zero => intro e l h _ hh; cases hh
      | succ n ihn =>
        intro e l h hr hh
        simp only [WIter]
        refine W.mono _ _ _ _ _ ?_ (ih e l h _ hr hh)
        rintro x l' h' ⟨e', hr', hq⟩
        cases x with
        | normal => exact ihn e' l' h' hr' hq
        | exit i => exact ⟨e', hr', hq⟩
        | ret => exact ⟨e', hr', hq⟩
    exact ⟨fuel, key fuel e l h hr hh⟩
  | exit id => intro e l h q hr hh; exact ⟨e, hr, hh⟩
  | ret => intro e l h q hr hh; exact ⟨e, hr, hh⟩
  | label n => intro e l h q hr hh; exact ⟨e, hr, hh⟩
  | rangeFunc g ps a b _ _ =>
    intro e l h q hr hh
    have hh : zom T C rd g ps a b (zfi P T C rd fuel a) (zfi P T C rd fuel b) e h q = true := hh
    unfold zom at hh
    rw [zas hr, zxb hr] at hh
    simp only [W, zhS]
    split at hh
    · rename_i hgv
      rw [hgv]
      simp only
      split at hh
      · rename_i hc
        refine ⟨hc, (hC _ _ _ _ hh).mono fun v h2 hk => ?_⟩
        exact zm2 hr hk
      · cases hh
    · cases hh
  | scope c ih => intro e l h q hr hh; exact ih e l h q hr hh
  | goto l => intro e l h q hr hh; cases hh
  | refuse s => intro e l h q hr hh; cases hh

theorem ztk {e : FE} {l : Env} (hr : ERel e l) (h : Heap) (r : ResultVar) : fRes T r e h = zbw T l h r := by
  cases r with
  | tmp t => simp only [fRes, zbw]; rw [hr.2 t]
  | cell a y => simp only [fRes, zbw]; rw [hr.2 a]
theorem zgH {fn : Func} {k : FK} {x : Ex} {e : FE} {l : Env} {h : Heap} (hr : ERel e l) (hh : fFin T fn k x e h = true) : (x = .ret ∨ x = .normal) ∧ ∃ v, zaF T fn l h = some v ∧ k v h = true := by
  have go : (match fn.results.toList with
    | [r] => zcp (fRes T r e h) h k
    | rs => (match rs.mapM fun r => fRes T r e h with
      | some vs => k (.tuple vs.toArray) h
      | none => false)) = true → ∃ v, zaF T fn l h = some v ∧ k v h = true := by
    intro hh
    rw [show (fun r => fRes T r e h) = zbw T l h from funext (ztk hr h)] at hh
    unfold zaF
    split at hh
    · rename_i r h1
      rw [h1]
      rw [ztk hr] at hh
      unfold zcp at hh
      split at hh
      · rename_i v h2; exact ⟨v, h2, hh⟩
      · cases hh
    · rename_i hne
      split
      · rename_i r h1; exact (hne r h1).elim
      · split at hh
        · rename_i vs h2; rw [h2]; exact ⟨_, rfl, hh⟩
        · cases hh
  cases x with
  | exit i => cases hh
  | normal => exact ⟨.inr rfl, go hh⟩
  | ret => exact ⟨.inl rfl, go hh⟩

theorem zds : ∀ (args : List Value) (i : Nat) (t : ET) (k : ET → Bool), zlC args i t k = true → ∃ t', k t' = true ∧ ∀ j, ET.get (zcj j) t' = if i ≤ j ∧ j < i + args.length then (args[j - i]?).getD undef else ET.get (zcj j) t
  | [], i, t, k, hh => ⟨t, hh, fun j => by rw [if_neg (by simp)]⟩
  | v :: args, i, t, k, hh => by
    have hh : ET.setK (zcj i) v t (fun t => zlC args (i + 1) t k) = true := hh
    rw [ET.setK_eq] at hh
    obtain ⟨t', h1, h2⟩ := zds args (i + 1) _ k hh
    refine ⟨t', h1, fun j => ?_⟩
    rw [h2 j, List.length_cons]
    by_cases hj : j = i
    · subst hj
      rw [if_neg (by omega), if_pos (by omega), (ET.get_set _ _ _ _).1 rfl]
      simp
    · by_cases hj2 : i ≤ j ∧ j < i + (args.length + 1)
      · rw [if_pos (by omega), if_pos hj2, show j - i = (j - (i + 1)) + 1 by omega, List.getElem?_cons_succ]
      · rw [if_neg (by omega), if_neg hj2, (ET.get_set _ _ _ _).2 (fun hp => hj (zj3 hp).symm)]

theorem zc7 {A : Nat} {jump : Option Code} {h : Heap} {k : FK} (hh : zeH A jump h k = true) : optE (zb3 A jump h) fun v h' => k v h' = true := by
  unfold zeH at hh
  unfold zb3
  split at hh
  · rename_i hg; rw [hg]; exact hh
  · cases hh

theorem zfQ : ∀ (e : Env) (ps : List Tmp) (args : List Value), (setAll e ps args).length = e.length
  | _, [], args => by cases args <;> rfl
  | _, _ :: _, [] => rfl
  | e, p :: ps, v :: args => by simp only [setAll]; rw [zfQ, Env.length_set]

theorem zlw {args : List Value} {n : Nat} {t : ET} (hle : args.length ≤ n) (hget : ∀ j, ET.get (zcj j) t = if 0 ≤ j ∧ j < 0 + args.length then (args[j - 0]?).getD undef else ET.get (zcj j) .leaf) : ERel ⟨n, t⟩ (args ++ List.replicate (n - args.length) undef) := by
  refine ⟨by simp; omega, fun j => ?_⟩
  show ET.get (zcj j) t = _
  rw [hget j, Env.get_eq]
  by_cases hj : j < args.length
  · rw [if_pos (by omega), List.getElem?_append_left hj, Nat.sub_zero]
  · rw [if_neg (by omega), ET.get_leaf, List.getElem?_append_right (by omega)]
    by_cases hj2 : j - args.length < n - args.length
    · simp [hj2]
    · simp [hj2]
theorem zjZ {C : Fn → List Value → Heap → FK → Bool} (hC : CF P T ov C) {fuel : Nat} : ∀ (pre : List Code) (e : FE) (l : Env) (h : Heap) (k : FE → Heap → Bool), ERel e l → fPre (zfi P T C none fuel) pre e h k = true → WPre P T ov pre l h fun l' h' => ∃ e', ERel e' l' ∧ k e' h' = true
  | [], e, l, h, k, hr, hh => ⟨e, hr, hh⟩
  | c :: cs, e, l, h, k, hr, hh => by
    simp only [fPre] at hh
    refine W.mono _ _ _ _ _ ?_ (zct hC c e l h _ hr hh)
    rintro x l' h' ⟨e', hr', hq⟩
    cases x with
    | normal => exact ⟨rfl, zjZ hC cs e' l' h' k hr' hq⟩
    | exit id => cases hq
    | ret => cases hq
theorem zlQ {C : Fn → List Value → Heap → FK → Bool} (hC : CF P T ov C) {fuel : Nat} {f : FuncId} {fn : Func} {c : Code} {args : List Value} {t0 : ET} {h : Heap} {k : FK} (ho : ov f = none) (hf : T.fn f = some fn) (hc : fn.body = some c) (hdf : T.dfr f = true)
    (hr : ERel ⟨fn.ntmps, t0⟩ (args ++ List.replicate (fn.ntmps - args.length) undef)) (hh : ztC P T C (zfi P T C none fuel) fn c ⟨fn.ntmps, t0⟩ h k = true) : Ok P T ov f args h fun v h' => k v h' = true := by
  unfold ztC at hh
  split at hh
  · rename_i pre m t rest hsp
    split at hh
    · rename_i hnr
      refine Ok.enterD ho hf hc hdf hsp hnr ?_
      refine WPre.mono _ _ _ _ _ ?_ (zjZ hC pre _ _ h _ hr hh)
      rintro l1 h1 ⟨e1, hr1, hq⟩
      refine WOp.mono (fun v h2 hk => ?_) (zi8 hC hr1 hq)
      obtain ⟨e2, hr2, hk⟩ := zdR hr1 hk
      refine W.mono _ _ _ _ _ ?_ (zct hC rest e2 _ h2 _ hr2 hk)
      rintro x l3 h3 ⟨e3, hr3, hq3⟩
      have key : (x = .ret ∨ x = .normal) ∧ zsX T (zfi P T C none fuel) fn (ET.get (zcj t) e2.t) e3 h3 k = true := by
        cases x with
        | normal => exact ⟨.inr rfl, hq3⟩
        | exit id => cases hq3
        | ret => exact ⟨.inl rfl, hq3⟩
      obtain ⟨hx, hlv⟩ := key
      refine ⟨hx, ?_⟩
      unfold zsX at hlv
      split at hlv
      · rename_i g fi ca hg
        split at hlv
        · rename_i fg hfg
          split at hlv
          · rename_i cg hcg
            split at hlv
            · rename_i hcond
              simp only [Bool.and_eq_true] at hcond
              obtain ⟨t4, ht4, hget⟩ := zds (fi.toList ++ ca.toList) 0 .leaf _ hlv
              refine ⟨g, fi, ca, fg, cg, by rw [← hr2.2 t]; exact hg, hfg, hcg, hcond.1, ?_⟩
              refine W.mono _ _ _ _ _ ?_ (zct hC cg ⟨fg.ntmps, t4⟩ _ h3 _ (zlw (Nat.le_of_ble_eq_true hcond.2) hget) ht4)
              rintro y l4 h4 ⟨e4, hr4, hq4⟩
              obtain ⟨hy, vg, hvg, hq5⟩ := zgH hr4 hq4
              obtain ⟨_, v5, hv5, hq6⟩ := zgH hr3 hq5
              exact ⟨hy, vg, v5, hvg, hv5, hq6⟩
            · cases hlv
          · cases hlv
        · cases hlv
      · cases hlv
    · cases hh
  · cases hh
theorem zhR (fuel : Nat) : ∀ n, CF P T ov (znR P T ov fuel n)
  | 0 => by intro f args h k hh; cases hh
  | n + 1 => by
    intro f args h k hh
    have ih := zhR fuel n
    cases f with
    | func f =>
      have hh : zw6 P T ov (znR P T ov fuel n) (zfi P T (znR P T ov fuel n) none fuel) f args h k = true := hh
      unfold zw6 at hh
      split at hh
      · rename_i g hg
        unfold zhn at hh
        split at hh
        · rename_i v h' hv
          exact Ok.over hg hv hh
        · cases hh
      · rename_i ho
        split at hh
        · rename_i fn hf
          split at hh
          · rename_i c hc
            split at hh
            · rename_i hle
              have hle := Nat.le_of_ble_eq_true hle
              obtain ⟨t, ht, hget⟩ := zds args 0 .leaf _ hh
              have hE := zlw hle hget
              split at ht
              · rename_i hdf
                exact zlQ ih ho hf hc hdf hE ht
              · rename_i hdf
                refine Ok.enter ho hf hc hdf ?_
                refine W.mono _ _ _ _ _ ?_ (zct ih c ⟨fn.ntmps, t⟩ (args ++ List.replicate (fn.ntmps - args.length) undef) h _ hE ht)
                rintro x l' h' ⟨e', hr', hq⟩
                exact zgH hr' hq
            · cases hh
          · cases hh
        · cases hh
    | yield A =>
      have hh : zrZ (zfi P T (znR P T ov fuel n) (some A) fuel) A args h k = true := hh
      unfold zrZ at hh
      split at hh
      · rename_i env ps assign body st pend hg
        split at hh
        · rename_i hl
          obtain ⟨t, ht, hget⟩ := zds _ 0 .leaf _ hh
          refine OkF.round hg (Nat.eq_of_beq_eq_true hl) ?_
          refine W.mono _ _ _ _ _ ?_ (zct ih assign ⟨env.length, t⟩ (setAll env ps args) h _ ⟨?_, fun j => ?_⟩ ht)
          · rintro x e1 h1 ⟨e', hr', hq⟩
            cases x with
            | normal =>
              refine ⟨rfl, ?_⟩
              have hq : (match h1.get A with
                | some (.loop env ps assign body1 .ready pend) => zfi P T (znR P T ov fuel n) (some A) fuel body e' (h1.set A (.loop env ps assign body1 .busy pend)) (znc A k)
                | _ => false) = true := hq
              split at hq
              · rename_i env1 ps1 as1 bd1 pend1 hg1
                refine ⟨env1, ps1, as1, bd1, pend1, hg1, ?_⟩
                refine W.mono _ _ _ _ _ ?_ (zct ih body e' e1 _ _ hr' hq)
                rintro x l' h' ⟨e2, _, hk⟩
                cases x with
                | normal => exact zc7 hk
                | exit id => exact zc7 hk
                | ret => exact zc7 hk
              · cases hq
            | exit id => cases hq
            | ret => cases hq
          · rw [zfQ]
          · show ET.get (zcj j) t = _
            rw [hget j, Env.get_eq]
            by_cases hj : j < (setAll env ps args).length
            · rw [if_pos (by omega), Nat.sub_zero]
            · rw [if_neg (by omega), ET.get_leaf, List.getElem?_eq_none (by omega)]
              rfl
        · cases hh
      · cases hh
    | _ => cases hh
end
end Go.Am

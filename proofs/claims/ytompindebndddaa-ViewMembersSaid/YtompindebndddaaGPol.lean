/- Policies: data, their cells. No condition. -/
import Derived.Test.YtompindebndddaaGInt
namespace Go.Am
set_option linter.unusedVariables false
structure PredD where
  name : ByteArray
  arity : Int
structure ClearD where
  who : ByteArray
  reads : List ByteArray
structure GrantD where
  to : ByteArray
  head : AtomD
  body : List AtomD
structure PolicyD where
  principals : List ByteArray
  preds : List PredD
  clears : List ClearD
  quota : Int
  budget : Int
  rules : List ClauseD
  grants : List GrantD
abbrev Rep.pred : Rep PredD := { k := 2, R := fun _ cs x => cs = [.string x.name, .int .i64 x.arity], len := by rintro _ _ _ rfl; rfl, mono := fun _ _ _ _ _ h => h, ones := by rintro _ _ _ rfl; rfl }
abbrev Rep.clear : Rep ClearD :=
  { k := 2, R := fun h cs x => ∃ v, cs = [.string x.who, v] ∧ Sl Rep.str h v x.reads
    len := by rintro h cs x ⟨v, rfl, _⟩; rfl
    mono := by rintro h h' cs x i ⟨v, e, f⟩; exact ⟨v, e, f.mono i⟩
    ones := by rintro h cs x ⟨v, rfl, f⟩; have := f.one; simp only [List.all_cons, List.all_nil, this]; rfl }
abbrev Rep.grant : Rep GrantD :=
  { k := 13, R := fun h cs x => ∃ v, cs = .string x.to :: (x.head.cells ++ [v]) ∧ Sl Rep.atom h v x.body
    len := by rintro h cs x ⟨v, rfl, _⟩; rfl
    mono := by rintro h h' cs x i ⟨v, e, f⟩; exact ⟨v, e, f.mono i⟩
    ones := by rintro h cs x ⟨v, rfl, f⟩; have := f.one; simp only [List.all_append, AtomD.cells, List.all_cons, List.all_nil, this]; rfl }
def polCells (p0 p1 p2 p5 p6 : Value) (q b : Int) : List Value := [p0, p1, p2, .int .i64 q, .int .i64 b, p5, p6]
def polVal (p0 p1 p2 p5 p6 : Value) (q b : Int) : Value := .agg ⟨polCells p0 p1 p2 p5 p6 q b⟩
structure PolH (h : Heap) (p0 p1 p2 p5 p6 : Value) (d : PolicyD) : Prop where
  s0 : Sl Rep.str h p0 d.principals
  s1 : Sl Rep.pred h p1 d.preds
  s2 : Sl Rep.clear h p2 d.clears
  s5 : Sl Rep.clause h p5 d.rules
  s6 : Sl Rep.grant h p6 d.grants
theorem PolH.mono {h h' : Heap} {p0 p1 p2 p5 p6 : Value} {d : PolicyD} (f : PolH h p0 p1 p2 p5 p6 d) (i : Inc h h') : PolH h' p0 p1 p2 p5 p6 d := ⟨f.s0.mono i, f.s1.mono i, f.s2.mono i, f.s5.mono i, f.s6.mono i⟩
theorem PolH.lay {h : Heap} {p0 p1 p2 p5 p6 : Value} {d : PolicyD} (f : PolH h p0 p1 p2 p5 p6 d) (bs : List Blk) (w : Nat) : PolH (h.lay bs w) p0 p1 p2 p5 p6 d := f.mono (Inc.lay h bs w)
theorem PolH.over {h1 h2 : Heap} {bs : List Blk} {w : Nat} {p0 p1 p2 p5 p6 : Value} {d : PolicyD} (f : PolH h1 p0 p1 p2 p5 p6 d) (x : Ext (h1.lay bs w) h2) : PolH h2 p0 p1 p2 p5 p6 d := f.mono x.inc.of_lay
theorem PolH.one {h : Heap} {p0 p1 p2 p5 p6 : Value} {d : PolicyD} (f : PolH h p0 p1 p2 p5 p6 d) (q b : Int) : (polCells p0 p1 p2 p5 p6 q b).all Am.one = true := by
  have h0 := f.s0.one
  have h1 := f.s1.one
  have h2 := f.s2.one
  have h5 := f.s5.one
  have h6 := f.s6.one
  simp only [polCells, List.all_cons, List.all_nil, h0, h1, h2, h5, h6]
  rfl
theorem cut_pol (p0 p1 p2 p5 p6 : Value) (q b : Int) : cut (polCells p0 p1 p2 p5 p6 q b) 0 7 = some (polCells p0 p1 p2 p5 p6 q b) := rfl
theorem pol0 (p0 p1 p2 p5 p6 : Value) (q b : Int) : (polCells p0 p1 p2 p5 p6 q b)[0]? = some p0 := rfl
theorem pol1 (p0 p1 p2 p5 p6 : Value) (q b : Int) : (polCells p0 p1 p2 p5 p6 q b)[1]? = some p1 := rfl
theorem pol2 (p0 p1 p2 p5 p6 : Value) (q b : Int) : (polCells p0 p1 p2 p5 p6 q b)[2]? = some p2 := rfl
theorem pol3 (p0 p1 p2 p5 p6 : Value) (q b : Int) : (polCells p0 p1 p2 p5 p6 q b)[3]? = some (.int .i64 q) := rfl
theorem pol4 (p0 p1 p2 p5 p6 : Value) (q b : Int) : (polCells p0 p1 p2 p5 p6 q b)[4]? = some (.int .i64 b) := rfl
theorem pol5 (p0 p1 p2 p5 p6 : Value) (q b : Int) : (polCells p0 p1 p2 p5 p6 q b)[5]? = some p5 := rfl
theorem pol6 (p0 p1 p2 p5 p6 : Value) (q b : Int) : (polCells p0 p1 p2 p5 p6 q b)[6]? = some p6 := rfl
theorem agg_pol (p0 p1 p2 p5 p6 : Value) (q b : Int) : Value.agg (polCells p0 p1 p2 p5 p6 q b).toArray = polVal p0 p1 p2 p5 p6 q b := rfl
theorem cells_pol (p0 p1 p2 p5 p6 : Value) (q b : Int) : (polVal p0 p1 p2 p5 p6 q b).cells.toList = polCells p0 p1 p2 p5 p6 q b := rfl
theorem valE_pol (p0 p1 p2 p5 p6 : Value) (q b : Int) (h : Heap) (K : Value → Heap → Prop) : valE (some (polVal p0 p1 p2 p5 p6 q b)) h K = K (polVal p0 p1 p2 p5 p6 q b) h := rfl
section
variable {h1 : Heap} {bs : List Blk} {w : Nat} {T : Tab} {K : Value → Heap → Prop} {t e s : TypeId} {v p : Value} {kd : IntKind} {i : Int}
theorem ixP_at {l : List PredD} {x : PredD} (f : Sl Rep.pred h1 v l) (hd : T.desc t = some (.slice e)) (hs : sizeA T e = some 2) (h0 : 0 ≤ i) (hx : l[i.toNat]? = some x) (hk : ∀ p, AtP h1 p [.string x.name, .int .i64 x.arity] → K p (h1.lay bs w)) : valE (indexAddrA T t v (.int kd i)) (h1.lay bs w) K := by
  have hi := (List.getElem?_eq_some_iff.1 hx).1
  refine ix_rule f hd hs h0 (by omega) (fun x' p cs hx' hr hp => ?_)
  rw [hx] at hx'
  cases hx'
  exact hk p (hr ▸ hp)
theorem ixC_at {l : List ClearD} {x : ClearD} (f : Sl Rep.clear h1 v l) (hd : T.desc t = some (.slice e)) (hs : sizeA T e = some 2) (h0 : 0 ≤ i) (hx : l[i.toNat]? = some x) (hk : ∀ p b, Sl Rep.str h1 b x.reads → AtP h1 p [.string x.who, b] → K p (h1.lay bs w)) : valE (indexAddrA T t v (.int kd i)) (h1.lay bs w) K := by
  have hi := (List.getElem?_eq_some_iff.1 hx).1
  refine ix_rule f hd hs h0 (by omega) (fun x' p cs hx' hr hp => ?_)
  rw [hx] at hx'
  cases hx'
  obtain ⟨b, rfl, hb⟩ := hr
  exact hk p b hb hp
theorem ixG_at {l : List GrantD} {x : GrantD} (f : Sl Rep.grant h1 v l) (hd : T.desc t = some (.slice e)) (hs : sizeA T e = some 13) (h0 : 0 ≤ i) (hx : l[i.toNat]? = some x) (hk : ∀ p b, Sl Rep.atom h1 b x.body → AtP h1 p (.string x.to :: (x.head.cells ++ [b])) → K p (h1.lay bs w)) : valE (indexAddrA T t v (.int kd i)) (h1.lay bs w) K := by
  have hi := (List.getElem?_eq_some_iff.1 hx).1
  refine ix_rule f hd hs h0 (by omega) (fun x' p cs hx' hr hp => ?_)
  rw [hx] at hx'
  cases hx'
  obtain ⟨b, rfl, hb⟩ := hr
  exact hk p b hb hp
theorem fdP0 {x y : Value} (f : AtP h1 p [x, y]) (hfa : ∀ A o, fieldAddrA T s (.pointer (some ⟨A, o, none⟩)) 0 = some (.pointer (some ⟨A, o + 0, none⟩))) (hk : ∀ q, AtP h1 q [x] → K q (h1.lay bs w)) : valE (fieldAddrA T s p 0) (h1.lay bs w) K := fdx (ds := [x]) f hfa rfl (Nat.succ_pos _) hk
theorem fdP1 {x y : Value} (f : AtP h1 p [x, y]) (hfa : ∀ A o, fieldAddrA T s (.pointer (some ⟨A, o, none⟩)) 1 = some (.pointer (some ⟨A, o + 1, none⟩))) (hk : ∀ q, AtP h1 q [y] → K q (h1.lay bs w)) : valE (fieldAddrA T s p 1) (h1.lay bs w) K := fdx (ds := [y]) f hfa rfl (Nat.succ_pos _) hk
theorem fdG0 {x : GrantD} {b : Value} (f : AtP h1 p (.string x.to :: (x.head.cells ++ [b]))) (hfa : ∀ A o, fieldAddrA T s (.pointer (some ⟨A, o, none⟩)) 0 = some (.pointer (some ⟨A, o + 0, none⟩))) (hk : ∀ q, AtP h1 q [.string x.to] → K q (h1.lay bs w)) : valE (fieldAddrA T s p 0) (h1.lay bs w) K := fdx (ds := [.string x.to]) f hfa rfl (Nat.succ_pos _) hk
theorem fdG1 {x : GrantD} {b : Value} (f : AtP h1 p (.string x.to :: (x.head.cells ++ [b]))) (hfa : ∀ A o, fieldAddrA T s (.pointer (some ⟨A, o, none⟩)) 1 = some (.pointer (some ⟨A, o + 1, none⟩))) (hk : ∀ q, AtP h1 q x.head.cells → K q (h1.lay bs w)) : valE (fieldAddrA T s p 1) (h1.lay bs w) K := fdx (ds := x.head.cells) f hfa rfl (Nat.succ_pos _) hk
theorem fdG2 {x : GrantD} {b : Value} (f : AtP h1 p (.string x.to :: (x.head.cells ++ [b]))) (hfa : ∀ A o, fieldAddrA T s (.pointer (some ⟨A, o, none⟩)) 2 = some (.pointer (some ⟨A, o + 12, none⟩))) (hk : ∀ q, AtP h1 q [b] → K q (h1.lay bs w)) : valE (fieldAddrA T s p 2) (h1.lay bs w) K := fdx (ds := [b]) f hfa rfl (Nat.succ_pos _) hk
theorem ldP {x y : Value} (f : AtP h1 p [x, y]) (hg : aggA T t = some true) (hs : sizeA T t = some 2) (hk : K (.agg ⟨[x, y]⟩) (h1.lay bs w)) : valE (loadA T t p (h1.lay bs w)) (h1.lay bs w) K := ld_agg f hg hs rfl hk
theorem ldG {x : GrantD} {b : Value} (f : AtP h1 p (.string x.to :: (x.head.cells ++ [b]))) (hg : aggA T t = some true) (hs : sizeA T t = some 13) (hk : K (.agg ⟨.string x.to :: (x.head.cells ++ [b])⟩) (h1.lay bs w)) : valE (loadA T t p (h1.lay bs w)) (h1.lay bs w) K := ld_agg f hg hs rfl hk
end
end Go.Am

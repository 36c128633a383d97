/- The code of some functions, node by node, for simp. Written by a program (mkcode.py). No condition. -/
import Derived.Test.YtemapihoobmonaaGreatDoorG23
import Derived.Test.YtemapihoobmonaaGreatDoorG26
import Derived.KernelRfl
import Derived.Test.YtemapihoobmonaaGreatDoorG17
import Derived.Test.YtemapihoobmonaaGreatDoorG22
import Derived.Test.YtemapihoobmonaaGreatDoorG28
namespace Go.Proofs.YtemapihoobmonaaGreatDoor
open Go.Am
set_option linter.unusedVariables false
set_option linter.unusedSimpArgs false
set_option maxRecDepth 100000
set_option maxHeartbeats 0
noncomputable def N25 := zaC Tryz.f25
noncomputable def x25 := PLift.up (by have c := zai N25 Tryz.f25; simp only [zaq, Tryz.f25, Option.getD_some, zao, opsF, opsX, zae, zaB, dstL, zan, List.append_eq, List.cons_append, List.nil_append, seval] at c; exact nd c <| nd @al57 <| nd @zjZ <| nd @zvg <| nd @zvj <| nd @ld3 <| nd @ld55 <| nd @ld9 <| @fi25)
theorem c25 : type_of% x25.down := x25.down
noncomputable def N6 := zaC Tryz.f6
noncomputable def x6 := PLift.up (by have c := zai N6 Tryz.f6; simp only [zaq, Tryz.f6, Option.getD_some, zao, opsF, opsX, zae, zaB, dstL, zan, List.append_eq, List.cons_append, List.nil_append, seval] at c; exact nd c <| nd @al55 <| nd @al57 <| nd @zpb <| nd @zjZ <| nd @zvg <| nd @zvj <| nd @ix69 <| nd @ld3 <| nd @ld55 <| nd @ld62 <| nd @ld9 <| nd @ln69 <| nd @ln9 <| @fi6)
theorem c6 : type_of% x6.down := x6.down
noncomputable def N5 := zaC Tryz.f5
noncomputable def x5 := PLift.up (by have c := zai N5 Tryz.f5; simp only [zaq, Tryz.f5, Option.getD_some, zao, opsF, opsX, zae, zaB, dstL, zan, List.append_eq, List.cons_append, List.nil_append, seval] at c; exact nd c <| nd @al57 <| nd @zjZ <| nd @zoO <| nd @ix49 <| nd @ld26 <| nd @ld3 <| nd @ld55 <| nd @ld57 <| nd @ld9 <| nd @ln49 <| nd @ln9 <| @fi5)
theorem c5 : type_of% x5.down := x5.down
end Go.Proofs.YtemapihoobmonaaGreatDoor
namespace Go.Am
set_option linter.unusedVariables false
set_option linter.unusedSimpArgs false
structure SentD where
  sender : ByteArray
  payload : ByteArray
  deriving DecidableEq
def SentD.cells (x : SentD) : List Value := [.string x.sender, .string x.payload]
def SentD.val (x : SentD) : Value := .agg ⟨x.cells⟩
abbrev Rep.sent : Rep SentD := { k := 2, R := fun _ cs x => cs = x.cells, len := by rintro _ _ _ rfl; rfl, mono := fun _ _ _ _ _ h => h, ones := by rintro _ _ _ rfl; rfl }
theorem zdS (a : SentD) (h : Heap) (K : Value → Heap → Prop) : valE (some a.val) h K = K a.val h := rfl
def zk2 (l : List SentD) : List Value := l.flatMap SentD.cells
structure EmpT (h : Heap) (v : Value) : Prop where
  sl : Sl Rep.sent h v []
  no : v = .slice none 0 0 ∨ ∃ B o, v = .slice (some ⟨B, o, none⟩) 0 0
def OwnXT (h0 h : Heap) (u : TypeId) (v : Value) (s : List SentD) : Prop :=
  (s = [] ∧ EmpT h v) ∨ ∃ A, v = .slice (some ⟨A, 0, none⟩) s.length (G * 2 + s.length) ∧ Holds h A (.row (zk2 s) u false) ∧ h0.size ≤ A ∧ s ≠ []
def OwnAT (h0 h : Heap) (u : TypeId) (v : Value) (s : List SentD) : Prop :=
  (s = [] ∧ EmpT h v) ∨ ∃ A t, v = .slice (some ⟨A, 0, none⟩) s.length (G * 2 + (s ++ t).length) ∧ Holds h A (.row (zk2 (s ++ t)) u false) ∧ h0.size ≤ A ∧ (s ++ t).length ≤ 100000
theorem OwnXT.own {h0 h : Heap} {u : TypeId} {v : Value} {s : List SentD} (f : OwnXT h0 h u v s) (hn : s.length ≤ 100000) : OwnAT h0 h u v s := by
  rcases f with f | ⟨A, e1, e2, e3, e4⟩
  · exact .inl f
  · exact .inr ⟨A, [], by rw [List.append_nil]; exact e1, by rw [List.append_nil]; exact e2, e3, by rw [List.append_nil]; exact hn⟩
theorem EmpT.nil {h : Heap} : EmpT h (.slice none 0 0) := ⟨Sl.nil, .inl rfl⟩
theorem EmpT.mono {h h' : Heap} {v : Value} (f : EmpT h v) (i : Inc h h') : EmpT h' v := ⟨f.sl.mono i, f.no⟩
theorem EmpT.lay {h : Heap} {v : Value} (f : EmpT h v) (bs : List Blk) (w : Nat) : EmpT (h.lay bs w) v := ⟨f.sl.lay bs w, f.no⟩
theorem EmpT.over {h1 h2 : Heap} {v : Value} {bs : List Blk} {w : Nat} (f : EmpT h1 v) (x : Ext (h1.lay bs w) h2) : EmpT h2 v := ⟨f.sl.over x, f.no⟩
theorem zlh (l : List SentD) : (zk2 l).length = l.length * 2 := by
  unfold zk2
  induction l with
  | nil => rfl
  | cons x l ih => rw [List.flatMap_cons, List.length_append, ih, List.length_cons]; show 2 + _ = _; omega
theorem zrb {l : List SentD} {i : Nat} {x : SentD} (h : l[i]? = some x) : cut (zk2 l) (i * 2) 2 = some x.cells := by
  have hi := (List.getElem?_eq_some_iff.1 h).1
  unfold cut
  rw [if_pos (by rw [zlh]; omega)]
  congr 1
  unfold zk2
  induction l generalizing i with
  | nil => simp at h
  | cons y l ih =>
    cases i with
    | zero =>
      simp at h
      subst h
      rfl
    | succ i =>
      rw [List.flatMap_cons, show (i + 1) * 2 = y.cells.length + i * 2 by show _ = 2 + _; omega, List.drop_append]
      have h2 : y.cells.drop (y.cells.length + i * 2) = [] := List.drop_of_length_le (by omega)
      rw [h2, List.nil_append, Nat.add_sub_cancel_left]
      exact ih (by simpa using h) (by simpa using hi)
theorem zvB {h : Heap} {A o : Nat} {l s : List SentD} {u : TypeId} {c : Nat} {ro : Bool} (q : Holds h A (.row (zk2 l) u ro)) (hc : zn9 2 s.length c) (hn : s.length ≤ 100000) (hs : ∀ (i : Nat) (x : SentD), s[i]? = some x → l[o + i]? = some x) : Sl Rep.sent h (.slice (some ⟨A, o * 2, none⟩) s.length c) s := by
  refine .inr ⟨A, o * 2, c, zk2 l, u, ro, rfl, (Nat.le_trans hn (by decide)), hc, q.lt, q.get, fun i x hx => ⟨x.cells, ?_, rfl⟩⟩
  show cut (zk2 l) (o * 2 + i * 2) 2 = _
  rw [← Nat.add_mul]
  exact zrb (hs i x hx)
theorem OwnAT.sl {h0 h : Heap} {u : TypeId} {v : Value} {s : List SentD} (f : OwnAT h0 h u v s) : Sl Rep.sent h v s := by
  rcases f with ⟨rfl, f⟩ | ⟨A, t, rfl, e2, e3, e4⟩
  · exact f.sl
  · have hG := zon
    obtain ⟨d1, d2, d3⟩ := zfz (k := 2) (q := (s ++ t).length) (by decide) (by omega)
    have hle : s.length ≤ (s ++ t).length := by rw [List.length_append]; omega
    have := zvB (o := 0) (s := s) e2 (.inr ⟨d1, d2, by rw [d3]; omega⟩) (by omega) (fun i x hx => by rw [Nat.zero_add, List.getElem?_append_left (List.getElem?_eq_some_iff.1 hx).1]; exact hx)
    simpa using this
theorem OwnAT.mono {h0 h h' : Heap} {u : TypeId} {v : Value} {s : List SentD} (f : OwnAT h0 h u v s) (i : Inc h h') : OwnAT h0 h' u v s := by
  rcases f with ⟨e, f⟩ | ⟨A, t, e1, e2, e3⟩
  · exact .inl ⟨e, f.mono i⟩
  · exact .inr ⟨A, t, e1, e2.mono i, e3⟩
theorem OwnAT.lay {h0 h : Heap} {u : TypeId} {v : Value} {s : List SentD} (f : OwnAT h0 h u v s) (bs : List Blk) (w : Nat) : OwnAT h0 (h.lay bs w) u v s := f.mono (Inc.lay h bs w)
theorem OwnAT.down {h0 h1 h : Heap} {u : TypeId} {v : Value} {s : List SentD} (f : OwnAT h1 h u v s) (i : h0.size ≤ h1.size) : OwnAT h0 h u v s := by
  rcases f with f | ⟨A, t, e1, e2, e3, e4⟩
  · exact .inl f
  · exact .inr ⟨A, t, e1, e2, by omega, e4⟩
end Go.Am

/- Regions that draw their order, in which nothing that is there is turned. No condition. -/
import Derived.Test.YtjildadoepadeaaGreatDoorG9
import Derived.Test.YtjildadoepadeaaGreatDoorGFast
set_option linter.unusedSimpArgs false
set_option linter.unusedVariables false
namespace Go.Am
section
variable (P:Program) (T:Tab) (ov:Ov)
end
section
variable {P:Program} {T:Tab} {ov:Ov}
end
end Go.Am
namespace Go.Am
structure Grw (h h':Heap):Prop where
 size:h.size<=h'.size
 get:∀ A,A < h.size->h'.get A=h.get A
theorem Grw.lay {h h1:Heap} (g:Grw h h1) (l:List Blk) (w:Nat):Grw h (h1.lay l w):=⟨by rw [zch];have:=g.size;omega,λA hA=>(zbQ h1 l w (Nat.lt_of_lt_of_le hA g.size)).trans (g.get A hA)⟩
structure Inc (h h':Heap):Prop where
 size:h.size<=h'.size
 get:∀ A,A < h.size->h.get A≠some .dead->h'.get A=h.get A
theorem Inc.refl (h:Heap):Inc h h:=⟨Nat.le_refl _,λ_ _ _=>rfl⟩
theorem Inc.trans {a b c:Heap} (x:Inc a b) (y:Inc b c):Inc a c:=⟨Nat.le_trans x.size y.size,λA hA hd=>by
 have h1:=x.get A hA hd
 exact (y.get A (Nat.lt_of_lt_of_le hA x.size) (by rw [h1];exact hd)).trans h1⟩
theorem Ext.inc {h h':Heap} (x:Ext h h'):Inc h h':=⟨x.size,λA hA _=>x.get A hA⟩
theorem Inc.lay (h:Heap) (l:List Blk) (w:Nat):Inc h (h.lay l w):=⟨by rw [zch];omega,λA hA _=>zbQ h l w hA⟩
theorem Inc.at {h h':Heap} (i:Inc h h') {A:Nat} {cs:List Vly} {u:TypeId} {ro:Bool} (hA:A < h.size) (hg:h.get A=some (.row cs u ro)):h'.get A=some (.row cs u ro):=(i.get A hA (by rw [hg];simp)).trans hg
theorem Inc.of_lay {h h':Heap} {l:List Blk} {w:Nat} (x:Inc (h.lay l w) h'):Inc h h':=(Inc.lay h l w).trans x

def ziE (T:Tab) (ops:Array Oper) (j:Nat):Bool :=
 let ms:=zcl ops.toList []
 (List.range j).all (λi=>(ms.getD j 0).testBit i || zaW T ops i) && (List.range ops.size).all λi => !decide (j < i) || ((ms.getD i 0).testBit j || zaW T ops i)

section
variable {P:Program} {T:Tab} {C:Fn->List Vly->Heap->Option (Vly × Heap)}
end

section
variable (P:Program) (T:Tab) (ov:Ov)
end
section
variable {P:Program} {T:Tab} {ov:Ov}
structure Chg (A:Nat) (h h':Heap):Prop where
 size:h.size<=h'.size
 get:∀ B,B < h.size->B≠A->h'.get B=h.get B
 low:min (min h.low h.size) A<=h'.low



structure Kinds (T:Tab) (ops:Array Oper) (ks:List Nat):Prop where
 ord:∀ i,i < ks.length->ks.getD i 2 % 3≠2\/ziE T ops i=true
 blind:∀ i,i < ks.length->zaW T ops i=true->ks.getD i 2=0

end
section
variable (P:Program) (T:Tab) (ov:Ov)
end
section
variable {P:Program} {T:Tab} {ov:Ov}
end
section
variable {P:Program} {T:Tab} {ov:Ov} {rd:Option Nat}
end
end Go.Am
namespace Go.Am
structure Rep (α:Type) where
 k:Nat
 R:Heap->List Vly->α->Prop
 len:∀ h cs x,R h cs x->cs.length=k
 mono:∀ h h' cs x,Inc h h'->R h cs x->R h' cs x
 ones:∀ h cs x,R h cs x->cs.all one=true
def AtP (h:Heap) (p:Vly) (cs:List Vly):Prop:=∃ A o row u ro,p=.pointer (some ⟨A,o,none⟩)/\A < h.size/\h.get A=some (.row row u ro)/\cut row o cs.length=some cs
def ziz (k n c:Nat):Prop:=(c < G/\n<=c)\/(G<=c/\c / G=k/\n<=c % G)
def Sl {α:Type} (r:Rep α) (h:Heap) (v:Vly) (l:List α):Prop :=
 (v=.slice none 0 0/\l=[])\/∃ A o c row u ro,v=.slice (some ⟨A,o,none⟩) l.length c/\l.length<=maxLen/\ziz r.k l.length c/\A < h.size/\h.get A=some (.row row u ro) /\
  ∀ (i:Nat) (x:α),l[i]? = some x->∃ cs,cut row (o+i*r.k) r.k=some cs/\r.R h cs x
theorem AtP.mono {h h':Heap} {p:Vly} {cs:List Vly} (f:AtP h p cs) (i:Inc h h'):AtP h' p cs:=by
 obtain ⟨A,o,row,u,ro,rfl,hA,hg,hc⟩:=f
 exact ⟨A,o,row,u,ro,rfl,Nat.lt_of_lt_of_le hA i.size,i.at hA hg,hc⟩
theorem AtP.over {h1 h2:Heap} {p:Vly} {cs:List Vly} {l:List Blk} {w:Nat} (f:AtP h1 p cs) (x:Ext (h1.lay l w) h2):AtP h2 p cs:=f.mono x.inc.of_lay
theorem Holds.mono {h h':Heap} {A:Nat} {cs:List Vly} {u:TypeId} {ro:Bool} (hh:Holds h A (.row cs u ro)) (i:Inc h h'):Holds h' A (.row cs u ro):=⟨Nat.lt_of_lt_of_le hh.lt i.size,i.at hh.lt hh.get⟩
theorem Holds.over {h1 h2:Heap} {A:Nat} {b:Blk} {l:List Blk} {w:Nat} (f:Holds h1 A b) (x:Ext (h1.lay l w) h2):Holds h2 A b:=⟨Nat.lt_of_lt_of_le f.lt x.inc.of_lay.size,(x.get A (by rw [zch];have:=f.lt;omega)).trans (f.lay l w)⟩
section
variable {α:Type} {r:Rep α} {h h' h1 h2:Heap} {v:Vly} {l:List α}
theorem Sl.mono (f:Sl r h v l) (i:Inc h h'):Sl r h' v l:=by
 rcases f with f|⟨A,o,c,row,u,ro,e1,e2,e3,e4,e5,e6⟩
 .exact .inl f
 .refine .inr ⟨A,o,c,row,u,ro,e1,e2,e3,Nat.lt_of_lt_of_le e4 i.size,i.at e4 e5,λj x hj=>?_⟩
  obtain ⟨cs,g1,g2⟩:=e6 j x hj
  exact ⟨cs,g1,r.mono _ _ _ _ i g2⟩
theorem Sl.over {bs:List Blk} {w:Nat} (f:Sl r h1 v l) (x:Ext (h1.lay bs w) h2):Sl r h2 v l:=f.mono x.inc.of_lay
theorem Sl.lay (f:Sl r h v l) (bs:List Blk) (w:Nat):Sl r (h.lay bs w) v l:=f.mono (Inc.lay h bs w)
theorem Sl.nil:Sl r h (.slice none 0 0) []:=.inl ⟨rfl,rfl⟩
variable {P:Program} {T:Tab} {ov:Ov} {K:KTy} {t e:TypeId} {bs:List Blk} {w:Nat}
theorem Sl.lenA (f:Sl r h v l) (hd:T.desc t=some (.slice e)) (h2:Heap):lenA T t v h2=some (.int .i64 l.length):=by
 rcases f with ⟨rfl,rfl⟩|⟨A,o,c,row,u,ro,rfl,_⟩
 .simp [Am.lenA,hd]
 .simp [Am.lenA,hd]
end
abbrev Rep.str:Rep BAy:={ k:=1,R:=λ_ cs x=>cs=[.string x],len:=by rintro _ _ _ rfl;rfl,mono:=λ_ _ _ _ _ h=>h,ones:=by rintro _ _ _ rfl;rfl }
abbrev Rep.int:Rep Int:={ k:=1,R:=λ_ cs x=>cs=[.int .i64 x],len:=by rintro _ _ _ rfl;rfl,mono:=λ_ _ _ _ _ h=>h,ones:=by rintro _ _ _ rfl;rfl }
abbrev Rep.bool:Rep Bool:={ k:=1,R:=λ_ cs x=>cs=[.bool x],len:=by rintro _ _ _ rfl;rfl,mono:=λ_ _ _ _ _ h=>h,ones:=by rintro _ _ _ rfl;rfl }

theorem Chg.trans {A:Nat} {a b c:Heap} (x:Chg A a b) (y:Chg A b c):Chg A a c :=
 ⟨Nat.le_trans x.size y.size,λB h1 h2=>(y.get B (Nat.lt_of_lt_of_le h1 x.size) h2).trans (x.get B h1 h2),by have:=x.low;have:=y.low;have:=x.size;omega⟩
theorem Ext.step {A:Nat} {h h1 h2:Heap} (z:Ext h h1) (c:Chg A h1 h2) (hA:h.size<=A):Ext h h2 :=
 ⟨Nat.le_trans z.size c.size,λB hB=>(c.get B (Nat.lt_of_lt_of_le hB z.size) (by omega)).trans (z.get B hB),by have:=z.low;have:=z.size;have:=c.low;omega⟩
theorem Holds.step {A B:Nat} {h1 h2:Heap} {b:Blk} (q:Holds h1 B b) (c:Chg A h1 h2) (hne:B≠A):Holds h2 B b:=⟨Nat.lt_of_lt_of_le q.lt c.size,(c.get B q.lt hne).trans q.get⟩
def Ow {α:Type} (r:Rep α) (h0 h:Heap) (e:TypeId) (A:Nat) (v:Vly) (l:List α):Prop :=
 (h0.size<=A/\l=[]/\(v=.slice none 0 0\/∃ B o,v=.slice (some ⟨B,o,none⟩) 0 0/\h0.size<=B/\B < h.size/\∃ row u ro,h.get B=some (.row row u ro))) \/
 ∃ row,v=.slice (some ⟨A,0,none⟩) l.length (G*r.k+l.length)/\l≠[]/\h0.size<=A/\A < h.size/\h.get A=some (.row row e false)/\row.length=l.length*r.k/\l.length<=1152921504606846976 /\
   ∀ (i:Nat) (x:α),l[i]? = some x->∃ cs,cut row (i*r.k) r.k=some cs/\r.R (h.set A .dead) cs x
theorem Inc.kill {h h':Heap} {A:Nat} (i:Inc h h') (hA:A < h.size):Inc (h.set A .dead) (h'.set A .dead):=⟨i.size,λB hB hd=>by
 rw [Heap.get_set _ _ _ _ hA] at hd ⊢
 rw [Heap.get_set _ _ _ _ (Nat.lt_of_lt_of_le hA i.size)]
 split
 .rfl
 .rename_i hne
  rw [if_neg hne] at hd
  exact i.get B hB hd⟩
section
variable {α:Type} {r:Rep α} {h0 h h' h1 h2:Heap} {v:Vly} {l:List α} {e:TypeId} {A:Nat}
theorem Ow.fresh (f:Ow r h0 h e A v l):h0.size<=A:=by
 rcases f with f|⟨_,_,_,h1,_⟩
 .exact f.1
 .exact h1
theorem Ow.mono (f:Ow r h0 h e A v l) (i:Inc h h'):Ow r h0 h' e A v l:=by
 rcases f with ⟨f1,f2,f3⟩|⟨row,e1,e2,e3,e4,e5,e6,e7,e8⟩
 .refine .inl ⟨f1,f2,f3.imp id ?_⟩
  rintro ⟨B,o,g1,g0,g2,row,u,ro,g3⟩
  exact ⟨B,o,g1,g0,Nat.lt_of_lt_of_le g2 i.size,row,u,ro,i.at g2 g3⟩
 .refine .inr ⟨row,e1,e2,e3,Nat.lt_of_lt_of_le e4 i.size,i.at e4 e5,e6,e7,λj x hj=>?_⟩
  obtain ⟨cs,g1,g2⟩:=e8 j x hj
  exact ⟨cs,g1,r.mono _ _ _ _ (i.kill e4) g2⟩
theorem Ow.over {bs:List Blk} {w:Nat} (f:Ow r h0 h1 e A v l) (x:Ext (h1.lay bs w) h2):Ow r h0 h2 e A v l:=f.mono x.inc.of_lay
theorem Ow.nil (hA:h0.size<=A):Ow r h0 h e A (.slice none 0 0) []:=.inl ⟨hA,rfl,.inl rfl⟩
end
section
variable {α:Type} {r:Rep α} {h0 h1:Heap} {v x:Vly} {l l2:List α} {t e:TypeId} {A k bytes:Nat} {z:List Vly} {T:Tab} {bs:List Blk} {w:Nat} {K:KTy}
def kill (A:Nat) (h:Heap):Heap:=if A < h.size then h.set A .dead else h
theorem zfL (A:Nat) (h:Heap):(kill A h).size=h.size:=by unfold kill;split <;> rfl
theorem Ow.kill {h:Heap} {C:Nat} (hflat:∀ h h' cs x,r.R h cs x->r.R h' cs x) (f:Ow r h0 h e A v l) (hC:C < h0.size):Ow r h0 (kill C h) e A v l:=by
 have get:∀ B,h0.size<=B->(Am.kill C h).get B=h.get B:=by
  intro B hB
  unfold Am.kill
  split
  .rename_i hh
   rw [Heap.get_set _ _ _ _ hh,if_neg (by omega)]
  .rfl
 rcases f with ⟨f1,f2,f3⟩|⟨row,e1,e2,e3,e4,e5,e6,e7,e8⟩
 .refine .inl ⟨f1,f2,f3.imp id ?_⟩
  rintro ⟨B,o,g1,g0,g2,row,u,ro,g3⟩
  exact ⟨B,o,g1,g0,by rw [zfL];exact g2,row,u,ro,(get B g0).trans g3⟩
 .refine .inr ⟨row,e1,e2,e3,by rw [zfL];exact e4,(get A e3).trans e5,e6,e7,λi x hx=>?_⟩
  obtain ⟨cs,g1,g2⟩:=e8 i x hx
  exact ⟨cs,g1,hflat _ _ _ _ g2⟩
end
end Go.Am
namespace Go.Am
structure TermD where
 v:Bool
 s:BAy
 deriving DecidableEq
structure AtomD where
 says:BAy
 pred:BAy
 n:Int
 t0:TermD
 t1:TermD
 t2:TermD
 t3:TermD
 deriving DecidableEq
def TermD.cells (t:TermD):List Vly:=[.bool t.v,.string t.s]
def TermD.val (t:TermD):Vly:=.agg ⟨t.cells⟩
def AtomD.cells (a:AtomD):List Vly:=[.string a.says,.string a.pred,.int .i64 a.n,.bool a.t0.v,.string a.t0.s,.bool a.t1.v,.string a.t1.s,.bool a.t2.v,.string a.t2.s,.bool a.t3.v,.string a.t3.s]
def AtomD.val (a:AtomD):Vly:=.agg ⟨a.cells⟩
def AtomD.cnt (a:AtomD):Nat:=min a.n.toNat 4
def AtomD.args (a:AtomD):List TermD:=[a.t0,a.t1,a.t2,a.t3].take a.cnt
def AtomD.all (a:AtomD):List TermD:=[a.t0,a.t1,a.t2,a.t3]
def zfb:TermD:=⟨false,⟨#[]⟩⟩
def noAtomD:AtomD:=⟨⟨#[]⟩,⟨#[]⟩,0,zfb,zfb,zfb,zfb⟩
structure ClauseD where
 head:AtomD
 body:List AtomD
 deriving DecidableEq
structure ReasonD where
 atom:AtomD
 clause:Int
 body:List AtomD
 deriving DecidableEq
structure BindD where
 var:BAy
 term:TermD
 deriving DecidableEq
def BindD.cells (b:BindD):List Vly:=[.string b.var,.bool b.term.v,.string b.term.s]
def BindD.val (b:BindD):Vly:=.agg ⟨b.cells⟩
abbrev Rep.atom:Rep AtomD:={ k:=11,R:=λ_ cs x=>cs=x.cells,len:=by rintro _ _ _ rfl;rfl,mono:=λ_ _ _ _ _ h=>h,ones:=by rintro _ _ _ rfl;rfl }
abbrev Rep.term:Rep TermD:={ k:=2,R:=λ_ cs x=>cs=x.cells,len:=by rintro _ _ _ rfl;rfl,mono:=λ_ _ _ _ _ h=>h,ones:=by rintro _ _ _ rfl;rfl }
abbrev Rep.bind:Rep BindD:={ k:=3,R:=λ_ cs x=>cs=x.cells,len:=by rintro _ _ _ rfl;rfl,mono:=λ_ _ _ _ _ h=>h,ones:=by rintro _ _ _ rfl;rfl }
theorem Sl.one {α:Type} {r:Rep α} {h:Heap} {v:Vly} {l:List α} (f:Sl r h v l):one v=true:=by
 rcases f with ⟨rfl,_⟩|⟨A,o,c,row,u,ro,rfl,_⟩ <;> rfl
abbrev Rep.clause:Rep ClauseD :=
 { k:=12,R:=λh cs x=>∃ v,cs=x.head.cells++[v]/\Sl Rep.atom h v x.body
   len:=by rintro h cs x ⟨v,rfl,_⟩;rfl
   mono:=by rintro h h' cs x i ⟨v,e,f⟩;exact ⟨v,e,f.mono i⟩
   ones:=by rintro h cs x ⟨v,rfl,f⟩;have:=f.one;simp only [List.all_append,AtomD.cells,List.all_cons,List.all_nil,this];rfl }
section
variable {h1:Heap} {bs:List Blk} {w:Nat} {T:Tab} {K:KTy} {t e s:TypeId} {v p:Vly} {kd:IntKind} {i:Int}
end
abbrev LAy:=List AtomD
end Go.Am

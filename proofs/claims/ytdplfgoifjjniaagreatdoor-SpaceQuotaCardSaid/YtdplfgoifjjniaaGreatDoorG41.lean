/- Maps from atoms to numbers, in walks. No condition. -/
import Derived.Test.YtdplfgoifjjniaaGreatDoorG39
import Derived.Test.YtdplfgoifjjniaaGreatDoorG40
set_option linter.unusedSimpArgs false
set_option linter.unusedVariables false
set_option maxRecDepth 100000
set_option maxHeartbeats 0
namespace Go.Am
def MapI (h:Heap) (A:Nat) (kv:List (AtomD × Int)):Prop:=∃ es clock,Holds h A (.map es clock)∧es.map (fun x:MapEntry=>(x.key,x.val))=kv.map (fun p=>(p.1.val,Value.int .i64 p.2))
section
variable {T:Tab} {t kt et:TypeId} {A:Nat} {kv:List (AtomD × Int)} {a:AtomD} {h1:Heap} {bs:List Blk} {w:Nat} {K:Value→Heap→Prop}
theorem MapI.over (m:MapI h1 A kv) {h2:Heap} (x:Ext (h1.lay bs w) h2):MapI h2 A kv:=by
 obtain ⟨es,cl,m1,m2⟩:=m
 exact ⟨es,cl,m1.over x,m2⟩
theorem MapI.top {h2:Heap} {i:Nat} (x:Ext (h1.lay bs w) h2) (hi:bs[i]? = some (.map [] 0)):MapI h2 (h1.size+i) []:=⟨[],0,Holds.top x hi,rfl⟩
theorem MapI.step (m:MapI h1 A kv) {B:Nat} {h2:Heap} (c:Chg B h1 h2) (hB:A≠B):MapI h2 A kv:=by
 obtain ⟨es,cl,m1,m2⟩:=m
 exact ⟨es,cl,m1.step c hB,m2⟩
end
end Go.Am
namespace Go.Am
def ints (l:List Int):List Value:=l.map (Value.int .i64)
end Go.Am
namespace Go.Am
structure StepD where
 atom:AtomD
 clause:Int
 cites:List Int
 deriving DecidableEq
abbrev Rep.step:Rep StepD :=
 { k:=13,R:=fun h cs x=>∃ v,cs=x.atom.cells++[.int .i64 x.clause,v]∧Sl Rep.int h v x.cites
   len:=by rintro h cs x ⟨v,rfl,_⟩;rfl
   mono:=by rintro h h' cs x i ⟨v,e,f⟩;exact ⟨v,e,f.mono i⟩
   ones:=by rintro h cs x ⟨v,rfl,f⟩;have:=f.one;simp only [List.all_append,AtomD.cells,List.all_cons,List.all_nil,this];rfl }
section
variable {h1:Heap} {bs:List Blk} {w:Nat} {T:Tab} {K:Value→Heap→Prop} {t e s:TypeId} {v p:Value} {kd:IntKind} {i:Int}
end
/-! ### Numbers of atoms by their places -/
/-! ### Rows of truth values -/
/-! ### Rows that stay -/
structure Rows (h h':Heap):Prop where
 size:h.size≤h'.size
 get:∀ B row u ro,h.get B=some (.row row u ro)→h'.get B=some (.row row u ro)
theorem Rows.kill {h h':Heap} {A:Nat} (g:Rows h h') (hA:A < h.size):Rows (h.set A .dead) (h'.set A .dead):=⟨g.size,fun B row u ro hb=>by
 rw [Heap.get_set _ _ _ _ hA] at hb
 rw [Heap.get_set _ _ _ _ (Nat.lt_of_lt_of_le hA g.size)]
 split
 ·rename_i e
  rw [if_pos e] at hb
  cases hb
 ·rename_i e
  rw [if_neg e] at hb
  exact g.get B row u ro hb⟩
def Flat {α:Type} (r:Rep α):Prop:=∀ g g' cs x,Rows g g'→r.R g cs x→r.R g' cs x
theorem Sl.rows {α:Type} {r:Rep α} {h h':Heap} {v:Value} {l:List α} (hr:Flat r) (f:Sl r h v l) (g:Rows h h'):Sl r h' v l:=by
 rcases f with f|⟨A,o,c,row,u,ro,e1,e2,e3,e4,e5,e6⟩
 ·exact .inl f
 ·refine .inr ⟨A,o,c,row,u,ro,e1,e2,e3,Nat.lt_of_lt_of_le e4 g.size,g.get _ _ _ _ e5,fun i x hx=>?_⟩
  obtain ⟨cs,g1,g2⟩:=e6 i x hx
  exact ⟨cs,g1,hr _ _ _ _ g g2⟩
theorem Ow.rows {α:Type} {r:Rep α} {h0 h h':Heap} {e:TypeId} {A:Nat} {v:Value} {l:List α} (hr:Flat r) (f:Ow r h0 h e A v l) (g:Rows h h'):Ow r h0 h' e A v l:=by
 rcases f with ⟨f1,f2,f3⟩|⟨row,e1,e2,e3,e4,e5,e6,e7,e8⟩
 ·refine .inl ⟨f1,f2,f3.imp id ?_⟩
  rintro ⟨B,o,g1,g0,g2,row,u,ro,g3⟩
  exact ⟨B,o,g1,g0,Nat.lt_of_lt_of_le g2 g.size,row,u,ro,g.get _ _ _ _ g3⟩
 ·refine .inr ⟨row,e1,e2,e3,Nat.lt_of_lt_of_le e4 g.size,g.get _ _ _ _ e5,e6,e7,fun i x hx=>?_⟩
  obtain ⟨cs,g1,g2⟩:=e8 i x hx
  exact ⟨cs,g1,hr _ _ _ _ (g.kill e4) g2⟩
theorem Ow.chg {α:Type} {r:Rep α} {h0 h h':Heap} {e:TypeId} {A B:Nat} {v:Value} {l:List α} (hflat:∀ h h' cs x,r.R h cs x→r.R h' cs x) (hne:l≠[]) (f:Ow r h0 h e A v l) (c:Chg B h h') (hB:B≠A):Ow r h0 h' e A v l:=by
 rcases f with ⟨f1,f2,f3⟩|⟨row,e1,e2,e3,e4,e5,e6,e7,e8⟩
 ·exact absurd f2 hne
 ·refine .inr ⟨row,e1,e2,e3,Nat.lt_of_lt_of_le e4 c.size,(c.get A e4 (fun x=>hB x.symm)).trans e5,e6,e7,fun i x hx=>?_⟩
  obtain ⟨cs,g1,g2⟩:=e8 i x hx
  exact ⟨cs,g1,hflat _ _ _ _ g2⟩
theorem Ow.lay {α:Type} {r:Rep α} {h0 h:Heap} {e:TypeId} {A:Nat} {v:Value} {l:List α} (f:Ow r h0 h e A v l) (bs:List Blk) (w:Nat):Ow r h0 (h.lay bs w) e A v l:=f.mono (Inc.lay h bs w)
/-! ### Heaps that grow, whatever their mark -/
theorem Grw.inc {h h':Heap} (x:Grw h h'):Inc h h':=⟨x.1,fun A hA _=>x.2 A hA⟩
theorem Grw.over {h h1 h2:Heap} {bs:List Blk} {w:Nat} (g:Grw h h1) (x:Ext (h1.lay bs w) h2):Grw h h2:=by
 have hs:=x.size
 rw [zad] at hs
 have hg:=g.1
 exact ⟨by omega,fun A hA=>by rw [x.get A (by rw [zad];omega),za9 _ _ _ (by omega)];exact g.2 A hA⟩
theorem Grw.stepL {h h1 h2:Heap} {C:Nat} {bs:List Blk} {w:Nat} (g:Grw h h1) (c:Chg C (h1.lay bs w) h2) (hC:h.size≤C):Grw h h2:=by
 have hs:=c.size
 rw [zad] at hs
 have hg:=g.1
 exact ⟨by omega,fun A hA=>by rw [c.get A (by rw [zad];omega) (by omega),za9 _ _ _ (by omega)];exact g.2 A hA⟩
theorem MapI.grw {h1 h2:Heap} {A:Nat} {kv:List (AtomD × Int)} (m:MapI h1 A kv) (x:Grw h1 h2):MapI h2 A kv:=by
 obtain ⟨es,cl,m1,m2⟩:=m
 exact ⟨es,cl,⟨Nat.lt_of_lt_of_le m1.lt x.1,(x.2 A m1.lt).trans m1.get⟩,m2⟩
theorem MapI.lt {h:Heap} {A:Nat} {kv:List (AtomD × Int)} (m:MapI h A kv):A < h.size:=by
 obtain ⟨es,cl,m1,m2⟩:=m
 exact m1.lt
theorem MapI.stepL {h1 h2:Heap} {A B:Nat} {kv:List (AtomD × Int)} {bs:List Blk} {w:Nat} (m:MapI h1 A kv) (c:Chg B (h1.lay bs w) h2) (hB:A≠B):MapI h2 A kv:=by
 obtain ⟨es,cl,m1,m2⟩:=m
 exact ⟨es,cl,m1.stepL c hB,m2⟩
/-! ### The last place of an atom -/
end Go.Am
namespace Go.Proofs.YtdplfgoifjjniaaGreatDoor
open Go.Am
theorem zAI {h:Heap} {v:Value} {l:List ByteArray} (f:Sl Rep.str h v l):∃ b:Bool,binA Tryz.prog tab .eql 23 v (.slice none 0 0)=some (.bool b)∧(b=true→l=[]):=by
 rcases f with ⟨rfl,rfl⟩|⟨A,o,c,row,u,ro,rfl,_⟩
 ·exact ⟨true,by kernel_rfl,fun _=>rfl⟩
 ·exact ⟨false,by kernel_rfl,nofun⟩
theorem zGj:zed tab 23 23=true:=by kernel_rfl
theorem zqA (l:List ByteArray) (v:Value) (h:Heap) (hl:Sl Rep.str h v l) (hs:l.length≤100000) (K:Value→Heap→Prop)
 (hk:∀ h' w A,Ext h h'→Ow Rep.str h h' 9 A w l→K w h'):Ok Tryz.prog tab ov 58 [v] h K:=by
 rw [zaa h]
 obtain ⟨b,hb,hnil⟩:=zAI hl
 refine Ok.into rfl zwv (zaw N58) rfl (m:=7) rfl ?_
 simp -implicitDefEqProofs only [syms,symx,seval,c58,hb]
 cases b
 ·simp -implicitDefEqProofs only [syms,symx,seval,c58,zcU,zGj]
  obtain ⟨news,hs,hsr⟩:=zpC (A:=h.size+1) (r:=Rep.str) (by decide) (hl.lay [.row [] 9 false] h.low) (fun cs y hr=>hr)
  have f:Ow Rep.str h (h.lay [.row [] 9 false] h.low) 9 (h.size+1) (.slice (some ⟨h.size+0,0,none⟩) 0 0) [] :=
   .inl ⟨by omega,rfl,.inr ⟨h.size+0,0,rfl,by omega,by rw [zad];simp,[],9,false,by rw [zbd];rfl⟩⟩
  obtain ⟨w,h',A',e1,e2,e3,e4,e5⟩:=zlF (t:=23) ds23 zeg rfl (by decide) (by rw [zad];omega) f hs hsr (by simp only [List.length_nil];omega) (by simp only [List.length_nil];omega)
  rw [e1]
  simp -implicitDefEqProofs only [syms,symx,seval,c58]
  exact hk _ _ A' ((Ext.refl h).stepW e3 (by omega) (by omega)) (by simpa using e2)
 ·simp -implicitDefEqProofs only [syms,symx,seval,c58]
  rw [hnil rfl] at hk
  exact hk _ _ _ ((Ext.refl h).upW _ _ (by omega)) (Ow.nil (Nat.le_refl _))
theorem zAH {h:Heap} {v:Value} {l:List PredD} (f:Sl Rep.pred h v l):∃ b:Bool,binA Tryz.prog tab .eql 24 v (.slice none 0 0)=some (.bool b)∧(b=true→l=[]):=by
 rcases f with ⟨rfl,rfl⟩|⟨A,o,c,row,u,ro,rfl,_⟩
 ·exact ⟨true,by kernel_rfl,fun _=>rfl⟩
 ·exact ⟨false,by kernel_rfl,nofun⟩
theorem zGi:zed tab 24 24=true:=by kernel_rfl
theorem zqz (l:List PredD) (v:Value) (h:Heap) (hl:Sl Rep.pred h v l) (hs:l.length≤100000) (K:Value→Heap→Prop)
 (hk:∀ h' w A,Ext h h'→Ow Rep.pred h h' 67 A w l→K w h'):Ok Tryz.prog tab ov 59 [v] h K:=by
 rw [zaa h]
 obtain ⟨b,hb,hnil⟩:=zAH hl
 refine Ok.into rfl zww (zaw N59) rfl (m:=7) rfl ?_
 simp -implicitDefEqProofs only [syms,symx,seval,c59,hb]
 cases b
 ·simp -implicitDefEqProofs only [syms,symx,seval,c59,zcU,zGi]
  obtain ⟨news,hs,hsr⟩:=zpC (A:=h.size+1) (r:=Rep.pred) (by decide) (hl.lay [.row [] 67 false] h.low) (fun cs y hr=>hr)
  have f:Ow Rep.pred h (h.lay [.row [] 67 false] h.low) 67 (h.size+1) (.slice (some ⟨h.size+0,0,none⟩) 0 0) [] :=
   .inl ⟨by omega,rfl,.inr ⟨h.size+0,0,rfl,by omega,by rw [zad];simp,[],67,false,by rw [zbd];rfl⟩⟩
  obtain ⟨w,h',A',e1,e2,e3,e4,e5⟩:=zlF (t:=24) ds24 zhi rfl (by decide) (by rw [zad];omega) f hs hsr (by simp only [List.length_nil];omega) (by simp only [List.length_nil];omega)
  rw [e1]
  simp -implicitDefEqProofs only [syms,symx,seval,c59]
  exact hk _ _ A' ((Ext.refl h).stepW e3 (by omega) (by omega)) (by simpa using e2)
 ·simp -implicitDefEqProofs only [syms,symx,seval,c59]
  rw [hnil rfl] at hk
  exact hk _ _ _ ((Ext.refl h).upW _ _ (by omega)) (Ow.nil (Nat.le_refl _))
theorem _root_.Go.Am.Ow.down {α:Type} {r:Rep α} {h0 h1 h:Heap} {e:TypeId} {A:Nat} {v:Value} {l:List α} (f:Ow r h1 h e A v l) (i:h0.size≤h1.size):Ow r h0 h e A v l:=by
 rcases f with ⟨e1,e2,e3⟩|⟨row,e1,e2,e3,e4⟩
 ·refine .inl ⟨by omega,e2,?_⟩
  rcases e3 with e3|⟨B,o,g1,g0,g2⟩
  ·exact .inl e3
  ·exact .inr ⟨B,o,g1,by omega,g2⟩
 ·exact .inr ⟨row,e1,e2,by omega,e4⟩
theorem zA3:zau tab 29=some 7:=by kernel_rfl
theorem zEk (p0 p1 p2 p5 p6:Value) (q b:Int):(zaq p0 p1 p2 p5 p6 q b)[3]? = some (.int .i64 q):=rfl
theorem zz0 (a0 a1) (n0 n1 c0 c1:Nat) (q:Int):zbZ tab 29 [(0,.slice a0 n0 c0),(1,.slice a1 n1 c1),(3,.int .i64 q)]=some (zbN (.slice a0 n0 c0) (.slice a1 n1 c1) (.slice none 0 0) (.slice none 0 0) (.slice none 0 0) q 0):=by kernel_rfl
theorem zsT (d:PolicyD) (p0 p1 p2 p5 p6:Value) (q b:Int) (h:Heap) (hone:(zaq p0 p1 p2 p5 p6 q b).all Am.one=true) (s0:Sl Rep.str h p0 d.principals) (s1:Sl Rep.pred h p1 d.preds) (hn0:d.principals.length≤100000) (hn1:d.preds.length≤100000) (K:Value→Heap→Prop)
 (hk:∀ h' v0 v1 A0 A1,Ext h h'→Ow Rep.str h h' 9 A0 v0 d.principals→Ow Rep.pred h h' 67 A1 v1 d.preds→K (zbN v0 v1 (.slice none 0 0) (.slice none 0 0) (.slice none 0 0) q 0) h'):Ok Tryz.prog tab ov 31 [zbN p0 p1 p2 p5 p6 q b] h K:=by
 rw [zaa h]
 have z:=Ext.refl h
 refine Ok.into rfl zwg (zaw N31) rfl (m:=11) rfl ?_
 simp -implicitDefEqProofs only [syms,symx,seval,c31,zat]
 with_reducible first|refine zb9 (by simp only [c31]) (z.upW _ _ (by omega)) ?_
 have hv0:=za3 p0
 have hv1:=za3 p1
 simp -implicitDefEqProofs only [syms,symx,seval,c31,zat,pol0,pol1,hv0]
 refine zqA d.principals p0 _ (s0.lay _ _) hn0 _ (fun h' v0 A0 x o0=>?_)
 have q0:=Holds.top (i:=0) x rfl
 have q1:=Holds.top (i:=1) x rfl
 have f0:=o0.fresh
 rw [zad] at f0
 simp only [List.length_cons,List.length_nil] at f0
 replace o0:=o0.down (h0:=h) (by rw [zad];omega)
 (((with_reducible refine zah ?_ ?_ ?_);(· exact (by (simp only [lsz]);have:=z.size;omega));(· exact x));replace z:=z.overW x (by omega);(replace s1:=s1.over x);rw [zaa h'])
 simp -implicitDefEqProofs only [syms,symx,seval,c31,q0.lay,zat,pol0,pol1,hv1]
 refine zqz d.preds p1 _ (s1.lay _ _) hn1 _ (fun h' v1 A1 x o1=>?_)
 have f1:=o1.fresh
 have hq1:=q1.lt
 rw [zad] at f1
 replace o1:=o1.down (h0:=h) (by rw [zad];have:=z.size;omega)
 (((with_reducible refine zah ?_ ?_ ?_);(· exact (by (simp only [lsz]);have:=z.size;omega));(· exact x));replace z:=z.overW x (by omega);(replace q0:=q0.over x);(replace q1:=q1.over x);(replace o0:=o0.over x);rw [zaa h'])
 obtain ⟨a0,n0,c0,rfl⟩:=o0.slice
 obtain ⟨a1,n1,c1',rfl⟩:=o1.slice
 simp -implicitDefEqProofs only [syms,symx,seval,c31,q0.lay,zat,pol0,pol1,zEk,zz0,valN,za0]
 refine zdp q1 zA3 (vs:=zaq (.slice a0 n0 c0) (.slice a1 n1 c1') (.slice none 0 0) (.slice none 0 0) (.slice none 0 0) q 0) rfl rfl (by simp [zaq]) rfl (fun h3 q3 c3=>?_)
 replace q3:Holds h3 (h.size+1) (.row (zaq (.slice a0 n0 c0) (.slice a1 n1 c1') (.slice none 0 0) (.slice none 0 0) (.slice none 0 0) q 0) 29 false):=q3
 have hz:=z.size
 refine zaU (A:=h.size+1) (by kernel_rfl) (by rw [zad];omega) (by omega) (by simpa only [zan,zad,List.append_nil,List.length_cons,List.length_nil,Nat.add_zero] using c3) ?_
 have z3:=(z.upW [] (h'.size+0) (by omega)).step c3 (by omega)
 replace o0:=(o0.lay [] (h'.size+0)).turn (fun _ _ _ _ q=>q) c3 (by omega) q3
 replace o1:=(o1.lay [] (h'.size+0)).turn (fun _ _ _ _ q=>q) c3 (by omega) q3
 clear q0 q1 z s1
 have z:=z3
 rw [zaa h3]
 simp -implicitDefEqProofs only [syms,symx,seval,c31]
 ((with_reducible refine ⟨z.grw.lay _ _,?_⟩);(intro _ h4 zz x _);(simp only [zan,List.append_nil] at x))
 replace o0:=o0.over x
 replace o1:=o1.over x
 replace q3:=q3.over x
 clear z
 have z:=zz
 rw [zaa h4]
 simp -implicitDefEqProofs only [syms,symx,seval,c31,q3.lay,zat,↓zbI,zbz,za0]
 exact hk _ _ _ _ _ (z.upW _ _ (by omega)) (o0.lay _ _) (o1.lay _ _)
end Go.Proofs.YtdplfgoifjjniaaGreatDoor

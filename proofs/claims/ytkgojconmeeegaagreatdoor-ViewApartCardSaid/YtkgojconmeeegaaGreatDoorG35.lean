/- Maps from atoms to numbers, in walks. No condition. -/
import Derived.Test.YtkgojconmeeegaaGreatDoorG33
import Derived.Test.YtkgojconmeeegaaGreatDoorG34
set_option linter.unusedSimpArgs false
set_option linter.unusedVariables false
set_option maxRecDepth 100000
set_option maxHeartbeats 0
namespace Go.Am
section
variable {T:bK} {t kt et:TypeId} {A:Nat} {kv:List (ab × Int)} {a:ab} {h1:Heap} {bs:List bh} {w:Nat} {K:Value→Heap→Prop}
end
end Go.Am
namespace Go.Am
def ints (l:List Int):List Value:=l.map (Value.int .i64)
end Go.Am
namespace Go.Am
structure LW where
 atom:ab
 clause:Int
 MI:List Int
 deriving DecidableEq
abbrev aJ.step:aJ LW :=
 { k:=13,R:=fun h cs x=>∃ v,cs=x.atom.cells++[.int .i64 x.clause,v]∧Sl aJ.int h v x.MI
   len:=by rintro h cs x ⟨v,rfl,_⟩;rfl
   mono:=by rintro h h' cs x i ⟨v,e,f⟩;exact ⟨v,e,f.mono i⟩
   iP:=by rintro h cs x ⟨v,rfl,f⟩;have:=f.one;simp only [List.all_append,ab.cells,List.all_cons,List.all_nil,this];rfl }
section
variable {h1:Heap} {bs:List bh} {w:Nat} {T:bK} {K:Value→Heap→Prop} {t e s:TypeId} {v p:Value} {kd:IntKind} {i:Int}
end
/-! ### Numbers of atoms by their places -/
/-! ### Rows of truth values -/
/-! ### Rows that stay -/
structure Rows (h h':Heap):Prop where
 size:h.size≤h'.size
 get:∀ B row u ro,h.get B=some (.row row u ro)→h'.get B=some (.row row u ro)
theorem Ow.lay {α:Type} {r:aJ α} {h0 h:Heap} {e:TypeId} {A:Nat} {v:Value} {l:List α} (f:Ow r h0 h e A v l) (bs:List bh) (w:Nat):Ow r h0 (h.lay bs w) e A v l:=f.mono (cn.lay h bs w)
/-! ### Heaps that grow, whatever their mark -/
/-! ### The last place of an atom -/
end Go.Am
namespace Go.Proofs.YtkgojconmeeegaaGreatDoor
open Go.Am
theorem zHY {h:Heap} {v:Value} {l:List ByteArray} (f:Sl aJ.str h v l):∃ b:Bool,cw Tryz.prog ae .eql 22 v (.slice none 0 0)=some (.bool b)∧(b=true→l=[]):=by
 rcases f with ⟨rfl,rfl⟩|⟨A,o,c,row,u,ro,rfl,_⟩
 ·exact ⟨true,by kernel_rfl,fun _=>rfl⟩
 ·exact ⟨false,by kernel_rfl,nofun⟩
theorem zNK:pU ae 22 22=true:=by kernel_rfl
theorem zta (l:List ByteArray) (v:Value) (h:Heap) (hl:Sl aJ.str h v l) (hs:l.length≤100000) (K:Value→Heap→Prop)
 (hk:∀ h' w A,Ext h h'→Ow aJ.str h h' 9 A w l→K w h'):Ok Tryz.prog ae ov 97 [v] h K:=by
 rw [ao h]
 obtain ⟨b,hb,gL⟩:=zHY hl
 refine Ok.aH rfl zD7 (br Wf) rfl (m:=7) rfl ?_
 simp only [syms,aa,seval,SU,hb]
 cases b
 ·simp only [syms,aa,seval,SU,lG,zNK]
  obtain ⟨news,hs,mR⟩:=tk (A:=h.size+1) (r:=aJ.str) (by decide) (hl.lay [.row [] 9 false] h.low) (fun cs y hr=>hr)
  have f:Ow aJ.str h (h.lay [.row [] 9 false] h.low) 9 (h.size+1) (.slice (some ⟨h.size+0,0,none⟩) 0 0) [] :=
   .inl ⟨by omega,rfl,.inr ⟨h.size+0,0,rfl,by omega,by rw [bm];simp,[],9,false,by rw [iR];rfl⟩⟩
  obtain ⟨w,h',A',e1,e2,e3,e4,e5⟩:=zb (t:=22) cY Eo rfl (by decide) (by rw [bm];omega) f hs mR (by simp only [List.length_nil];omega) (by simp only [List.length_nil];omega)
  rw [e1]
  simp only [syms,aa,seval,SU]
  exact hk _ _ A' ((Ext.refl h).cM e3 (by omega) (by omega)) (by simpa using e2)
 ·simp only [syms,aa,seval,SU]
  rw [gL rfl] at hk
  exact hk _ _ _ ((Ext.refl h).aw _ _ (by omega)) (Ow.nil (Nat.le_refl _))
theorem zHX {h:Heap} {v:Value} {l:List bF} (f:Sl aJ.pred h v l):∃ b:Bool,cw Tryz.prog ae .eql 23 v (.slice none 0 0)=some (.bool b)∧(b=true→l=[]):=by
 rcases f with ⟨rfl,rfl⟩|⟨A,o,c,row,u,ro,rfl,_⟩
 ·exact ⟨true,by kernel_rfl,fun _=>rfl⟩
 ·exact ⟨false,by kernel_rfl,nofun⟩
theorem zNJ:pU ae 23 23=true:=by kernel_rfl
theorem zs9 (l:List bF) (v:Value) (h:Heap) (hl:Sl aJ.pred h v l) (hs:l.length≤100000) (K:Value→Heap→Prop)
 (hk:∀ h' w A,Ext h h'→Ow aJ.pred h h' 73 A w l→K w h'):Ok Tryz.prog ae ov 98 [v] h K:=by
 rw [ao h]
 obtain ⟨b,hb,gL⟩:=zHX hl
 refine Ok.aH rfl zD8 (br Wg) rfl (m:=7) rfl ?_
 simp only [syms,aa,seval,SV,hb]
 cases b
 ·simp only [syms,aa,seval,SV,lG,zNJ]
  obtain ⟨news,hs,mR⟩:=tk (A:=h.size+1) (r:=aJ.pred) (by decide) (hl.lay [.row [] 73 false] h.low) (fun cs y hr=>hr)
  have f:Ow aJ.pred h (h.lay [.row [] 73 false] h.low) 73 (h.size+1) (.slice (some ⟨h.size+0,0,none⟩) 0 0) [] :=
   .inl ⟨by omega,rfl,.inr ⟨h.size+0,0,rfl,by omega,by rw [bm];simp,[],73,false,by rw [iR];rfl⟩⟩
  obtain ⟨w,h',A',e1,e2,e3,e4,e5⟩:=zb (t:=23) jS TP rfl (by decide) (by rw [bm];omega) f hs mR (by simp only [List.length_nil];omega) (by simp only [List.length_nil];omega)
  rw [e1]
  simp only [syms,aa,seval,SV]
  exact hk _ _ A' ((Ext.refl h).cM e3 (by omega) (by omega)) (by simpa using e2)
 ·simp only [syms,aa,seval,SV]
  rw [gL rfl] at hk
  exact hk _ _ _ ((Ext.refl h).aw _ _ (by omega)) (Ow.nil (Nat.le_refl _))
theorem zHW {h:Heap} {v:Value} {l:List ab} (f:Sl aJ.atom h v l):∃ b:Bool,cw Tryz.prog ae .eql 44 v (.slice none 0 0)=some (.bool b)∧(b=true→l=[]):=by
 rcases f with ⟨rfl,rfl⟩|⟨A,o,c,row,u,ro,rfl,_⟩
 ·exact ⟨true,by kernel_rfl,fun _=>rfl⟩
 ·exact ⟨false,by kernel_rfl,nofun⟩
theorem zNI:pU ae 44 44=true:=by kernel_rfl
theorem zs8 (l:List ab) (v:Value) (h:Heap) (hl:Sl aJ.atom h v l) (hs:l.length≤100000) (K:Value→Heap→Prop)
 (hk:∀ h' w A,Ext h h'→Ow aJ.atom h h' 34 A w l→K w h'):Ok Tryz.prog ae ov 65 [v] h K:=by
 rw [ao h]
 obtain ⟨b,hb,gL⟩:=zHW hl
 refine Ok.aH rfl zr5 (br Yr) rfl (m:=7) rfl ?_
 simp only [syms,aa,seval,Dq,hb]
 cases b
 ·simp only [syms,aa,seval,Dq,lG,zNI]
  obtain ⟨news,hs,mR⟩:=tk (A:=h.size+1) (r:=aJ.atom) (by decide) (hl.lay [.row [] 34 false] h.low) (fun cs y hr=>hr)
  have f:Ow aJ.atom h (h.lay [.row [] 34 false] h.low) 34 (h.size+1) (.slice (some ⟨h.size+0,0,none⟩) 0 0) [] :=
   .inl ⟨by omega,rfl,.inr ⟨h.size+0,0,rfl,by omega,by rw [bm];simp,[],34,false,by rw [iR];rfl⟩⟩
  obtain ⟨w,h',A',e1,e2,e3,e4,e5⟩:=zb (t:=44) bL se rfl (by decide) (by rw [bm];omega) f hs mR (by simp only [List.length_nil];omega) (by simp only [List.length_nil];omega)
  rw [e1]
  simp only [syms,aa,seval,Dq]
  exact hk _ _ A' ((Ext.refl h).cM e3 (by omega) (by omega)) (by simpa using e2)
 ·simp only [syms,aa,seval,Dq]
  rw [gL rfl] at hk
  exact hk _ _ _ ((Ext.refl h).aw _ _ (by omega)) (Ow.nil (Nat.le_refl _))
theorem _root_.Go.Am.Ow.down {α:Type} {r:aJ α} {h0 h1 h:Heap} {e:TypeId} {A:Nat} {v:Value} {l:List α} (f:Ow r h1 h e A v l) (i:h0.size≤h1.size):Ow r h0 h e A v l:=by
 rcases f with ⟨e1,e2,e3⟩|⟨row,e1,e2,e3,e4⟩
 ·refine .inl ⟨by omega,e2,?_⟩
  rcases e3 with e3|⟨B,o,g1,g0,g2⟩
  ·exact .inl e3
  ·exact .inr ⟨B,o,g1,by omega,g2⟩
 ·exact .inr ⟨row,e1,e2,by omega,e4⟩
theorem zIn:bJ ae 28=some 7:=by kernel_rfl
theorem zND (p0 p1 p2 p5 p6:Value) (q b:Int):(cX p0 p1 p2 p5 p6 q b)[3]? = some (.int .i64 q):=rfl
theorem zHs (a0 a1) (n0 n1 c0 c1:Nat) (q:Int):nV ae 28 [(0,.slice a0 n0 c0),(1,.slice a1 n1 c1),(3,.int .i64 q)]=some (gi (.slice a0 n0 c0) (.slice a1 n1 c1) (.slice none 0 0) (.slice none 0 0) (.slice none 0 0) q 0):=by kernel_rfl
theorem zvX (d:au) (p0 p1 p2 p5 p6:Value) (q b:Int) (h:Heap) (bf:(cX p0 p1 p2 p5 p6 q b).all Am.one=true) (s0:Sl aJ.str h p0 d.ah) (s1:Sl aJ.pred h p1 d.bG) (pe:d.ah.length≤100000) (IV:d.bG.length≤100000) (K:Value→Heap→Prop)
 (hk:∀ h' v0 v1 A0 A1,Ext h h'→Ow aJ.str h h' 9 A0 v0 d.ah→Ow aJ.pred h h' 73 A1 v1 d.bG→K (gi v0 v1 (.slice none 0 0) (.slice none 0 0) (.slice none 0 0) q 0) h'):Ok Tryz.prog ae ov 57 [gi p0 p1 p2 p5 p6 q b] h K:=by
 rw [ao h]
 have z:=Ext.refl h
 refine Ok.aH rfl zDG (br VL) rfl (m:=11) rfl ?_
 simp only [syms,aa,seval,Fv,ek]
 with_reducible first|refine dH (by simp only [Fv]) (z.aw _ _ (by omega)) ?_
 have nL:=bY p0
 have kg:=bY p1
 simp only [syms,aa,seval,Fv,ek,dY,eK,nL]
 refine zta d.ah p0 _ (s0.lay _ _) pe _ (fun h' v0 A0 x o0=>?_)
 have q0:=Holds.top (i:=0) x rfl
 have q1:=Holds.top (i:=1) x rfl
 have f0:=o0.fresh
 rw [bm] at f0
 simp only [List.length_cons,List.length_nil] at f0
 replace o0:=o0.down (h0:=h) (by rw [bm];omega)
 (((with_reducible refine dv ?_ ?_ ?_);(· exact (by (simp only [dx]);have:=z.size;omega));(· exact x));replace z:=z.an x (by omega);(replace s1:=s1.over x);rw [ao h'])
 simp only [syms,aa,seval,Fv,q0.lay,ek,dY,eK,kg]
 refine zs9 d.bG p1 _ (s1.lay _ _) IV _ (fun h' v1 A1 x o1=>?_)
 have f1:=o1.fresh
 have YI:=q1.lt
 rw [bm] at f1
 replace o1:=o1.down (h0:=h) (by rw [bm];have:=z.size;omega)
 (((with_reducible refine dv ?_ ?_ ?_);(· exact (by (simp only [dx]);have:=z.size;omega));(· exact x));replace z:=z.an x (by omega);(replace q0:=q0.over x);(replace q1:=q1.over x);(replace o0:=o0.over x);rw [ao h'])
 obtain ⟨a0,n0,c0,rfl⟩:=o0.slice
 obtain ⟨a1,n1,Wi,rfl⟩:=o1.slice
 simp only [syms,aa,seval,Fv,q0.lay,ek,dY,eK,zND,zHs,bl,eG]
 refine HB q1 zIn (vs:=cX (.slice a0 n0 c0) (.slice a1 n1 Wi) (.slice none 0 0) (.slice none 0 0) (.slice none 0 0) q 0) rfl rfl (by simp [cX]) rfl (fun h3 q3 c3=>?_)
 replace q3:Holds h3 (h.size+1) (.row (cX (.slice a0 n0 c0) (.slice a1 n1 Wi) (.slice none 0 0) (.slice none 0 0) (.slice none 0 0) q 0) 28 false):=q3
 have hz:=z.size
 refine nQ (A:=h.size+1) (by kernel_rfl) (by rw [bm];omega) (by omega) (by simpa only [el,bm,List.append_nil,List.length_cons,List.length_nil,Nat.add_zero] using c3) ?_
 have z3:=(z.aw [] (h'.size+0) (by omega)).step c3 (by omega)
 replace o0:=(o0.lay [] (h'.size+0)).turn (fun _ _ _ _ q=>q) c3 (by omega) q3
 replace o1:=(o1.lay [] (h'.size+0)).turn (fun _ _ _ _ q=>q) c3 (by omega) q3
 clear q0 q1 z s1
 have z:=z3
 rw [ao h3]
 simp only [syms,aa,seval,Fv]
 ((with_reducible refine ⟨z.cN.lay _ _,?_⟩);(intro _ h4 zz x _);(simp only [el,List.append_nil] at x))
 replace o0:=o0.over x
 replace o1:=o1.over x
 replace q3:=q3.over x
 clear z
 have z:=zz
 rw [ao h4]
 simp only [syms,aa,seval,Fv,q3.lay,ek,↓fm,eX,eG]
 exact hk _ _ _ _ _ (z.aw _ _ (by omega)) (o0.lay _ _) (o1.lay _ _)
end Go.Proofs.YtkgojconmeeegaaGreatDoor

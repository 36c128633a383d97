/- Maps from atoms to numbers, in walks. No condition. -/
import Derived.Test.YtdplfgoifjjniaaGreatDoorG37
import Derived.Test.YtdplfgoifjjniaaGreatDoorG38
set_option linter.unusedSimpArgs false
set_option linter.unusedVariables false
set_option maxRecDepth 100000
set_option maxHeartbeats 0
namespace Go.Am
section
variable {T:bD} {t kt et:TypeId} {A:Nat} {kv:List (ab × Int)} {a:ab} {h1:Heap} {bs:List bh} {w:Nat} {K:Value→Heap→Prop}
end
end Go.Am
namespace Go.Am
def ints (l:List Int):List Value:=l.map (Value.int .i64)
end Go.Am
namespace Go.Am
structure HR where
 atom:ab
 clause:Int
 Iv:List Int
 deriving DecidableEq
abbrev aK.step:aK HR :=
 { k:=13,R:=fun h cs x=>∃ v,cs=x.atom.cells++[.int .i64 x.clause,v]∧Sl aK.int h v x.Iv
   len:=by rintro h cs x ⟨v,rfl,_⟩;rfl
   mono:=by rintro h h' cs x i ⟨v,e,f⟩;exact ⟨v,e,f.mono i⟩
   gK:=by rintro h cs x ⟨v,rfl,f⟩;have:=f.one;simp only [List.all_append,ab.cells,List.all_cons,List.all_nil,this];rfl }
section
variable {h1:Heap} {bs:List bh} {w:Nat} {T:bD} {K:Value→Heap→Prop} {t e s:TypeId} {v p:Value} {kd:IntKind} {i:Int}
end
/-! ### Numbers of atoms by their places -/
/-! ### Rows of truth values -/
/-! ### Rows that stay -/
structure Rows (h h':Heap):Prop where
 size:h.size≤h'.size
 get:∀ B row u ro,h.get B=some (.row row u ro)→h'.get B=some (.row row u ro)
theorem Ow.lay {α:Type} {r:aK α} {h0 h:Heap} {e:TypeId} {A:Nat} {v:Value} {l:List α} (f:Ow r h0 h e A v l) (bs:List bh) (w:Nat):Ow r h0 (h.lay bs w) e A v l:=f.mono (cP.lay h bs w)
/-! ### Heaps that grow, whatever their mark -/
/-! ### The last place of an atom -/
end Go.Am
namespace Go.Proofs.YtdplfgoifjjniaaGreatDoor
open Go.Am
theorem zEe {h:Heap} {v:Value} {l:List ByteArray} (f:Sl aK.str h v l):∃ b:Bool,bU Tryz.prog ae .eql 23 v (.slice none 0 0)=some (.bool b)∧(b=true→l=[]):=by
 rcases f with ⟨rfl,rfl⟩|⟨A,o,c,row,u,ro,rfl,_⟩
 ·exact ⟨true,by kernel_rfl,fun _=>rfl⟩
 ·exact ⟨false,by kernel_rfl,nofun⟩
theorem zIf:rm ae 23 23=true:=by kernel_rfl
theorem zrI (l:List ByteArray) (v:Value) (h:Heap) (hl:Sl aK.str h v l) (hs:l.length≤100000) (K:Value→Heap→Prop)
 (hk:∀ h' w A,Ext h h'→Ow aK.str h h' 9 A w l→K w h'):Ok Tryz.prog ae ov 58 [v] h K:=by
 rw [ao h]
 obtain ⟨b,hb,qi⟩:=zEe hl
 refine Ok.aD rfl zAb (br N58) rfl (m:=7) rfl ?_
 simp -implicitDefEqProofs only [syms,aa,seval,Nj,hb]
 cases b
 ·simp -implicitDefEqProofs only [syms,aa,seval,Nj,sX,zIf]
  obtain ⟨news,hs,oP⟩:=MZ (A:=h.size+1) (r:=aK.str) (by decide) (hl.lay [.row [] 9 false] h.low) (fun cs y hr=>hr)
  have f:Ow aK.str h (h.lay [.row [] 9 false] h.low) 9 (h.size+1) (.slice (some ⟨h.size+0,0,none⟩) 0 0) [] :=
   .inl ⟨by omega,rfl,.inr ⟨h.size+0,0,rfl,by omega,by rw [bB];simp,[],9,false,by rw [kX];rfl⟩⟩
  obtain ⟨w,h',A',e1,e2,e3,e4,e5⟩:=ER (t:=23) cM Ev rfl (by decide) (by rw [bB];omega) f hs oP (by simp only [List.length_nil];omega) (by simp only [List.length_nil];omega)
  rw [e1]
  simp -implicitDefEqProofs only [syms,aa,seval,Nj]
  exact hk _ _ A' ((Ext.refl h).dI e3 (by omega) (by omega)) (by simpa using e2)
 ·simp -implicitDefEqProofs only [syms,aa,seval,Nj]
  rw [qi rfl] at hk
  exact hk _ _ _ ((Ext.refl h).aw _ _ (by omega)) (Ow.nil (Nat.le_refl _))
theorem zEd {h:Heap} {v:Value} {l:List bx} (f:Sl aK.pred h v l):∃ b:Bool,bU Tryz.prog ae .eql 24 v (.slice none 0 0)=some (.bool b)∧(b=true→l=[]):=by
 rcases f with ⟨rfl,rfl⟩|⟨A,o,c,row,u,ro,rfl,_⟩
 ·exact ⟨true,by kernel_rfl,fun _=>rfl⟩
 ·exact ⟨false,by kernel_rfl,nofun⟩
theorem zIe:rm ae 24 24=true:=by kernel_rfl
theorem zrH (l:List bx) (v:Value) (h:Heap) (hl:Sl aK.pred h v l) (hs:l.length≤100000) (K:Value→Heap→Prop)
 (hk:∀ h' w A,Ext h h'→Ow aK.pred h h' 67 A w l→K w h'):Ok Tryz.prog ae ov 59 [v] h K:=by
 rw [ao h]
 obtain ⟨b,hb,qi⟩:=zEd hl
 refine Ok.aD rfl zAc (br N59) rfl (m:=7) rfl ?_
 simp -implicitDefEqProofs only [syms,aa,seval,Nk,hb]
 cases b
 ·simp -implicitDefEqProofs only [syms,aa,seval,Nk,sX,zIe]
  obtain ⟨news,hs,oP⟩:=MZ (A:=h.size+1) (r:=aK.pred) (by decide) (hl.lay [.row [] 67 false] h.low) (fun cs y hr=>hr)
  have f:Ow aK.pred h (h.lay [.row [] 67 false] h.low) 67 (h.size+1) (.slice (some ⟨h.size+0,0,none⟩) 0 0) [] :=
   .inl ⟨by omega,rfl,.inr ⟨h.size+0,0,rfl,by omega,by rw [bB];simp,[],67,false,by rw [kX];rfl⟩⟩
  obtain ⟨w,h',A',e1,e2,e3,e4,e5⟩:=ER (t:=24) iY Y7 rfl (by decide) (by rw [bB];omega) f hs oP (by simp only [List.length_nil];omega) (by simp only [List.length_nil];omega)
  rw [e1]
  simp -implicitDefEqProofs only [syms,aa,seval,Nk]
  exact hk _ _ A' ((Ext.refl h).dI e3 (by omega) (by omega)) (by simpa using e2)
 ·simp -implicitDefEqProofs only [syms,aa,seval,Nk]
  rw [qi rfl] at hk
  exact hk _ _ _ ((Ext.refl h).aw _ _ (by omega)) (Ow.nil (Nat.le_refl _))
theorem zEc {h:Heap} {v:Value} {l:List ab} (f:Sl aK.atom h v l):∃ b:Bool,bU Tryz.prog ae .eql 52 v (.slice none 0 0)=some (.bool b)∧(b=true→l=[]):=by
 rcases f with ⟨rfl,rfl⟩|⟨A,o,c,row,u,ro,rfl,_⟩
 ·exact ⟨true,by kernel_rfl,fun _=>rfl⟩
 ·exact ⟨false,by kernel_rfl,nofun⟩
theorem zId:rm ae 52 52=true:=by kernel_rfl
theorem zrG (l:List ab) (v:Value) (h:Heap) (hl:Sl aK.atom h v l) (hs:l.length≤100000) (K:Value→Heap→Prop)
 (hk:∀ h' w A,Ext h h'→Ow aK.atom h h' 42 A w l→K w h'):Ok Tryz.prog ae ov 41 [v] h K:=by
 rw [ao h]
 obtain ⟨b,hb,qi⟩:=zEc hl
 refine Ok.aD rfl zqC (br RL) rfl (m:=7) rfl ?_
 simp -implicitDefEqProofs only [syms,aa,seval,Af,hb]
 cases b
 ·simp -implicitDefEqProofs only [syms,aa,seval,Af,sX,zId]
  obtain ⟨news,hs,oP⟩:=MZ (A:=h.size+1) (r:=aK.atom) (by decide) (hl.lay [.row [] 42 false] h.low) (fun cs y hr=>hr)
  have f:Ow aK.atom h (h.lay [.row [] 42 false] h.low) 42 (h.size+1) (.slice (some ⟨h.size+0,0,none⟩) 0 0) [] :=
   .inl ⟨by omega,rfl,.inr ⟨h.size+0,0,rfl,by omega,by rw [bB];simp,[],42,false,by rw [kX];rfl⟩⟩
  obtain ⟨w,h',A',e1,e2,e3,e4,e5⟩:=ER (t:=52) cf Gd rfl (by decide) (by rw [bB];omega) f hs oP (by simp only [List.length_nil];omega) (by simp only [List.length_nil];omega)
  rw [e1]
  simp -implicitDefEqProofs only [syms,aa,seval,Af]
  exact hk _ _ A' ((Ext.refl h).dI e3 (by omega) (by omega)) (by simpa using e2)
 ·simp -implicitDefEqProofs only [syms,aa,seval,Af]
  rw [qi rfl] at hk
  exact hk _ _ _ ((Ext.refl h).aw _ _ (by omega)) (Ow.nil (Nat.le_refl _))
theorem _root_.Go.Am.Ow.down {α:Type} {r:aK α} {h0 h1 h:Heap} {e:TypeId} {A:Nat} {v:Value} {l:List α} (f:Ow r h1 h e A v l) (i:h0.size≤h1.size):Ow r h0 h e A v l:=by
 rcases f with ⟨e1,e2,e3⟩|⟨row,e1,e2,e3,e4⟩
 ·refine .inl ⟨by omega,e2,?_⟩
  rcases e3 with e3|⟨B,o,g1,g0,g2⟩
  ·exact .inl e3
  ·exact .inr ⟨B,o,g1,by omega,g2⟩
 ·exact .inr ⟨row,e1,e2,by omega,e4⟩
theorem zEA:bO ae 29=some 7:=by kernel_rfl
theorem zH7 (p0 p1 p2 p5 p6:Value) (q b:Int):(dw p0 p1 p2 p5 p6 q b)[3]? = some (.int .i64 q):=rfl
theorem zDF (a0 a1) (n0 n1 c0 c1:Nat) (q:Int):nR ae 29 [(0,.slice a0 n0 c0),(1,.slice a1 n1 c1),(3,.int .i64 q)]=some (gQ (.slice a0 n0 c0) (.slice a1 n1 c1) (.slice none 0 0) (.slice none 0 0) (.slice none 0 0) q 0):=by kernel_rfl
theorem zua (d:au) (p0 p1 p2 p5 p6:Value) (q b:Int) (h:Heap) (bw:(dw p0 p1 p2 p5 p6 q b).all Am.one=true) (s0:Sl aK.str h p0 d.aj) (s1:Sl aK.pred h p1 d.bA) (nX:d.aj.length≤100000) (Dl:d.bA.length≤100000) (K:Value→Heap→Prop)
 (hk:∀ h' v0 v1 A0 A1,Ext h h'→Ow aK.str h h' 9 A0 v0 d.aj→Ow aK.pred h h' 67 A1 v1 d.bA→K (gQ v0 v1 (.slice none 0 0) (.slice none 0 0) (.slice none 0 0) q 0) h'):Ok Tryz.prog ae ov 31 [gQ p0 p1 p2 p5 p6 q b] h K:=by
 rw [ao h]
 have z:=Ext.refl h
 refine Ok.aD rfl zzM (br N31) rfl (m:=11) rfl ?_
 simp -implicitDefEqProofs only [syms,aa,seval,Co,eQ]
 with_reducible first|refine eu (by simp only [Co]) (z.aw _ _ (by omega)) ?_
 have jF:=cJ p0
 have jO:=cJ p1
 simp -implicitDefEqProofs only [syms,aa,seval,Co,eQ,dy,eo,jF]
 refine zrI d.aj p0 _ (s0.lay _ _) nX _ (fun h' v0 A0 x o0=>?_)
 have q0:=Holds.top (i:=0) x rfl
 have q1:=Holds.top (i:=1) x rfl
 have f0:=o0.fresh
 rw [bB] at f0
 simp only [List.length_cons,List.length_nil] at f0
 replace o0:=o0.down (h0:=h) (by rw [bB];omega)
 (((with_reducible refine dK ?_ ?_ ?_);(· exact (by (simp only [dM]);have:=z.size;omega));(· exact x));replace z:=z.an x (by omega);(replace s1:=s1.over x);rw [ao h'])
 simp -implicitDefEqProofs only [syms,aa,seval,Co,q0.lay,eQ,dy,eo,jO]
 refine zrH d.bA p1 _ (s1.lay _ _) Dl _ (fun h' v1 A1 x o1=>?_)
 have f1:=o1.fresh
 have hq1:=q1.lt
 rw [bB] at f1
 replace o1:=o1.down (h0:=h) (by rw [bB];have:=z.size;omega)
 (((with_reducible refine dK ?_ ?_ ?_);(· exact (by (simp only [dM]);have:=z.size;omega));(· exact x));replace z:=z.an x (by omega);(replace q0:=q0.over x);(replace q1:=q1.over x);(replace o0:=o0.over x);rw [ao h'])
 obtain ⟨a0,n0,c0,rfl⟩:=o0.slice
 obtain ⟨a1,n1,c1',rfl⟩:=o1.slice
 simp -implicitDefEqProofs only [syms,aa,seval,Co,q0.lay,eQ,dy,eo,zH7,zDF,bj,gk]
 refine OT q1 zEA (vs:=dw (.slice a0 n0 c0) (.slice a1 n1 c1') (.slice none 0 0) (.slice none 0 0) (.slice none 0 0) q 0) rfl rfl (by simp [dw]) rfl (fun h3 q3 c3=>?_)
 replace q3:Holds h3 (h.size+1) (.row (dw (.slice a0 n0 c0) (.slice a1 n1 c1') (.slice none 0 0) (.slice none 0 0) (.slice none 0 0) q 0) 29 false):=q3
 have hz:=z.size
 refine nM (A:=h.size+1) (by kernel_rfl) (by rw [bB];omega) (by omega) (by simpa only [cq,bB,List.append_nil,List.length_cons,List.length_nil,Nat.add_zero] using c3) ?_
 have z3:=(z.aw [] (h'.size+0) (by omega)).step c3 (by omega)
 replace o0:=(o0.lay [] (h'.size+0)).turn (fun _ _ _ _ q=>q) c3 (by omega) q3
 replace o1:=(o1.lay [] (h'.size+0)).turn (fun _ _ _ _ q=>q) c3 (by omega) q3
 clear q0 q1 z s1
 have z:=z3
 rw [ao h3]
 simp -implicitDefEqProofs only [syms,aa,seval,Co]
 ((with_reducible refine ⟨z.cW.lay _ _,?_⟩);(intro _ h4 zz x _);(simp only [cq,List.append_nil] at x))
 replace o0:=o0.over x
 replace o1:=o1.over x
 replace q3:=q3.over x
 clear z
 have z:=zz
 rw [ao h4]
 simp -implicitDefEqProofs only [syms,aa,seval,Co,q3.lay,eQ,↓im,gP,gk]
 exact hk _ _ _ _ _ (z.aw _ _ (by omega)) (o0.lay _ _) (o1.lay _ _)
end Go.Proofs.YtdplfgoifjjniaaGreatDoor

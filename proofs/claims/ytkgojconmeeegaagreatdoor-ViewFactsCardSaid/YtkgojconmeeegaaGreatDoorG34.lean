/- Maps from atoms to numbers, in walks. No condition. -/
import Derived.Test.YtkgojconmeeegaaGreatDoorG32
import Derived.Test.YtkgojconmeeegaaGreatDoorG33
set_option linter.unusedSimpArgs false
set_option linter.unusedVariables false
set_option maxRecDepth 100000
set_option maxHeartbeats 0
namespace Go.Am
section
variable {T:bL} {t kt et:TypeId} {A:Nat} {kv:List (ak × Int)} {a:ak} {h1:Heap} {bs:List bh} {w:Nat} {K:aG}
end
end Go.Am
namespace Go.Am
def ints (l:List Int):List ae:=l.map (Value.int .i64)
end Go.Am
namespace Go.Am
structure L4 where
 atom:ak
 clause:Int
 My:List Int
 deriving DecidableEq
abbrev aJ.step:aJ L4 :=
 { k:=13,R:=λh cs x=>∃ v,cs=x.atom.cells++[.int .i64 x.clause,v]/\Sl aJ.int h v x.My
   len:=by rintro h cs x ⟨v,rfl,_⟩;rfl
   mono:=by rintro h h' cs x i ⟨v,e,f⟩;exact ⟨v,e,f.mono i⟩
   i9:=by rintro h cs x ⟨v,rfl,f⟩;have:=f.one;simp only [List.all_append,ak.cells,gL,ij,this];rfl }
section
variable {h1:Heap} {bs:List bh} {w:Nat} {T:bL} {K:aG} {t e s:TypeId} {v p:ae} {kd:IntKind} {i:Int}
end
structure Rows (h h':Heap):Prop where
 size:h.size<=h'.size
 get:∀ B row u ro,h.get B=some (.row row u ro)->h'.get B=some (.row row u ro)
theorem Ow.lay {Z:Type} {r:aJ Z} {h0 h:Heap} {e:TypeId} {A:Nat} {v:ae} {l:List Z} (f:Ow r h0 h e A v l) (bs:List bh) (w:Nat):Ow r h0 (h.lay bs w) e A v l:=f.mono (b8.lay h bs w)
end Go.Am
namespace Go.Proofs.YtkgojconmeeegaaGreatDoor
open Go.Am Tryz
variable {v:ae} {h:Heap}
theorem zD5 {l:List aB} (f:Sl aJ.str h v l):∃ b:Bool,bY prog aA .eql 22 v (.slice none 0 0)=some (.bool b)/\(b=true->l=[]):=by
 rcases f with ⟨rfl,rfl⟩|⟨A,o,c,row,u,ro,rfl,_⟩
 .exact ⟨true,by kernel_rfl,λ_=>rfl⟩
 .exact ⟨false,by kernel_rfl,nofun⟩
theorem zHk:rW aA 22 22=true:=by kernel_rfl
theorem zu8 (l:List aB) (v:ae) (h:Heap) (hl:Sl aJ.str h v l) (hs:l.length<=100000) (K:aG)
 (hk:∀ h' w A,Ext h h'->Ow aJ.str h h' 9 A w l->K w h'):Ok prog aA ov 97 [v] h K:=by
 rw [ao h]
 obtain ⟨b,hb,mE⟩:=zD5 hl
 refine Ok.aq 7 (bm N97) ?_
 simp only [aa,seval,S7,hb]
 cases b
 .simp only [aa,seval,S7,ja,zHk]
  obtain ⟨news,hs,lQ⟩:=rX (A:=h.size+1) (r:=aJ.str) (by decide) (hl.lay [.row [] 9 false] h.low) (λcs y hr=>hr)
  have f:Ow aJ.str h (h.lay [.row [] 9 false] h.low) 9 (h.size+1) (.slice (some ⟨h.size+0,0,none⟩) 0 0) [] :=
   .inl ⟨by omega,rfl,.inr ⟨h.size+0,0,rfl,by omega,by rw [bf];simp,[],9,false,by rw [gH];rfl⟩⟩
  obtain ⟨w,h',A',e1,e2,e3,e4,e5⟩:=tX (t:=22) cQ Ew rfl (by decide) (by rw [bf];omega) f hs lQ (by simp only [dr];omega) (by simp only [dr];omega)
  rw [e1]
  simp only [aa,seval,S7]
  exact hk _ _ A' ((Ext.refl h).cx e3 (by omega) (by omega)) (by simpa using e2)
 .simp only [aa,seval,S7]
  rw [mE rfl] at hk
  exact hk _ _ _ ((Ext.refl h).je _ _ (by omega)) (Ow.nil (bo _))
theorem zD4 {l:List cX} (f:Sl aJ.pred h v l):∃ b:Bool,bY prog aA .eql 23 v (.slice none 0 0)=some (.bool b)/\(b=true->l=[]):=by
 rcases f with ⟨rfl,rfl⟩|⟨A,o,c,row,u,ro,rfl,_⟩
 .exact ⟨true,by kernel_rfl,λ_=>rfl⟩
 .exact ⟨false,by kernel_rfl,nofun⟩
theorem zHj:rW aA 23 23=true:=by kernel_rfl
theorem zu7 (l:List cX) (v:ae) (h:Heap) (hl:Sl aJ.pred h v l) (hs:l.length<=100000) (K:aG)
 (hk:∀ h' w A,Ext h h'->Ow aJ.pred h h' 73 A w l->K w h'):Ok prog aA ov 98 [v] h K:=by
 rw [ao h]
 obtain ⟨b,hb,mE⟩:=zD4 hl
 refine Ok.aq 7 (bm N98) ?_
 simp only [aa,seval,S8,hb]
 cases b
 .simp only [aa,seval,S8,ja,zHj]
  obtain ⟨news,hs,lQ⟩:=rX (A:=h.size+1) (r:=aJ.pred) (by decide) (hl.lay [.row [] 73 false] h.low) (λcs y hr=>hr)
  have f:Ow aJ.pred h (h.lay [.row [] 73 false] h.low) 73 (h.size+1) (.slice (some ⟨h.size+0,0,none⟩) 0 0) [] :=
   .inl ⟨by omega,rfl,.inr ⟨h.size+0,0,rfl,by omega,by rw [bf];simp,[],73,false,by rw [gH];rfl⟩⟩
  obtain ⟨w,h',A',e1,e2,e3,e4,e5⟩:=tX (t:=23) kj zh2 rfl (by decide) (by rw [bf];omega) f hs lQ (by simp only [dr];omega) (by simp only [dr];omega)
  rw [e1]
  simp only [aa,seval,S8]
  exact hk _ _ A' ((Ext.refl h).cx e3 (by omega) (by omega)) (by simpa using e2)
 .simp only [aa,seval,S8]
  rw [mE rfl] at hk
  exact hk _ _ _ ((Ext.refl h).je _ _ (by omega)) (Ow.nil (bo _))
theorem zD3 {l:aW} (f:Sl aJ.atom h v l):∃ b:Bool,bY prog aA .eql 44 v (.slice none 0 0)=some (.bool b)/\(b=true->l=[]):=by
 rcases f with ⟨rfl,rfl⟩|⟨A,o,c,row,u,ro,rfl,_⟩
 .exact ⟨true,by kernel_rfl,λ_=>rfl⟩
 .exact ⟨false,by kernel_rfl,nofun⟩
theorem zHi:rW aA 44 44=true:=by kernel_rfl
theorem zu6 (l:aW) (v:ae) (h:Heap) (hl:Sl aJ.atom h v l) (hs:l.length<=100000) (K:aG)
 (hk:∀ h' w A,Ext h h'->Ow aJ.atom h h' 34 A w l->K w h'):Ok prog aA ov 65 [v] h K:=by
 rw [ao h]
 obtain ⟨b,hb,mE⟩:=zD3 hl
 refine Ok.aq 7 (bm Vn) ?_
 simp only [aa,seval,Dp,hb]
 cases b
 .simp only [aa,seval,Dp,ja,zHi]
  obtain ⟨news,hs,lQ⟩:=rX (A:=h.size+1) (r:=aJ.atom) (by decide) (hl.lay [.row [] 34 false] h.low) (λcs y hr=>hr)
  have f:Ow aJ.atom h (h.lay [.row [] 34 false] h.low) 34 (h.size+1) (.slice (some ⟨h.size+0,0,none⟩) 0 0) [] :=
   .inl ⟨by omega,rfl,.inr ⟨h.size+0,0,rfl,by omega,by rw [bf];simp,[],34,false,by rw [gH];rfl⟩⟩
  obtain ⟨w,h',A',e1,e2,e3,e4,e5⟩:=tX (t:=44) bC sJ rfl (by decide) (by rw [bf];omega) f hs lQ (by simp only [dr];omega) (by simp only [dr];omega)
  rw [e1]
  simp only [aa,seval,Dp]
  exact hk _ _ A' ((Ext.refl h).cx e3 (by omega) (by omega)) (by simpa using e2)
 .simp only [aa,seval,Dp]
  rw [mE rfl] at hk
  exact hk _ _ _ ((Ext.refl h).je _ _ (by omega)) (Ow.nil (bo _))
theorem _root_.Go.Am.Ow.down {Z:Type} {r:aJ Z} {h0 h1:Heap} {e:TypeId} {A:Nat} {l:List Z} (f:Ow r h1 h e A v l) (i:h0.size<=h1.size):Ow r h0 h e A v l:=by
 rcases f with ⟨e1,e2,e3⟩|⟨row,e1,e2,e3,e4⟩
 .refine .inl ⟨by omega,e2,?_⟩
  rcases e3 with e3|⟨B,o,g1,g0,g2⟩
  .exact .inl e3
  .exact .inr ⟨B,o,g1,by omega,g2⟩
 .exact .inr ⟨row,e1,e2,by omega,e4⟩
theorem zEr:cN aA 28=some 7:=by kernel_rfl
theorem zHc (p0 p1 p2 p5 p6:ae) (q b:Int):(dw p0 p1 p2 p5 p6 q b)[3]? = some (.int .i64 q):=rfl
theorem zDL (a0 a1) (n0 n1 c0 c1:Nat) (q:Int):od aA 28 [(0,.slice a0 n0 c0),(1,.slice a1 n1 c1),(3,.int .i64 q)]=some (gC (.slice a0 n0 c0) (.slice a1 n1 c1) (.slice none 0 0) (.slice none 0 0) (.slice none 0 0) q 0):=by kernel_rfl
theorem zx6 (d:aw) (p0 p1 p2 p5 p6:ae) (q b:Int) (h:Heap) (bn:(dw p0 p1 p2 p5 p6 q b).all Am.one=true) (s0:Sl aJ.str h p0 d.ah) (s1:Sl aJ.pred h p1 d.cp) (sx:d.ah.length<=100000) (IK:d.cp.length<=100000) (K:aG)
 (hk:∀ h' v0 v1 A0 A1,Ext h h'->Ow aJ.str h h' 9 A0 v0 d.ah->Ow aJ.pred h h' 73 A1 v1 d.cp->K (gC v0 v1 (.slice none 0 0) (.slice none 0 0) (.slice none 0 0) q 0) h'):Ok prog aA ov 57 [gC p0 p1 p2 p5 p6 q b] h K:=by
 rw [ao h]
 have z:=Ext.refl h
 refine Ok.aq 11 (bm N57) ?_
 simp only [aa,seval,Fx,jG]
 with_reducible first|refine cZ (by simp only [Fx]) z.au ?_
 have GW:∀ (h:Heap) (K:aG),aD (some p0) h K=K p0 h:=λ_ _=>rfl
 have qF:∀ (h:Heap) (K:aG),aD (some p1) h K=K p1 h:=λ_ _=>rfl
 simp only [aa,seval,Fx,k6,GW]
 refine zu8 d.ah p0 _ (s0.lay _ _) sx _ (λh' v0 A0 x o0=>?_)
 have q0:=Holds.top (i:=0) x rfl
 have q1:=Holds.top (i:=1) x rfl
 have f0:=o0.fresh
 rw [bf] at f0
 simp only [de,dr] at f0
 replace o0:=o0.down (h0:=h) (by rw [bf];omega)
 (((with_reducible refine di ?_ ?_ ?_);(· exact (by (simp only [dp]);have:=z.size;omega));(· exact x));replace z:=z.aj x;replace s1:=s1.over x;rw [ao h'])
 simp only [aa,seval,Fx,q0.lay,lU,qF]
 refine zu7 d.cp p1 _ (s1.lay _ _) IK _ (λh' v1 A1 x o1=>?_)
 have f1:=o1.fresh
 have Zc:=q1.lt
 rw [bf] at f1
 replace o1:=o1.down (h0:=h) (by rw [bf];have:=z.size;omega)
 (((with_reducible refine di ?_ ?_ ?_);(· exact (by (simp only [dp]);have:=z.size;omega));(· exact x));replace z:=z.aj x;replace q0:=q0.over x;replace q1:=q1.over x;replace o0:=o0.over x;rw [ao h'])
 obtain ⟨a0,n0,c0,rfl⟩:=o0.slice
 obtain ⟨a1,n1,c1',rfl⟩:=o1.slice
 simp only [aa,seval,Fx,q0.lay,zHc,zDL,eU]
 refine CH q1 zEr (vs:=dw (.slice a0 n0 c0) (.slice a1 n1 c1') (.slice none 0 0) (.slice none 0 0) (.slice none 0 0) q 0) rfl rfl (by simp []) rfl (λh3 q3 c3=>?_)
 replace q3:Holds h3 (h.size+1) (.row (dw (.slice a0 n0 c0) (.slice a1 n1 c1') (.slice none 0 0) (.slice none 0 0) (.slice none 0 0) q 0) 28 false):=q3
 have hz:=z.size
 refine mW (A:=h.size+1) (by kernel_rfl) (by rw [bf];omega) (by omega) (by simpa only [bG,bf,bu,de,dr,jh] using c3) ?_
 have z3:=(z.je [] (h'.size+0) (by omega)).step c3 (by omega)
 replace o0:=(o0.lay [] (h'.size+0)).turn (λ_ _ _ _ q=>q) c3 (by omega) q3
 replace o1:=(o1.lay [] (h'.size+0)).turn (λ_ _ _ _ q=>q) c3 (by omega) q3
 clear q0 q1 z s1
 have z:=z3
 rw [ao h3]
 simp only [cR,seval,Fx]
 ((with_reducible refine ⟨z.bZ.lay _ _,?_⟩);(intro _ h4 zz x _);(simp only [bG,bu] at x))
 replace o0:=o0.over x
 replace o1:=o1.over x
 replace q3:=q3.over x
 clear z
 have z:=zz
 rw [ao h4]
 simp only [aa,seval,Fx,q3.lay,↓fN,fw,eU]
 exact hk _ _ _ _ _ z.au (o0.lay _ _) (o1.lay _ _)
end Go.Proofs.YtkgojconmeeegaaGreatDoor

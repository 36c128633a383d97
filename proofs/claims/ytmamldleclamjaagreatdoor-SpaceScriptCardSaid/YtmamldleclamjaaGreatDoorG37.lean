/- Maps from atoms to numbers, in walks. No condition. -/
import Derived.Test.YtmamldleclamjaaGreatDoorG35
import Derived.Test.YtmamldleclamjaaGreatDoorG36
set_option linter.unusedSimpArgs false
set_option linter.unusedVariables false
set_option maxRecDepth 100000
set_option maxHeartbeats 0
namespace Go.Am
def jO (h:Heap) (A:Nat) (kv:List (aj × Int)):Prop:=∃ es clock,Holds h A (.map es clock)/\es.map (λx:MapEntry=>(x.key,x.val))=kv.map (λp=>(p.1.val,Value.int .i64 p.2))
section
variable {T:bO} {t kt et:TypeId} {A:Nat} {kv:List (aj × Int)} {a:aj} {h1:Heap} {bs:List ba} {w:Nat} {K:aI}
theorem jO.over (m:jO h1 A kv) {h2:Heap} (x:Ext (h1.lay bs w) h2):jO h2 A kv:=by
 obtain ⟨es,cl,m1,m2⟩:=m
 exact ⟨es,cl,m1.over x,m2⟩
theorem jO.top {h2:Heap} {i:Nat} (x:Ext (h1.lay bs w) h2) (hi:bs[i]? = some (.map [] 0)):jO h2 (h1.size+i) []:=⟨[],0,Holds.top x hi,rfl⟩
theorem jO.step (m:jO h1 A kv) {B:Nat} {h2:Heap} (c:eX B h1 h2) (hB:A≠B):jO h2 A kv:=by
 obtain ⟨es,cl,m1,m2⟩:=m
 exact ⟨es,cl,m1.step c hB,m2⟩
end
end Go.Am
namespace Go.Am
def ints (l:List Int):List ah:=l.map (Value.int .i64)
end Go.Am
namespace Go.Am
variable {A:Nat} {h h' h2:Heap}
structure KX where
 atom:aj
 clause:Int
 Ls:List Int
 deriving DecidableEq
abbrev aK.step:aK KX :=
 { k:=13,R:=λh cs x=>∃ v,cs=x.atom.cells++[.int .i64 x.clause,v]/\Sl aK.int h v x.Ls
   len:=by rintro h cs x ⟨v,rfl,_⟩;rfl
   mono:=by rintro h h' cs x i ⟨v,e,f⟩;exact ⟨v,e,f.mono i⟩
   iu:=by rintro h cs x ⟨v,rfl,f⟩;have:=f.one;simp only [List.all_append,aj.cells,nC,po,this];rfl }
section
variable {h1:Heap} {bs:List ba} {w:Nat} {T:bO} {K:aI} {t e s:TypeId} {v p:ah} {kd:IntKind} {i:Int}
end
structure Rows (h h':Heap):Prop where
 size:h.size<=h'.size
 get:∀ B row u ro,h.get B=some (.row row u ro)->h'.get B=some (.row row u ro)
theorem Rows.kill (g:Rows h h') (hA:A < h.size):Rows (h.set A .dead) (h'.set A .dead):=⟨g.size,λB row u ro hb=>by
 rw [Heap.aJ _ _ _ _ hA] at hb
 rw [Heap.aJ _ _ _ _ (dJ hA g.size)]
 split
 .rename_i e
  rw [aB e] at hb
  cases hb
 .rename_i e
  rw [aA e] at hb
  exact g.get B row u ro hb⟩
theorem Ow.ji {Z:Type} {r:aK Z} {h0:Heap} {e:TypeId} {B:Nat} {v:ah} {l:List Z} (gg:∀ h h' cs x,r.R h cs x->r.R h' cs x) (aS:l≠[]) (f:Ow r h0 h e A v l) (c:eX B h h') (hB:B≠A):Ow r h0 h' e A v l:=by
 rcases f with ⟨f1,f2,f3⟩|⟨row,e1,e2,e3,e4,e5,e6,e7,e8⟩
 .exact absurd f2 aS
 .refine .inr ⟨row,e1,e2,e3,dJ e4 c.size,(c.get A e4 (λx=>hB x.symm)).trans e5,e6,e7,λi x hx=>?_⟩
  obtain ⟨cs,g1,g2⟩:=e8 i x hx
  exact ⟨cs,g1,gg _ _ _ _ g2⟩
theorem Ow.lay {Z:Type} {r:aK Z} {h0 h:Heap} {e:TypeId} {A:Nat} {v:ah} {l:List Z} (f:Ow r h0 h e A v l) (bs:List ba) (w:Nat):Ow r h0 (h.lay bs w) e A v l:=f.mono (bH.lay h bs w)
theorem rG.inc (x:rG h h'):bH h h':=⟨x.1,λA hA _=>x.2 A hA⟩
theorem rG.over {h1:Heap} {bs:List ba} {w:Nat} (g:rG h h1) (x:Ext (h1.lay bs w) h2):rG h h2:=by
 have hs:=x.size
 rw [bd] at hs
 have hg:=g.1
 exact ⟨by omega,λA hA=>by rw [x.get A (by rw [bd];omega),uo _ _ _ (by omega)];exact g.2 A hA⟩
theorem rG.bK {h1:Heap} {C:Nat} {bs:List ba} {w:Nat} (g:rG h h1) (c:eX C (h1.lay bs w) h2) (hC:h.size<=C):rG h h2:=by
 have hs:=c.size
 rw [bd] at hs
 have hg:=g.1
 exact ⟨by omega,λA hA=>by rw [c.get A (by rw [bd];omega) (by omega),uo _ _ _ (by omega)];exact g.2 A hA⟩
theorem jO.cK {h1:Heap} {kv:List (aj × Int)} (m:jO h1 A kv) (x:rG h1 h2):jO h2 A kv:=by
 obtain ⟨es,cl,m1,m2⟩:=m
 exact ⟨es,cl,⟨dJ m1.lt x.1,(x.2 A m1.lt).trans m1.get⟩,m2⟩
theorem jO.lt {h:Heap} {A:Nat} {kv:List (aj × Int)} (m:jO h A kv):A < h.size:=by
 obtain ⟨es,cl,m1,m2⟩:=m
 exact m1.lt
theorem jO.bK {h1 h2:Heap} {A B:Nat} {kv:List (aj × Int)} {bs:List ba} {w:Nat} (m:jO h1 A kv) (c:eX B (h1.lay bs w) h2) (hB:A≠B):jO h2 A kv:=by
 obtain ⟨es,cl,m1,m2⟩:=m
 exact ⟨es,cl,m1.bK c hB,m2⟩
end Go.Am
namespace Go.Proofs.YtmamldleclamjaaGreatDoor
open Go.Am Tryz
variable {v:ah} {h:Heap}
theorem zDi {l:List au} (f:Sl aK.str h v l):∃ b:Bool,cm prog aG .eql 22 v (.slice none 0 0)=some (.bool b)/\(b=true->l=[]):=by
 rcases f with ⟨rfl,rfl⟩|⟨A,o,c,row,u,ro,rfl,_⟩
 .exact ⟨true,by kernel_rfl,λ_=>rfl⟩
 .exact ⟨false,by kernel_rfl,nofun⟩
theorem zFs:uB aG 22 22=true:=by kernel_rfl
theorem zuj (l:List au) (v:ah) (h:Heap) (hl:Sl aK.str h v l) (hs:l.length<=100000) (K:aI)
 (hk:∀ h' w A,Ext h h'->Ow aK.str h h' 9 A w l->K w h'):Ok prog aG ov 55 [v] h K:=by
 rw [ao h]
 obtain ⟨b,hb,s9⟩:=zDi hl
 refine Ok.aw 7 (bu N55) ?_
 simp only [aa,seval,Q9,hb]
 cases b
 .simp only [aa,seval,Q9,ly,zFs]
  obtain ⟨news,hs,mI⟩:=vT (A:=h.size+1) (r:=aK.str) (by decide) (hl.lay [.row [] 9 false] h.low) (λcs y hr=>hr)
  have f:Ow aK.str h (h.lay [.row [] 9 false] h.low) 9 (h.size+1) (.slice (some ⟨h.size+0,0,none⟩) 0 0) [] :=
   .inl ⟨by omega,rfl,.inr ⟨h.size+0,0,rfl,by omega,by rw [bd];simp,[],9,false,by rw [iB];rfl⟩⟩
  obtain ⟨w,h',A',e1,e2,e3,e4,e5⟩:=uy (t:=22) cG zV rfl (by decide) (by rw [bd];omega) f hs mI (by simp only [dK];omega) (by simp only [dK];omega)
  rw [e1]
  simp only [aa,seval,Q9]
  exact hk _ _ A' ((Ext.refl h).cw e3 (by omega) (by omega)) (by simpa using e2)
 .simp only [aa,seval,Q9]
  rw [s9 rfl] at hk
  exact hk _ _ _ ((Ext.refl h).lk _ _ (by omega)) (Ow.nil (bo _))
theorem zDh {l:List bP} (f:Sl aK.pred h v l):∃ b:Bool,cm prog aG .eql 23 v (.slice none 0 0)=some (.bool b)/\(b=true->l=[]):=by
 rcases f with ⟨rfl,rfl⟩|⟨A,o,c,row,u,ro,rfl,_⟩
 .exact ⟨true,by kernel_rfl,λ_=>rfl⟩
 .exact ⟨false,by kernel_rfl,nofun⟩
theorem zFr:uB aG 23 23=true:=by kernel_rfl
theorem zui (l:List bP) (v:ah) (h:Heap) (hl:Sl aK.pred h v l) (hs:l.length<=100000) (K:aI)
 (hk:∀ h' w A,Ext h h'->Ow aK.pred h h' 65 A w l->K w h'):Ok prog aG ov 56 [v] h K:=by
 rw [ao h]
 obtain ⟨b,hb,s9⟩:=zDh hl
 refine Ok.aw 7 (bu N56) ?_
 simp only [aa,seval,Ra,hb]
 cases b
 .simp only [aa,seval,Ra,ly,zFr]
  obtain ⟨news,hs,mI⟩:=vT (A:=h.size+1) (r:=aK.pred) (by decide) (hl.lay [.row [] 65 false] h.low) (λcs y hr=>hr)
  have f:Ow aK.pred h (h.lay [.row [] 65 false] h.low) 65 (h.size+1) (.slice (some ⟨h.size+0,0,none⟩) 0 0) [] :=
   .inl ⟨by omega,rfl,.inr ⟨h.size+0,0,rfl,by omega,by rw [bd];simp,[],65,false,by rw [iB];rfl⟩⟩
  obtain ⟨w,h',A',e1,e2,e3,e4,e5⟩:=uy (t:=23) kj zhG rfl (by decide) (by rw [bd];omega) f hs mI (by simp only [dK];omega) (by simp only [dK];omega)
  rw [e1]
  simp only [aa,seval,Ra]
  exact hk _ _ A' ((Ext.refl h).cw e3 (by omega) (by omega)) (by simpa using e2)
 .simp only [aa,seval,Ra]
  rw [s9 rfl] at hk
  exact hk _ _ _ ((Ext.refl h).lk _ _ (by omega)) (Ow.nil (bo _))
theorem zDg {l:aN} (f:Sl aK.atom h v l):∃ b:Bool,cm prog aG .eql 51 v (.slice none 0 0)=some (.bool b)/\(b=true->l=[]):=by
 rcases f with ⟨rfl,rfl⟩|⟨A,o,c,row,u,ro,rfl,_⟩
 .exact ⟨true,by kernel_rfl,λ_=>rfl⟩
 .exact ⟨false,by kernel_rfl,nofun⟩
theorem ZV:uB aG 51 51=true:=by kernel_rfl
theorem zlS (l:aN) (v:ah) (h:Heap) (hl:Sl aK.atom h v l) (hs:l.length<=100000) (K:aI)
 (hk:∀ h' w A,Ext h h'->Ow aK.atom h h' 47 A w l->K w h'):Ok prog aG ov 34 [v] h K:=by
 rw [ao h]
 obtain ⟨b,hb,s9⟩:=zDg hl
 refine Ok.aw 7 (bu Ub) ?_
 simp only [aa,seval,Cq,hb]
 cases b
 .simp only [aa,seval,Cq,ly,ZV]
  obtain ⟨news,hs,mI⟩:=vT (A:=h.size+1) (r:=aK.atom) (by decide) (hl.lay [.row [] 47 false] h.low) (λcs y hr=>hr)
  have f:Ow aK.atom h (h.lay [.row [] 47 false] h.low) 47 (h.size+1) (.slice (some ⟨h.size+0,0,none⟩) 0 0) [] :=
   .inl ⟨by omega,rfl,.inr ⟨h.size+0,0,rfl,by omega,by rw [bd];simp,[],47,false,by rw [iB];rfl⟩⟩
  obtain ⟨w,h',A',e1,e2,e3,e4,e5⟩:=uy (t:=51) bF r6 rfl (by decide) (by rw [bd];omega) f hs mI (by simp only [dK];omega) (by simp only [dK];omega)
  rw [e1]
  simp only [aa,seval,Cq]
  exact hk _ _ A' ((Ext.refl h).cw e3 (by omega) (by omega)) (by simpa using e2)
 .simp only [aa,seval,Cq]
  rw [s9 rfl] at hk
  exact hk _ _ _ ((Ext.refl h).lk _ _ (by omega)) (Ow.nil (bo _))
theorem _root_.Go.Am.Ow.down {Z:Type} {r:aK Z} {h0 h1:Heap} {e:TypeId} {A:Nat} {l:List Z} (f:Ow r h1 h e A v l) (i:h0.size<=h1.size):Ow r h0 h e A v l:=by
 rcases f with ⟨e1,e2,e3⟩|⟨row,e1,e2,e3,e4⟩
 .refine .inl ⟨by omega,e2,?_⟩
  rcases e3 with e3|⟨B,o,g1,g0,g2⟩
  .exact .inl e3
  .exact .inr ⟨B,o,g1,by omega,g2⟩
 .exact .inr ⟨row,e1,e2,by omega,e4⟩
theorem zDB:di aG 28=some 7:=by kernel_rfl
theorem zFl (p0 p1 p2 p5 p6:ah) (q b:Int):(dW p0 p1 p2 p5 p6 q b)[3]? = some (.int .i64 q):=rfl
theorem zCV (a0 a1) (n0 n1 c0 c1:Nat) (q:Int):qg aG 28 [(0,.slice a0 n0 c0),(1,.slice a1 n1 c1),(3,.int .i64 q)]=some (hU (.slice a0 n0 c0) (.slice a1 n1 c1) (.slice none 0 0) (.slice none 0 0) (.slice none 0 0) q 0):=by kernel_rfl
theorem zxd (d:aq) (p0 p1 p2 p5 p6:ah) (q b:Int) (h:Heap) (bt:(dW p0 p1 p2 p5 p6 q b).all Am.one=true) (s0:Sl aK.str h p0 d.ab) (s1:Sl aK.pred h p1 d.bJ) (vk:d.ab.length<=100000) (FL:d.bJ.length<=100000) (K:aI)
 (hk:∀ h' v0 v1 A0 A1,Ext h h'->Ow aK.str h h' 9 A0 v0 d.ab->Ow aK.pred h h' 65 A1 v1 d.bJ->K (hU v0 v1 (.slice none 0 0) (.slice none 0 0) (.slice none 0 0) q 0) h'):Ok prog aG ov 32 [hU p0 p1 p2 p5 p6 q b] h K:=by
 rw [ao h]
 have z:=Ext.refl h
 refine Ok.aw 11 (bu N32) ?_
 simp only [aa,seval,EA,kG]
 with_reducible first|refine dL (by simp only [EA]) z.aC ?_
 have F9:∀ (h:Heap) (K:aI),aH (some p0) h K=K p0 h:=λ_ _=>rfl
 have oq:∀ (h:Heap) (K:aI),aH (some p1) h K=K p1 h:=λ_ _=>rfl
 simp only [aa,seval,EA,lO,F9]
 refine zuj d.ab p0 _ (s0.lay _ _) vk _ (λh' v0 A0 x o0=>?_)
 have q0:=Holds.top (i:=0) x rfl
 have q1:=Holds.top (i:=1) x rfl
 have f0:=o0.fresh
 rw [bd] at f0
 simp only [dY,dK] at f0
 replace o0:=o0.down (h0:=h) (by rw [bd];omega)
 (((with_reducible refine cW ?_ ?_ ?_);(· exact (by (simp only [cV]);have:=z.size;omega));(· exact x));replace z:=z.an x;replace s1:=s1.over x;rw [ao h'])
 simp only [aa,seval,EA,q0.lay,lP,oq]
 refine zui d.bJ p1 _ (s1.lay _ _) FL _ (λh' v1 A1 x o1=>?_)
 have f1:=o1.fresh
 have hq1:=q1.lt
 rw [bd] at f1
 replace o1:=o1.down (h0:=h) (by rw [bd];have:=z.size;omega)
 (((with_reducible refine cW ?_ ?_ ?_);(· exact (by (simp only [cV]);have:=z.size;omega));(· exact x));replace z:=z.an x;replace q0:=q0.over x;replace q1:=q1.over x;replace o0:=o0.over x;rw [ao h'])
 obtain ⟨a0,n0,c0,rfl⟩:=o0.slice
 obtain ⟨a1,n1,c1',rfl⟩:=o1.slice
 simp only [aa,seval,EA,q0.lay,zFl,zCV,fY]
 refine GQ q1 zDB (vs:=dW (.slice a0 n0 c0) (.slice a1 n1 c1') (.slice none 0 0) (.slice none 0 0) (.slice none 0 0) q 0) rfl rfl (by simp []) rfl (λh3 q3 c3=>?_)
 replace q3:Holds h3 (h.size+1) (.row (dW (.slice a0 n0 c0) (.slice a1 n1 c1') (.slice none 0 0) (.slice none 0 0) (.slice none 0 0) q 0) 28 false):=q3
 have hz:=z.size
 refine nM (A:=h.size+1) (by kernel_rfl) (by rw [bd];omega) (by omega) (by simpa only [b9,bd,bG,dY,dK,i0] using c3) ?_
 have z3:=(z.lk [] (h'.size+0) (by omega)).step c3 (by omega)
 replace o0:=(o0.lay [] (h'.size+0)).turn (λ_ _ _ _ q=>q) c3 (by omega) q3
 replace o1:=(o1.lay [] (h'.size+0)).turn (λ_ _ _ _ q=>q) c3 (by omega) q3
 clear q0 q1 z s1
 have z:=z3
 rw [ao h3]
 simp only [dx,seval,EA]
 ((with_reducible refine ⟨z.cK.lay _ _,?_⟩);(intro _ h4 zz x _);(simp only [b9,bG] at x))
 replace o0:=o0.over x
 replace o1:=o1.over x
 replace q3:=q3.over x
 clear z
 have z:=zz
 rw [ao h4]
 simp only [aa,seval,EA,q3.lay,↓iR,gO,fY]
 exact hk _ _ _ _ _ z.aC (o0.lay _ _) (o1.lay _ _)
end Go.Proofs.YtmamldleclamjaaGreatDoor

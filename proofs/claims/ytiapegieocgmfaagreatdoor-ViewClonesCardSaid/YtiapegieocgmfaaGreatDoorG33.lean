/- Maps from atoms to numbers, in walks. No condition. -/
import Derived.Test.YtiapegieocgmfaaGreatDoorG31
import Derived.Test.YtiapegieocgmfaaGreatDoorG32
set_option linter.unusedSimpArgs false
set_option linter.unusedVariables false
set_option maxRecDepth 100000
set_option maxHeartbeats 0
namespace Go.Am
def jP (h:Heap) (A:Nat) (kv:List (ak × Int)):Prop:=∃ es clock,Holds h A (.map es clock)/\es.map (λx:MapEntry=>(x.key,x.val))=kv.map (λp=>(p.1.val,Value.int .i64 p.2))
section
variable {T:bI} {t kt et:TypeId} {A:Nat} {kv:List (ak × Int)} {a:ak} {h1:Heap} {bs:List ba} {w:Nat} {K:aF}
theorem jP.over (m:jP h1 A kv) {h2:Heap} (x:Ext (h1.lay bs w) h2):jP h2 A kv:=by
 obtain ⟨es,cl,m1,m2⟩:=m
 exact ⟨es,cl,m1.over x,m2⟩
theorem jP.top {h2:Heap} {i:Nat} (x:Ext (h1.lay bs w) h2) (hi:bs[i]? = some (.map [] 0)):jP h2 (h1.size+i) []:=⟨[],0,Holds.top x hi,rfl⟩
theorem jP.step (m:jP h1 A kv) {B:Nat} {h2:Heap} (c:eG B h1 h2) (hB:A≠B):jP h2 A kv:=by
 obtain ⟨es,cl,m1,m2⟩:=m
 exact ⟨es,cl,m1.step c hB,m2⟩
end
end Go.Am
namespace Go.Am
def ints (l:List Int):List ab:=l.map (Value.int .i64)
end Go.Am
namespace Go.Am
variable {A:Nat} {h h' h2:Heap}
structure Lf where
 atom:ak
 clause:Int
 LN:List Int
 deriving DecidableEq
abbrev aM.step:aM Lf :=
 { k:=13,R:=λh cs x=>∃ v,cs=x.atom.cells++[.int .i64 x.clause,v]/\Sl aM.int h v x.LN
   len:=by rintro h cs x ⟨v,rfl,_⟩;rfl
   mono:=by rintro h h' cs x i ⟨v,e,f⟩;exact ⟨v,e,f.mono i⟩
   jf:=by rintro h cs x ⟨v,rfl,f⟩;have:=f.one;simp only [List.all_append,ak.cells,nU,oX,this];rfl }
section
variable {h1:Heap} {bs:List ba} {w:Nat} {T:bI} {K:aF} {t e s:TypeId} {v p:ab} {kd:IntKind} {i:Int}
end
structure Rows (h h':Heap):Prop where
 size:h.size<=h'.size
 get:∀ B row u ro,h.get B=some (.row row u ro)->h'.get B=some (.row row u ro)
theorem Rows.kill (g:Rows h h') (hA:A < h.size):Rows (h.set A .dead) (h'.set A .dead):=⟨g.size,λB row u ro hb=>by
 rw [Heap.aJ _ _ _ _ hA] at hb
 rw [Heap.aJ _ _ _ _ (dB hA g.size)]
 split
 .rename_i e
  rw [aE e] at hb
  cases hb
 .rename_i e
  rw [az e] at hb
  exact g.get B row u ro hb⟩
theorem Ow.iL {Z:Type} {r:aM Z} {h0:Heap} {e:TypeId} {B:Nat} {v:ab} {l:List Z} (fU:∀ h h' cs x,r.R h cs x->r.R h' cs x) (aQ:l≠[]) (f:Ow r h0 h e A v l) (c:eG B h h') (hB:B≠A):Ow r h0 h' e A v l:=by
 rcases f with ⟨f1,f2,f3⟩|⟨row,e1,e2,e3,e4,e5,e6,e7,e8⟩
 .exact absurd f2 aQ
 .refine .inr ⟨row,e1,e2,e3,dB e4 c.size,(c.get A e4 (λx=>hB x.symm)).trans e5,e6,e7,λi x hx=>?_⟩
  obtain ⟨cs,g1,g2⟩:=e8 i x hx
  exact ⟨cs,g1,fU _ _ _ _ g2⟩
theorem Ow.lay {Z:Type} {r:aM Z} {h0 h:Heap} {e:TypeId} {A:Nat} {v:ab} {l:List Z} (f:Ow r h0 h e A v l) (bs:List ba) (w:Nat):Ow r h0 (h.lay bs w) e A v l:=f.mono (bL.lay h bs w)
theorem rT.inc (x:rT h h'):bL h h':=⟨x.1,λA hA _=>x.2 A hA⟩
theorem rT.over {h1:Heap} {bs:List ba} {w:Nat} (g:rT h h1) (x:Ext (h1.lay bs w) h2):rT h h2:=by
 have hs:=x.size
 rw [bc] at hs
 have hg:=g.1
 exact ⟨by omega,λA hA=>by rw [x.get A (by rw [bc];omega),uz _ _ _ (by omega)];exact g.2 A hA⟩
theorem rT.br {h1:Heap} {C:Nat} {bs:List ba} {w:Nat} (g:rT h h1) (c:eG C (h1.lay bs w) h2) (hC:h.size<=C):rT h h2:=by
 have hs:=c.size
 rw [bc] at hs
 have hg:=g.1
 exact ⟨by omega,λA hA=>by rw [c.get A (by rw [bc];omega) (by omega),uz _ _ _ (by omega)];exact g.2 A hA⟩
theorem jP.cn {h1:Heap} {kv:List (ak × Int)} (m:jP h1 A kv) (x:rT h1 h2):jP h2 A kv:=by
 obtain ⟨es,cl,m1,m2⟩:=m
 exact ⟨es,cl,⟨dB m1.lt x.1,(x.2 A m1.lt).trans m1.get⟩,m2⟩
theorem jP.lt {h:Heap} {A:Nat} {kv:List (ak × Int)} (m:jP h A kv):A < h.size:=by
 obtain ⟨es,cl,m1,m2⟩:=m
 exact m1.lt
theorem jP.br {h1 h2:Heap} {A B:Nat} {kv:List (ak × Int)} {bs:List ba} {w:Nat} (m:jP h1 A kv) (c:eG B (h1.lay bs w) h2) (hB:A≠B):jP h2 A kv:=by
 obtain ⟨es,cl,m1,m2⟩:=m
 exact ⟨es,cl,m1.br c hB,m2⟩
end Go.Am
namespace Go.Proofs.YtiapegieocgmfaaGreatDoor
open Go.Am Tryz
variable {v:ab} {h:Heap}
theorem zCD {l:List au} (f:Sl aM.str h v l):∃ b:Bool,cz prog aD .eql 22 v (.slice none 0 0)=some (.bool b)/\(b=true->l=[]):=by
 rcases f with ⟨rfl,rfl⟩|⟨A,o,c,row,u,ro,rfl,_⟩
 .exact ⟨true,by kernel_rfl,λ_=>rfl⟩
 .exact ⟨false,by kernel_rfl,nofun⟩
theorem zE1:su aD 22 22=true:=by kernel_rfl
theorem zua (l:List au) (v:ab) (h:Heap) (hl:Sl aM.str h v l) (hs:l.length<=100000) (K:aF)
 (hk:∀ h' w A,Ext h h'->Ow aM.str h h' 9 A w l->K w h'):Ok prog aD ov 74 [v] h K:=by
 rw [ao h]
 obtain ⟨b,hb,jz⟩:=zCD hl
 refine Ok.aw 7 (bq N74) ?_
 simp only [aa,seval,RG,hb]
 cases b
 .simp only [aa,seval,RG,mr,zE1]
  obtain ⟨news,hs,nI⟩:=uF (A:=h.size+1) (r:=aM.str) (by decide) (hl.lay [.row [] 9 false] h.low) (λcs y hr=>hr)
  have f:Ow aM.str h (h.lay [.row [] 9 false] h.low) 9 (h.size+1) (.slice (some ⟨h.size+0,0,none⟩) 0 0) [] :=
   .inl ⟨by omega,rfl,.inr ⟨h.size+0,0,rfl,by omega,by rw [bc];simp,[],9,false,by rw [iB];rfl⟩⟩
  obtain ⟨w,h',A',e1,e2,e3,e4,e5⟩:=AF (t:=22) dr D9 rfl (by decide) (by rw [bc];omega) f hs nI (by simp only [dN];omega) (by simp only [dN];omega)
  rw [e1]
  simp only [aa,seval,RG]
  exact hk _ _ A' ((Ext.refl h).cM e3 (by omega) (by omega)) (by simpa using e2)
 .simp only [aa,seval,RG]
  rw [jz rfl] at hk
  exact hk _ _ _ ((Ext.refl h).kN _ _ (by omega)) (Ow.nil (bj _))
theorem zCC {l:List da} (f:Sl aM.pred h v l):∃ b:Bool,cz prog aD .eql 23 v (.slice none 0 0)=some (.bool b)/\(b=true->l=[]):=by
 rcases f with ⟨rfl,rfl⟩|⟨A,o,c,row,u,ro,rfl,_⟩
 .exact ⟨true,by kernel_rfl,λ_=>rfl⟩
 .exact ⟨false,by kernel_rfl,nofun⟩
theorem zE0:su aD 23 23=true:=by kernel_rfl
theorem zt9 (l:List da) (v:ab) (h:Heap) (hl:Sl aM.pred h v l) (hs:l.length<=100000) (K:aF)
 (hk:∀ h' w A,Ext h h'->Ow aM.pred h h' 62 A w l->K w h'):Ok prog aD ov 75 [v] h K:=by
 rw [ao h]
 obtain ⟨b,hb,jz⟩:=zCC hl
 refine Ok.aw 7 (bq N75) ?_
 simp only [aa,seval,RH,hb]
 cases b
 .simp only [aa,seval,RH,mr,zE0]
  obtain ⟨news,hs,nI⟩:=uF (A:=h.size+1) (r:=aM.pred) (by decide) (hl.lay [.row [] 62 false] h.low) (λcs y hr=>hr)
  have f:Ow aM.pred h (h.lay [.row [] 62 false] h.low) 62 (h.size+1) (.slice (some ⟨h.size+0,0,none⟩) 0 0) [] :=
   .inl ⟨by omega,rfl,.inr ⟨h.size+0,0,rfl,by omega,by rw [bc];simp,[],62,false,by rw [iB];rfl⟩⟩
  obtain ⟨w,h',A',e1,e2,e3,e4,e5⟩:=AF (t:=23) kr zhE rfl (by decide) (by rw [bc];omega) f hs nI (by simp only [dN];omega) (by simp only [dN];omega)
  rw [e1]
  simp only [aa,seval,RH]
  exact hk _ _ A' ((Ext.refl h).cM e3 (by omega) (by omega)) (by simpa using e2)
 .simp only [aa,seval,RH]
  rw [jz rfl] at hk
  exact hk _ _ _ ((Ext.refl h).kN _ _ (by omega)) (Ow.nil (bj _))
theorem zCB {l:aS} (f:Sl aM.atom h v l):∃ b:Bool,cz prog aD .eql 38 v (.slice none 0 0)=some (.bool b)/\(b=true->l=[]):=by
 rcases f with ⟨rfl,rfl⟩|⟨A,o,c,row,u,ro,rfl,_⟩
 .exact ⟨true,by kernel_rfl,λ_=>rfl⟩
 .exact ⟨false,by kernel_rfl,nofun⟩
theorem zEZ:su aD 38 38=true:=by kernel_rfl
theorem zlC (l:aS) (v:ab) (h:Heap) (hl:Sl aM.atom h v l) (hs:l.length<=100000) (K:aF)
 (hk:∀ h' w A,Ext h h'->Ow aM.atom h h' 47 A w l->K w h'):Ok prog aD ov 27 [v] h K:=by
 rw [ao h]
 obtain ⟨b,hb,jz⟩:=zCB hl
 refine Ok.aw 7 (bq Ut) ?_
 simp only [aa,seval,CZ,hb]
 cases b
 .simp only [aa,seval,CZ,mr,zEZ]
  obtain ⟨news,hs,nI⟩:=uF (A:=h.size+1) (r:=aM.atom) (by decide) (hl.lay [.row [] 47 false] h.low) (λcs y hr=>hr)
  have f:Ow aM.atom h (h.lay [.row [] 47 false] h.low) 47 (h.size+1) (.slice (some ⟨h.size+0,0,none⟩) 0 0) [] :=
   .inl ⟨by omega,rfl,.inr ⟨h.size+0,0,rfl,by omega,by rw [bc];simp,[],47,false,by rw [iB];rfl⟩⟩
  obtain ⟨w,h',A',e1,e2,e3,e4,e5⟩:=AF (t:=38) bJ tD rfl (by decide) (by rw [bc];omega) f hs nI (by simp only [dN];omega) (by simp only [dN];omega)
  rw [e1]
  simp only [aa,seval,CZ]
  exact hk _ _ A' ((Ext.refl h).cM e3 (by omega) (by omega)) (by simpa using e2)
 .simp only [aa,seval,CZ]
  rw [jz rfl] at hk
  exact hk _ _ _ ((Ext.refl h).kN _ _ (by omega)) (Ow.nil (bj _))
theorem _root_.Go.Am.Ow.down {Z:Type} {r:aM Z} {h0 h1:Heap} {e:TypeId} {A:Nat} {l:List Z} (f:Ow r h1 h e A v l) (i:h0.size<=h1.size):Ow r h0 h e A v l:=by
 rcases f with ⟨e1,e2,e3⟩|⟨row,e1,e2,e3,e4⟩
 .refine .inl ⟨by omega,e2,?_⟩
  rcases e3 with e3|⟨B,o,g1,g0,g2⟩
  .exact .inl e3
  .exact .inr ⟨B,o,g1,by omega,g2⟩
 .exact .inr ⟨row,e1,e2,by omega,e4⟩
theorem zCZ:dg aD 28=some 7:=by kernel_rfl
theorem zEU (p0 p1 p2 p5 p6:ab) (q b:Int):(du p0 p1 p2 p5 p6 q b)[3]? = some (.int .i64 q):=rfl
theorem zCf (a0 a1) (n0 n1 c0 c1:Nat) (q:Int):qp aD 28 [(0,.slice a0 n0 c0),(1,.slice a1 n1 c1),(3,.int .i64 q)]=some (fI (.slice a0 n0 c0) (.slice a1 n1 c1) (.slice none 0 0) (.slice none 0 0) (.slice none 0 0) q 0):=by kernel_rfl
theorem zwT (d:aq) (p0 p1 p2 p5 p6:ab) (q b:Int) (h:Heap) (bf:(du p0 p1 p2 p5 p6 q b).all Am.one=true) (s0:Sl aM.str h p0 d.ah) (s1:Sl aM.pred h p1 d.bZ) (oF:d.ah.length<=100000) (IG:d.bZ.length<=100000) (K:aF)
 (hk:∀ h' v0 v1 A0 A1,Ext h h'->Ow aM.str h h' 9 A0 v0 d.ah->Ow aM.pred h h' 62 A1 v1 d.bZ->K (fI v0 v1 (.slice none 0 0) (.slice none 0 0) (.slice none 0 0) q 0) h'):Ok prog aD ov 45 [fI p0 p1 p2 p5 p6 q b] h K:=by
 rw [ao h]
 have z:=Ext.refl h
 refine Ok.aw 11 (bq N45) ?_
 simp only [aa,seval,Fh,gZ]
 with_reducible first|refine dL (by simp only [Fh]) z.aA ?_
 have oI:∀ (h:Heap) (K:aF),aC (some p0) h K=K p0 h:=λ_ _=>rfl
 have kT:∀ (h:Heap) (K:aF),aC (some p1) h K=K p1 h:=λ_ _=>rfl
 simp only [aa,seval,Fh,eM,oI]
 refine zua d.ah p0 _ (s0.lay _ _) oF _ (λh' v0 A0 x o0=>?_)
 have q0:=Holds.top (i:=0) x rfl
 have q1:=Holds.top (i:=1) x rfl
 have f0:=o0.fresh
 rw [bc] at f0
 simp only [dn,dN] at f0
 replace o0:=o0.down (h0:=h) (by rw [bc];omega)
 (((with_reducible refine cU ?_ ?_ ?_);(· exact (by (simp only [ck]);have:=z.size;omega));(· exact x));replace z:=z.an x;replace s1:=s1.over x;rw [ao h'])
 simp only [aa,seval,Fh,q0.lay,ft,kT]
 refine zt9 d.bZ p1 _ (s1.lay _ _) IG _ (λh' v1 A1 x o1=>?_)
 have f1:=o1.fresh
 have hq1:=q1.lt
 rw [bc] at f1
 replace o1:=o1.down (h0:=h) (by rw [bc];have:=z.size;omega)
 (((with_reducible refine cU ?_ ?_ ?_);(· exact (by (simp only [ck]);have:=z.size;omega));(· exact x));replace z:=z.an x;replace q0:=q0.over x;replace q1:=q1.over x;replace o0:=o0.over x;rw [ao h'])
 obtain ⟨a0,n0,c0,rfl⟩:=o0.slice
 obtain ⟨a1,n1,c1',rfl⟩:=o1.slice
 simp only [aa,seval,Fh,q0.lay,zEU,zCf,eI]
 refine Hl q1 zCZ (vs:=du (.slice a0 n0 c0) (.slice a1 n1 c1') (.slice none 0 0) (.slice none 0 0) (.slice none 0 0) q 0) rfl rfl (by simp []) rfl (λh3 q3 c3=>?_)
 replace q3:Holds h3 (h.size+1) (.row (du (.slice a0 n0 c0) (.slice a1 n1 c1') (.slice none 0 0) (.slice none 0 0) (.slice none 0 0) q 0) 28 false):=q3
 have hz:=z.size
 refine og (A:=h.size+1) (by kernel_rfl) (by rw [bc];omega) (by omega) (by simpa only [bM,bc,bu,dn,dN,iU] using c3) ?_
 have z3:=(z.kN [] (h'.size+0) (by omega)).step c3 (by omega)
 replace o0:=(o0.lay [] (h'.size+0)).turn (λ_ _ _ _ q=>q) c3 (by omega) q3
 replace o1:=(o1.lay [] (h'.size+0)).turn (λ_ _ _ _ q=>q) c3 (by omega) q3
 clear q0 q1 z s1
 have z:=z3
 rw [ao h3]
 simp only [lx,seval,Fh]
 ((with_reducible refine ⟨z.cn.lay _ _,?_⟩);(intro _ h4 zz x _);(simp only [bM,bu] at x))
 replace o0:=o0.over x
 replace o1:=o1.over x
 replace q3:=q3.over x
 clear z
 have z:=zz
 rw [ao h4]
 simp only [aa,seval,Fh,q3.lay,↓fA,eV,eI]
 exact hk _ _ _ _ _ z.aA (o0.lay _ _) (o1.lay _ _)
end Go.Proofs.YtiapegieocgmfaaGreatDoor

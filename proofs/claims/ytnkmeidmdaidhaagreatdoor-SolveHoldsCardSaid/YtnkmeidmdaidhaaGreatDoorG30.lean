/- Walks: bindings of their own: Am.one more, a copy, a variable zhn, a pattern and an atom. Written out by fill2.py. No condition. -/
import Derived.Test.YtnkmeidmdaidhaaGreatDoorG28
import Derived.Test.YtnkmeidmdaidhaaGreatDoorG29
set_option linter.unusedSimpArgs false
set_option linter.unusedVariables false
namespace Go.Proofs.YtnkmeidmdaidhaaGreatDoor
open Go.Am Tryz
set_option maxRecDepth 100000
set_option maxHeartbeats 0
theorem zr9 (l:List av) (v:ai) (b:av) (h:Heap) (hl:Sl aG.bind h v l) (hs:l.length<=1000) (hR:lG l l.length) (K:aO)
 (hk:∀ h' w,Ext h h'->jF aG.bind h h' 134 w (j9 l b)->K w h'):Ok prog aJ ov 103 [v,b.val] h K:=by
 rw [az h]
 have z:=Ext.refl h
 have hc:v.cells.toList=[v]:=OU hl
 have dg:∀ (h:Heap) (K:aO),aM (some v) h K=K v h:=λ_ _=>rfl
 refine Ok.aF 19 (bY Cr) ?_
 simp only [aa,seval,gu,hc,dg,zlg]
 repeat' ((with_reducible refine rF (hl.mono z.inc) dx ?_) <;> simp only [aa,seval,gu])
 refine Wb l.length hs _ (λi=>match l[i]? with|some x=>slt b.var x.var|none=>false) _ (λi dO K' hi xe je=>?_) _ (λda i x hi gx oC=>?_)
 .rw [Eu]
  have KX:=z.au xe
  exact zr8 l v b i _ _ dO (hl.mono KX.inc) hs hi (ak.top (i:=0) xe rfl) (ak.top (i:=1) xe rfl) K' je
 have q0:=ak.top (i:=0) x rfl
 have q1:=ak.top (i:=1) x rfl
 (replace z:=z.au x;rw [az da])
 have hw:=zsF (b:=b) hR hi gx oC
 rw [hw] at hk
 clear gx oC
 simp only [aa,seval,gu]
 refine (eF (by simp only [gu])) z.aw ?_
 simp only [aa,seval,gu,q0.lay,dg]
 repeat' ((with_reducible refine zov (hl.mono z.inc) dx mx (by omega) (λbase hb=>?_)) <;> simp only [aa,seval,gu,q1.lay,↓zrG,zrt,OA])
 simp only [aa,seval,Om]
 refine nL (by have:=z.size;omega) (by omega) ?_
 simp only [cv,seval,gu,lF,Fl]
 have hz:=z.size
 have hlen:(l.take i).length=i:=by rw [gR];omega
 have lB:Sl aG.bind (da.lay [aZ.row b.cells 134 false] (da.size+1)) (.slice base (l.take i).length (l.take i).length) (l.take i):=by rw [hlen];exact hb.lay _ _
 obtain ⟨jo,mh⟩:=GM (A:=(da.lay [aZ.row b.cells 134 false] (da.size+1)).size) (r:=aG.bind) (c:=1) (y:=b) (by decide) (show (da.lay [aZ.row b.cells 134 false] (da.size+1)).get (da.size+0)=some (.row b.cells 134 false) by rw [kE];rfl) rfl
 rw [LW (aQ _)] at mh
 obtain ⟨w1,h',e1,o1,x⟩:=zrv (h0:=h) (t:=95) dx zN rfl (by decide) (by rw [br];omega) lB jo mh (by omega) (by omega) (by omega)
 rw [hlen] at e1
 rw [e1]
 refine fP (by simp only [br,eB,dK];omega) (by simpa only [bS,br,bD,eB,dK,i5] using x) ?_
 (replace z:=z.au x;replace q0:=q0.over x;rw [az h'])
 simp only [aa,seval,gu,q0.lay,dg]
 repeat' ((with_reducible refine On (hl.mono z.inc) (by decide) dx mx (by omega) (λw2 ic=>?_)) <;> simp only [cv,seval,gu])
 simp only [cv,seval,lF,Fl]
 have AP:(da.lay [aZ.row b.cells 134 false] (da.size+1)).size=da.size+1:=by rw [br];rfl
 rw [AP] at o1
 obtain ⟨news,eE,wj⟩:=zZ (A:=da.size+1) (h:=h'.lay [] (h'.size+0)) (r:=aG.bind) (by decide) (ic.lay _ _) (λcs y hr=>hr)
 have yW:(l.take i++[b]).length=i+1:=by rw [cT,hlen];rfl
 have S7:(l.drop i).length<=1000:=by rw [mB];omega
 have JS:=z.size
 obtain ⟨w3,h3,A3,e3,o3,c3,e4,e5⟩:=xc (t:=95) dx zN rfl (by decide) (by rw [br];omega) (o1.mono (bP.lay _ _ _)) eE wj (by rw [yW];omega) (by rw [yW];omega)
 rw [e3]
 simp only [syms,seval]
 refine i3 (A:=da.size+1) (by kernel_rfl) (by rw [br];omega) (by omega) (by simpa only [bS,br,bD,eB,dK,i5] using c3) ?_
 replace z:=(z.jK [] (h'.size+0) (by omega)).step c3 (by omega)
 rw [az h3]
 repeat' (first|simp only [aa,seval,gu]|((with_reducible refine ⟨z.cS.lay _ _,?_⟩);(intro _ h' zz x _);(simp only [bS,bD] at x);replace o3:=o3.over x;(replace z:=zz);(clear zz);rw [az h']))
 exact hk _ _ z.aw (by have:=(jF.lay ⟨_,o3⟩ [] h'.low:jF aG.bind h _ 134 _ _);simpa only [sE,List.singleton_append] using this)
theorem zyg (l:List av) (v:ai) (s:aV) (t:ay) (h:Heap) (hl:Sl aG.bind h v l) (hs:l.length<=900) (K:aO)
 (hk:∀ h' w e,Ext h h'->(iN l s t=none->e≠0)->(∀ m,iN l s t=some m->e=0/\jF aG.bind h h' 134 w m)->K (.tuple #[w,.int .i64 e]) h'):Ok prog aJ ov 93 [v,.string s,t.val] h K:=by
 rw [az h]
 have z:=Ext.refl h
 rcases hg:bx l s with ⟨⟨tv,ts⟩,pb⟩
 obtain ⟨x,hx⟩:∃ x,x=b9 l t:=⟨_,rfl⟩
 rcases x with ⟨xv,xs⟩
 unfold iN at hk
 rw [hg,<- hx] at hk
 refine Ok.aF 41 (bY PF) ?_
 simp only [aa,seval,jm,ay.val,ay.cells]
 repeat' ((first|((with_reducible first|apply cm|apply oQ|apply su|apply Ag|apply zW) <;> intro _)|with_reducible refine On (hl.mono z.inc) (by decide) dx mx (by omega) (λw2 ic=>?_)|((with_reducible refine ⟨z.cS.lay _ _,?_⟩);(intro _ h' zz x _);(first|simp only [bS,bD] at x|skip);(first|replace o3:=o3.over x|skip);(replace z:=zz);(clear zz);rw [az h'])) <;> simp only [aa,seval,jm])
 refine GC l _ _ (hl.lay _ _) (by omega) _ (λh' e x he=>?_)
 have q0:=ak.top (i:=0) x rfl
 (replace z:=z.au x;rw [az h'])
 simp only [aa,seval,jm]
 refine Ps ?_ ?_
 .intro aL
  simp only [aa,seval,jm]
  have ki:¬ dX l:=λhh=>aL (he.2 hh)
  rw [aB ki] at hk
  exact hk _ _ _ z.aw (λ_=>by decide) (λm hm=>by cases hm)
 intro vx
 have hC:=he.1 vx
 rw [aA (by simpa using hC)] at hk
 repeat' (simp only [aa,seval,jm])
 refine EX l _ s _ ((hl.mono z.inc).lay _ _) (by omega) _ (λh' x=>?_)
 rw [hg]
 (replace z:=z.au x;replace q0:=q0.over x;rw [az h'])
 simp only [aa,seval,jm,ay.val,ay.cells]
 repeat' ((first|((with_reducible first|apply cm|apply oQ|apply su|apply Ag|apply zW) <;> intro _)|with_reducible refine On (hl.mono z.inc) (by decide) dx mx (by omega) (λw2 ic=>?_)|((with_reducible refine ⟨z.cS.lay _ _,?_⟩);(intro _ h' zz x _);(first|simp only [bS,bD] at x|skip);(first|replace q0:=q0.over x|skip);(replace z:=zz);(clear zz);rw [az h'])) <;> simp only [aa,seval,jm,GI,iw,iy,jt,Am.one,G7,Bool.true_and,iv,fW,Ce,Ki,Bw,UQ,ij,nb,ry,Eg,Al,q0.lay,ay.val,ay.cells])
 refine sx (λDE=>?_) (λDE=>?_)
 all_goals
  subst DE
  repeat' (simp only [aa,seval,jm,iw,iy,jt,Am.one,iv,fW,ij,q0.lay])
  refine ES l v t _ ((hl.mono z.inc).lay _ _) (by omega) _ (λh' x=>?_)
  rw [<- hx]
  (replace z:=z.au x;replace q0:=q0.over x;rw [az h'])
  repeat' (first|simp only [aa,seval,jm,iw,iy,jt,Am.one,iv,fW,Al,q0.lay,ay.val,ay.cells,znU]|((with_reducible apply cm) <;> intro _))
 all_goals try
  ((with_reducible refine hk _ _ _ z.aw ?_ ?_) <;> (clear hk;intros;first|decide|(exfalso;simp_all)))
 have h1:¬ (s=⟨#[]⟩\/t.s=⟨#[]⟩):=by simp [*]
 rw [aA h1,aA (by simp)] at hk
 refine W7 ⟨s,⟨xv,xs⟩⟩ _ _ (λh' x=>?_)
 have q1:=ak.top (i:=0) x rfl
 (replace z:=z.au x;replace q0:=q0.over x;rw [az h'])
 cases vS:kZ ⟨s,⟨xv,xs⟩⟩
 rotate_left
 .repeat' ( simp only [aa,seval,jm])
  rw [aB vS] at hk
  exact hk _ _ _ z.aw (λ_=>by decide) (λm hm=>by cases hm)
 rw [aA (by rw [vS];decide)] at hk
 repeat' (simp only [aa,seval,jm])
 refine (eF (by simp only [jm])) z.aw ?_
 repeat' (simp only [aa,seval,jm,q1.lay])
 refine nL (by have:=z.size;omega) (by omega) ?_
 simp only [aa,seval,jm]
 refine zr6 l [⟨s,⟨xv,xs⟩⟩] v _ _ ((hl.mono z.inc).lay _ _) (zss (b:=⟨s,⟨xv,xs⟩⟩)) (by omega) (by simp) _ (λh' u x hu=>?_)
 (((with_reducible refine fP ?_ ?_ ?_);(· exact (by (simp only [gh]);have:=z.size;omega));(· exact x));replace z:=z.au x;replace q1:=q1.over x;rw [az h'])
 repeat' (simp only [aa,seval,jm,q1.lay])
 have hz9:=z.size
 refine zr9 (gm l [⟨s,⟨xv,xs⟩⟩]) u ⟨s,⟨xv,xs⟩⟩ _ (hu.lay _ _) (by unfold gm;rw [gq];omega) (Og hC.1) _ (λh' w x hw=>?_)
 (((with_reducible refine fP ?_ ?_ ?_);(· exact (by (simp only [gh]);have:=z.size;omega));(· exact x));replace z:=z.au x;replace q1:=q1.over x;rw [az h'])
 repeat' (first|simp only [aa,seval,jm]|((with_reducible refine ⟨z.cS.lay _ _,?_⟩);(intro _ h' zz x _);(simp only [bS,bD] at x);replace hw:=hw.over x;(replace z:=zz);(clear zz);rw [az h']))
 exact hk _ _ _ z.aw (λhm=>by cases hm) (λm hm=>by cases hm;exact ⟨rfl,(hw.low (by first|omega|(simp only [br];omega))).lay _ _⟩)
end Go.Proofs.YtnkmeidmdaidhaaGreatDoor
namespace Go.Am
variable {n o:Nat} {cs vs:List ai}
structure aR (D:List Nat) (h h':Heap):Prop where
 size:h.size<=h'.size
 get:∀ B,B < h.size->B ∉ D->h'.get B=h.get B
section
variable {D D':List Nat} {a b c h h1 h2:Heap} {A B w:Nat} {bs:List aZ} {k:aZ}
theorem aR.refl (D:List Nat) (h:Heap):aR D h h:=⟨aQ _,λ_ _ _=>rfl⟩
theorem Ext.bf (x:Ext a b) (D:List Nat):aR D a b:=⟨x.size,λB hB _=>x.get B hB⟩
theorem fc.bf (x:fc A a b) (hA:A∈D):aR D a b:=⟨x.size,λB hB hD=>x.get B hB (λe=>hD (e ▸ hA))⟩
theorem aR.lay (a:Heap) (bs:List aZ) (w:Nat) (D:List Nat):aR D a (a.lay bs w):=⟨by rw [br];omega,λB hB _=>sd a bs w hB⟩
theorem aR.trans (f:aR D a b) (g:aR D' b c) (hD:∀ B∈D',B∈D\/a.size<=B):aR D a c :=
 ⟨dZ f.size g.size,λB hB hn=>(g.get B (dt hB f.size) (λhh=>(hD B hh).elim hn (λe=>by omega))).trans (f.get B hB hn)⟩
theorem aR.over (f:aR D a h1) (x:Ext (h1.lay bs w) h2):aR D a h2:=(f.trans (aR.lay h1 bs w []) (λ_ h=>nomatch h)).trans (x.bf []) (λ_ h=>nomatch h)
theorem aR.eN (f:aR D a h1) (x:fc A (h1.lay bs w) h2) (hA:A∈D\/a.size<=A):aR D a h2 :=
 (f.trans (aR.lay h1 bs w []) (λ_ h=>nomatch h)).trans (x.bf (D:=[A]) (by simp)) (λB hB=>by rw [eM.1 hB];exact hA)
theorem aR.mono (f:aR D a b) (hs:∀ B∈D,B∈D'):aR D' a b:=⟨f.size,λB hB hn=>f.get B hB (λh=>hn (hs B h))⟩
theorem ak.bf (q:ak a B k) (f:aR D a b) (hB:B ∉ D):ak b B k:=⟨dt q.lt f.size,(f.get B q.lt hB).trans q.get⟩
theorem aR.all (f:aR [] a b):bP a b:=⟨f.size,λB hB _=>f.get B hB (by simp)⟩
theorem ak.H9 (q:ak a B k) (f:aR [] a b):ak b B k:=⟨dt q.lt f.size,(f.get B q.lt (by simp)).trans q.get⟩
def bp:List Nat->Heap->Heap
 | [],h=>h
 |A::D,h=>kill A (bp D h)
theorem wU:∀ (D:List Nat) (h:Heap),(bp D h).size=h.size
 | [],_=>rfl
 |A::D,h=>by unfold bp;rw [rC,wU D h]
theorem ui:∀ (D:List Nat) (h:Heap),bP (bp D h) h
 | [],h=>bP.refl h
 |A::D,h=>(GB A _).trans (ui D h)
theorem EB:∀ {D:List Nat} {h:Heap} {B:Nat},B ∉ D->(bp D h).get B=h.get B
 | [],_,_,_=>rfl
 |A::D,h,B,hn=>by
  unfold bp
  rw [ur (λe=>hn (by rw [e];exact nU)),EB (λhh=>hn (rN _ hh))]
theorem V5:∀ {D:List Nat} {h:Heap} {B:Nat},B∈D->B < h.size->(bp D h).get B=some .dead
 |A::D,h,B,hm,hB=>by
  unfold bp
  by_cases he:B=A
  .subst he;exact EC (by rw [wU];exact hB)
  .rw [ur he]
   exact V5 ((db.1 hm).resolve_left he) hB
theorem aR.inc (f:aR D a b) (hD:∀ B∈D',B∈D\/a.size<=B):bP (bp D a) (bp D' b):=by
 refine ⟨by rw [wU,wU];exact f.size,λB hB hd=>?_⟩
 rw [wU] at hB
 have hn:B ∉ D:=λhh=>hd (V5 hh hB)
 rw [EB hn,EB (λhh=>(hD B hh).elim hn (λe=>by omega))]
 exact f.get B hB hn
end
theorem Ow.bp {Z:Type} {r:aG Z} {h0 h:Heap} {e:TypeId} {A:Nat} {v:ai} {l:List Z} {D:List Nat} (f:Ow r h0 h e A v l) (dP:∀ h h' cs x,r.R h cs x->r.R h' cs x) (hk:0 < r.k) (hD:∀ B∈D,B < h0.size):Sl r (bp D h) v l:=by
 have gz:∀ {B},h0.size<=B->B ∉ D:=λhB hh=>by have:=hD _ hh;omega
 rcases f with ⟨_,rfl,rfl|⟨B,o,rfl,g0,g2,row,u,ro,g3⟩⟩|⟨row,e1,e2,e3,e4,e5,e6,e7,e8⟩
 .exact .nil
 .exact .inr ⟨B,o,0,row,u,ro,rfl,jl _,.inl ⟨by unfold G;omega,aQ _⟩,by rw [wU];exact g2,by rw [EB (gz g0)];exact g3,λi x hx=>by simp at hx⟩
 .obtain ⟨c1,c2,c3⟩:=BZ (k:=r.k) (q:=l.length) hk (by unfold G;omega)
  refine .inr ⟨A,0,_,row,e,false,e1,by unfold maxLen;omega,.inr ⟨by omega,c3,by omega⟩,by rw [wU];exact e4,by rw [EB (gz e3)];exact e5,λi x hx=>?_⟩
  obtain ⟨cs,g1,g2⟩:=e8 i x hx
  exact ⟨cs,by simpa using g1,dP _ _ _ _ g2⟩
theorem Ow.turn {Z:Type} {r:aG Z} {h0 h h':Heap} {e:TypeId} {A C:Nat} {v:ai} {l:List Z} {row:List ai} {u:TypeId} {ro:Bool} (dP:∀ h h' cs x,r.R h cs x->r.R h' cs x) (f:Ow r h0 h e A v l) (c:fc C h h') (hC:C≠A) (q:ak h' C (.row row u ro)):Ow r h0 h' e A v l:=by
 rcases f with ⟨e1,e2,e3⟩|⟨row,e1,e2,e3,e4,e5,e6,e7,e8⟩
 .refine .inl ⟨e1,e2,?_⟩
  rcases e3 with e3|⟨B,o,g1,g0,g2,oM,u2,ro2,g3⟩
  .exact .inl e3
  .refine .inr ⟨B,o,g1,g0,dt g2 c.size,?_⟩
   by_cases hB:B=C
   .subst hB;exact ⟨_,_,_,q.get⟩
   .exact ⟨oM,u2,ro2,by rw [c.get B g2 hB];exact g3⟩
 .refine .inr ⟨row,e1,e2,e3,dt e4 c.size,by rw [c.get A e4 (Ne.symm hC)];exact e5,e6,e7,λi x hx=>?_⟩
  obtain ⟨cs,g1,g2⟩:=e8 i x hx
  exact ⟨cs,g1,dP _ _ _ _ g2⟩
def iV {Z:Type} (k:Nat) (cell:Z->List ai) (h:Heap) (u:TypeId) (A:Nat) (v:ai) (l:List Z):Prop :=
 (v=.slice none 0 0/\l=[])\/∃ (q:Nat) (row:List ai),v=.slice (some ⟨A,0,none⟩) l.length (G*k+q)/\ak h A (.row row u false)/\row.length=q*k/\l.length<=q/\q<=1000000000/\∀ (i:Nat) (x:Z),l[i]? = some x->cut row (i*k) k=some (cell x)
section
variable {Z:Type} {k:Nat} {cell:Z->List ai} {h h1 h2:Heap} {u:TypeId} {A:Nat} {v:ai} {l:List Z} {T:bN} {t e:TypeId} {K:aO} {bs:List aZ} {w i:Nat} {x y:Z} {kd:IntKind}
theorem iV.nil:iV k cell h u A (.slice none 0 0) []:=.inl ⟨rfl,rfl⟩
theorem iV.hold (f:iV k cell h u A v l) (hO:∀ b,ak h A b->ak h1 A b):iV k cell h1 u A v l:=by
 rcases f with f|⟨q,row,e1,e2,e3⟩
 .exact .inl f
 .exact .inr ⟨q,row,e1,hO _ e2,e3⟩
theorem iV.over (f:iV k cell h1 u A v l) (x:Ext (h1.lay bs w) h2):iV k cell h2 u A v l:=f.hold λb q=>q.over x
theorem iV.lay (f:iV k cell h1 u A v l) (bs:List aZ) (w:Nat):iV k cell (h1.lay bs w) u A v l:=f.hold λb q=>q.on bs w
theorem iV.bB {B:Nat} (f:iV k cell h1 u A v l) (c:fc B (h1.lay bs w) h2) (aL:A≠B):iV k cell h2 u A v l:=f.hold λb q=>q.bB c aL
theorem iV.bf {D:List Nat} (f:iV k cell h1 u A v l) (c:aR D h1 h2) (aL:A ∉ D):iV k cell h2 u A v l:=f.hold λb q=>q.bf c aL
theorem iV.bW (f:iV k cell h u A v l) (hd:T.desc t=some (.slice e)) (h2:Heap):Am.bW T t v h2=some (.int .i64 l.length):=by
 rcases f with ⟨rfl,rfl⟩|⟨q,row,rfl,_⟩
 .simp [Am.bW,hd]
 .simp [Am.bW,hd]
theorem iV.shape (f:iV k cell h u A v l):∃ a n c,v=.slice a n c:=by
 rcases f with ⟨rfl,rfl⟩|⟨q,row,rfl,_⟩
 .exact ⟨_,_,_,rfl⟩
 .exact ⟨_,_,_,rfl⟩
theorem iV.row (f:iV k cell h u A v l) (hx:l[i]? = some x):∃ row,ak h A (.row row u false)/\cut row (i*k) k=some (cell x):=by
 rcases f with ⟨_,rfl⟩|⟨q,row,rfl,e2,e3,e4,e5,e6⟩
 .simp at hx
 .exact ⟨row,e2,e6 i x hx⟩
theorem iV.at (hk:∀ x,(cell x).length=k) (f:iV k cell h u A v l) (hx:l[i]? = some x):gJ h (.pointer (some ⟨A,i*k,none⟩)) (cell x):=by
 obtain ⟨row,q,c⟩:=f.row hx
 exact ⟨A,_,row,u,false,rfl,q.lt,q.get,by rw [hk];exact c⟩
theorem iV.lt (f:iV k cell h u A v l) (aL:l≠[]):A < h.size:=by
 rcases f with ⟨_,rfl⟩|⟨q,row,rfl,e2,_⟩
 .exact absurd rfl aL
 .exact e2.lt
theorem VO (hb:o+vs.length<=cs.length) (j:Nat):(aI cs o vs)[j]? = if j < o then cs[j]? else if j < o+vs.length then vs[j - o]? else cs[j]? := by
 unfold aI
 rw [sE,Aj,gR,Nat.min_eq_left (by omega)]
 by_cases h1:j < o
 .rw [aB h1,aB h1,qF,aB h1]
 .rw [aA h1,aA h1,Aj]
  by_cases h2:j < o+vs.length
  .rw [aB (by omega),aB h2]
  .rw [aA (by omega),aA h2,lJ]
   congr 1
   omega
theorem zg6 (hb:o+vs.length<=cs.length):(aI cs o vs).length=cs.length:=by
 unfold aI;rw [cT,cT,gR,mB];omega
theorem zjj {row:List ai} {off:Nat} (hc:cut row o n=some cs) (hb:off+vs.length<=n):cut (aI row (o+off) vs) o n=some (aI cs off vs):=by
 unfold cut at hc ⊢
 split at hc
 .rename_i hle
  simp only [dR] at hc
  have jd:cs.length=n:=by rw [<- hc,gR,mB];omega
  rw [aB (by rw [zg6 (by omega)];exact hle)]
  congr 1
  apply xi
  intro j
  rw [qF,lJ,VO (by omega),VO (by omega),<- hc,qF,lJ]
  by_cases hj:j < n
  .rw [aB hj,aB hj]
   by_cases h1:j < off
   .rw [aB (by omega),aB h1]
   .rw [aA (by omega),aA h1]
    by_cases h2:j < off+vs.length
    .rw [aB (by omega),aB h2]
     congr 1
     omega
    .rw [aA (by omega),aA h2]
  .rw [aA hj,aA hj,aA (by omega),aA (by omega)]
 .cases hc
theorem zeM {row:List ai} {o2:Nat} (hc:cut row o n=some cs) (hb:o2+vs.length<=row.length) (hd:o+n<=o2\/o2+vs.length<=o):cut (aI row o2 vs) o n=some cs:=by
 unfold cut at hc ⊢
 split at hc
 .rename_i hle
  simp only [dR] at hc
  rw [aB (by rw [zg6 hb];exact hle),<- hc]
  congr 1
  apply xi
  intro j
  rw [qF,qF,lJ,lJ,VO hb]
  by_cases hj:j < n
  .rw [aB hj,aB hj]
   rcases hd with hd|hd
   .rw [aB (by omega)]
   .rw [aA (by omega),aA (by omega)]
  .rw [aA hj,aA hj]
 .cases hc
theorem iV.store {off:Nat} {val:ai} (jI:∀ x,(cell x).length=k) (f:iV k cell h1 u A v l) (hx:l[i]? = some x) (hs:dF T t=some n) (oE:off+n<=k) (hv:val.cells.toList=vs) (hl:vs.length=n) (cF:vs.all one=true) (hy:aI (cell x) off vs=cell y)
 (hK:∀ h',iV k cell h' u A v (l.set i y)->fc A (h1.lay bs w) h'->K undef h'):kX (iQ T t (.pointer (some ⟨A,i*k+off,none⟩)) val (h1.lay bs w)) K:=by
 have hi:i < l.length:=(fR.1 hx).1
 rcases f with ⟨_,rfl⟩|⟨q,row,rfl,e2,e3,e4,e5,e6⟩
 .simp at hi
 have hb:i*k+off+n<=row.length:=by
  rw [e3]
  calc i*k+off+n<=i*k+k:=by omega
   _=(i+1)*k:=by rw [uK]
   _<=q*k:=tN _ (by omega)
 have hg:(h1.lay bs w).get A=some (.row row u false):=e2.lay bs w
 have hA:A < (h1.lay bs w).size:=(e2.on bs w).lt
 have dV:val.cells.size=n:=by rw [<- hl,<- hv];simp
 have he:iQ T t (.pointer (some ⟨A,i*k+off,none⟩)) val (h1.lay bs w)=some ((h1.lay bs w).set A (.row (aI row (i*k+off) vs) u false)):=by
  unfold iQ
  simp only [hs,dH]
  rw [aB dV,hv]
  unfold nQ
  rw [hg]
  simp only
  rw [aB (by simp only [dW,ix];exact ⟨by omega,cF⟩)]
 rw [he]
 refine hK _ (.inr ⟨q,aI row (i*k+off) vs,by rw [iS],Oo hA,?_,by rw [iS];exact e4,e5,λj z hz=>?_⟩) (LO hA)
 .unfold aI;rw [cT,cT,gR,mB];omega
 .rw [G1] at hz
  by_cases fk:i=j
  .rw [aB fk,aB hi] at hz
   cases hz
   rw [<- fk,<- hy]
   exact zjj (e6 i x hx) (by omega)
  .rw [aA fk] at hz
   refine zeM (e6 j z hz) (by omega) ?_
   rcases Nat.lt_or_gt_of_ne fk with h|h
   .right
    have:(i+1)*k<=j*k:=tN _ (by omega)
    rw [uK] at this
    omega
   .left
    have:(j+1)*k<=i*k:=tN _ (by omega)
    rw [uK] at this
    omega
theorem zvf {q:Nat} (hk:0 < k) (hq:q<=1000000000):(G*k+q) % G=q/\(G*k+q) / G=k/\G<=G*k+q:=by
 have hG:1000000000 < G:=by unfold G;omega
 refine ⟨?_,?_,?_⟩
 .rw [Nat.mul_add_mod,Cj (by omega)]
 .rw [Nat.mul_add_div (by omega),Nat.div_eq_of_lt (by omega),gS]
 .have:G*1<=G*k:=Nat.mul_le_mul_left _ hk
  omega
theorem iV.app {bytes j:Nat} {z:List ai} {u2:TypeId} {ro:Bool} {c:Nat} (jI:∀ x,(cell x).length=k) (jw:(cell x).all one=true) (hk:0 < k) (hd:T.desc t=some (.slice u)) (hi:T.info u=some (k,bytes,z)) (f:iV k cell h1 u A v l) (hg:bs[j]? = some (.row (cell x) u2 ro)) (hl:l.length < 900000000) (hb:(l.length+1)*bytes<=140737488355328)
 (hK:∀ v' h' A',iV k cell h' u A' v' (l++[x])->(A'=A/\A < h1.size\/A'=(h1.lay bs w).size)->(v=.slice none 0 0->Ext (h1.lay bs w) h')->(A < h1.size->fc A (h1.lay bs w) h')->K v' h') :
 dz (j4 T t v (.slice (some ⟨h1.size+j,0,none⟩) 1 c) (h1.lay bs w)) K:=by
 have td:(h1.lay bs w).get (h1.size+j)=some (.row (cell x) u2 ro):=by rw [kE];exact hg
 have FL:j < bs.length:=(fR.1 hg).1
 have hs:fO (.slice (some ⟨h1.size+j,0,none⟩) 1 c) k (h1.lay bs w)=some (1,cell x):=by
  unfold fO mJ
  simp only [Nat.one_mul]
  rw [aA (by omega)]
  unfold kA
  rw [td]
  simp only
  unfold cut
  rw [aB (by rw [jI];omega),Fi,iR (by rw [jI];exact aQ _)]
  rfl
 have mb:∀ (h2:Heap) (row:List ai),row.length=(l.length+1)*k->(∀ (i:Nat) (y:Z),(l++[x])[i]? = some y->cut row (i*k) k=some (cell y)) ->
  iV k cell (h2.push (.row row u false)) u h2.size (.slice (some ⟨h2.size,0,none⟩) (l.length+1) (G*k+(l.length+1))) (l++[x]):=λh2 row e1 e2 =>
  .inr ⟨l.length+1,row,by rw [cT];rfl,⟨by rw [Heap.size_push];omega,by rw [Heap.bH,aB rfl]⟩,e1,by rw [cT];exact aQ _,by omega,e2⟩
 rcases f with ⟨rfl,rfl⟩|⟨q,row,rfl,e2,e3,e4,e5,e6⟩
 .have key:=zuX hd hi hk hs (by omega) jw (by simpa using hb) (by omega)
  rw [key]
  refine hK _ _ _ (mb _ (cell x) (by rw [jI];simp) (λi y hy=>?_)) (.inr rfl) (λ_=>?_) (λhA=>?_)
  .cases i with
   |zero =>
    simp at hy
    subst hy
    unfold cut
    rw [aB (by rw [jI];omega),Nat.zero_mul,Fi,iR (by rw [jI];exact aQ _)]
   |succ i=>simp at hy
  .exact Ext.push _ _
  .exact (Ext.push _ _).eN
 .obtain ⟨c1,c2,c3⟩:=zvf (k:=k) (q:=q) hk e5
  have mV:(h1.lay bs w).get A=some (.row row u false):=e2.lay bs w
  have hA:A < (h1.lay bs w).size:=(e2.on bs w).lt
  unfold j4
  simp only [hd,hi,hs,dH]
  rw [aA (by omega),aA (by
   simp only [sF,ix,yi,not_or]
   refine ⟨⟨⟨by omega,by omega⟩,by omega⟩,by rw [jw];decide⟩),c1]
  by_cases hq:l.length+1<=q
  .rw [aB hq,aB (by simp [c2])]
   have ic:0+l.length*k+(cell x).length<=row.length:=by
    rw [e3,jI]
    have:(l.length+1)*k<=q*k:=tN _ hq
    rw [uK] at this
    omega
   have hw:nQ A (0+l.length*k) (cell x) (h1.lay bs w)=some ((h1.lay bs w).set A (.row (aI row (0+l.length*k) (cell x)) u false)):=by
    unfold nQ
    rw [mV]
    simp only
    rw [aB (by simp only [dW,ix];exact ⟨ic,jw⟩)]
   rw [hw]
   refine hK _ _ A (.inr ⟨q,aI row (0+l.length*k) (cell x),by rw [cT];rfl,Oo hA,?_,by rw [cT];exact hq,e5,λj z hz=>?_⟩) (.inl ⟨rfl,e2.lt⟩) (λh=>by cases h) (λ_=>LO hA)
   .unfold aI;rw [cT,cT,gR,mB];omega
   .rw [i5] at ic ⊢
    rw [Aj] at hz
    by_cases hj:j < l.length
    .rw [aB hj] at hz
     refine zeM (e6 j z hz) ic (.inl ?_)
     have:(j+1)*k<=l.length*k:=tN _ hj
     rw [uK] at this
     exact this
    .rw [aA hj] at hz
     have FL:j=l.length:=by
      have:=(fR.1 hz).1
      simp only [jk] at this
      omega
     subst FL
     rw [tQ,Cb] at hz
     cases hz
     unfold cut aI
     rw [aB (by rw [cT,cT,gR,mB,jI];rw [jI] at ic;omega),sE,Me,gR,B8 (by rw [gR];omega),yk]
     rw [show l.length*k - min (l.length*k) row.length=0 by omega,Fi,List.take_append_of_le_length (by rw [jI];exact aQ _),iR (by rw [jI];exact aQ _)]
  .rw [aA hq]
   have FT:l.length=q:=by omega
   have hc:mJ (.slice (some ⟨A,0,none⟩) l.length (G*k+q)) k (h1.lay bs w)=some row:=by
    unfold mJ
    simp only
    by_cases h0:l.length*k=0
    .rw [aB h0]
     congr 1
     rw [FT,<- e3] at h0
     exact (Cc.1 h0).symm
    .rw [aA h0]
     unfold kA
     rw [mV]
     simp only
     unfold cut
     rw [aB (by rw [e3,FT];omega),Fi,iR (by rw [e3,FT];exact aQ _)]
   rw [hc]
   simp only [dH]
   rw [aA (by omega)]
   simp only [mV]
   rw [aB (by simp [c2])]
   have jW:((h1.lay bs w).set A .dead).size=(h1.lay bs w).size:=Heap.size_set _ _ _
   have hn:=mb ((h1.lay bs w).set A .dead) (row++cell x) (by rw [cT,jI,e3,FT,uK]) (λi y hy=>by
    rw [Aj] at hy
    by_cases hj:i < l.length
    .rw [aB hj] at hy
     exact W8 (e6 i y hy)
    .rw [aA hj] at hy
     have FL:i=l.length:=by
      have:=(fR.1 hy).1
      simp only [jk] at this
      omega
     subst FL
     rw [tQ,Cb] at hy
     cases hy
     have:=WM (a:=row) (b:=cell x) (o:=0) (n:=k) (c:=cell x) (by unfold cut;rw [aB (by rw [jI];omega),Fi,iR (by rw [jI];exact aQ _)])
     rw [gS,e3,<- FT] at this
     exact this)
   rw [jW] at hn
   exact hK _ _ _ hn (.inr rfl) (λh=>by cases h) (λ_=>((LO hA).trans (Ext.push _ _).eN))
end
end Go.Am

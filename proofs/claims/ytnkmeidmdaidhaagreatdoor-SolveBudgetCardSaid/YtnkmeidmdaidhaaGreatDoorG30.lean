/- Walks: bindings of their own: Am.one more, a copy, a variable zgJ, a pattern and an atom. Written out by fill2.py. No condition. -/
import Derived.Test.YtnkmeidmdaidhaaGreatDoorG28
import Derived.Test.YtnkmeidmdaidhaaGreatDoorG29
set_option linter.unusedSimpArgs false
set_option linter.unusedVariables false
namespace Go.Proofs.YtnkmeidmdaidhaaGreatDoor
open Go.Am Tryz
set_option maxRecDepth 100000
set_option maxHeartbeats 0
theorem zrl (l:List av) (v:ai) (b:av) (h:Heap) (hl:Sl aF.bind h v l) (hs:l.length<=1000) (hR:kS l l.length) (K:aL)
 (hk:∀ h' w,Ext h h'->iD aF.bind h h' 134 w (jt l b)->K w h'):Ok prog aH ov 103 [v,b.val] h K:=by
 rw [aq h]
 have z:=Ext.refl h
 have hc:v.cells.toList=[v]:=Mu hl
 have cu:∀ (h:Heap) (K:aL),aK (some v) h K=K v h:=λ_ _=>rfl
 refine Ok.aC 19 (bH Ah) ?_
 simp only [aa,seval,fk,hc,cu,zkA]
 repeat' ((with_reducible refine pG (hl.mono z.inc) cU ?_) <;> simp only [aa,seval,fk])
 refine T3 l.length hs _ (λi=>match l[i]? with|some x=>slt b.var x.var|none=>false) _ (λi eO K' hi xe iw=>?_) _ (λcK i x hi fm mN=>?_)
 .rw [CK]
  have Jc:=z.ao xe
  exact zrk l v b i _ _ eO (hl.mono Jc.inc) hs hi (ak.top (i:=0) xe rfl) (ak.top (i:=1) xe rfl) K' iw
 have q0:=ak.top (i:=0) x rfl
 have q1:=ak.top (i:=1) x rfl
 (replace z:=z.ao x;rw [aq cK])
 have hw:=zrG (b:=b) hR hi fm mN
 rw [hw] at hk
 clear fm mN
 simp only [aa,seval,fk]
 refine (dO (by simp only [fk])) z.aw ?_
 simp only [aa,seval,fk,q0.lay,cu]
 repeat' ((with_reducible refine zny (hl.mono z.inc) cU kW (by omega) (λbase hb=>?_)) <;> simp only [aa,seval,fk,q1.lay,↓zqP,zqC,Mi])
 simp only [aa,seval,Mj]
 refine kO (by have:=z.size;omega) (by omega) ?_
 simp only [bM,seval,fk,j4,Dy]
 have hz:=z.size
 have hlen:(l.take i).length=i:=by rw [hZ];omega
 have lU:Sl aF.bind (cK.lay [bc.row b.cells 134 false] (cK.size+1)) (.slice base (l.take i).length (l.take i).length) (l.take i):=by rw [hlen];exact hb.lay _ _
 obtain ⟨mQ,kC⟩:=EE (A:=(cK.lay [bc.row b.cells 134 false] (cK.size+1)).size) (r:=aF.bind) (c:=1) (y:=b) (by decide) (show (cK.lay [bc.row b.cells 134 false] (cK.size+1)).get (cK.size+0)=some (.row b.cells 134 false) by rw [kM];rfl) rfl
 rw [JX (aS _)] at kC
 obtain ⟨w1,h',e1,o1,x⟩:=zqE (h0:=h) (t:=95) cU xX rfl (by decide) (by rw [bo];omega) lU mQ kC (by omega) (by omega) (by omega)
 rw [hlen] at e1
 rw [e1]
 refine fC (by simp only [bo,dB,cW];omega) (by simpa only [bK,bo,bu,dB,cW,ia] using x) ?_
 (replace z:=z.ao x;replace q0:=q0.over x;rw [aq h'])
 simp only [aa,seval,fk,q0.lay,cu]
 repeat' ((with_reducible refine Mk (hl.mono z.inc) (by decide) cU kW (by omega) (λw2 jg=>?_)) <;> simp only [bM,seval,fk])
 simp only [bM,seval,j4,Dy]
 have AU:(cK.lay [bc.row b.cells 134 false] (cK.size+1)).size=cK.size+1:=by rw [bo];rfl
 rw [AU] at o1
 obtain ⟨news,eX,tS⟩:=ym (A:=cK.size+1) (h:=h'.lay [] (h'.size+0)) (r:=aF.bind) (by decide) (jg.lay _ _) (λcs y hr=>hr)
 have xd:(l.take i++[b]).length=i+1:=by rw [dx,hlen];rfl
 have QO:(l.drop i).length<=1000:=by rw [oe];omega
 have HP:=z.size
 obtain ⟨w3,h3,A3,e3,o3,c3,e4,e5⟩:=uS (t:=95) cU xX rfl (by decide) (by rw [bo];omega) (o1.mono (bQ.lay _ _ _)) eX tS (by rw [xd];omega) (by rw [xd];omega)
 rw [e3]
 simp only [syms,seval]
 refine gR (A:=cK.size+1) (by kernel_rfl) (by rw [bo];omega) (by omega) (by simpa only [bK,bo,bu,dB,cW,ia] using c3) ?_
 replace z:=(z.iG [] (h'.size+0) (by omega)).step c3 (by omega)
 rw [aq h3]
 repeat' (first|simp only [aa,seval,fk]|((with_reducible refine ⟨z.cI.lay _ _,?_⟩);(intro _ h' zz x _);(simp only [bK,bu] at x);replace o3:=o3.over x;(replace z:=zz);(clear zz);rw [aq h']))
 exact hk _ _ z.aw (by have:=(iD.lay ⟨_,o3⟩ [] h'.low:iD aF.bind h _ 134 _ _);simpa only [uX,List.singleton_append] using this)
theorem zw2 (l:List av) (v:ai) (s:bf) (t:az) (h:Heap) (hl:Sl aF.bind h v l) (hs:l.length<=900) (K:aL)
 (hk:∀ h' w e,Ext h h'->(jz l s t=none->e≠0)->(∀ m,jz l s t=some m->e=0/\iD aF.bind h h' 134 w m)->K (.tuple #[w,.int .i64 e]) h'):Ok prog aH ov 93 [v,.string s,t.val] h K:=by
 rw [aq h]
 have z:=Ext.refl h
 rcases hg:df l s with ⟨⟨tv,ts⟩,pb⟩
 obtain ⟨x,hx⟩:∃ x,x=ep l t:=⟨_,rfl⟩
 rcases x with ⟨xv,xs⟩
 unfold jz at hk
 rw [hg,<- hx] at hk
 refine Ok.aC 41 (bH Nq) ?_
 simp only [aa,seval,ic,az.val,az.cells]
 repeat' ((first|((with_reducible first|apply b9|apply pK|apply se|apply C7|apply CZ) <;> intro _)|with_reducible refine Mk (hl.mono z.inc) (by decide) cU kW (by omega) (λw2 jg=>?_)|((with_reducible refine ⟨z.cI.lay _ _,?_⟩);(intro _ h' zz x _);(first|simp only [bK,bu] at x|skip);(first|replace o3:=o3.over x|skip);(replace z:=zz);(clear zz);rw [aq h'])) <;> simp only [aa,seval,ic])
 refine Ey l _ _ (hl.lay _ _) (by omega) _ (λh' e x he=>?_)
 have q0:=ak.top (i:=0) x rfl
 (replace z:=z.ao x;rw [aq h'])
 simp only [aa,seval,ic]
 refine M8 ?_ ?_
 .intro aO
  simp only [aa,seval,ic]
  have gE:¬ kb l:=λhh=>aO (he.2 hh)
  rw [aG gE] at hk
  exact hk _ _ _ z.aw (λ_=>by decide) (λm hm=>by cases hm)
 intro tj
 have hC:=he.1 tj
 rw [aA (by simpa using hC)] at hk
 repeat' (simp only [aa,seval,ic])
 refine Df l _ s _ ((hl.mono z.inc).lay _ _) (by omega) _ (λh' x=>?_)
 rw [hg]
 (replace z:=z.ao x;replace q0:=q0.over x;rw [aq h'])
 simp only [aa,seval,ic,az.val,az.cells]
 repeat' ((first|((with_reducible first|apply b9|apply pK|apply se|apply C7|apply CZ) <;> intro _)|with_reducible refine Mk (hl.mono z.inc) (by decide) cU kW (by omega) (λw2 jg=>?_)|((with_reducible refine ⟨z.cI.lay _ _,?_⟩);(intro _ h' zz x _);(first|simp only [bK,bu] at x|skip);(first|replace q0:=q0.over x|skip);(replace z:=zz);(clear zz);rw [aq h'])) <;> simp only [aa,seval,ic,EL,gy,gA,il,Am.one,Dz,Bool.true_and,gv,eA,yo,Io,D8,SB,gh,lJ,pC,Ct,yr,q0.lay,az.val,az.cells])
 refine qC (λBP=>?_) (λBP=>?_)
 all_goals
  subst BP
  repeat' (simp only [aa,seval,ic,gy,gA,il,Am.one,gv,eA,gh,q0.lay])
  refine C0 l v t _ ((hl.mono z.inc).lay _ _) (by omega) _ (λh' x=>?_)
  rw [<- hx]
  (replace z:=z.ao x;replace q0:=q0.over x;rw [aq h'])
  repeat' (first|simp only [aa,seval,ic,gy,gA,il,Am.one,gv,eA,yr,q0.lay,az.val,az.cells,zmX]|((with_reducible apply b9) <;> intro _))
 all_goals try
  ((with_reducible refine hk _ _ _ z.aw ?_ ?_) <;> (clear hk;intros;first|decide|(exfalso;simp_all)))
 have h1:¬ (s=⟨#[]⟩\/t.s=⟨#[]⟩):=by simp [*]
 rw [aA h1,aA (by simp)] at hk
 refine UE ⟨s,⟨xv,xs⟩⟩ _ _ (λh' x=>?_)
 have q1:=ak.top (i:=0) x rfl
 (replace z:=z.ao x;replace q0:=q0.over x;rw [aq h'])
 cases tI:lG ⟨s,⟨xv,xs⟩⟩
 rotate_left
 .repeat' ( simp only [aa,seval,ic])
  rw [aG tI] at hk
  exact hk _ _ _ z.aw (λ_=>by decide) (λm hm=>by cases hm)
 rw [aA (by rw [tI];decide)] at hk
 repeat' (simp only [aa,seval,ic])
 refine (dO (by simp only [ic])) z.aw ?_
 repeat' (simp only [aa,seval,ic,q1.lay])
 refine kO (by have:=z.size;omega) (by omega) ?_
 simp only [aa,seval,ic]
 refine zri l [⟨s,⟨xv,xs⟩⟩] v _ _ ((hl.mono z.inc).lay _ _) (zrA (b:=⟨s,⟨xv,xs⟩⟩)) (by omega) (by simp) _ (λh' u x hu=>?_)
 (((with_reducible refine fC ?_ ?_ ?_);(· exact (by (simp only [fT]);have:=z.size;omega));(· exact x));replace z:=z.ao x;replace q1:=q1.over x;rw [aq h'])
 repeat' (simp only [aa,seval,ic,q1.lay])
 have hz9:=z.size
 refine zrl (hY l [⟨s,⟨xv,xs⟩⟩]) u ⟨s,⟨xv,xs⟩⟩ _ (hu.lay _ _) (by unfold hY;rw [fN];omega) (Tu hC.1) _ (λh' w x hw=>?_)
 (((with_reducible refine fC ?_ ?_ ?_);(· exact (by (simp only [fT]);have:=z.size;omega));(· exact x));replace z:=z.ao x;replace q1:=q1.over x;rw [aq h'])
 repeat' (first|simp only [aa,seval,ic]|((with_reducible refine ⟨z.cI.lay _ _,?_⟩);(intro _ h' zz x _);(simp only [bK,bu] at x);replace hw:=hw.over x;(replace z:=zz);(clear zz);rw [aq h']))
 exact hk _ _ _ z.aw (λhm=>by cases hm) (λm hm=>by cases hm;exact ⟨rfl,(hw.low (by first|omega|(simp only [bo];omega))).lay _ _⟩)
end Go.Proofs.YtnkmeidmdaidhaaGreatDoor
namespace Go.Am
variable {n o:Nat} {cs vs:List ai}
structure aP (D:List Nat) (h h':Heap):Prop where
 size:h.size<=h'.size
 get:∀ B,B < h.size->B ∉ D->h'.get B=h.get B
section
variable {D D':List Nat} {a b c h h1 h2:Heap} {A B w:Nat} {bs:List bc} {k:bc}
theorem aP.refl (D:List Nat) (h:Heap):aP D h h:=⟨aS _,λ_ _ _=>rfl⟩
theorem Ext.aX (x:Ext a b) (D:List Nat):aP D a b:=⟨x.size,λB hB _=>x.get B hB⟩
theorem fW.aX (x:fW A a b) (hA:A∈D):aP D a b:=⟨x.size,λB hB hD=>x.get B hB (λe=>hD (e ▸ hA))⟩
theorem aP.lay (a:Heap) (bs:List bc) (w:Nat) (D:List Nat):aP D a (a.lay bs w):=⟨by rw [bo];omega,λB hB _=>xW a bs w hB⟩
theorem aP.trans (f:aP D a b) (g:aP D' b c) (hD:∀ B∈D',B∈D\/a.size<=B):aP D a c :=
 ⟨dZ f.size g.size,λB hB hn=>(g.get B (dU hB f.size) (λhh=>(hD B hh).elim hn (λe=>by omega))).trans (f.get B hB hn)⟩
theorem aP.over (f:aP D a h1) (x:Ext (h1.lay bs w) h2):aP D a h2:=(f.trans (aP.lay h1 bs w []) (λ_ h=>nomatch h)).trans (x.aX []) (λ_ h=>nomatch h)
theorem aP.ec (f:aP D a h1) (x:fW A (h1.lay bs w) h2) (hA:A∈D\/a.size<=A):aP D a h2 :=
 (f.trans (aP.lay h1 bs w []) (λ_ h=>nomatch h)).trans (x.aX (D:=[A]) (by simp)) (λB hB=>by rw [ek.1 hB];exact hA)
theorem aP.mono (f:aP D a b) (hs:∀ B∈D,B∈D'):aP D' a b:=⟨f.size,λB hB hn=>f.get B hB (λh=>hn (hs B h))⟩
theorem ak.aX (q:ak a B k) (f:aP D a b) (hB:B ∉ D):ak b B k:=⟨dU q.lt f.size,(f.get B q.lt hB).trans q.get⟩
theorem aP.all (f:aP [] a b):bQ a b:=⟨f.size,λB hB _=>f.get B hB (by simp)⟩
theorem ak.Gj (q:ak a B k) (f:aP [] a b):ak b B k:=⟨dU q.lt f.size,(f.get B q.lt (by simp)).trans q.get⟩
def bm:List Nat->Heap->Heap
 | [],h=>h
 |A::D,h=>kill A (bm D h)
theorem uG:∀ (D:List Nat) (h:Heap),(bm D h).size=h.size
 | [],_=>rfl
 |A::D,h=>by unfold bm;rw [yd,uG D h]
theorem rY:∀ (D:List Nat) (h:Heap),bQ (bm D h) h
 | [],h=>bQ.refl h
 |A::D,h=>(zq5 A _).trans (rY D h)
theorem CO:∀ {D:List Nat} {h:Heap} {B:Nat},B ∉ D->(bm D h).get B=h.get B
 | [],_,_,_=>rfl
 |A::D,h,B,hn=>by
  unfold bm
  rw [CU (λe=>hn (by rw [e];exact pO)),CO (λhh=>hn (sn _ hh))]
theorem TD:∀ {D:List Nat} {h:Heap} {B:Nat},B∈D->B < h.size->(bm D h).get B=some .dead
 |A::D,h,B,hm,hB=>by
  unfold bm
  by_cases he:B=A
  .subst he;exact JA (by rw [uG];exact hB)
  .rw [CU he]
   exact TD ((dg.1 hm).resolve_left he) hB
theorem aP.inc (f:aP D a b) (hD:∀ B∈D',B∈D\/a.size<=B):bQ (bm D a) (bm D' b):=by
 refine ⟨by rw [uG,uG];exact f.size,λB hB hd=>?_⟩
 rw [uG] at hB
 have hn:B ∉ D:=λhh=>hd (TD hh hB)
 rw [CO hn,CO (λhh=>(hD B hh).elim hn (λe=>by omega))]
 exact f.get B hB hn
end
theorem Ow.bm {Z:Type} {r:aF Z} {h0 h:Heap} {e:TypeId} {A:Nat} {v:ai} {l:List Z} {D:List Nat} (f:Ow r h0 h e A v l) (dF:∀ h h' cs x,r.R h cs x->r.R h' cs x) (hk:0 < r.k) (hD:∀ B∈D,B < h0.size):Sl r (bm D h) v l:=by
 have fp:∀ {B},h0.size<=B->B ∉ D:=λhB hh=>by have:=hD _ hh;omega
 rcases f with ⟨_,rfl,rfl|⟨B,o,rfl,g0,g2,row,u,ro,g3⟩⟩|⟨row,e1,e2,e3,e4,e5,e6,e7,e8⟩
 .exact .nil
 .exact .inr ⟨B,o,0,row,u,ro,rfl,jv _,.inl ⟨by unfold G;omega,aS _⟩,by rw [uG];exact g2,by rw [CO (fp g0)];exact g3,λi x hx=>by simp at hx⟩
 .obtain ⟨c1,c2,c3⟩:=zQ (k:=r.k) (q:=l.length) hk (by unfold G;omega)
  refine .inr ⟨A,0,_,row,e,false,e1,by unfold maxLen;omega,.inr ⟨by omega,c3,by omega⟩,by rw [uG];exact e4,by rw [CO (fp e3)];exact e5,λi x hx=>?_⟩
  obtain ⟨cs,g1,g2⟩:=e8 i x hx
  exact ⟨cs,by simpa using g1,dF _ _ _ _ g2⟩
theorem Ow.turn {Z:Type} {r:aF Z} {h0 h h':Heap} {e:TypeId} {A C:Nat} {v:ai} {l:List Z} {row:List ai} {u:TypeId} {ro:Bool} (dF:∀ h h' cs x,r.R h cs x->r.R h' cs x) (f:Ow r h0 h e A v l) (c:fW C h h') (hC:C≠A) (q:ak h' C (.row row u ro)):Ow r h0 h' e A v l:=by
 rcases f with ⟨e1,e2,e3⟩|⟨row,e1,e2,e3,e4,e5,e6,e7,e8⟩
 .refine .inl ⟨e1,e2,?_⟩
  rcases e3 with e3|⟨B,o,g1,g0,g2,pB,u2,ro2,g3⟩
  .exact .inl e3
  .refine .inr ⟨B,o,g1,g0,dU g2 c.size,?_⟩
   by_cases hB:B=C
   .subst hB;exact ⟨_,_,_,q.get⟩
   .exact ⟨pB,u2,ro2,by rw [c.get B g2 hB];exact g3⟩
 .refine .inr ⟨row,e1,e2,e3,dU e4 c.size,by rw [c.get A e4 (Ne.symm hC)];exact e5,e6,e7,λi x hx=>?_⟩
  obtain ⟨cs,g1,g2⟩:=e8 i x hx
  exact ⟨cs,g1,dF _ _ _ _ g2⟩
def Aj {Z:Type} (k:Nat) (cell:Z->List ai) (h:Heap) (u:TypeId) (A:Nat) (v:ai) (l:List Z):Prop :=
 (v=.slice none 0 0/\l=[])\/∃ (q:Nat) (row:List ai),v=.slice (some ⟨A,0,none⟩) l.length (G*k+q)/\ak h A (.row row u false)/\row.length=q*k/\l.length<=q/\q<=1000000000/\∀ (i:Nat) (x:Z),l[i]? = some x->cut row (i*k) k=some (cell x)
section
variable {Z:Type} {k:Nat} {cell:Z->List ai} {h h1 h2:Heap} {u:TypeId} {A:Nat} {v:ai} {l:List Z} {T:bx} {t e:TypeId} {K:aL} {bs:List bc} {w i:Nat} {x y:Z} {kd:IntKind}
theorem Aj.nil:Aj k cell h u A (.slice none 0 0) []:=.inl ⟨rfl,rfl⟩
theorem Aj.hold (f:Aj k cell h u A v l) (hO:∀ b,ak h A b->ak h1 A b):Aj k cell h1 u A v l:=by
 rcases f with f|⟨q,row,e1,e2,e3⟩
 .exact .inl f
 .exact .inr ⟨q,row,e1,hO _ e2,e3⟩
theorem Aj.over (f:Aj k cell h1 u A v l) (x:Ext (h1.lay bs w) h2):Aj k cell h2 u A v l:=f.hold λb q=>q.over x
theorem Aj.lay (f:Aj k cell h1 u A v l) (bs:List bc) (w:Nat):Aj k cell (h1.lay bs w) u A v l:=f.hold λb q=>q.on bs w
theorem Aj.bC {B:Nat} (f:Aj k cell h1 u A v l) (c:fW B (h1.lay bs w) h2) (aO:A≠B):Aj k cell h2 u A v l:=f.hold λb q=>q.bC c aO
theorem Aj.aX {D:List Nat} (f:Aj k cell h1 u A v l) (c:aP D h1 h2) (aO:A ∉ D):Aj k cell h2 u A v l:=f.hold λb q=>q.aX c aO
theorem Aj.bP (f:Aj k cell h u A v l) (hd:T.desc t=some (.slice e)) (h2:Heap):Am.bP T t v h2=some (.int .i64 l.length):=by
 rcases f with ⟨rfl,rfl⟩|⟨q,row,rfl,_⟩
 .simp [Am.bP,hd]
 .simp [Am.bP,hd]
theorem Aj.shape (f:Aj k cell h u A v l):∃ a n c,v=.slice a n c:=by
 rcases f with ⟨rfl,rfl⟩|⟨q,row,rfl,_⟩
 .exact ⟨_,_,_,rfl⟩
 .exact ⟨_,_,_,rfl⟩
theorem Aj.row (f:Aj k cell h u A v l) (hx:l[i]? = some x):∃ row,ak h A (.row row u false)/\cut row (i*k) k=some (cell x):=by
 rcases f with ⟨_,rfl⟩|⟨q,row,rfl,e2,e3,e4,e5,e6⟩
 .simp at hx
 .exact ⟨row,e2,e6 i x hx⟩
theorem Aj.at (hk:∀ x,(cell x).length=k) (f:Aj k cell h u A v l) (hx:l[i]? = some x):gU h (.pointer (some ⟨A,i*k,none⟩)) (cell x):=by
 obtain ⟨row,q,c⟩:=f.row hx
 exact ⟨A,_,row,u,false,rfl,q.lt,q.get,by rw [hk];exact c⟩
theorem Aj.lt (f:Aj k cell h u A v l) (aO:l≠[]):A < h.size:=by
 rcases f with ⟨_,rfl⟩|⟨q,row,rfl,e2,_⟩
 .exact absurd rfl aO
 .exact e2.lt
theorem Ty (hb:o+vs.length<=cs.length) (j:Nat):(aJ cs o vs)[j]? = if j < o then cs[j]? else if j < o+vs.length then vs[j - o]? else cs[j]? := by
 unfold aJ
 rw [uX,Dc,hZ,Nat.min_eq_left (by omega)]
 by_cases h1:j < o
 .rw [aG h1,aG h1,oG,aG h1]
 .rw [aA h1,aA h1,Dc]
  by_cases h2:j < o+vs.length
  .rw [aG (by omega),aG h2]
  .rw [aA (by omega),aA h2,ka]
   congr 1
   omega
theorem ZE (hb:o+vs.length<=cs.length):(aJ cs o vs).length=cs.length:=by
 unfold aJ;rw [dx,dx,hZ,oe];omega
theorem zi2 {row:List ai} {off:Nat} (hc:cut row o n=some cs) (hb:off+vs.length<=n):cut (aJ row (o+off) vs) o n=some (aJ cs off vs):=by
 unfold cut at hc ⊢
 split at hc
 .rename_i hle
  simp only [dy] at hc
  have kn:cs.length=n:=by rw [<- hc,hZ,oe];omega
  rw [aG (by rw [ZE (by omega)];exact hle)]
  congr 1
  apply uY
  intro j
  rw [oG,ka,Ty (by omega),Ty (by omega),<- hc,oG,ka]
  by_cases hj:j < n
  .rw [aG hj,aG hj]
   by_cases h1:j < off
   .rw [aG (by omega),aG h1]
   .rw [aA (by omega),aA h1]
    by_cases h2:j < off+vs.length
    .rw [aG (by omega),aG h2]
     congr 1
     omega
    .rw [aA (by omega),aA h2]
  .rw [aA hj,aA hj,aA (by omega),aA (by omega)]
 .cases hc
theorem zhN {row:List ai} {o2:Nat} (hc:cut row o n=some cs) (hb:o2+vs.length<=row.length) (hd:o+n<=o2\/o2+vs.length<=o):cut (aJ row o2 vs) o n=some cs:=by
 unfold cut at hc ⊢
 split at hc
 .rename_i hle
  simp only [dy] at hc
  rw [aG (by rw [ZE hb];exact hle),<- hc]
  congr 1
  apply uY
  intro j
  rw [oG,oG,ka,ka,Ty hb]
  by_cases hj:j < n
  .rw [aG hj,aG hj]
   rcases hd with hd|hd
   .rw [aG (by omega)]
   .rw [aA (by omega),aA (by omega)]
  .rw [aA hj,aA hj]
 .cases hc
theorem Aj.store {off:Nat} {val:ai} (xb:∀ x,(cell x).length=k) (f:Aj k cell h1 u A v l) (hx:l[i]? = some x) (hs:de T t=some n) (qZ:off+n<=k) (hv:val.cells.toList=vs) (hl:vs.length=n) (bW:vs.all one=true) (hy:aJ (cell x) off vs=cell y)
 (hK:∀ h',Aj k cell h' u A v (l.set i y)->fW A (h1.lay bs w) h'->K undef h'):jM (gN T t (.pointer (some ⟨A,i*k+off,none⟩)) val (h1.lay bs w)) K:=by
 have hi:i < l.length:=(fD.1 hx).1
 rcases f with ⟨_,rfl⟩|⟨q,row,rfl,e2,e3,e4,e5,e6⟩
 .simp at hi
 have hb:i*k+off+n<=row.length:=by
  rw [e3]
  calc i*k+off+n<=i*k+k:=by omega
   _=(i+1)*k:=by rw [yA]
   _<=q*k:=uV _ (by omega)
 have hg:(h1.lay bs w).get A=some (.row row u false):=e2.lay bs w
 have hA:A < (h1.lay bs w).size:=(e2.on bs w).lt
 have dC:val.cells.size=n:=by rw [<- hl,<- hv];simp
 have he:gN T t (.pointer (some ⟨A,i*k+off,none⟩)) val (h1.lay bs w)=some ((h1.lay bs w).set A (.row (aJ row (i*k+off) vs) u false)):=by
  unfold gN
  simp only [hs,dz]
  rw [aG dC,hv]
  unfold np
  rw [hg]
  simp only
  rw [aG (by simp only [dj,iC];exact ⟨by omega,bW⟩)]
 rw [he]
 refine hK _ (.inr ⟨q,aJ row (i*k+off) vs,by rw [ij],TW hA,?_,by rw [ij];exact e4,e5,λj z hz=>?_⟩) (Ut hA)
 .unfold aJ;rw [dx,dx,hZ,oe];omega
 .rw [Fa] at hz
  by_cases ej:i=j
  .rw [aG ej,aG hi] at hz
   cases hz
   rw [<- ej,<- hy]
   exact zi2 (e6 i x hx) (by omega)
  .rw [aA ej] at hz
   refine zhN (e6 j z hz) (by omega) ?_
   rcases Nat.lt_or_gt_of_ne ej with h|h
   .right
    have:(i+1)*k<=j*k:=uV _ (by omega)
    rw [yA] at this
    omega
   .left
    have:(j+1)*k<=i*k:=uV _ (by omega)
    rw [yA] at this
    omega
end
end Go.Am

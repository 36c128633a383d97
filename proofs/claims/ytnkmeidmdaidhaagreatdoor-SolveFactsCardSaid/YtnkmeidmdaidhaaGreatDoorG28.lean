/- Walks: bindings of their own: Am.one more, a copy, a variable zhy, a pattern and an atom. Written out by fill2.py. No condition. -/
import Derived.Test.YtnkmeidmdaidhaaGreatDoorG26
import Derived.Test.YtnkmeidmdaidhaaGreatDoorG27
set_option linter.unusedSimpArgs false
set_option linter.unusedVariables false
namespace Go.Proofs.YtnkmeidmdaidhaaGreatDoor
open Go.Am Tryz
set_option maxRecDepth 100000
set_option maxHeartbeats 0
theorem zsQ (l:List au) (v:ai) (b:au) (h:Heap) (hl:Sl aC.bind h v l) (hs:l.length<=1000) (hR:lZ l l.length) (K:aJ)
 (hk:∀ h' w,Ext h h'->jX aC.bind h h' 134 w (kE l b)->K w h'):Ok prog aH ov 103 [v,b.val] h K:=by
 rw [aw h]
 have z:=Ext.refl h
 have hc:v.cells.toList=[v]:=Qw hl
 have cX:∀ (h:Heap) (K:aJ),aK (some v) h K=K v h:=λ_ _=>rfl
 refine Ok.aA 19 (bH Ds) ?_
 simp only [aa,seval,gG,hc,cX,zlq]
 repeat' ((with_reducible refine q9 (hl.mono z.inc) dB ?_) <;> simp only [aa,seval,gG])
 refine X7 l.length hs _ (λi=>match l[i]? with|some x=>slt b.var x.var|none=>false) _ (λi ec K' hi xe ju=>?_) _ (λdc i x hi gJ o0=>?_)
 .rw [FC]
  have Mx:=z.ao xe
  exact zsP l v b i _ _ ec (hl.mono Mx.inc) hs hi (Holds.top (i:=0) xe rfl) (Holds.top (i:=1) xe rfl) K' ju
 have q0:=Holds.top (i:=0) x rfl
 have q1:=Holds.top (i:=1) x rfl
 (replace z:=z.ao x;rw [aw dc])
 have hw:=ztk (b:=b) hR hi gJ o0
 rw [hw] at hk
 clear gJ o0
 simp only [aa,seval,gG]
 refine (ez (by simp only [gG])) z.av ?_
 simp only [aa,seval,gG,q0.lay,cX]
 repeat' ((with_reducible refine zoM (hl.mono z.inc) dB mT (by omega) (λbase hb=>?_)) <;> simp only [aa,seval,gG,q1.lay,↓zsh,zr4,Qf])
 simp only [aa,seval,P7]
 refine ni (by have:=z.size;omega) (by omega) ?_
 simp only [cm,seval,gG,jF,Gu]
 have hz:=z.size
 have hlen:(l.take i).length=i:=by rw [gR];omega
 have lU:Sl aC.bind (dc.lay [aZ.row b.cells 134 false] (dc.size+1)) (.slice base (l.take i).length (l.take i).length) (l.take i):=by rw [hlen];exact hb.lay _ _
 obtain ⟨ji,mH⟩:=Bo (A:=(dc.lay [aZ.row b.cells 134 false] (dc.size+1)).size) (r:=aC.bind) (c:=1) (y:=b) (by decide) (show (dc.lay [aZ.row b.cells 134 false] (dc.size+1)).get (dc.size+0)=some (.row b.cells 134 false) by rw [jG];rfl) rfl
 rw [Nq (aR _)] at mH
 obtain ⟨w1,h',e1,o1,x⟩:=zr6 (h0:=h) (t:=95) dB Be rfl (by decide) (by rw [bh];omega) lU ji mH (by omega) (by omega) (by omega)
 rw [hlen] at e1
 rw [e1]
 refine ix (by simp only [bh,ek,db];omega) (by simpa only [bY,bh,bC,ek,db,iA] using x) ?_
 (replace z:=z.ao x;replace q0:=q0.over x;rw [aw h'])
 simp only [aa,seval,gG,q0.lay,cX]
 repeat' ((with_reducible refine P8 (hl.mono z.inc) (by decide) dB mT (by omega) (λw2 iB=>?_)) <;> simp only [cm,seval,gG])
 simp only [cm,seval,jF,Gu]
 have sH:(dc.lay [aZ.row b.cells 134 false] (dc.size+1)).size=dc.size+1:=by rw [bh];rfl
 rw [sH] at o1
 obtain ⟨news,eQ,rO⟩:=xR (A:=dc.size+1) (h:=h'.lay [] (h'.size+0)) (r:=aC.bind) (by decide) (iB.lay _ _) (λcs y hr=>hr)
 have Ad:(l.take i++[b]).length=i+1:=by rw [cE,hlen];rfl
 have UR:(l.drop i).length<=1000:=by rw [mf];omega
 have xj:=z.size
 obtain ⟨w3,h3,A3,e3,o3,c3,e4,e5⟩:=sb (t:=95) dB Be rfl (by decide) (by rw [bh];omega) (o1.mono (bN.lay _ _ _)) eQ rO (by rw [Ad];omega) (by rw [Ad];omega)
 rw [e3]
 simp only [syms,seval]
 refine iL (A:=dc.size+1) (by kernel_rfl) (by rw [bh];omega) (by omega) (by simpa only [bY,bh,bC,ek,db,iA] using c3) ?_
 replace z:=(z.jC [] (h'.size+0) (by omega)).step c3 (by omega)
 rw [aw h3]
 repeat' (first|simp only [aa,seval,gG]|((with_reducible refine ⟨z.cU.lay _ _,?_⟩);(intro _ h' zz x _);(simp only [bY,bC] at x);replace o3:=o3.over x;(replace z:=zz);(clear zz);rw [aw h']))
 exact hk _ _ z.av (by have:=(jX.lay ⟨_,o3⟩ [] h'.low:jX aC.bind h _ 134 _ _);simpa only [se,List.singleton_append] using this)
theorem zze (l:List au) (v:ai) (s:aU) (t:ay) (h:Heap) (hl:Sl aC.bind h v l) (hs:l.length<=900) (K:aJ)
 (hk:∀ h' w e,Ext h h'->(jW l s t=none->e≠0)->(∀ m,jW l s t=some m->e=0/\jX aC.bind h h' 134 w m)->K (.tuple #[w,.int .i64 e]) h'):Ok prog aH ov 93 [v,.string s,t.val] h K:=by
 rw [aw h]
 have z:=Ext.refl h
 rcases hg:bE l s with ⟨⟨tv,ts⟩,pb⟩
 obtain ⟨x,hx⟩:∃ x,x=cu l t:=⟨_,rfl⟩
 rcases x with ⟨xv,xs⟩
 unfold jW at hk
 rw [hg,<- hx] at hk
 refine Ok.aA 41 (bH Rf) ?_
 simp only [aa,seval,jA,ay.val,ay.cells]
 repeat' ((first|((with_reducible first|apply bS|apply qL|apply qM|apply Bv|apply F4) <;> intro _)|with_reducible refine P8 (hl.mono z.inc) (by decide) dB mT (by omega) (λw2 iB=>?_)|((with_reducible refine ⟨z.cU.lay _ _,?_⟩);(intro _ h' zz x _);(first|simp only [bY,bC] at x|skip);(first|replace o3:=o3.over x|skip);(replace z:=zz);(clear zz);rw [aw h'])) <;> simp only [aa,seval,jA])
 refine HM l _ _ (hl.lay _ _) (by omega) _ (λh' e x he=>?_)
 have q0:=Holds.top (i:=0) x rfl
 (replace z:=z.ao x;rw [aw h'])
 simp only [aa,seval,jA]
 refine Q0 ?_ ?_
 .intro aM
  simp only [aa,seval,jA]
  have hZ:¬ eG l:=λhh=>aM (he.2 hh)
  rw [aD hZ] at hk
  exact hk _ _ _ z.av (λ_=>by decide) (λm hm=>by cases hm)
 intro wq
 have hC:=he.1 wq
 rw [az (by simpa using hC)] at hk
 repeat' (simp only [aa,seval,jA])
 refine F8 l _ s _ ((hl.mono z.inc).lay _ _) (by omega) _ (λh' x=>?_)
 rw [hg]
 (replace z:=z.ao x;replace q0:=q0.over x;rw [aw h'])
 simp only [aa,seval,jA,ay.val,ay.cells]
 repeat' ((first|((with_reducible first|apply bS|apply qL|apply qM|apply Bv|apply F4) <;> intro _)|with_reducible refine P8 (hl.mono z.inc) (by decide) dB mT (by omega) (λw2 iB=>?_)|((with_reducible refine ⟨z.cU.lay _ _,?_⟩);(intro _ h' zz x _);(first|simp only [bY,bC] at x|skip);(first|replace q0:=q0.over x|skip);(replace z:=zz);(clear zz);rw [aw h'])) <;> simp only [aa,seval,jA,HV,iy,gS,iI,Am.one,Gv,Bool.true_and,im,gd,ze,LB,Ha,WG,gN,lI,rV,Fp,BF,q0.lay,ay.val,ay.cells])
 refine tj (λEE=>?_) (λEE=>?_)
 all_goals
  subst EE
  repeat' (simp only [aa,seval,jA,iy,gS,iI,Am.one,im,gd,gN,q0.lay])
  refine FW l v t _ ((hl.mono z.inc).lay _ _) (by omega) _ (λh' x=>?_)
  rw [<- hx]
  (replace z:=z.ao x;replace q0:=q0.over x;rw [aw h'])
  repeat' (first|simp only [aa,seval,jA,iy,gS,iI,Am.one,im,gd,BF,q0.lay,ay.val,ay.cells,zoe]|((with_reducible apply bS) <;> intro _))
 all_goals try
  ((with_reducible refine hk _ _ _ z.av ?_ ?_) <;> (clear hk;intros;first|decide|(exfalso;simp_all)))
 have h1:¬ (s=⟨#[]⟩\/t.s=⟨#[]⟩):=by simp [*]
 rw [az h1,az (by simp)] at hk
 refine Za ⟨s,⟨xv,xs⟩⟩ _ _ (λh' x=>?_)
 have q1:=Holds.top (i:=0) x rfl
 (replace z:=z.ao x;replace q0:=q0.over x;rw [aw h'])
 cases wP:mL ⟨s,⟨xv,xs⟩⟩
 rotate_left
 .repeat' ( simp only [aa,seval,jA])
  rw [aD wP] at hk
  exact hk _ _ _ z.av (λ_=>by decide) (λm hm=>by cases hm)
 rw [az (by rw [wP];decide)] at hk
 repeat' (simp only [aa,seval,jA])
 refine (ez (by simp only [jA])) z.av ?_
 repeat' (simp only [aa,seval,jA,q1.lay])
 refine ni (by have:=z.size;omega) (by omega) ?_
 simp only [aa,seval,jA]
 refine zsM l [⟨s,⟨xv,xs⟩⟩] v _ _ ((hl.mono z.inc).lay _ _) (zta (b:=⟨s,⟨xv,xs⟩⟩)) (by omega) (by simp) _ (λh' u x hu=>?_)
 (((with_reducible refine ix ?_ ?_ ?_);(· exact (by (simp only [iY]);have:=z.size;omega));(· exact x));replace z:=z.ao x;replace q1:=q1.over x;rw [aw h'])
 repeat' (simp only [aa,seval,jA,q1.lay])
 have Pf:=z.size
 refine zsQ (gE l [⟨s,⟨xv,xs⟩⟩]) u ⟨s,⟨xv,xs⟩⟩ _ (hu.lay _ _) (by unfold gE;rw [gw];omega) (PT hC.1) _ (λh' w x hw=>?_)
 (((with_reducible refine ix ?_ ?_ ?_);(· exact (by (simp only [iY]);have:=z.size;omega));(· exact x));replace z:=z.ao x;replace q1:=q1.over x;rw [aw h'])
 repeat' (first|simp only [aa,seval,jA]|((with_reducible refine ⟨z.cU.lay _ _,?_⟩);(intro _ h' zz x _);(simp only [bY,bC] at x);replace hw:=hw.over x;(replace z:=zz);(clear zz);rw [aw h']))
 exact hk _ _ _ z.av (λhm=>by cases hm) (λm hm=>by cases hm;exact ⟨rfl,(hw.low (by first|omega|(simp only [bh];omega))).lay _ _⟩)
end Go.Proofs.YtnkmeidmdaidhaaGreatDoor
namespace Go.Am
variable {n o:Nat} {cs vs:List ai}
structure aS (D:List Nat) (h h':Heap):Prop where
 size:h.size<=h'.size
 get:∀ B,B < h.size->B ∉ D->h'.get B=h.get B
section
variable {D D':List Nat} {a b c h h1 h2:Heap} {A B w:Nat} {bs:List aZ} {k:aZ}
theorem aS.refl (D:List Nat) (h:Heap):aS D h h:=⟨aR _,λ_ _ _=>rfl⟩
theorem Ext.bf (x:Ext a b) (D:List Nat):aS D a b:=⟨x.size,λB hB _=>x.get B hB⟩
theorem ff.bf (x:ff A a b) (hA:A∈D):aS D a b:=⟨x.size,λB hB hD=>x.get B hB (λe=>hD (e ▸ hA))⟩
theorem aS.lay (a:Heap) (bs:List aZ) (w:Nat) (D:List Nat):aS D a (a.lay bs w):=⟨by rw [bh];omega,λB hB _=>sU a bs w hB⟩
theorem aS.trans (f:aS D a b) (g:aS D' b c) (hD:∀ B∈D',B∈D\/a.size<=B):aS D a c :=
 ⟨eA f.size g.size,λB hB hn=>(g.get B (dr hB f.size) (λhh=>(hD B hh).elim hn (λe=>by omega))).trans (f.get B hB hn)⟩
theorem aS.over (f:aS D a h1) (x:Ext (h1.lay bs w) h2):aS D a h2:=(f.trans (aS.lay h1 bs w []) (λ_ h=>nomatch h)).trans (x.bf []) (λ_ h=>nomatch h)
theorem aS.eV (f:aS D a h1) (x:ff A (h1.lay bs w) h2) (hA:A∈D\/a.size<=A):aS D a h2 :=
 (f.trans (aS.lay h1 bs w []) (λ_ h=>nomatch h)).trans (x.bf (D:=[A]) (by simp)) (λB hB=>by rw [ep.1 hB];exact hA)
theorem aS.mono (f:aS D a b) (hs:∀ B∈D,B∈D'):aS D' a b:=⟨f.size,λB hB hn=>f.get B hB (λh=>hn (hs B h))⟩
theorem Holds.bf (q:Holds a B k) (f:aS D a b) (hB:B ∉ D):Holds b B k:=⟨dr q.lt f.size,(f.get B q.lt hB).trans q.get⟩
theorem aS.all (f:aS [] a b):bN a b:=⟨f.size,λB hB _=>f.get B hB (by simp)⟩
theorem Holds.JK (q:Holds a B k) (f:aS [] a b):Holds b B k:=⟨dr q.lt f.size,(f.get B q.lt (by simp)).trans q.get⟩
def bq:List Nat->Heap->Heap
 | [],h=>h
 |A::D,h=>kill A (bq D h)
theorem xJ:∀ (D:List Nat) (h:Heap),(bq D h).size=h.size
 | [],_=>rfl
 |A::D,h=>by unfold bq;rw [qY,xJ D h]
theorem uX:∀ (D:List Nat) (h:Heap),bN (bq D h) h
 | [],h=>bN.refl h
 |A::D,h=>(HL A _).trans (uX D h)
theorem FL:∀ {D:List Nat} {h:Heap} {B:Nat},B ∉ D->(bq D h).get B=h.get B
 | [],_,_,_=>rfl
 |A::D,h,B,hn=>by
  unfold bq
  rw [u7 (λe=>hn (by rw [e];exact np)),FL (λhh=>hn (pS _ hh))]
theorem XS:∀ {D:List Nat} {h:Heap} {B:Nat},B∈D->B < h.size->(bq D h).get B=some .dead
 |A::D,h,B,hm,hB=>by
  unfold bq
  by_cases he:B=A
  .subst he;exact FM (by rw [xJ];exact hB)
  .rw [u7 he]
   exact XS ((df.1 hm).resolve_left he) hB
theorem aS.inc (f:aS D a b) (hD:∀ B∈D',B∈D\/a.size<=B):bN (bq D a) (bq D' b):=by
 refine ⟨by rw [xJ,xJ];exact f.size,λB hB hd=>?_⟩
 rw [xJ] at hB
 have hn:B ∉ D:=λhh=>hd (XS hh hB)
 rw [FL hn,FL (λhh=>(hD B hh).elim hn (λe=>by omega))]
 exact f.get B hB hn
end
theorem Ow.bq {Z:Type} {r:aC Z} {h0 h:Heap} {e:TypeId} {A:Nat} {v:ai} {l:List Z} {D:List Nat} (f:Ow r h0 h e A v l) (ef:∀ h h' cs x,r.R h cs x->r.R h' cs x) (hk:0 < r.k) (hD:∀ B∈D,B < h0.size):Sl r (bq D h) v l:=by
 have gL:∀ {B},h0.size<=B->B ∉ D:=λhB hh=>by have:=hD _ hh;omega
 rcases f with ⟨_,rfl,rfl|⟨B,o,rfl,g0,g2,row,u,ro,g3⟩⟩|⟨row,e1,e2,e3,e4,e5,e6,e7,e8⟩
 .exact .nil
 .exact .inr ⟨B,o,0,row,u,ro,rfl,iN _,.inl ⟨by unfold G;omega,aR _⟩,by rw [xJ];exact g2,by rw [FL (gL g0)];exact g3,λi x hx=>by simp at hx⟩
 .obtain ⟨c1,c2,c3⟩:=CX (k:=r.k) (q:=l.length) hk (by unfold G;omega)
  refine .inr ⟨A,0,_,row,e,false,e1,by unfold maxLen;omega,.inr ⟨by omega,c3,by omega⟩,by rw [xJ];exact e4,by rw [FL (gL e3)];exact e5,λi x hx=>?_⟩
  obtain ⟨cs,g1,g2⟩:=e8 i x hx
  exact ⟨cs,by simpa using g1,ef _ _ _ _ g2⟩
theorem Ow.turn {Z:Type} {r:aC Z} {h0 h h':Heap} {e:TypeId} {A C:Nat} {v:ai} {l:List Z} {row:List ai} {u:TypeId} {ro:Bool} (ef:∀ h h' cs x,r.R h cs x->r.R h' cs x) (f:Ow r h0 h e A v l) (c:ff C h h') (hC:C≠A) (q:Holds h' C (.row row u ro)):Ow r h0 h' e A v l:=by
 rcases f with ⟨e1,e2,e3⟩|⟨row,e1,e2,e3,e4,e5,e6,e7,e8⟩
 .refine .inl ⟨e1,e2,?_⟩
  rcases e3 with e3|⟨B,o,g1,g0,g2,pw,u2,ro2,g3⟩
  .exact .inl e3
  .refine .inr ⟨B,o,g1,g0,dr g2 c.size,?_⟩
   by_cases hB:B=C
   .subst hB;exact ⟨_,_,_,q.get⟩
   .exact ⟨pw,u2,ro2,by rw [c.get B g2 hB];exact g3⟩
 .refine .inr ⟨row,e1,e2,e3,dr e4 c.size,by rw [c.get A e4 (Ne.symm hC)];exact e5,e6,e7,λi x hx=>?_⟩
  obtain ⟨cs,g1,g2⟩:=e8 i x hx
  exact ⟨cs,g1,ef _ _ _ _ g2⟩
def jc {Z:Type} (k:Nat) (cell:Z->List ai) (h:Heap) (u:TypeId) (A:Nat) (v:ai) (l:List Z):Prop :=
 (v=.slice none 0 0/\l=[])\/∃ (q:Nat) (row:List ai),v=.slice (some ⟨A,0,none⟩) l.length (G*k+q)/\Holds h A (.row row u false)/\row.length=q*k/\l.length<=q/\q<=1000000000/\∀ (i:Nat) (x:Z),l[i]? = some x->cut row (i*k) k=some (cell x)
section
variable {Z:Type} {k:Nat} {cell:Z->List ai} {h h1 h2:Heap} {u:TypeId} {A:Nat} {v:ai} {l:List Z} {T:bJ} {t e:TypeId} {K:aJ} {bs:List aZ} {w i:Nat} {x y:Z} {kd:IntKind}
theorem jc.nil:jc k cell h u A (.slice none 0 0) []:=.inl ⟨rfl,rfl⟩
theorem jc.hold (f:jc k cell h u A v l) (hO:∀ b,Holds h A b->Holds h1 A b):jc k cell h1 u A v l:=by
 rcases f with f|⟨q,row,e1,e2,e3⟩
 .exact .inl f
 .exact .inr ⟨q,row,e1,hO _ e2,e3⟩
theorem jc.over (f:jc k cell h1 u A v l) (x:Ext (h1.lay bs w) h2):jc k cell h2 u A v l:=f.hold λb q=>q.over x
theorem jc.lay (f:jc k cell h1 u A v l) (bs:List aZ) (w:Nat):jc k cell (h1.lay bs w) u A v l:=f.hold λb q=>q.on bs w
theorem jc.br {B:Nat} (f:jc k cell h1 u A v l) (c:ff B (h1.lay bs w) h2) (aM:A≠B):jc k cell h2 u A v l:=f.hold λb q=>q.br c aM
theorem jc.bf {D:List Nat} (f:jc k cell h1 u A v l) (c:aS D h1 h2) (aM:A ∉ D):jc k cell h2 u A v l:=f.hold λb q=>q.bf c aM
theorem jc.bQ (f:jc k cell h u A v l) (hd:T.desc t=some (.slice e)) (h2:Heap):Am.bQ T t v h2=some (.int .i64 l.length):=by
 rcases f with ⟨rfl,rfl⟩|⟨q,row,rfl,_⟩
 .simp [Am.bQ,hd]
 .simp [Am.bQ,hd]
theorem jc.shape (f:jc k cell h u A v l):∃ a n c,v=.slice a n c:=by
 rcases f with ⟨rfl,rfl⟩|⟨q,row,rfl,_⟩
 .exact ⟨_,_,_,rfl⟩
 .exact ⟨_,_,_,rfl⟩
theorem jc.row (f:jc k cell h u A v l) (hx:l[i]? = some x):∃ row,Holds h A (.row row u false)/\cut row (i*k) k=some (cell x):=by
 rcases f with ⟨_,rfl⟩|⟨q,row,rfl,e2,e3,e4,e5,e6⟩
 .simp at hx
 .exact ⟨row,e2,e6 i x hx⟩
theorem jc.at (hk:∀ x,(cell x).length=k) (f:jc k cell h u A v l) (hx:l[i]? = some x):gy h (.pointer (some ⟨A,i*k,none⟩)) (cell x):=by
 obtain ⟨row,q,c⟩:=f.row hx
 exact ⟨A,_,row,u,false,rfl,q.lt,q.get,by rw [hk];exact c⟩
theorem jc.lt (f:jc k cell h u A v l) (aM:l≠[]):A < h.size:=by
 rcases f with ⟨_,rfl⟩|⟨q,row,rfl,e2,_⟩
 .exact absurd rfl aM
 .exact e2.lt
theorem XW (hb:o+vs.length<=cs.length) (j:Nat):(aI cs o vs)[j]? = if j < o then cs[j]? else if j < o+vs.length then vs[j - o]? else cs[j]? := by
 unfold aI
 rw [se,BA,gR,Nat.min_eq_left (by omega)]
 by_cases h1:j < o
 .rw [aD h1,aD h1,qN,aD h1]
 .rw [az h1,az h1,BA]
  by_cases h2:j < o+vs.length
  .rw [aD (by omega),aD h2]
  .rw [az (by omega),az h2,lq]
   congr 1
   omega
theorem zhg (hb:o+vs.length<=cs.length):(aI cs o vs).length=cs.length:=by
 unfold aI;rw [cE,cE,gR,mf];omega
theorem zjq {row:List ai} {off:Nat} (hc:cut row o n=some cs) (hb:off+vs.length<=n):cut (aI row (o+off) vs) o n=some (aI cs off vs):=by
 unfold cut at hc ⊢
 split at hc
 .rename_i hle
  simp only [eh] at hc
  have jt:cs.length=n:=by rw [<- hc,gR,mf];omega
  rw [aD (by rw [zhg (by omega)];exact hle)]
  congr 1
  apply xZ
  intro j
  rw [qN,lq,XW (by omega),XW (by omega),<- hc,qN,lq]
  by_cases hj:j < n
  .rw [aD hj,aD hj]
   by_cases h1:j < off
   .rw [aD (by omega),aD h1]
   .rw [az (by omega),az h1]
    by_cases h2:j < off+vs.length
    .rw [aD (by omega),aD h2]
     congr 1
     omega
    .rw [az (by omega),az h2]
  .rw [az hj,az hj,az (by omega),az (by omega)]
 .cases hc
theorem zeZ {row:List ai} {o2:Nat} (hc:cut row o n=some cs) (hb:o2+vs.length<=row.length) (hd:o+n<=o2\/o2+vs.length<=o):cut (aI row o2 vs) o n=some cs:=by
 unfold cut at hc ⊢
 split at hc
 .rename_i hle
  simp only [eh] at hc
  rw [aD (by rw [zhg hb];exact hle),<- hc]
  congr 1
  apply xZ
  intro j
  rw [qN,qN,lq,lq,XW hb]
  by_cases hj:j < n
  .rw [aD hj,aD hj]
   rcases hd with hd|hd
   .rw [aD (by omega)]
   .rw [az (by omega),az (by omega)]
  .rw [az hj,az hj]
 .cases hc
theorem jc.store {off:Nat} {val:ai} (jY:∀ x,(cell x).length=k) (f:jc k cell h1 u A v l) (hx:l[i]? = some x) (hs:dJ T t=some n) (pf:off+n<=k) (hv:val.cells.toList=vs) (hl:vs.length=n) (bU:vs.all one=true) (hy:aI (cell x) off vs=cell y)
 (hK:∀ h',jc k cell h' u A v (l.set i y)->ff A (h1.lay bs w) h'->K undef h'):lG (i7 T t (.pointer (some ⟨A,i*k+off,none⟩)) val (h1.lay bs w)) K:=by
 have hi:i < l.length:=(fG.1 hx).1
 rcases f with ⟨_,rfl⟩|⟨q,row,rfl,e2,e3,e4,e5,e6⟩
 .simp at hi
 have hb:i*k+off+n<=row.length:=by
  rw [e3]
  calc i*k+off+n<=i*k+k:=by omega
   _=(i+1)*k:=by rw [vz]
   _<=q*k:=uJ _ (by omega)
 have hg:(h1.lay bs w).get A=some (.row row u false):=e2.lay bs w
 have hA:A < (h1.lay bs w).size:=(e2.on bs w).lt
 have dS:val.cells.size=n:=by rw [<- hl,<- hv];simp
 have he:i7 T t (.pointer (some ⟨A,i*k+off,none⟩)) val (h1.lay bs w)=some ((h1.lay bs w).set A (.row (aI row (i*k+off) vs) u false)):=by
  unfold i7
  simp only [hs,dO]
  rw [aD dS,hv]
  unfold nM
  rw [hg]
  simp only
  rw [aD (by simp only [dK,jm];exact ⟨by omega,bU⟩)]
 rw [he]
 refine hK _ (.inr ⟨q,aI row (i*k+off) vs,by rw [ja],P4 hA,?_,by rw [ja];exact e4,e5,λj z hz=>?_⟩) (NA hA)
 .unfold aI;rw [cE,cE,gR,mf];omega
 .rw [Ik] at hz
  by_cases fw:i=j
  .rw [aD fw,aD hi] at hz
   cases hz
   rw [<- fw,<- hy]
   exact zjq (e6 i x hx) (by omega)
  .rw [az fw] at hz
   refine zeZ (e6 j z hz) (by omega) ?_
   rcases Nat.lt_or_gt_of_ne fw with h|h
   .right
    have:(i+1)*k<=j*k:=uJ _ (by omega)
    rw [vz] at this
    omega
   .left
    have:(j+1)*k<=i*k:=uJ _ (by omega)
    rw [vz] at this
    omega
theorem zv3 {q:Nat} (hk:0 < k) (hq:q<=1000000000):(G*k+q) % G=q/\(G*k+q) / G=k/\G<=G*k+q:=by
 have hG:1000000000 < G:=by unfold G;omega
 refine ⟨?_,?_,?_⟩
 .rw [Nat.mul_add_mod,Dh (by omega)]
 .rw [Nat.mul_add_div (by omega),Nat.div_eq_of_lt (by omega),gx]
 .have:G*1<=G*k:=Nat.mul_le_mul_left _ hk
  omega
theorem jc.app {bytes j:Nat} {z:List ai} {u2:TypeId} {ro:Bool} {c:Nat} (jY:∀ x,(cell x).length=k) (iV:(cell x).all one=true) (hk:0 < k) (hd:T.desc t=some (.slice u)) (hi:T.info u=some (k,bytes,z)) (f:jc k cell h1 u A v l) (hg:bs[j]? = some (.row (cell x) u2 ro)) (hl:l.length < 900000000) (hb:(l.length+1)*bytes<=140737488355328)
 (hK:∀ v' h' A',jc k cell h' u A' v' (l++[x])->(A'=A/\A < h1.size\/A'=(h1.lay bs w).size)->(v=.slice none 0 0->Ext (h1.lay bs w) h')->(A < h1.size->ff A (h1.lay bs w) h')->K v' h') :
 dv (jT T t v (.slice (some ⟨h1.size+j,0,none⟩) 1 c) (h1.lay bs w)) K:=by
 have tP:(h1.lay bs w).get (h1.size+j)=some (.row (cell x) u2 ro):=by rw [jG];exact hg
 have GV:j < bs.length:=(fG.1 hg).1
 have hs:fU (.slice (some ⟨h1.size+j,0,none⟩) 1 c) k (h1.lay bs w)=some (1,cell x):=by
  unfold fU nj
  simp only [Nat.one_mul]
  rw [az (by omega)]
  unfold kY
  rw [tP]
  simp only
  unfold cut
  rw [aD (by rw [jY];omega),Gr,gb (by rw [jY];exact aR _)]
  rfl
 have mD:∀ (h2:Heap) (row:List ai),row.length=(l.length+1)*k->(∀ (i:Nat) (y:Z),(l++[x])[i]? = some y->cut row (i*k) k=some (cell y)) ->
  jc k cell (h2.push (.row row u false)) u h2.size (.slice (some ⟨h2.size,0,none⟩) (l.length+1) (G*k+(l.length+1))) (l++[x]):=λh2 row e1 e2 =>
  .inr ⟨l.length+1,row,by rw [cE];rfl,⟨by rw [Heap.size_push];omega,by rw [Heap.bA,aD rfl]⟩,e1,by rw [cE];exact aR _,by omega,e2⟩
 rcases f with ⟨rfl,rfl⟩|⟨q,row,rfl,e2,e3,e4,e5,e6⟩
 .have key:=zvM hd hi hk hs (by omega) iV (by simpa using hb) (by omega)
  rw [key]
  refine hK _ _ _ (mD _ (cell x) (by rw [jY];simp) (λi y hy=>?_)) (.inr rfl) (λ_=>?_) (λhA=>?_)
  .cases i with
   |zero =>
    simp at hy
    subst hy
    unfold cut
    rw [aD (by rw [jY];omega),Nat.zero_mul,Gr,gb (by rw [jY];exact aR _)]
   |succ i=>simp at hy
  .exact Ext.push _ _
  .exact (Ext.push _ _).eV
 .obtain ⟨c1,c2,c3⟩:=zv3 (k:=k) (q:=q) hk e5
  have mB:(h1.lay bs w).get A=some (.row row u false):=e2.lay bs w
  have hA:A < (h1.lay bs w).size:=(e2.on bs w).lt
  unfold jT
  simp only [hd,hi,hs,dO]
  rw [az (by omega),az (by
   simp only [sg,jm,zi,not_or]
   refine ⟨⟨⟨by omega,by omega⟩,by omega⟩,by rw [iV];decide⟩),c1]
  by_cases hq:l.length+1<=q
  .rw [aD hq,aD (by simp [c2])]
   have iB:0+l.length*k+(cell x).length<=row.length:=by
    rw [e3,jY]
    have:(l.length+1)*k<=q*k:=uJ _ hq
    rw [vz] at this
    omega
   have hw:nM A (0+l.length*k) (cell x) (h1.lay bs w)=some ((h1.lay bs w).set A (.row (aI row (0+l.length*k) (cell x)) u false)):=by
    unfold nM
    rw [mB]
    simp only
    rw [aD (by simp only [dK,jm];exact ⟨iB,iV⟩)]
   rw [hw]
   refine hK _ _ A (.inr ⟨q,aI row (0+l.length*k) (cell x),by rw [cE];rfl,P4 hA,?_,by rw [cE];exact hq,e5,λj z hz=>?_⟩) (.inl ⟨rfl,e2.lt⟩) (λh=>by cases h) (λ_=>NA hA)
   .unfold aI;rw [cE,cE,gR,mf];omega
   .rw [iA] at iB ⊢
    rw [BA] at hz
    by_cases hj:j < l.length
    .rw [aD hj] at hz
     refine zeZ (e6 j z hz) iB (.inl ?_)
     have:(j+1)*k<=l.length*k:=uJ _ hj
     rw [vz] at this
     exact this
    .rw [az hj] at hz
     have GV:j=l.length:=by
      have:=(fG.1 hz).1
      simp only [gF] at this
      omega
     subst GV
     rw [tp,C7] at hz
     cases hz
     unfold cut aI
     rw [aD (by rw [cE,cE,gR,mf,jY];rw [jY] at iB;omega),se,NL,gR,C6 (by rw [gR];omega),ya]
     rw [show l.length*k - min (l.length*k) row.length=0 by omega,Gr,List.take_append_of_le_length (by rw [jY];exact aR _),gb (by rw [jY];exact aR _)]
  .rw [az hq]
   have G3:l.length=q:=by omega
   have hc:nj (.slice (some ⟨A,0,none⟩) l.length (G*k+q)) k (h1.lay bs w)=some row:=by
    unfold nj
    simp only
    by_cases h0:l.length*k=0
    .rw [aD h0]
     congr 1
     rw [G3,<- e3] at h0
     exact (C8.1 h0).symm
    .rw [az h0]
     unfold kY
     rw [mB]
     simp only
     unfold cut
     rw [aD (by rw [e3,G3];omega),Gr,gb (by rw [e3,G3];exact aR _)]
   rw [hc]
   simp only [dO]
   rw [az (by omega)]
   simp only [mB]
   rw [aD (by simp [c2])]
   have kl:((h1.lay bs w).set A .dead).size=(h1.lay bs w).size:=Heap.size_set _ _ _
   have hn:=mD ((h1.lay bs w).set A .dead) (row++cell x) (by rw [cE,jY,e3,G3,vz]) (λi y hy=>by
    rw [BA] at hy
    by_cases hj:i < l.length
    .rw [aD hj] at hy
     exact YP (e6 i y hy)
    .rw [az hj] at hy
     have GV:i=l.length:=by
      have:=(fG.1 hy).1
      simp only [gF] at this
      omega
     subst GV
     rw [tp,C7] at hy
     cases hy
     have:=YG (a:=row) (b:=cell x) (o:=0) (n:=k) (c:=cell x) (by unfold cut;rw [aD (by rw [jY];omega),Gr,gb (by rw [jY];exact aR _)])
     rw [gx,e3,<- G3] at this
     exact this)
   rw [kl] at hn
   exact hK _ _ _ hn (.inr rfl) (λh=>by cases h) (λ_=>((NA hA).trans (Ext.push _ _).eV))
end
end Go.Am

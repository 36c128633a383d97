/- Walks: the document's lists of atoms, merged, without some. Written out by fill2.py. No condition. -/
import Derived.Test.YtmamldleclamjaaGreatDoorG40
import Derived.Test.YtmamldleclamjaaGreatDoorG39
set_option linter.unusedSimpArgs false
set_option linter.unusedVariables false
set_option maxRecDepth 100000
set_option maxHeartbeats 0
namespace Go.Proofs.YtmamldleclamjaaGreatDoor
open Go.Am Tryz
theorem zBU (l:aN) (a:aj) (v:ah) (h:Heap) (hl:Sl aK.atom h v l) (hn:l.length<=900) (aW:∀ x∈l,x.aY=true) (ha:a.aY=true) (K:aI)
 (hk:∀ h' w,Ext h h'->kN h h' 47 w (cz a (eW l))->K (.tuple #[w,.bool (!bL l a)]) h'):Ok prog aG ov 67 [v,a.val] h K:=by
 rw [ao h]
 have z:=Ext.refl h
 refine Ok.aw 16 (bu N67) ?_
 simp only [aa,seval,HU,gI]
 refine PG l.length l v _ (bo _) (hl.lay _ _) (by omega) aW _ (λh' w x ho=>?_)
 replace ho:=S7 (h0:=h) ho (by rw [bd];omega)
 have q0:=Holds.top (i:=0) x rfl
 (replace z:=z.an x;rw [ao h'])
 have s7:=BO l
 have FD:=ID aW
 have hoA:=ho.own (by omega)
 repeat' (simp only [aa,seval,HU,q0.lay,↓eP,ef,dy])
 refine Qb (eW l) a w _ (hoA.sl.lay _ _) (by omega) FD ha _ (λh' x=>?_)
 have X6:=(hoA.lay _ _).mono x.inc
 (replace z:=z.an x;replace q0:=q0.over x;rw [ao h'])
 rw [IV]
 cases hb:bL l a
 .rw [hb] at hk
  repeat' (simp only [aa,seval,HU,q0.lay,↓eP,ef,dy,IU])
  simp only [dx,seval,ly,zi]
  have hz:=z.size
  obtain ⟨w2,h2,e2,o2,A2,LO,c2⟩:=zAO (a:=a) (lw:=h'.low) bF Tu (by decide) (by decide) hz X6 (by omega)
  rw [e2]
  replace z:=z.cw c2 LO (by omega)
  rw [ao h2]
  simp only [aa,seval,HU]
  refine PG (eW l++[a]).length (eW l++[a]) w2 _ (bo _) (o2.sl.lay _ _) (by simp only [dI,dY,dK];omega) (λx hx=>(iA.1 hx).elim (FD x) (λhx=>by rw [fH.1 hx];exact ha)) _ (λh' w3 x o3=>?_)
  have mN:=z.size
  replace o3:=S7 (h0:=h) o3 (by rw [bd];omega)
  rw [zxP] at o3
  (replace z:=z.an x;rw [ao h'])
  repeat' (simp only [aa,seval,HU])
  exact hk _ _ z.aC (zj8 o3 (bH.lay _ _ _))
 .have Bp:=zrk (a:=a) (pe l).gK (by rw [IV,hb])
  rw [hb,Bp] at hk
  repeat' (simp only [aa,seval,HU])
  exact hk _ _ z.aC (zj8 (zj8 ho (bH.over (bH.refl _) x)) (bH.lay _ _ _))
theorem zw8 (l m:aN) (v u:ah) (h:Heap) (hl:Sl aK.atom h v l) (hm:Sl aK.atom h u m) (hn:l.length<=900) (RR:m.length<=900) (aW:∀ x∈l,x.aY=true) (Ii:∀ x∈m,x.aY=true) (K:aI)
 (hk:∀ h' w A,Ext h h'->Ow aK.atom h h' 47 A w ((eW l).filter (λx => !bL m x))->K w h'):Ok prog aG ov 102 [v,u] h K:=by
 rw [ao h]
 have z:=Ext.refl h
 refine Ok.aw 29 (bu JU) ?_
 repeat' (simp only [aa,seval,mU])
 refine PG l.length l v _ (bo _) (hl.lay _ _) (by omega) aW _ (λh' w x ho=>?_)
 have s7:=BO l
 have FD:=ID aW
 replace ho:=(ho.own (by omega)).sl
 (replace z:=z.an x;rw [ao h'])
 have Gb:∀ (h:Heap) (K:aI),aH (some w) h K=K w h:=λ_ _=>rfl
 generalize eW l=s at *
 simp only [aa,seval,mU]
 repeat' ((first|((with_reducible first|apply bq|apply qh|apply iS|apply Hk|apply zqT) <;> intro _)|((with_reducible apply ct);(· rfl))) <;> simp only [aa,seval,mU,Gb])
 have rU:=z.size
 obtain ⟨H0,sM⟩:∃ H0,H0=h':=⟨_,rfl⟩
 rw [<- sM] at ho rU
 obtain ⟨I1,aX⟩:∃ I:Nat->Env->Heap->Prop,I=(λn e h'=>∃ (i:Nat) (wo:ah) (A:Nat) (h1:Heap),h'=h1.lay [] h1.low/\Ext h h1/\(n=s.length - i/\i<=s.length/\Ow aK.atom H0 h1 47 A wo ((s.take i).filter (λx => !bL m x))/\bH H0 h1)/\∃ J:Nat->ah,e=(v::u::jr J 2 3 (wo::w::.int .i64 i::jr J 8 23 ([])))):=⟨_,rfl⟩
 refine du I1 _ (by rw [aX];exact ⟨0,.slice none 0 0,H0.size,_,rfl,z,⟨rfl,by omega,Ow.nil (bo _),by rw [sM];exact bH.refl _⟩,bm⟩) ?_
 intro n e h' aP
 rw [aX] at aP
 obtain ⟨i,wo,A,bx,rfl,z,hinv,J,rfl⟩:=aP
 obtain ⟨rfl,hi,ow,i1⟩:=hinv
 have gk:=ei i (by omega)
 have gv:=λ(hh:Heap)=>ho.bn bF hh
 simp only [aa,seval,mU,gv]
 refine bq (λkr=>?_) (λkr=>?_)
 rotate_left
 .rw [gA (by omega)] at ow
  repeat' (simp only [aa,seval,mU])
  exact hk _ _ A z.aC (zxy (ow.mono (bH.lay _ _ _)) rU)
 have hr:s[(i:Int).toNat]? = some (s.getD i ae):=jJ (by omega)
 have bY:s.getD i ae∈s:=fW hr
 have lW:s.take (i+1)=s.take i++[s.getD i ae]:=by rw [nS,jJ (l:=s) (i:=i) (by omega)];rfl
 simp only [aa,seval,mU]
 repeat' ((first|with_reducible refine oG (ho.mono i1) bF bN (by omega) hr (λp hp=>?_)|with_reducible refine mw hp fD bN ?_) <;> simp only [aa,seval,mU])
 refine Qb m _ u _ ((hm.mono z.inc).lay _ _) (by omega) Ii (FD _ bY) _ (λh' x=>?_)
 (replace z:=z.an x;replace ow:=ow.over x;replace i1:=i1.over x;rw [ao h'])
 cases hb:bL m (s.getD i ae)
 .simp only [aa,seval,mU]
  repeat' ((first|with_reducible refine oG (ho.mono i1) bF bN (by omega) hr (λp hp=>?_)|with_reducible refine mw hp fD bN ?_|((with_reducible apply ct);(· rfl))) <;> simp only [aa,seval,mU,IU])
  simp only [dx,seval,ly,zi]
  have Bb:=ow.fresh
  have gr:=i1.size
  have zF:((s.take i).filter (λx => !bL m x)).length<=900:=by
   have:=Hv (λx => !bL m x) (s.take i)
   rw [fw] at this
   omega
  obtain ⟨jV,jx⟩:=Jc (A:=A) (B:=h'.size+0) (r:=aK.atom) (c:=1) (y:=s.getD i ae) (by decide) (show (h'.lay [ba.row (s.getD i ae).cells 47 false] h'.low).get (h'.size+0)=some (.row (s.getD i ae).cells 47 false) by rw [iB];rfl) rfl
  refine G9 (r:=aK.atom) bF r6 rfl (by decide) gr ow jV jx (by omega) (by omega) (λw5 h5 A5 o5 c5 hA5=>?_)
  have i5:=PE (i1.trans (bH.lay _ _ _)) c5 Bb
  replace z:=z.aC.step c5 (by omega)
  rw [ao h5]
  repeat' (simp only [aa,seval,mU])
  rw [gk]
  (rw [aX];with_reducible refine cy (m:=_) ?_ ⟨i+1,w5,A5,_,rfl,z,⟨rfl,by omega,by rw [lW,Ao,HB,hb];simpa using o5,i5⟩,bm⟩;omega)
 .repeat' (first|simp only [aa,seval,mU]|((with_reducible apply ct);(· rfl)))
  rw [gk]
  (rw [aX];with_reducible refine cy (m:=_) ?_ ⟨i+1,wo,A,_,rfl,z,⟨rfl,by omega,by rw [lW,Ao,HB,hb];simpa using ow,i1⟩,bm⟩;omega)
theorem zux (l:aN) (a:aj) (v:ah) (h:Heap) (hl:Sl aK.atom h v l) (hn:l.length<=900) (aW:∀ x∈l,x.aY=true) (ha:a.aY=true) (K:aI)
 (hk:∀ h' w A,Ext h h'->Ow aK.atom h h' 47 A w (eR a (eW l))->K (.tuple #[w,.bool (bL l a)]) h'):Ok prog aG ov 68 [v,a.val] h K:=by
 rw [ao h]
 have z:=Ext.refl h
 refine Ok.aw 11 (bu N68) ?_
 simp only [aa,seval,HV,gI]
 refine lZ (λh' x hq=>?_)
 have q0:=hq 0 _ rfl
 clear hq
 (replace z:=z.an x;rw [ao h'])
 with_reducible first|refine dL (by simp only [HV]) z.aC ?_
 repeat' (simp only [aa,seval,HV,q0.lay,↓eP,ef,dy,IU])
 have hz:=z.size
 refine vN (by omega) (by omega) ?_
 simp only [aa,seval,HV]
 refine zw8 l [a] v _ _ ((hl.mono z.inc).lay _ _) zzO hn (by simp) aW (by simpa using ha) _ (λh' w A x ho=>?_)
 rw [zwa] at ho
 replace ho:=zxy (h0:=h) ho (by rw [bd];omega)
 (((with_reducible refine cW ?_ ?_ ?_);(· exact (by (simp only [cV]);have:=z.size;omega));(· exact x));replace z:=z.an x;replace q0:=q0.over x;rw [ao h'])
 repeat' (simp only [aa,seval,HV,q0.lay,↓eP,ef,dy])
 refine Qb l a v _ ((hl.mono z.inc).lay _ _) (by omega) aW ha _ (λh' x=>?_)
 (((with_reducible refine cW ?_ ?_ ?_);(· exact (by (simp only [cV]);have:=z.size;omega));(· exact x));replace z:=z.an x;replace q0:=q0.over x;replace ho:=ho.over x;rw [ao h'])
 generalize bL l a=b at hk ⊢
 cases b
 all_goals
  repeat' (first|simp only [aa,seval,HV]|((with_reducible refine ⟨z.cK.lay _ _,?_⟩);(intro _ h' zz x _);(simp only [b9,bG] at x);replace q0:=q0.over x;replace ho:=ho.over x;(replace z:=zz);(clear zz);rw [ao h']))
  exact hk _ _ A z.aC (ho.mono (bH.lay _ _ _))
theorem lT.cT {N b:Nat} {h h2:Heap} {S0:Nat} {E:List Nat} {d:aq} {q:Int} {facts:au->aN} {az us:au->Nat} (s:lT N b h S0 E d q facts az us) (f:aM [] h h2):lT N b h2 S0 E d q facts az us:=by
 obtain ⟨T0,D,NM,v0,v1,nv,rfl,g1,g2,g3,g4,g5,g6,g7,g8⟩:=s
 have hi:bH (aD (NM::D) h) (aD (NM::D) h2):=(f.mono (D':=NM::D) (λ_ h=>nomatch h)).inc (λB hB=>.inl hB)
 exact ⟨T0,D,NM,v0,v1,nv,rfl,g1.cT f (by simp),g2.cT f (λB hB=>by simp),g3.hold (λb q=>q.cT f (by simp)),g4.mono hi,g5.mono hi,g6,λaR x hx=>(g7 aR x hx).imp λs hs=>⟨hs.1,hs.2.mono hi⟩,g8⟩
theorem lT.lay {N b:Nat} {h:Heap} {S0:Nat} {E:List Nat} {d:aq} {q:Int} {facts:au->aN} {az us:au->Nat} (s:lT N b h S0 E d q facts az us) (bs:List ba) (w:Nat):lT N b (h.lay bs w) S0 E d q facts az us:=s.cT (aM.lay _ _ _ _)
theorem lT.over {N b:Nat} {h h2:Heap} {bs:List ba} {w:Nat} {S0:Nat} {E:List Nat} {d:aq} {q:Int} {facts:au->aN} {az us:au->Nat} (s:lT N b h S0 E d q facts az us) (x:Ext (h.lay bs w) h2):lT N b h2 S0 E d q facts az us:=s.cT ((aM.refl [] h).over x)
section
variable {X:List Nat} {N b:Nat} {h h2:Heap} {S0:Nat} {E:List Nat} {d:aq} {q:Int} {facts:au->aN} {az us:au->Nat}
theorem eH.cT (s:eH X N b h S0 E d q facts az us) (f:aM [] h h2):eH X N b h2 S0 E d q facts az us:=⟨s.1.cT (f.kill X),s.2.1,λB hB=>dJ (s.2.2 B hB) f.size⟩
theorem eH.lay (s:eH X N b h S0 E d q facts az us) (bs:List ba) (w:Nat):eH X N b (h.lay bs w) S0 E d q facts az us:=s.cT (aM.lay _ _ _ _)
theorem eH.over {bs:List ba} {w:Nat} (s:eH X N b h S0 E d q facts az us) (x:Ext (h.lay bs w) h2):eH X N b h2 S0 E d q facts az us:=s.cT ((aM.refl [] h).over x)
theorem eH.un (s:eH X N b h S0 E d q facts az us):lT N b h S0 E d q facts az us:=by
 obtain ⟨⟨T0,D,NM,v0,v1,nv,rfl,g1,g2,g3,g4,g5,g6,g7,g8⟩,jR,hX⟩:=s
 have u:=aM.gZ X h
 have hi:=zDC (NM::D) X h
 exact ⟨T0,D,NM,v0,v1,nv,rfl,g1.cT u (g1.alive (by simp)),g2.cT u (λB hB=>jR B (eQ _ hB)),g3.hold (λb q=>q.cT u (jR _ (by simp))),g4.mono hi,g5.mono hi,g6,λaR x hx=>(g7 aR x hx).imp λs hs=>⟨hs.1,hs.2.mono hi⟩,g8⟩
theorem eH.lt (s:eH X N b h S0 E d q facts az us):S0 < h.size/\∀ B∈E,N<=B/\B < h.size:=by
 obtain ⟨T0,D,NM,v0,v1,nv,rfl,g1,g2,g3,g4,g5,g6,g7,g8,g9,g10,g11⟩:=s.un
 refine ⟨g1.lt,λB hB=>?_⟩
 rcases cJ.1 hB with rfl|hB
 .exact ⟨g11,g3.lt⟩
 .exact g2.lo B hB
theorem eH.by (s:eH X N b h S0 E d q facts az us) (f:aM X h h2):eH [] N b h2 S0 E d q facts az us:=by
 obtain ⟨⟨T0,D,NM,v0,v1,nv,rfl,g1,g2,g3,g4,g5,g6,g7,g8⟩,jR,hX⟩:=s
 have u:aM X (aD X h) h2:=(aM.gZ X h).trans f (λB hB=>.inl hB)
 have hi:bH (aD (NM::D) (aD X h)) (aD (NM::D) h2):=by
  rw [<- Dk]
  exact (aM.mono f (D':=(NM::D)++X) (λB hB=>Jn _ hB)).inc (λB hB=>.inl (Jl _ hB))
 exact ⟨⟨T0,D,NM,v0,v1,nv,rfl,g1.cT u (g1.alive (by simp)),g2.cT u (λB hB=>jR B (eQ _ hB)),g3.hold (λb q=>q.cT u (jR _ (by simp))),g4.mono hi,g5.mono hi,g6,λaR x hx=>(g7 aR x hx).imp λs hs=>⟨hs.1,hs.2.mono hi⟩,g8⟩,λ_ _=>by simp,λ_ h=>by simp at h⟩
end
theorem zB2 (d:aq) (p0 p1 p2 p5 p6:ah) (q b:Int) (h:Heap) (cR:bc 1 h) (bt:(dW p0 p1 p2 p5 p6 q b).all Am.one=true) (hd:fx h p0 p1 p2 p5 p6 d) (hq:d.dV=q) (hb:d.cP=b) (hn:Ef d) (vk:d.ab.length<=100000) (FL:d.bJ.length<=100000) (X:List Nat) (hX:∀ B∈X,B < h.size) (K:aI)
 (xU:oF d≠0->∀ h',Ext h h'->K (.tuple #[.pointer none,.int .i64 (oF d)]) h')
 (gu:oF d=0->∀ h' S0 E,Ext h h'->eH X h.size 0 h' S0 E d q (λ_=>[]) (λ_=>0) (λ_=>0)->K (.tuple #[.pointer (some ⟨S0,0,none⟩),.int .i64 0]) h'):Ok prog aG ov 7 [hU p0 p1 p2 p5 p6 q b] h K:=by
 rw [ao h]
 have z:=Ext.refl h
 refine Ok.aw 12 (bu N7) ?_
 simp only [aa,seval,c7,kG,↓iR,gO,fY]
 refine zwY d p0 p1 p2 p5 p6 q b _ (cR.lay _ _) bt (hd.lay _ _) hq hb hn _ (λh' x=>?_)
 have q0:=Holds.top (i:=0) x rfl
 (replace z:=z.an x;replace hd:=hd.over x;rw [ao h'])
 simp only [aa,seval,c7]
 refine iS (λaS=>?_) (λheq=>?_)
 .simp only [aa,seval,c7]
  exact xU aS _ z.aC
 simp only [aa,seval,c7,q0.lay,↓iR,gO,fY]
 have hq0:=q0.lt
 refine zxd d p0 p1 p2 p5 p6 q b _ bt (hd.lay _ _).s0 (hd.lay _ _).s1 vk FL _ (λh' v0 v1 A0 A1 x o0 o1=>?_)
 have xz:∀ B∈h.size::X,B < h.size+1:=λB hB=>by
  rcases cJ.1 hB with rfl|hB
  .omega
  .have:=hX B hB;omega
 have s0:=(o0.lay [] h'.low).aD (D:=h.size::X) (λ_ _ _ _ q=>q) (by decide) (λB hB=>by have:=xz B hB;rw [bd];simp only [dK];omega)
 have s1:=(o1.lay [] h'.low).aD (D:=h.size::X) (λ_ _ _ _ q=>q) (by decide) (λB hB=>by have:=xz B hB;rw [bd];simp only [dK];omega)
 (replace z:=z.an x;replace q0:=q0.over x;replace hd:=hd.over x;rw [ao h'])
 have hq1:=q0.lt
 simp only [aa,seval,c7]
 refine zzo h.size d v0 v1 q _ h.size (by rw [bd];omega) ⟨bo _,by rw [bd];omega⟩ X hX s0 s1 _ (λh' S0 E x fb=>?_)
 (replace z:=z.an x;replace q0:=q0.over x;replace hd:=hd.over x;rw [ao h'])
 simp only [aa,seval,c7]
 exact gu heq _ S0 E z.aC (fb.lay _ _)
theorem sK (x):cm prog aG .eql 33 (.pointer (some x)) (.pointer none)=some (.bool false):=by kernel_rfl
theorem Y5 (x):cm prog aG .neq 33 (.pointer (some x)) (.pointer none)=some (.bool true):=by kernel_rfl
theorem zC1 (T0:Nat) (v0 v1:ah) (q:Int) (NM:Nat):cut (DA T0 v0 v1 q NM) 1 7=some (dW v0 v1 (.slice none 0 0) (.slice none 0 0) (.slice none 0 0) q 0):=rfl
theorem DZ (T0:Nat) (v0 v1:ah) (q:Int) (NM:Nat):(DA T0 v0 v1 q NM)[8]? = some (.map (some NM)):=rfl
theorem zFn (T0:Nat) (v0 v1:ah) (q:Int) (NM:Nat):(DA T0 v0 v1 q NM)[0]? = some (.pointer (some ⟨T0,0,none⟩)):=rfl
theorem zFo (T0:Nat) (v0 v1:ah) (q:Int) (NM:Nat):(DA T0 v0 v1 q NM)[4]? = some (.int .i64 q):=rfl
theorem qM:aG.desc 84=some (.map 9 88):=by kernel_rfl
theorem zk:aG.zero 88=some (.agg #[.slice none 0 0,.int .u64 0]):=by kernel_rfl
theorem NQ:di aG 88=some 2:=by kernel_rfl
theorem zCU (a) (n c:Nat) (v:Int):qg aG 88 [(0,.slice a n c),(1,.int .u64 v)]=some (.agg #[.slice a n c,.int .u64 v]):=by kernel_rfl
theorem ZS {n:Nat} (h:n < 1000000000):IntKind.u64.wrap ((n:Int)+1)=((n+1:Nat):Int):=by
 unfold IntKind.wrap
 simp [IntKind.signed,IntKind.bits]
 omega
def ln (f:au->aN) (s:au) (l:aN):au->aN:=λx=>if x=s then l else f x
theorem Za {h:Heap} {v0 v1:ah} {d:aq} (s0:Sl aK.str h v0 d.ab) (s1:Sl aK.pred h v1 d.bJ) (q:Int):(dW v0 v1 (.slice none 0 0) (.slice none 0 0) (.slice none 0 0) q 0).all Am.one=true:=by
 have h0:=s0.one
 have h1:=s1.one
 simp only [dW,nC,po,h0,h1]
 rfl
theorem zlQ (d:aq) (q:Int) (s:au) (a:aj) (room:Int) (fv:ah) (is:aN->Bool) (tn:aN->aN) (facts:au->aN) (az us:au->Nat) (h hc:Heap) (z:Ext h hc) (N b:Nat) (S0:Nat) (E:List Nat) (hN:N=h.size) (X:List Nat) (fb:eH X N b hc S0 E d q facts az us) (cR:bc 1 hc) (MX:d.ab.length<=1000) (gv:(facts s).length<=800) (aW:∀ x∈facts s,x.aY=true) (hv:az s < 1000000000)
 (htn:(tn (facts s)).length<=900)
 (ht:∀ (h2:Heap) (v:ah) (K:aI),Sl aK.atom h2 v (facts s)->(∀ h' w,Ext h2 h'->(∃ a n c,w=.slice a n c)->(is (facts s)=true->i7 h2 h' 47 w (tn (facts s)))->K (.tuple #[w,.bool (is (facts s))]) h')->vY prog aG ov [v,a.val] h2 K fv)
 (K:aI)
 (xU:fG d s a≠0->∀ h',Ext h h'->aM [] hc h'->K (.tuple #[.bool false,.int .i64 (fG d s a)]) h')
 (gu:fG d s a=0->is (facts s)=false->∀ h',Ext h h'->aM [] hc h'->K (.tuple #[.bool false,.int .i64 0]) h')
 (oU:fG d s a=0->is (facts s)=true->room < (tn (facts s)).length->∀ h',Ext h h'->aM [] hc h'->K (.tuple #[.bool false,.int .i64 12]) h')
 (zI:fG d s a=0->is (facts s)=true->((tn (facts s)).length:Int)<=room->∀ h',Ext h h'->aM E hc h'->eH X N b h' S0 E d q (ln facts s (tn (facts s))) (fU az s (az s+1)) us->K (.tuple #[.bool true,.int .i64 0]) h'):Ok prog aG ov 45 [.pointer (some ⟨S0,0,none⟩),.string s,a.val,.int .i64 room,fv] hc K:=by
 obtain ⟨⟨T0,D,NM,v0,v1,nv,rfl,x1,x2,x3,x4,x5,g6,x7,g8,g9,g10,g11⟩,jR,Fa⟩:=fb
 have ux:=aM.gZ X hc
 have ui:=zDC (NM::D) X hc
 have AY:=x1.alive (by simp)
 have uU:NM ∉ X:=jR _ (by simp)
 have zt:∀ B∈D,B ∉ X:=λB hB=>jR B (eQ _ hB)
 have g1:=x1.cT ux AY
 have g2:=x2.cT ux zt
 have g3:=x3.hold (λb q=>q.cT ux uU)
 have g4:=x4.mono ui
 have g5:=x5.mono ui
 have g7:∀ aR x,dq nv aR=some x->∃ s,x=.agg #[s,.int .u64 (az aR:Int)]/\Sl aK.atom (aD (NM::D) hc) s (facts aR):=λaR x hx=>(x7 aR x hx).imp λs hs=>⟨hs.1,hs.2.mono ui⟩
 have bt:=Za g4 g5 q
 have t4:=g4.mono (nu _ _)
 have t5:=g5.mono (nu _ _)
 rw [ao hc]
 refine Ok.aw 55 (bu N45) ?_
 simp only [aa,seval,pA,gI,sK]
 with_reducible first|refine dL (by simp only [pA]) z.aC ?_
 simp only [aa,seval,pA,g1.lay,↓zC1,gO,fY,↓eP,ef,dy]
 refine zzl d s a v0 v1 _ _ _ q 0 _ (cR.lay _ _) bt (t4.lay _ _) (t5.lay _ _) MX _ (λh' x=>?_)
 have q0:=Holds.top (i:=0) x rfl
 have fr:aM [] hc h':=(aM.refl [] hc).over x
 (((with_reducible refine cW ?_ ?_ ?_);(· exact (by (simp only [cV]);have:=z.size;omega));(· exact x));replace z:=z.an x;replace g1:=g1.over x;rw [ao h'])
 simp only [aa,seval,pA]
 ((with_reducible refine ⟨z.cK.lay _ _,?_⟩);(intro _ h' zz x _);(simp only [b9,bG] at x);replace g1:=g1.over x;replace q0:=q0.over x;replace fr:=fr.over x;(replace z:=zz);(clear zz);rw [ao h'])
 simp only [aa,seval,pA]
 refine iS (λaS=>?_) (λheq=>?_)
 .simp only [aa,seval,pA]
  exact xU aS _ z.aC (fr.trans (aM.lay _ _ _ []) (λ_ h=>nomatch h))
 have g3':=g3.hold (λb q=>q.cT fr (by simp))
 have F7:=fr.size
 have hq0:=q0.lt
 have Ie:=g1.lt
 obtain ⟨sv,dS,nH⟩:∃ sv,(dq nv s).getD (.agg #[.slice none 0 0,.int .u64 0])=.agg #[sv,.int .u64 (az s:Int)]/\Sl aK.atom (aD (NM::D) hc) sv (facts s):=by
  cases hl:dq nv s with
  |none =>
   obtain ⟨e1,e2⟩:=g6 s hl
   rw [e1,e2]
   exact ⟨_,rfl,.nil⟩
  |some x=>exact g7 s x hl
 obtain ⟨sa,sn,vC,rfl⟩:=nq nH
 simp only [aa,seval,pA,kE,g1.lay,DZ,Aa]
 refine GP g3' qM zg zk ?_
 simp only [dS,gB,if_false]
 simp only [aa,seval,pA]
 have hA:Sl aK.atom h' (.slice sa sn vC) (facts s):=(nH.mono (nu _ _)).mono fr.all
 have tg:∀ (h:Heap) (K:aI),aH (some (.slice sa sn vC)) h K=K (.slice sa sn vC) h:=λ_ _=>rfl
 have qu:=z.size
 refine zkL (i:=0) rfl NQ rfl rfl rfl rfl ?_
 simp only [nR]
 simp only [aa,seval,pA,tg,q0.lay,↓eP,ef,dy]
 have H3:∀ B∈NM::D,B < h'.size:=λB hB=>by
  rcases cJ.1 hB with rfl|hB
  .have:=g3.lt;omega
  .have:=(g2.lo B hB).2;omega
 refine ht _ _ _ (hA.lay _ _) (λh' w x mM ho=>?_)
 have q2:=Holds.top (i:=0) x rfl
 (replace z:=z.an x;replace g1:=g1.over x;replace q0:=q0.over x;replace fr:=fr.over x;rw [ao h'])
 obtain ⟨wa,wn,wc,rfl⟩:=mM
 have RW:∀ (h:Heap) (K:aI),aH (some (.slice wa wn wc)) h K=K (.slice wa wn wc) h:=λ_ _=>rfl
 cases rQ:is (facts s)
 .simp only [aa,seval,pA,RW]
  (with_reducible apply ct);(· rfl)
  simp only [aa,seval,pA]
  exact gu heq rQ _ z.aC (fr.trans (aM.lay _ _ _ []) (λ_ h=>nomatch h))
 replace ho:=ho rQ
 have Ya:=ho
 obtain ⟨AW,tw,RX,hwq,hwA,hwl⟩:=ho
 simp only [Value.slice.injEq] at RX
 obtain ⟨hwa,RZ,hwc⟩:=RX
 simp only [aa,seval,pA,RW]
 (with_reducible apply ct);(· rfl)
 simp only [aa,seval,pA]
 refine bq (λsS=>?_) (λhle=>?_)
 .simp only [aa,seval,pA]
  exact oU heq rQ (by rw [<- RZ];omega) _ z.aC (fr.trans (aM.lay _ _ _ []) (λ_ h=>nomatch h))
 have Is:IntKind.u64.wrap ((az s:Int)+1)=((az s+1:Nat):Int):=ZS (by omega)
 simp only [aa,seval,pA]
 with_reducible first|refine dL (by simp only [pA]) z.aC ?_
 simp only [aa,seval,pA,kE,g1.lay,DZ,q2.lay,Is,zCU,Pz]
 have gm:=g3.hold (λb q=>q.cT fr (by simp))
 refine zs7 gm qM zg (λh3 m3 c3=>?_)
 have hz:=z.size
 have E8:h.size<=NM:=by omega
 have Xz:=g3.lt
 refine nM (A:=NM) (by kernel_rfl) (by rw [bd];omega) (by omega) (by simpa only [b9,bd,bG,dY,dK,i0] using c3) ?_
 have z3:=(z.lk [] (h'.size+0) (by omega)).step c3 E8
 have f3:aM [NM] h' h3:=(aM.refl [NM] h').ji c3 (.inl (by simp))
 have WZ:S0≠NM:=λe=>g8 (by rw [e];simp)
 have k1:=Ya.kill (D:=(NM::D)++X) (λB hB=>by
  rw [bd]
  rcases iA.1 hB with hB|hB
  .have:=H3 B hB;omega
  .have:=Fa B hB;omega)
 rw [Dk] at k1
 clear z q0 q2
 have z:=z3
 rw [ao h3]
 simp only [dx,seval,pA]
 ((with_reducible refine ⟨z.cK.lay _ _,?_⟩);(intro _ h4 zz x _);(simp only [b9,bG] at x))
 replace f3:=f3.over x
 replace m3:=m3.over x
 clear z
 have z:=zz
 rw [ao h4]
 simp only [aa,seval,pA]
 have f4:aM [NM] h' (h4.lay [] h4.low):=f3.trans (aM.lay _ _ _ []) (λ_ h=>nomatch h)
 have f5:aM [NM] hc (h4.lay [] h4.low):=fr.mono (D':=[NM]) (λ_ h=>nomatch h) |>.trans f4 (λB hB=>.inl hB)
 have vx:∀ B∈[NM],B∈NM::D:=λB hB=>by rw [fH.1 hB];simp
 have i1:bH (aD (NM::D) (aD X hc)) (aD (NM::D) (aD X (h4.lay [] h4.low))):=((f5.kill X).mono vx).inc (λB hB=>.inl hB)
 have i2:bH (aD (NM::D) (aD X h')) (aD (NM::D) (aD X (h4.lay [] h4.low))):=((f4.kill X).mono vx).inc (λB hB=>.inl hB)
 refine zI heq rQ (by rw [<- RZ];omega) _ z.aC (f5.mono vx) ⟨⟨T0,D,NM,v0,v1,gp nv s (.agg #[.slice wa wn wc,.int .u64 ((az s+1:Nat):Int)]),rfl,x1.cT (f5.kill X) (by simpa using WZ),x2.cT (f5.kill X) (λB hB hm=>g9 (by rw [<- fH.1 hm];exact hB)),(m3.lay _ _).hold (λ_ q=>q.iU uU),x4.mono i1,x5.mono i1,λaR hw=>?_,λaR y hw=>?_,g8,g9,g10,g11⟩,jR,λB hB=>dJ (Fa B hB) f5.size⟩
 .rw [G3] at hw
  by_cases mM:aR=s
  .rw [aB mM] at hw;cases hw
  .rw [aA mM] at hw
   unfold ln
   rw [aA mM,tC mM]
   exact g6 aR hw
 .rw [G3] at hw
  by_cases mM:aR=s
  .rw [aB mM] at hw
   cases hw
   subst mM
   unfold ln
   rw [aB rfl,wM]
   exact ⟨_,rfl,k1.mono i2⟩
  .rw [aA mM] at hw
   unfold ln
   rw [aA mM,tC mM]
   exact (x7 aR y hw).imp λv hv=>⟨hv.1,hv.2.mono i1⟩
theorem lT.turn {N b2:Nat} {h h2:Heap} {S0 T0 NM:Nat} {D D2:List Nat} {d:aq} {q:Int} {facts:au->aN} {az gq:au->Nat} {v0 v1:ah} {nv:List (au × ah)} (q1:Holds h S0 (.row (DA T0 v0 v1 q NM) 86 false)) (m:dn h NM nv) (s0:Sl aK.str (aD (NM::D) h) v0 d.ab) (s1:Sl aK.pred (aD (NM::D) h) v1 d.bJ)
 (g6:∀ aR,dq nv aR=none->facts aR=[]/\az aR=0) (g7:∀ aR x,dq nv aR=some x->∃ s,x=.agg #[s,.int .u64 (az aR:Int)]/\Sl aK.atom (aD (NM::D) h) s (facts aR)) (g8:S0 ∉ NM::D) (g9:NM ∉ D) (g10:N<=S0) (g11:N<=NM)
 (f:aM D h h2) (t:dZ N b2 h2 D2 T0 gq) (hD:∀ B∈D2,B∈D\/h.size<=B):lT N b2 h2 S0 (NM::D2) d q facts az gq:=by
 have hi:bH (aD (NM::D) h) (aD (NM::D2) h2):=(f.mono (D':=NM::D) (λB hB=>eQ _ hB)).inc (λB hB=>by
  rcases cJ.1 hB with rfl|hB
  .exact .inl (by simp)
  .exact (hD B hB).imp (eQ _) id)
 have hS:S0 ∉ NM::D2:=λhm=>by
  rcases cJ.1 hm with e|hm
  .exact g8 (by rw [e];simp)
  .rcases hD _ hm with e|e
   .exact g8 (eQ _ e)
   .have:=q1.lt;omega
 have hM:NM ∉ D2:=λhm=>by
  rcases hD _ hm with e|e
  .exact g9 e
  .have:=m.lt;omega
 exact ⟨T0,D2,NM,v0,v1,nv,rfl,q1.cT f (λhm=>g8 (eQ _ hm)),t,m.hold (λb q=>q.cT f g9),s0.mono hi,s1.mono hi,g6,λaR x hx=>(g7 aR x hx).imp λs hs=>⟨hs.1,hs.2.mono hi⟩,hS,hM,g10,g11⟩
theorem ZP (T0:Nat) (v0 v1:ah) (q:Int) (NM:Nat):cut (DA T0 v0 v1 q NM) 0 1=some [.pointer (some ⟨T0,0,none⟩)]:=rfl
theorem zxE (a:aj) (l:aN):cz a l≠[]:=by
 cases l with
 |nil=>simp [cz]
 |cons x r =>
  unfold cz
  split
  .simp
  .split <;> simp
theorem zt9 (d:aq) (q:Int) (s:au) (a:aj) (facts:au->aN) (az us:au->Nat) (h hc:Heap) (z:Ext h hc) (N b:Nat) (S0:Nat) (E:List Nat) (hN:N=h.size) (X:List Nat) (fb:eH X N b hc S0 E d q facts az us) (cR:bc 1 hc) (MX:d.ab.length<=1000) (gv:(facts s).length<=800) (aW:∀ x∈facts s,x.aY=true) (ha:a.aY=true) (hv:az s < 1000000000) (vu:eW (facts s)=facts s) (hb:b < 50000) (ku:∀ x,us x < 1000000000)
 (dF:fG d s a=0->∀ x,wQ a x->x.size≠0/\x.size<=255) (og:(cz a (facts s)).length<=900)
 (K:aI)
 (xU:fG d s a≠0->∀ h',Ext h h'->aM [] hc h'->K (.tuple #[.bool false,.int .i64 (fG d s a)]) h')
 (gu:fG d s a=0->bL (facts s) a=true->∀ h',Ext h h'->aM [] hc h'->K (.tuple #[.bool false,.int .i64 0]) h')
 (oU:fG d s a=0->bL (facts s) a=false->q < (cz a (facts s)).length->∀ h',Ext h h'->aM [] hc h'->K (.tuple #[.bool false,.int .i64 12]) h')
 (zI:fG d s a=0->bL (facts s) a=false->((cz a (facts s)).length:Int)<=q->∀ h' cs E2,Ext h h'->aM E hc h'->(∀ B∈E2,B∈E\/hc.size<=B)->cs.length<=4->cs.Nodup->(∀ x,x∈cs↔wQ a x)->eH X N (b+4) h' S0 E2 d q (ln facts s (cz a (facts s))) (fU az s (az s+1)) (ja us cs)->K (.tuple #[.bool true,.int .i64 0]) h'):Ok prog aG ov 25 [.pointer (some ⟨S0,0,none⟩),.string s,a.val] hc K:=by
 subst hN
 have Fa:=fb.2.2
 obtain ⟨⟨T0,D,NM,v0,v1,nv,rfl,x1,g2,g3,_⟩,_⟩:=id fb
 have g1:=x1.cT (aM.gZ X hc) (x1.alive (by simp))
 have Fw:=fb.lt
 rw [ao hc]
 refine Ok.aw 32 (bu N25) ?_
 simp only [aa,seval,AN,Y5,g1.lay,zFo,gI,↓eP,ef,dy]
 refine zlQ d q s a q _ (λl => !bL l a) (λl=>cz a (eW l)) facts az us h _ z.aC h.size b S0 (NM::D) rfl X (fb.lay _ _) (cR.lay _ _) MX gv aW hv (by rw [vu];exact og) (λh2 v K2 gG hk=>?_) _ (λhe h' z2 fr=>?_) (λhe rQ h' z2 fr=>?_) (λhe rQ uc h' z2 fr=>?_) (λhe rQ uc h' z2 fr pY=>?_)
 .rw [rV]
  refine zDj (facts s) a v h2 gG (by omega) aW ha K2 (λh' w x ho=>hk h' w x ?_ (λhi=>eF.b ho (zxE _ _)))
  exact nq ho.sl
 .rw [ao h']
  simp only [aa,seval,AN]
  exact xU he _ z2.aC (((aM.lay hc _ _ []).trans fr (λ_ h=>nomatch h)).trans (aM.lay _ _ _ []) (λ_ h=>nomatch h))
 .rw [ao h']
  simp only [aa,seval,AN]
  exact gu he (by simpa using rQ) _ z2.aC (((aM.lay hc _ _ []).trans fr (λ_ h=>nomatch h)).trans (aM.lay _ _ _ []) (λ_ h=>nomatch h))
 .rw [ao h']
  simp only [aa,seval,AN]
  simp only [vu] at uc
  exact oU he (by simpa using rQ) uc _ z2.aC (((aM.lay hc _ _ []).trans fr (λ_ h=>nomatch h)).trans (aM.lay _ _ _ []) (λ_ h=>nomatch h))
 .simp only [vu] at uc pY
  have XI:bL (facts s) a=false:=by simpa using rQ
  have mj:=dF he
  obtain ⟨⟨T1,D1,Q2,w0,w1,nw,LS,y1,y2,e3,e4,e5,e6,e7,e8,e9,Lx,Ly⟩,jR,xA⟩:=pY
  simp only [List.cons.injEq] at LS
  obtain ⟨rfl,rfl⟩:=LS
  have ux:=aM.gZ X h'
  have zt:∀ B∈D,B ∉ X:=λB hB=>jR B (eQ _ hB)
  have e1:=y1.cT ux (y1.alive (by simp))
  have e2:=y2.cT ux zt
  have q0:Holds h' (hc.size+0) (.row a.cells 47 false):=(Holds.mk (by rw [bd];simp) (by rw [iB];rfl):Holds (hc.lay [.row a.cells 47 false] hc.low) (hc.size+0) (.row a.cells 47 false)).cT fr (by
   intro hm
   rcases cJ.1 hm with e|hm
   .have:=(Fw.2 _ (fZ)).2;omega
   .have:=(Fw.2 _ (eQ _ hm)).2;omega)
  have LK:aM (NM::D) hc h':=(aM.lay hc _ _ _).trans fr (λB hB=>.inl hB)
  rw [ao h']
  have z:=z2
  simp only [aa,seval,AN]
  with_reducible first|refine dL (by simp only [AN]) z.aC ?_
  simp only [aa,seval,AN,e1.lay,↓ZP,q0.lay,↓eP,ef,dy]
  refine zsH a h _ z.aC D T1 b us (e2.lay _ _) (by omega) mj ku _ (λh5 cs D2 z5 kR wy gw bY tx uT=>?_)
  have ud:=kR.size
  rw [bd] at ud
  refine zS (by kernel_rfl) z5.low (by rw [bd];exact ud) ?_
  have nE:aM D h' h5:=(aM.lay h' [] _ D).trans kR (λB hB=>.inl hB)
  clear z
  have z:=z5
  rw [ao h5]
  simp only [dx,seval,AN]
  ((with_reducible refine ⟨z.cK.lay _ _,?_⟩);(intro _ h6 zz x _);(simp only [b9,bG] at x))
  replace nE:=nE.over x
  replace tx:=tx.over x
  clear z
  have z:=zz
  rw [ao h6]
  simp only [aa,seval,AN]
  have wm:aM D h' (h6.lay [] h6.low):=nE.trans (aM.lay _ _ _ []) (λ_ h=>nomatch h)
  have tR:∀ B∈D2,B∈D\/h'.size<=B:=λB hB=>(uT B hB).imp id (λe=>by rw [bd] at e;simpa using e)
  have Xp:=LK.size
  have qO:∀ B∈D2,B ∉ X:=λB hB hx=>by
   rcases tR B hB with e|e
   .exact zt B e hx
   .have:=xA B hx;omega
  refine zI he XI uc _ cs (NM::D2) z.aC (LK.trans wm (λB hB=>.inl (eQ _ hB))) (λB hB=>?_) wy gw bY ⟨lT.turn y1 e3 e4 e5 e6 e7 e8 e9 Lx Ly (wm.kill X) ((tx.lay _ _).cT (aM.dead X _) qO) (λB hB=>by rw [fX];exact tR B hB),λB hB=>?_,λB hB=>dJ (xA B hB) wm.size⟩
  .rcases cJ.1 hB with rfl|hB
   .exact .inl (by simp)
   .exact (tR B hB).imp (eQ _) (λe=>by omega)
  .rcases cJ.1 hB with rfl|hB
   .exact jR _ (by simp)
   .exact qO B hB
end Go.Proofs.YtmamldleclamjaaGreatDoor

/- Walks: a new space of a policy. Written out by fill2.py. No condition. -/
import Derived.Test.YtkgojconmeeegaaGreatDoorG36
set_option linter.unusedSimpArgs false
set_option linter.unusedVariables false
set_option maxRecDepth 100000
set_option maxHeartbeats 0
namespace Go.Proofs.YtkgojconmeeegaaGreatDoor
open Go.Am Tryz
theorem si.ck {N b:Nat} {h h2:Heap} {S0:Nat} {E:List Nat} {d:aw} {q:Int} {facts:aB->aW} {aX us:aB->Nat} (s:si N b h S0 E d q facts aX us) (f:aQ [] h h2):si N b h2 S0 E d q facts aX us:=by
 obtain ⟨T0,D,NM,v0,v1,nv,rfl,g1,g2,g3,g4,g5,g6,g7,g8⟩:=s
 have hi:b8 (aM (NM::D) h) (aM (NM::D) h2):=(f.mono (D':=NM::D) (λ_ h=>nomatch h)).inc (λB hB=>.inl hB)
 exact ⟨T0,D,NM,v0,v1,nv,rfl,g1.ck f (by simp),g2.ck f (λB hB=>by simp),g3.hold (λb q=>q.ck f (by simp)),g4.mono hi,g5.mono hi,g6,λwho x hx=>(g7 who x hx).imp λs hs=>⟨hs.1,hs.2.mono hi⟩,g8⟩
section
variable {X:List Nat} {N b:Nat} {h h2:Heap} {S0:Nat} {E:List Nat} {d:aw} {q:Int} {facts:aB->aW} {aX us:aB->Nat}
theorem gi.ck (s:gi X N b h S0 E d q facts aX us) (f:aQ [] h h2):gi X N b h2 S0 E d q facts aX us:=⟨s.1.ck (f.kill X),s.2.1,λB hB=>eW (s.2.2 B hB) f.size⟩
theorem gi.lay (s:gi X N b h S0 E d q facts aX us) (bs:List bh) (w:Nat):gi X N b (h.lay bs w) S0 E d q facts aX us:=s.ck (aQ.lay _ _ _ _)
theorem gi.over {bs:List bh} {w:Nat} (s:gi X N b h S0 E d q facts aX us) (x:Ext (h.lay bs w) h2):gi X N b h2 S0 E d q facts aX us:=s.ck ((aQ.refl [] h).over x)
theorem gi.un (s:gi X N b h S0 E d q facts aX us):si N b h S0 E d q facts aX us:=by
 obtain ⟨⟨T0,D,NM,v0,v1,nv,rfl,g1,g2,g3,g4,g5,g6,g7,g8⟩,nk,hX⟩:=s
 have u:=aQ.kC X h
 have hi:=zEt (NM::D) X h
 exact ⟨T0,D,NM,v0,v1,nv,rfl,g1.ck u (g1.alive (by simp)),g2.ck u (λB hB=>nk B (gJ _ hB)),g3.hold (λb q=>q.ck u (nk _ (by simp))),g4.mono hi,g5.mono hi,g6,λwho x hx=>(g7 who x hx).imp λs hs=>⟨hs.1,hs.2.mono hi⟩,g8⟩
theorem gi.lt (s:gi X N b h S0 E d q facts aX us):S0 < h.size/\∀ B∈E,N<=B/\B < h.size:=by
 obtain ⟨T0,D,NM,v0,v1,nv,rfl,g1,g2,g3,g4,g5,g6,g7,g8,g9,g10,g11⟩:=s.un
 refine ⟨g1.lt,λB hB=>?_⟩
 rcases dG.1 hB with rfl|hB
 .exact ⟨g11,g3.lt⟩
 .exact g2.lo B hB
theorem gi.by (s:gi X N b h S0 E d q facts aX us) (f:aQ X h h2):gi [] N b h2 S0 E d q facts aX us:=by
 obtain ⟨⟨T0,D,NM,v0,v1,nv,rfl,g1,g2,g3,g4,g5,g6,g7,g8⟩,nk,hX⟩:=s
 have u:aQ X (aM X h) h2:=(aQ.kC X h).trans f (λB hB=>.inl hB)
 have hi:b8 (aM (NM::D) (aM X h)) (aM (NM::D) h2):=by
  rw [<- zfD]
  exact (aQ.mono f (D':=(NM::D)++X) (λB hB=>UO _ hB)).inc (λB hB=>.inl (List.mem_append_left _ hB))
 exact ⟨⟨T0,D,NM,v0,v1,nv,rfl,g1.ck u (g1.alive (by simp)),g2.ck u (λB hB=>nk B (gJ _ hB)),g3.hold (λb q=>q.ck u (nk _ (by simp))),g4.mono hi,g5.mono hi,g6,λwho x hx=>(g7 who x hx).imp λs hs=>⟨hs.1,hs.2.mono hi⟩,g8⟩,λ_ _=>by simp,λ_ h=>by simp at h⟩
end
theorem zCY (d:aw) (p0 p1 p2 p5 p6:ae) (q b:Int) (h:Heap) (cP:bl 1 h) (bn:(dw p0 p1 p2 p5 p6 q b).all Am.one=true) (hd:ej h p0 p1 p2 p5 p6 d) (hq:d.iO=q) (hb:d.fE=b) (hn:A4 d) (sx:d.ah.length<=100000) (IK:d.cp.length<=100000) (X:List Nat) (hX:∀ B∈X,B < h.size) (K:aG)
 (yp:zB d≠0->∀ h',Ext h h'->K (.tuple #[.pointer none,.int .i64 (zB d)]) h')
 (gp:zB d=0->∀ h' S0 E,Ext h h'->gi X h.size 0 h' S0 E d q (λ_=>[]) (λ_=>0) (λ_=>0)->K (.tuple #[.pointer (some ⟨S0,0,none⟩),.int .i64 0]) h'):Ok prog aA ov 30 [gC p0 p1 p2 p5 p6 q b] h K:=by
 rw [ao h]
 have z:=Ext.refl h
 refine Ok.aq 12 (bm N30) ?_
 simp only [aa,seval,Iq,jG,↓fN,fw,eU]
 refine zxS d p0 p1 p2 p5 p6 q b _ (cP.lay _ _) bn (hd.lay _ _) hq hb hn _ (λh' x=>?_)
 have q0:=Holds.top (i:=0) x rfl
 (replace z:=z.aj x;replace hd:=hd.over x;rw [ao h'])
 simp only [aa,seval,Iq]
 refine im (λba=>?_) (λheq=>?_)
 .simp only [aa,seval,Iq]
  exact yp ba _ z.au
 simp only [aa,seval,Iq,q0.lay,↓fN,fw,eU]
 have hq0:=q0.lt
 refine zx6 d p0 p1 p2 p5 p6 q b _ bn (hd.lay _ _).s0 (hd.lay _ _).s1 sx IK _ (λh' v0 v1 A0 A1 x o0 o1=>?_)
 have F1:∀ B∈h.size::X,B < h.size+1:=λB hB=>by
  rcases dG.1 hB with rfl|hB
  .omega
  .have:=hX B hB;omega
 have s0:=(o0.lay [] h'.low).aM (D:=h.size::X) (λ_ _ _ _ q=>q) (by decide) (λB hB=>by have:=F1 B hB;rw [bf];simp only [dr];omega)
 have s1:=(o1.lay [] h'.low).aM (D:=h.size::X) (λ_ _ _ _ q=>q) (by decide) (λB hB=>by have:=F1 B hB;rw [bf];simp only [dr];omega)
 (replace z:=z.aj x;replace q0:=q0.over x;replace hd:=hd.over x;rw [ao h'])
 have Zc:=q0.lt
 simp only [aa,seval,Iq]
 refine zAf h.size d v0 v1 q _ h.size (by rw [bf];omega) ⟨bo _,by rw [bf];omega⟩ X hX s0 s1 _ (λh' S0 E x dq=>?_)
 (replace z:=z.aj x;replace q0:=q0.over x;replace hd:=hd.over x;rw [ao h'])
 simp only [aa,seval,Iq]
 exact gp heq _ S0 E z.au (dq.lay _ _)
theorem Bx (x):bY prog aA .eql 40 (.pointer (some x)) (.pointer none)=some (.bool false):=by kernel_rfl
theorem Z7 (x):bY prog aA .neq 40 (.pointer (some x)) (.pointer none)=some (.bool true):=by kernel_rfl
theorem zEV (T0:Nat) (v0 v1:ae) (q:Int) (NM:Nat):cut (HK T0 v0 v1 q NM) 1 7=some (dw v0 v1 (.slice none 0 0) (.slice none 0 0) (.slice none 0 0) q 0):=rfl
theorem SN (T0:Nat) (v0 v1:ae) (q:Int) (NM:Nat):(HK T0 v0 v1 q NM)[8]? = some (.map (some NM)):=rfl
theorem zHe (T0:Nat) (v0 v1:ae) (q:Int) (NM:Nat):(HK T0 v0 v1 q NM)[4]? = some (.int .i64 q):=rfl
theorem xM:aA.desc 98=some (.map 9 109):=by kernel_rfl
theorem De:aA.zero 109=some (.agg #[.slice none 0 0,.int .u64 0]):=by kernel_rfl
theorem aaH:cN aA 109=some 2:=by kernel_rfl
theorem zEN (a) (n c:Nat) (v:Int):od aA 109 [(0,.slice a n c),(1,.int .u64 v)]=some (.agg #[.slice a n c,.int .u64 v]):=by kernel_rfl
theorem zDy {n:Nat} (h:n < 1000000000):IntKind.u64.wrap ((n:Int)+1)=((n+1:Nat):Int):=by
 unfold IntKind.wrap
 simp [IntKind.signed,IntKind.bits]
 omega
def tP (f:aB->aW) (s:aB) (l:aW):aB->aW:=λx=>if x=s then l else f x
theorem aac {h:Heap} {v0 v1:ae} {d:aw} (s0:Sl aJ.str h v0 d.ah) (s1:Sl aJ.pred h v1 d.cp) (q:Int):(dw v0 v1 (.slice none 0 0) (.slice none 0 0) (.slice none 0 0) q 0).all Am.one=true:=by
 have h0:=s0.one
 have h1:=s1.one
 simp only [dw,gL,ij,h0,h1]
 rfl
theorem zlI (d:aw) (q:Int) (s:aB) (a:ak) (room:Int) (fv:ae) (is:aW->Bool) (tn:aW->aW) (facts:aB->aW) (aX us:aB->Nat) (h hc:Heap) (z:Ext h hc) (N b:Nat) (S0:Nat) (E:List Nat) (hN:N=h.size) (X:List Nat) (dq:gi X N b hc S0 E d q facts aX us) (cP:bl 1 hc) (NX:d.ah.length<=1000) (jv:(facts s).length<=800) (aP:∀ x∈facts s,x.aV=true) (hv:aX s < 1000000000)
 (htn:(tn (facts s)).length<=900)
 (ht:∀ (h2:Heap) (v:ae) (K:aG),Sl aJ.atom h2 v (facts s)->(∀ h' w,Ext h2 h'->(∃ a n c,w=.slice a n c)->(is (facts s)=true->mr h2 h' 34 w (tn (facts s)))->K (.tuple #[w,.bool (is (facts s))]) h')->pw prog aA ov [v,a.val] h2 K fv)
 (K:aG)
 (yp:jg d s a≠0->∀ h',Ext h h'->aQ [] hc h'->K (.tuple #[.bool false,.int .i64 (jg d s a)]) h')
 (gp:jg d s a=0->is (facts s)=false->∀ h',Ext h h'->aQ [] hc h'->K (.tuple #[.bool false,.int .i64 0]) h')
 (pU:jg d s a=0->is (facts s)=true->room < (tn (facts s)).length->∀ h',Ext h h'->aQ [] hc h'->K (.tuple #[.bool false,.int .i64 12]) h')
 (tF:jg d s a=0->is (facts s)=true->((tn (facts s)).length:Int)<=room->∀ h',Ext h h'->aQ E hc h'->gi X N b h' S0 E d q (tP facts s (tn (facts s))) (ia aX s (aX s+1)) us->K (.tuple #[.bool true,.int .i64 0]) h'):Ok prog aA ov 39 [.pointer (some ⟨S0,0,none⟩),.string s,a.val,.int .i64 room,fv] hc K:=by
 obtain ⟨⟨T0,D,NM,v0,v1,nv,rfl,x1,x2,x3,x4,x5,g6,x7,g8,g9,g10,g11⟩,nk,Tk⟩:=dq
 have ux:=aQ.kC X hc
 have ui:=zEt (NM::D) X hc
 have M0:=x1.alive (by simp)
 have zV:NM ∉ X:=nk _ (by simp)
 have FU:∀ B∈D,B ∉ X:=λB hB=>nk B (gJ _ hB)
 have g1:=x1.ck ux M0
 have g2:=x2.ck ux FU
 have g3:=x3.hold (λb q=>q.ck ux zV)
 have g4:=x4.mono ui
 have g5:=x5.mono ui
 have g7:∀ who x,dV nv who=some x->∃ s,x=.agg #[s,.int .u64 (aX who:Int)]/\Sl aJ.atom (aM (NM::D) hc) s (facts who):=λwho x hx=>(x7 who x hx).imp λs hs=>⟨hs.1,hs.2.mono ui⟩
 have bn:=aac g4 g5 q
 have t4:=g4.mono (tT _ _)
 have t5:=g5.mono (tT _ _)
 rw [ao hc]
 refine Ok.aq 55 (bm N39) ?_
 simp only [aa,seval,pF,fA,Bx]
 with_reducible first|refine cZ (by simp only [pF]) z.au ?_
 simp only [aa,seval,pF,g1.lay,↓zEV,fw,eU,↓dW,dO,da]
 refine zAd d s a v0 v1 _ _ _ q 0 _ (cP.lay _ _) bn (t4.lay _ _) (t5.lay _ _) NX _ (λh' x=>?_)
 have q0:=Holds.top (i:=0) x rfl
 have fr:aQ [] hc h':=(aQ.refl [] hc).over x
 (((with_reducible refine di ?_ ?_ ?_);(· exact (by (simp only [dp]);have:=z.size;omega));(· exact x));replace z:=z.aj x;replace g1:=g1.over x;rw [ao h'])
 simp only [aa,seval,pF]
 ((with_reducible refine ⟨z.bZ.lay _ _,?_⟩);(intro _ h' zz x _);(simp only [bG,bu] at x);replace g1:=g1.over x;replace q0:=q0.over x;replace fr:=fr.over x;(replace z:=zz);(clear zz);rw [ao h'])
 simp only [aa,seval,pF]
 refine im (λba=>?_) (λheq=>?_)
 .simp only [aa,seval,pF]
  exact yp ba _ z.au (fr.trans (aQ.lay _ _ _ []) (λ_ h=>nomatch h))
 have g3':=g3.hold (λb q=>q.ck fr (by simp))
 have GU:=fr.size
 have hq0:=q0.lt
 have DI:=g1.lt
 obtain ⟨sv,eE,mF⟩:∃ sv,(dV nv s).getD (.agg #[.slice none 0 0,.int .u64 0])=.agg #[sv,.int .u64 (aX s:Int)]/\Sl aJ.atom (aM (NM::D) hc) sv (facts s):=by
  cases hl:dV nv s with
  |none =>
   obtain ⟨e1,e2⟩:=g6 s hl
   rw [e1,e2]
   exact ⟨_,rfl,.nil⟩
  |some x=>exact g7 s x hl
 obtain ⟨sa,sn,Ed,rfl⟩:=rP mF
 simp only [aa,seval,pF,oQ,g1.lay,SN,CL]
 refine Jh g3' xM C6 De ?_
 simp only [eE,gW,if_false]
 simp only [aa,seval,pF]
 have hA:Sl aJ.atom h' (.slice sa sn Ed) (facts s):=(mF.mono (tT _ _)).mono fr.all
 have Zv:∀ (h:Heap) (K:aG),aD (some (.slice sa sn Ed)) h K=K (.slice sa sn Ed) h:=λ_ _=>rfl
 have sA:=z.size
 refine Rr (i:=0) rfl aaH rfl rfl rfl rfl ?_
 simp only [gX]
 simp only [aa,seval,pF,Zv,q0.lay,↓dW,dO,da]
 have XU:∀ B∈NM::D,B < h'.size:=λB hB=>by
  rcases dG.1 hB with rfl|hB
  .have:=g3.lt;omega
  .have:=(g2.lo B hB).2;omega
 refine ht _ _ _ (hA.lay _ _) (λh' w x vK ho=>?_)
 have q2:=Holds.top (i:=0) x rfl
 (replace z:=z.aj x;replace g1:=g1.over x;replace q0:=q0.over x;replace fr:=fr.over x;rw [ao h'])
 obtain ⟨wa,wn,wc,rfl⟩:=vK
 have hvW:∀ (h:Heap) (K:aG),aD (some (.slice wa wn wc)) h K=K (.slice wa wn wc) h:=λ_ _=>rfl
 cases sq:is (facts s)
 .simp only [aa,seval,pF,hvW]
  (with_reducible apply bI);(· rfl)
  simp only [aa,seval,pF]
  exact gp heq sq _ z.au (fr.trans (aQ.lay _ _ _ []) (λ_ h=>nomatch h))
 replace ho:=ho sq
 have Y9:=ho
 obtain ⟨AW,tw,TD,hwq,hwA,hwl⟩:=ho
 simp only [Value.slice.injEq] at TD
 obtain ⟨hwa,TF,hwc⟩:=TD
 simp only [aa,seval,pF,hvW]
 (with_reducible apply bI);(· rfl)
 simp only [aa,seval,pF]
 refine bg (λtD=>?_) (λhle=>?_)
 .simp only [aa,seval,pF]
  exact pU heq sq (by rw [<- TF];omega) _ z.au (fr.trans (aQ.lay _ _ _ []) (λ_ h=>nomatch h))
 have IU:IntKind.u64.wrap ((aX s:Int)+1)=((aX s+1:Nat):Int):=zDy (by omega)
 simp only [aa,seval,pF]
 with_reducible first|refine cZ (by simp only [pF]) z.au ?_
 simp only [aa,seval,pF,oQ,g1.lay,SN,q2.lay,IU,zEN,T8]
 have gm:=g3.hold (λb q=>q.ck fr (by simp))
 refine zA8 gm xM C6 (λh3 m3 c3=>?_)
 have hz:=z.size
 have XR:h.size<=NM:=by omega
 have hg3:=g3.lt
 refine mW (A:=NM) (by kernel_rfl) (by rw [bf];omega) (by omega) (by simpa only [bG,bf,bu,de,dr,jh] using c3) ?_
 have z3:=(z.je [] (h'.size+0) (by omega)).step c3 XR
 have f3:aQ [NM] h' h3:=(aQ.refl [NM] h').iW c3 (.inl (by simp))
 have hSN:S0≠NM:=λe=>g8 (by rw [e];simp)
 have k1:=Y9.kill (D:=(NM::D)++X) (λB hB=>by
  rw [bf]
  rcases oV.1 hB with hB|hB
  .have:=XU B hB;omega
  .have:=Tk B hB;omega)
 rw [zfD] at k1
 clear z q0 q2
 have z:=z3
 rw [ao h3]
 simp only [cR,seval,pF]
 ((with_reducible refine ⟨z.bZ.lay _ _,?_⟩);(intro _ h4 zz x _);(simp only [bG,bu] at x))
 replace f3:=f3.over x
 replace m3:=m3.over x
 clear z
 have z:=zz
 rw [ao h4]
 simp only [aa,seval,pF]
 have f4:aQ [NM] h' (h4.lay [] h4.low):=f3.trans (aQ.lay _ _ _ []) (λ_ h=>nomatch h)
 have f5:aQ [NM] hc (h4.lay [] h4.low):=fr.mono (D':=[NM]) (λ_ h=>nomatch h) |>.trans f4 (λB hB=>.inl hB)
 have GR:∀ B∈[NM],B∈NM::D:=λB hB=>by rw [iq.1 hB];simp
 have i1:b8 (aM (NM::D) (aM X hc)) (aM (NM::D) (aM X (h4.lay [] h4.low))):=((f5.kill X).mono GR).inc (λB hB=>.inl hB)
 have i2:b8 (aM (NM::D) (aM X h')) (aM (NM::D) (aM X (h4.lay [] h4.low))):=((f4.kill X).mono GR).inc (λB hB=>.inl hB)
 refine tF heq sq (by rw [<- TF];omega) _ z.au (f5.mono GR) ⟨⟨T0,D,NM,v0,v1,gz nv s (.agg #[.slice wa wn wc,.int .u64 ((aX s+1:Nat):Int)]),rfl,x1.ck (f5.kill X) (by simpa using hSN),x2.ck (f5.kill X) (λB hB hm=>g9 (by rw [<- iq.1 hm];exact hB)),(m3.lay _ _).hold (λ_ q=>q.pj zV),x4.mono i1,x5.mono i1,λwho hw=>?_,λwho y hw=>?_,g8,g9,g10,g11⟩,nk,λB hB=>eW (Tk B hB) f5.size⟩
 .rw [Rm] at hw
  by_cases vK:who=s
  .rw [aE vK] at hw;cases hw
  .rw [az vK] at hw
   unfold tP
   rw [az vK,vX vK]
   exact g6 who hw
 .rw [Rm] at hw
  by_cases vK:who=s
  .rw [aE vK] at hw
   cases hw
   subst vK
   unfold tP
   rw [aE rfl,zp]
   exact ⟨_,rfl,k1.mono i2⟩
  .rw [az vK] at hw
   unfold tP
   rw [az vK,vX vK]
   exact (x7 who y hw).imp λv hv=>⟨hv.1,hv.2.mono i1⟩
theorem si.turn {N b2:Nat} {h h2:Heap} {S0 T0 NM:Nat} {D D2:List Nat} {d:aw} {q:Int} {facts:aB->aW} {aX oa:aB->Nat} {v0 v1:ae} {nv:List (aB × ae)} (q1:Holds h S0 (.row (HK T0 v0 v1 q NM) 100 false)) (m:dI h NM nv) (s0:Sl aJ.str (aM (NM::D) h) v0 d.ah) (s1:Sl aJ.pred (aM (NM::D) h) v1 d.cp)
 (g6:∀ who,dV nv who=none->facts who=[]/\aX who=0) (g7:∀ who x,dV nv who=some x->∃ s,x=.agg #[s,.int .u64 (aX who:Int)]/\Sl aJ.atom (aM (NM::D) h) s (facts who)) (g8:S0 ∉ NM::D) (g9:NM ∉ D) (g10:N<=S0) (g11:N<=NM)
 (f:aQ D h h2) (t:eD N b2 h2 D2 T0 oa) (hD:∀ B∈D2,B∈D\/h.size<=B):si N b2 h2 S0 (NM::D2) d q facts aX oa:=by
 have hi:b8 (aM (NM::D) h) (aM (NM::D2) h2):=(f.mono (D':=NM::D) (λB hB=>gJ _ hB)).inc (λB hB=>by
  rcases dG.1 hB with rfl|hB
  .exact .inl (by simp)
  .exact (hD B hB).imp (gJ _) id)
 have hS:S0 ∉ NM::D2:=λhm=>by
  rcases dG.1 hm with e|hm
  .exact g8 (by rw [e];simp)
  .rcases hD _ hm with e|e
   .exact g8 (gJ _ e)
   .have:=q1.lt;omega
 have hM:NM ∉ D2:=λhm=>by
  rcases hD _ hm with e|e
  .exact g9 e
  .have:=m.lt;omega
 exact ⟨T0,D2,NM,v0,v1,nv,rfl,q1.ck f (λhm=>g8 (gJ _ hm)),t,m.hold (λb q=>q.ck f g9),s0.mono hi,s1.mono hi,g6,λwho x hx=>(g7 who x hx).imp λs hs=>⟨hs.1,hs.2.mono hi⟩,hS,hM,g10,g11⟩
theorem zDP (T0:Nat) (v0 v1:ae) (q:Int) (NM:Nat):cut (HK T0 v0 v1 q NM) 0 1=some [.pointer (some ⟨T0,0,none⟩)]:=rfl
theorem zyz (a:ak) (l:aW):cD a l≠[]:=by
 cases l with
 |nil=>simp [cD]
 |cons x r =>
  unfold cD
  split
  .simp
  .split <;> simp
theorem zuX (d:aw) (q:Int) (s:aB) (a:ak) (facts:aB->aW) (aX us:aB->Nat) (h hc:Heap) (z:Ext h hc) (N b:Nat) (S0:Nat) (E:List Nat) (hN:N=h.size) (X:List Nat) (dq:gi X N b hc S0 E d q facts aX us) (cP:bl 1 hc) (NX:d.ah.length<=1000) (jv:(facts s).length<=800) (aP:∀ x∈facts s,x.aV=true) (ha:a.aV=true) (hv:aX s < 1000000000) (yO:eG (facts s)=facts s) (hb:b < 50000) (kV:∀ x,us x < 1000000000)
 (dS:jg d s a=0->∀ x,zw a x->x.size≠0/\x.size<=255) (tH:(cD a (facts s)).length<=900)
 (K:aG)
 (yp:jg d s a≠0->∀ h',Ext h h'->aQ [] hc h'->K (.tuple #[.bool false,.int .i64 (jg d s a)]) h')
 (gp:jg d s a=0->bH (facts s) a=true->∀ h',Ext h h'->aQ [] hc h'->K (.tuple #[.bool false,.int .i64 0]) h')
 (pU:jg d s a=0->bH (facts s) a=false->q < (cD a (facts s)).length->∀ h',Ext h h'->aQ [] hc h'->K (.tuple #[.bool false,.int .i64 12]) h')
 (tF:jg d s a=0->bH (facts s) a=false->((cD a (facts s)).length:Int)<=q->∀ h' cs E2,Ext h h'->aQ E hc h'->(∀ B∈E2,B∈E\/hc.size<=B)->cs.length<=4->cs.Nodup->(∀ x,x∈cs↔zw a x)->gi X N (b+4) h' S0 E2 d q (tP facts s (cD a (facts s))) (ia aX s (aX s+1)) (kN us cs)->K (.tuple #[.bool true,.int .i64 0]) h'):Ok prog aA ov 12 [.pointer (some ⟨S0,0,none⟩),.string s,a.val] hc K:=by
 subst hN
 have Tk:=dq.2.2
 obtain ⟨⟨T0,D,NM,v0,v1,nv,rfl,x1,g2,g3,_⟩,_⟩:=id dq
 have g1:=x1.ck (aQ.kC X hc) (x1.alive (by simp))
 have Gq:=dq.lt
 rw [ao hc]
 refine Ok.aq 32 (bm N12) ?_
 simp only [aa,seval,Bc,Z7,g1.lay,zHe,fA,↓dW,dO,da]
 refine zlI d q s a q _ (λl => !bH l a) (λl=>cD a (eG l)) facts aX us h _ z.au h.size b S0 (NM::D) rfl X (dq.lay _ _) (cP.lay _ _) NX jv aP hv (by rw [yO];exact tH) (λh2 v K2 gr hk=>?_) _ (λhe h' z2 fr=>?_) (λhe sq h' z2 fr=>?_) (λhe sq uF h' z2 fr=>?_) (λhe sq uF h' z2 fr nI=>?_)
 .rw [sE]
  refine zD6 (facts s) a v h2 gr (by omega) aP ha K2 (λh' w x ho=>hk h' w x ?_ (λhi=>eo.b ho (zyz _ _)))
  exact rP ho.sl
 .rw [ao h']
  simp only [aa,seval,Bc]
  exact yp he _ z2.au (((aQ.lay hc _ _ []).trans fr (λ_ h=>nomatch h)).trans (aQ.lay _ _ _ []) (λ_ h=>nomatch h))
 .rw [ao h']
  simp only [aa,seval,Bc]
  exact gp he (by simpa using sq) _ z2.au (((aQ.lay hc _ _ []).trans fr (λ_ h=>nomatch h)).trans (aQ.lay _ _ _ []) (λ_ h=>nomatch h))
 .rw [ao h']
  simp only [aa,seval,Bc]
  simp only [yO] at uF
  exact pU he (by simpa using sq) uF _ z2.au (((aQ.lay hc _ _ []).trans fr (λ_ h=>nomatch h)).trans (aQ.lay _ _ _ []) (λ_ h=>nomatch h))
 .simp only [yO] at uF nI
  have YL:bH (facts s) a=false:=by simpa using sq
  have lL:=dS he
  obtain ⟨⟨T1,D1,NM1,w0,w1,nw,MS,y1,y2,e3,e4,e5,e6,e7,e8,e9,V8,V9⟩,nk,xW⟩:=nI
  simp only [List.cons.injEq] at MS
  obtain ⟨rfl,rfl⟩:=MS
  have ux:=aQ.kC X h'
  have FU:∀ B∈D,B ∉ X:=λB hB=>nk B (gJ _ hB)
  have e1:=y1.ck ux (y1.alive (by simp))
  have e2:=y2.ck ux FU
  have q0:Holds h' (hc.size+0) (.row a.cells 34 false):=(Holds.mk (by rw [bf];simp) (by rw [gH];rfl):Holds (hc.lay [.row a.cells 34 false] hc.low) (hc.size+0) (.row a.cells 34 false)).ck fr (by
   intro hm
   rcases dG.1 hm with e|hm
   .have:=(Gq.2 _ (lj)).2;omega
   .have:=(Gq.2 _ (gJ _ hm)).2;omega)
  have ML:aQ (NM::D) hc h':=(aQ.lay hc _ _ _).trans fr (λB hB=>.inl hB)
  rw [ao h']
  have z:=z2
  simp only [aa,seval,Bc]
  with_reducible first|refine cZ (by simp only [Bc]) z.au ?_
  simp only [aa,seval,Bc,e1.lay,↓zDP,q0.lay,↓dW,dO,da]
  refine zAk a h _ z.au D T1 b us (e2.lay _ _) (by omega) lL kV _ (λh5 cs D2 z5 nV yv i6 b9 zc xT=>?_)
  have Ag:=nV.size
  rw [bf] at Ag
  refine Ar (by kernel_rfl) z5.low (by rw [bf];exact Ag) ?_
  have q8:aQ D h' h5:=(aQ.lay h' [] _ D).trans nV (λB hB=>.inl hB)
  clear z
  have z:=z5
  rw [ao h5]
  simp only [cR,seval,Bc]
  ((with_reducible refine ⟨z.bZ.lay _ _,?_⟩);(intro _ h6 zz x _);(simp only [bG,bu] at x))
  replace q8:=q8.over x
  replace zc:=zc.over x
  clear z
  have z:=zz
  rw [ao h6]
  simp only [aa,seval,Bc]
  have wE:aQ D h' (h6.lay [] h6.low):=q8.trans (aQ.lay _ _ _ []) (λ_ h=>nomatch h)
  have tu:∀ B∈D2,B∈D\/h'.size<=B:=λB hB=>(xT B hB).imp id (λe=>by rw [bf] at e;simpa using e)
  have hfh:=ML.size
  have xU:∀ B∈D2,B ∉ X:=λB hB hx=>by
   rcases tu B hB with e|e
   .exact FU B e hx
   .have:=xW B hx;omega
  refine tF he YL uF _ cs (NM::D2) z.au (ML.trans wE (λB hB=>.inl (gJ _ hB))) (λB hB=>?_) yv i6 b9 ⟨si.turn y1 e3 e4 e5 e6 e7 e8 e9 V8 V9 (wE.kill X) ((zc.lay _ _).ck (aQ.dead X _) xU) (λB hB=>by rw [iQ];exact tu B hB),λB hB=>?_,λB hB=>eW (xW B hB) wE.size⟩
  .rcases dG.1 hB with rfl|hB
   .exact .inl (by simp)
   .exact (tu B hB).imp (gJ _) (λe=>by omega)
  .rcases dG.1 hB with rfl|hB
   .exact nk _ (by simp)
   .exact xU B hB
theorem zr2 (d:aw) (q:Int) (s:aB) (a:ak) (facts:aB->aW) (aX us:aB->Nat) (h hc:Heap) (z:Ext h hc) (N b:Nat) (S0:Nat) (E:List Nat) (hN:N=h.size) (X:List Nat) (dq:gi X N b hc S0 E d q facts aX us) (cP:bl 1 hc) (NX:d.ah.length<=1000) (jv:(facts s).length<=800) (aP:∀ x∈facts s,x.aV=true) (ha:a.aV=true) (hv:aX s < 1000000000) (yO:eG (facts s)=facts s) (hb:b < 50000) (kV:∀ x,us x < 1000000000)
 (jS:jg d s a=0->bH (facts s) a=true->∀ x,zw a x->0 < us x)
 (K:aG)
 (yp:jg d s a≠0->∀ h',Ext h h'->aQ [] hc h'->K (.tuple #[.bool false,.int .i64 (jg d s a)]) h')
 (gp:jg d s a=0->bH (facts s) a=false->∀ h',Ext h h'->aQ [] hc h'->K (.tuple #[.bool false,.int .i64 0]) h')
 (tF:jg d s a=0->bH (facts s) a=true->∀ h' cs E2,Ext h h'->aQ E hc h'->(∀ B∈E2,B∈E\/hc.size<=B)->cs.length<=4->cs.Nodup->(∀ x,x∈cs↔zw a x)->gi X N b h' S0 E2 d q (tP facts s (fG a (facts s))) (ia aX s (aX s+1)) (jX us cs)->K (.tuple #[.bool true,.int .i64 0]) h'):Ok prog aA ov 13 [.pointer (some ⟨S0,0,none⟩),.string s,a.val] hc K:=by
 subst hN
 have Tk:=dq.2.2
 obtain ⟨⟨T0,D,NM,v0,v1,nv,rfl,x1,g2,g3,_⟩,_⟩:=id dq
 have g1:=x1.ck (aQ.kC X hc) (x1.alive (by simp))
 have Gq:=dq.lt
 rw [ao hc]
 refine Ok.aq 23 (bm N13) ?_
 simp only [aa,seval,Dk,fA,↓dW,dO,da]
 refine zlI d q s a 1000 _ (λl=>bH l a) (λl=>fG a (eG l)) facts aX us h _ z.au h.size b S0 (NM::D) rfl X (dq.lay _ _) (cP.lay _ _) NX jv aP hv (by rw [yO];exact il (AO _ _) (by omega)) (λh2 v K2 gr hk=>?_) _ (λhe h' z2 fr=>?_) (λhe sq h' z2 fr=>?_) (λhe sq uF h' z2 fr=>?_) (λhe sq uF h' z2 fr nI=>?_)
 .rw [sE]
  refine zvl (facts s) a v h2 gr (by omega) aP ha K2 (λh' w x hw ho=>hk h' w x hw (λhi=>ho hi))
 .rw [ao h']
  simp only [aa,seval,Dk]
  exact yp he _ z2.au (((aQ.lay hc _ _ []).trans fr (λ_ h=>nomatch h)).trans (aQ.lay _ _ _ []) (λ_ h=>nomatch h))
 .rw [ao h']
  simp only [aa,seval,Dk]
  exact gp he sq _ z2.au (((aQ.lay hc _ _ []).trans fr (λ_ h=>nomatch h)).trans (aQ.lay _ _ _ []) (λ_ h=>nomatch h))
 .exfalso
  have h1:((fG a (eG (facts s))).length:Int)<=800:=by rw [yO];exact Int.ofNat_le.2 (il (AO _ _) jv)
  omega
 .simp only [yO] at nI
  have lL:=jS he sq
  obtain ⟨⟨T1,D1,NM1,w0,w1,nw,MS,y1,y2,e3,e4,e5,e6,e7,e8,e9,V8,V9⟩,nk,xW⟩:=nI
  simp only [List.cons.injEq] at MS
  obtain ⟨rfl,rfl⟩:=MS
  have ux:=aQ.kC X h'
  have FU:∀ B∈D,B ∉ X:=λB hB=>nk B (gJ _ hB)
  have e1:=y1.ck ux (y1.alive (by simp))
  have e2:=y2.ck ux FU
  have q0:Holds h' (hc.size+0) (.row a.cells 34 false):=(Holds.mk (by rw [bf];simp) (by rw [gH];rfl):Holds (hc.lay [.row a.cells 34 false] hc.low) (hc.size+0) (.row a.cells 34 false)).ck fr (by
   intro hm
   rcases dG.1 hm with e|hm
   .have:=(Gq.2 _ (lj)).2;omega
   .have:=(Gq.2 _ (gJ _ hm)).2;omega)
  have ML:aQ (NM::D) hc h':=(aQ.lay hc _ _ _).trans fr (λB hB=>.inl hB)
  rw [ao h']
  have z:=z2
  simp only [aa,seval,Dk]
  with_reducible first|refine cZ (by simp only [Dk]) z.au ?_
  simp only [aa,seval,Dk,e1.lay,↓zDP,q0.lay,↓dW,dO,da]
  refine zz9 a h _ z.au D T1 b us (e2.lay _ _) (by omega) lL kV _ (λh5 cs D2 z5 nV yv i6 b9 zc xT=>?_)
  have Ag:=nV.size
  rw [bf] at Ag
  refine Ar (by kernel_rfl) z5.low (by rw [bf];exact Ag) ?_
  have q8:aQ D h' h5:=(aQ.lay h' [] _ D).trans nV (λB hB=>.inl hB)
  clear z
  have z:=z5
  rw [ao h5]
  simp only [cR,seval,Dk]
  ((with_reducible refine ⟨z.bZ.lay _ _,?_⟩);(intro _ h6 zz x _);(simp only [bG,bu] at x))
  replace q8:=q8.over x
  replace zc:=zc.over x
  clear z
  have z:=zz
  rw [ao h6]
  simp only [aa,seval,Dk]
  have wE:aQ D h' (h6.lay [] h6.low):=q8.trans (aQ.lay _ _ _ []) (λ_ h=>nomatch h)
  have tu:∀ B∈D2,B∈D\/h'.size<=B:=λB hB=>(xT B hB).imp id (λe=>by rw [bf] at e;simpa using e)
  have hfh:=ML.size
  have xU:∀ B∈D2,B ∉ X:=λB hB hx=>by
   rcases tu B hB with e|e
   .exact FU B e hx
   .have:=xW B hx;omega
  refine tF he sq _ cs (NM::D2) z.au (ML.trans wE (λB hB=>.inl (gJ _ hB))) (λB hB=>?_) yv i6 b9 ⟨si.turn y1 e3 e4 e5 e6 e7 e8 e9 V8 V9 (wE.kill X) ((zc.lay _ _).ck (aQ.dead X _) xU) (λB hB=>by rw [iQ];exact tu B hB),λB hB=>?_,λB hB=>eW (xW B hB) wE.size⟩
  .rcases dG.1 hB with rfl|hB
   .exact .inl (by simp)
   .exact (tu B hB).imp (gJ _) (λe=>by omega)
  .rcases dG.1 hB with rfl|hB
   .exact nk _ (by simp)
   .exact xU B hB
theorem si.name {N b:Nat} {h:Heap} {S0:Nat} {E:List Nat} {d:aw} {q:Int} {facts:aB->aW} {aX us:aB->Nat} {nv:List (aB × ae)} (g6:∀ who,dV nv who=none->facts who=[]/\aX who=0) (g7:∀ who x,dV nv who=some x->∃ s,x=.agg #[s,.int .u64 (aX who:Int)]/\Sl aJ.atom (aM E h) s (facts who)) (s:aB):∃ sa sn sc,(dV nv s).getD (.agg #[.slice none 0 0,.int .u64 0])=.agg #[.slice sa sn sc,.int .u64 (aX s:Int)]/\Sl aJ.atom (aM E h) (.slice sa sn sc) (facts s):=by
 cases hl:dV nv s with
 |none =>
  obtain ⟨e1,e2⟩:=g6 s hl
  rw [e1,e2]
  exact ⟨_,_,_,rfl,.nil⟩
 |some x =>
  obtain ⟨v,rfl,f⟩:=g7 s x hl
  obtain ⟨sa,sn,sc,rfl⟩:=rP f
  exact ⟨sa,sn,sc,rfl,f⟩
theorem zxX (who:aB) (d:aw) (q:Int) (facts:aB->aW) (aX us:aB->Nat) (h:Heap) (N b:Nat) (S0:Nat) (E:List Nat) (dq:si N b h S0 E d q facts aX us) (jv:(facts who).length<=100000) (K:aG)
 (hk:∀ h' w A,Ext h h'->Ow aJ.atom h h' 34 A w (facts who)->K w h'):Ok prog aA ov 35 [.pointer (some ⟨S0,0,none⟩),.string who] h K:=by
 obtain ⟨T0,D,NM,v0,v1,nv,rfl,g1,g2,g3,g4,g5,g6,g7,g8,g9,g10,g11⟩:=id dq
 obtain ⟨sa,sn,Ed,eE,mF⟩:=si.name (N:=N) (b:=b) (S0:=S0) (d:=d) (q:=q) (us:=us) g6 g7 who
 have z:=Ext.refl h
 rw [ao h]
 refine Ok.aq 13 (bm N35) ?_
 simp only [aa,seval,V5,Bx,oQ,g1.lay,SN,CL]
 refine Jh g3 xM C6 De ?_
 simp only [eE,gW,if_false]
 simp only [aa,seval,V5]
 have hA:Sl aJ.atom h (.slice sa sn Ed) (facts who):=mF.mono (tT _ _)
 refine zu6 (facts who) _ _ (hA.lay _ _) jv _ (λh' w A x o=>?_)
 replace o:=o.down (h0:=h) (by rw [bf];omega)
 (replace z:=z.aj x;rw [ao h'])
 simp only [aa,seval,V5]
 exact hk _ _ _ z.au (o.lay _ _)
theorem zxV (who:aB) (d:aw) (q:Int) (facts:aB->aW) (aX us:aB->Nat) (h:Heap) (N b:Nat) (S0:Nat) (E:List Nat) (dq:si N b h S0 E d q facts aX us) (K:aG)
 (hk:∀ h',Ext h h'->K (.int .i64 (facts who).length) h'):Ok prog aA ov 19 [.pointer (some ⟨S0,0,none⟩),.string who] h K:=by
 obtain ⟨T0,D,NM,v0,v1,nv,rfl,g1,g2,g3,g4,g5,g6,g7,g8,g9,g10,g11⟩:=id dq
 obtain ⟨sa,sn,Ed,eE,mF⟩:=si.name (N:=N) (b:=b) (S0:=S0) (d:=d) (q:=q) (us:=us) g6 g7 who
 have qC:=λ(hh:Heap)=>mF.bt bC hh
 have z:=Ext.refl h
 rw [ao h]
 refine Ok.aq 13 (bm N19) ?_
 simp only [aa,seval,c19,Bx,oQ,g1.lay,SN,CL]
 refine Jh g3 xM C6 De ?_
 simp only [eE,gW,if_false]
 simp only [aa,seval,c19,qC]
 exact hk _ z.au
theorem zBW (a:ak):a.cells[0]? = some (.string a.says):=rfl
theorem zCW (a:ak) (d:aw) (q:Int) (facts:aB->aW) (aX us:aB->Nat) (h:Heap) (N b:Nat) (S0:Nat) (E:List Nat) (dq:si N b h S0 E d q facts aX us) (jv:(facts a.says).length<=1000) (K:aG)
 (hk:∀ h',Ext h h'->K (.bool (decide (a∈facts a.says))) h'):Ok prog aA ov 20 [.pointer (some ⟨S0,0,none⟩),a.val] h K:=by
 obtain ⟨T0,D,NM,v0,v1,nv,rfl,g1,g2,g3,g4,g5,g6,g7,g8,g9,g10,g11⟩:=id dq
 obtain ⟨sa,sn,Ed,eE,mF⟩:=si.name (N:=N) (b:=b) (S0:=S0) (d:=d) (q:=q) (us:=us) g6 g7 a.says
 have hA:Sl aJ.atom h (.slice sa sn Ed) (facts a.says):=mF.mono (tT _ _)
 have z:=Ext.refl h
 rw [ao h]
 refine Ok.aq 15 (bm N20) ?_
 simp only [aa,seval,Ip,Bx,fA]
 with_reducible first|refine cZ (by simp only [Ip]) z.au ?_
 simp only [aa,seval,Ip,oQ,g1.lay,SN,CL,zBW]
 refine Jh g3 xM C6 De ?_
 simp only [eE,gW,if_false]
 simp only [aa,seval,Ip,↓dW,dO,da]
 refine zjI (facts a.says) _ a _ (hA.lay _ _) jv _ (λh' x=>?_)
 (((with_reducible refine di ?_ ?_ ?_);(· exact (by (simp only [dp]);have:=z.size;omega));(· exact x));replace z:=z.aj x;rw [ao h'])
 generalize IG:decide (a∈facts a.says)=db at hk ⊢
 simp only [aa,seval,Ip]
 ((with_reducible refine ⟨z.bZ.lay _ _,?_⟩);(intro _ h' zz x _);(simp only [bG,bu] at x);(replace z:=zz);(clear zz);rw [ao h'])
 simp only [aa,seval,Ip]
 exact hk _ z.au
section
variable {X:List Nat} {N b b2 k:Nat} {h h2:Heap} {S0:Nat} {E:List Nat} {d:aw} {q:Int} {facts:aB->aW} {aX us:aB->Nat} {s:aB} {a:ak} {l:aW} {cs:List aB}
theorem gi.more (s:gi X N b h S0 E d q facts aX us) (hb:b<=b2):gi X N b2 h S0 E d q facts aX us:=by
 obtain ⟨⟨T0,D,NM,v0,v1,nv,e,g1,g2,g3⟩,s2⟩:=s
 exact ⟨⟨T0,D,NM,v0,v1,nv,e,g1,g2.le hb,g3⟩,s2⟩
theorem eD.down {N2 b T0:Nat} {D:List Nat} (t:eD N b h D T0 us) (hN:N2<=N):eD N2 b h D T0 us:=by
 obtain ⟨FI,FE,FM,free,aY,kv,e,⟨a1,a2,a3,lo,hi⟩,p⟩:=t
 exact ⟨FI,FE,FM,free,aY,kv,e,⟨a1,a2,a3,⟨by omega,by omega,by omega,by omega⟩,hi⟩,p⟩
theorem gi.down {N2:Nat} (s:gi X N b h S0 E d q facts aX us) (hN:N2<=N):gi X N2 b h S0 E d q facts aX us:=by
 obtain ⟨⟨T0,D,NM,v0,v1,nv,e,g1,g2,g3,g4,g5,g6,g7,g8,g9,g10,g11⟩,s2⟩:=s
 exact ⟨⟨T0,D,NM,v0,v1,nv,e,g1,g2.down hN,g3,g4,g5,g6,g7,g8,g9,by omega,by omega⟩,s2⟩
theorem gi.fresh (s:gi [] N b h S0 E d q facts aX us) (f:aQ [] h h2) (hX:∀ B∈X,h.size<=B/\B < h2.size):gi X N b h2 S0 E d q facts aX us:=by
 have hl:=s.lt
 obtain ⟨⟨T0,D,NM,v0,v1,nv,rfl,g1,g2,g3,g4,g5,g6,g7,g8⟩,_⟩:=s
 have nk:∀ B∈NM::D,B ∉ X:=λB hB hx=>by
  have h1:=(hl.2 B hB).2
  have h2:=(hX B hx).1
  omega
 have u:aQ X h (aM X h2):=(f.mono (D':=X) (λ_ h=>nomatch h)).trans (aQ.dead X h2) (λB hB=>.inl hB)
 have hi:b8 (aM (NM::D) h) (aM (NM::D) (aM X h2)):=by
  refine ⟨by rw [iQ,iQ,iQ];exact f.size,λB hB hd=>?_⟩
  rw [iQ] at hB
  have hE:B ∉ NM::D:=λhh=>hd (Aq hh hB)
  have hx:B ∉ X:=λhh=>by have:=(hX B hh).1;omega
  rw [pn hE,pn hE]
  exact u.get B hB hx
 exact ⟨⟨T0,D,NM,v0,v1,nv,rfl,g1.ck u (λhx=>by have:=(hX _ hx).1;have:=hl.1;omega),g2.ck u (λB hB=>nk B (gJ _ hB)),g3.hold (λb q=>q.ck u (nk _ (by simp))),g4.mono hi,g5.mono hi,g6,λwho x hx=>(g7 who x hx).imp λs hs=>⟨hs.1,hs.2.mono hi⟩,g8⟩,nk,λB hB=>(hX B hB).2⟩
theorem zl1:Da facts s (some l)=tP facts s l:=rfl
theorem zl2:Db aX s (some l)=ia aX s (aX s+1):=rfl
theorem zDG (h:∀ x,x∈cs↔zw a x) (t:aB):kN us cs t=us t+(if tM a t then 1 else 0):=by
 unfold kN
 by_cases ht:tM a t=true
 .rw [aE ht,aE ((h t).2 (kX.1 ht))]
 .rw [az ht,az (λhm=>ht (kX.2 ((h t).1 hm)))]
  rfl
theorem zEn (h:∀ x,x∈cs↔zw a x) (t:aB):jX us cs t=us t - (if tM a t then 1 else 0):=by
 unfold jX
 by_cases ht:tM a t=true
 .rw [aE ht,aE ((h t).2 (kX.1 ht))]
 .rw [az ht,az (λhm=>ht (kX.2 ((h t).1 hm)))]
  rfl
end
theorem zuY (d:aw) (q:Int) (s:aB) (a:ak) (facts:aB->aW) (aX us:aB->Nat) (h hc:Heap) (z:Ext h hc) (N b k:Nat) (S0:Nat) (E:List Nat) (hN:N=h.size) (X:List Nat) (dq:gi X N b hc S0 E d q facts aX us) (inv:dH d k facts aX us) (i6:d.ah.Nodup) (kT:d.ah.length<=16) (cP:bl 1 hc) (ha:a.aV=true) (hk:k<=700) (hb:b < 50000) (K:aG)
 (hK:∀ h' E2 oa,Ext h h'->aQ E hc h'->(∀ B∈E2,B∈E\/hc.size<=B)->gi X N (b+4) h' S0 E2 d q (Da facts s (jW d q s a (facts s))) (Db aX s (jW d q s a (facts s))) oa->dH d (k+1) (Da facts s (jW d q s a (facts s))) (Db aX s (jW d q s a (facts s))) oa->K (.tuple #[.bool (jW d q s a (facts s)).isSome,.int .i64 (pJ d q s a (facts s))]) h'):Ok prog aA ov 12 [.pointer (some ⟨S0,0,none⟩),.string s,a.val] hc K:=by
 have kV:∀ x,us x < 1000000000:=λx=>by
  have h1:=inv.Eg x
  have h2:d.ah.length*k<=16*700:=J8 kT hk
  omega
 have hl:=inv.len s
 have hv:=inv.Eh s
 have stay:jW d q s a (facts s)=none->∀ h',Ext h h'->aQ [] hc h'->K (.tuple #[.bool (jW d q s a (facts s)).isSome,.int .i64 (pJ d q s a (facts s))]) h':=λe h' z f=>by
  refine hK h' E us z (f.mono (λ_ h=>nomatch h)) (λB hB=>.inl hB) ?_ ?_
  .rw [e,Ut,Uu]
   exact (dq.ck f).more (by omega)
  .rw [e,Ut,Uu]
   exact inv.more (by omega)
 refine zuX d q s a facts aX us h hc z N b S0 E hN X dq cP (by omega) (by omega) (λx hx=>inv.aV hx) ha (by omega) (inv.sort s) hb kV (λhe=>zru he) (by have:=zr9 a (facts s);omega) K (λhe h' z f=>?_) (λhe hh h' z f=>?_) (λhe hh hq h' z f=>?_) (λhe hh hq h' cs E2 z f hE yv GB b9 nI=>?_)
 .have e1:jW d q s a (facts s)=none:=az he
  have e2:pJ d q s a (facts s)=jg d s a:=az he
  have:=stay e1 h' z f
  rw [e1,e2] at this
  exact this
 .have e1:jW d q s a (facts s)=none:=by unfold jW;rw [aE he,aE hh]
  have e2:pJ d q s a (facts s)=0:=by unfold pJ;rw [aE he,aE hh]
  have:=stay e1 h' z f
  rw [e1,e2] at this
  exact this
 .have e1:jW d q s a (facts s)=none:=by unfold jW;rw [aE he,az (by rw [hh];decide),az (by omega)]
  have e2:pJ d q s a (facts s)=12:=by unfold pJ;rw [aE he,az (by rw [hh];decide),az (by omega)]
  have:=stay e1 h' z f
  rw [e1,e2] at this
  exact this
 .have e1:jW d q s a (facts s)=some (cD a (facts s)):=by unfold jW;rw [aE he,az (by rw [hh];decide),aE hq]
  have e2:pJ d q s a (facts s)=0:=by unfold pJ;rw [aE he,az (by rw [hh];decide),aE hq]
  have gp:=hK h' E2 (kN us cs) z f hE
  rw [e1,e2,zl1,zl2] at gp
  exact gp nI (inv.aah i6 he hh (zDG b9))
theorem zr3 (d:aw) (q:Int) (s:aB) (a:ak) (facts:aB->aW) (aX us:aB->Nat) (h hc:Heap) (z:Ext h hc) (N b k:Nat) (S0:Nat) (E:List Nat) (hN:N=h.size) (X:List Nat) (dq:gi X N b hc S0 E d q facts aX us) (inv:dH d k facts aX us) (i6:d.ah.Nodup) (kT:d.ah.length<=16) (cP:bl 1 hc) (ha:a.aV=true) (hk:k<=700) (hb:b < 50000) (K:aG)
 (hK:∀ h' E2 oa,Ext h h'->aQ E hc h'->(∀ B∈E2,B∈E\/hc.size<=B)->gi X N (b+4) h' S0 E2 d q (Da facts s (kZ d s a (facts s))) (Db aX s (kZ d s a (facts s))) oa->dH d (k+1) (Da facts s (kZ d s a (facts s))) (Db aX s (kZ d s a (facts s))) oa->K (.tuple #[.bool (kZ d s a (facts s)).isSome,.int .i64 (jg d s a)]) h'):Ok prog aA ov 13 [.pointer (some ⟨S0,0,none⟩),.string s,a.val] hc K:=by
 have kV:∀ x,us x < 1000000000:=λx=>by
  have h1:=inv.Eg x
  have h2:d.ah.length*k<=16*700:=J8 kT hk
  omega
 have hl:=inv.len s
 have hv:=inv.Eh s
 have stay:kZ d s a (facts s)=none->∀ h',Ext h h'->aQ [] hc h'->K (.tuple #[.bool (kZ d s a (facts s)).isSome,.int .i64 (jg d s a)]) h':=λe h' z f=>by
  refine hK h' E us z (f.mono (λ_ h=>nomatch h)) (λB hB=>.inl hB) ?_ ?_
  .rw [e,Ut,Uu]
   exact (dq.ck f).more (by omega)
  .rw [e,Ut,Uu]
   exact inv.more (by omega)
 refine zr2 d q s a facts aX us h hc z N b S0 E hN X dq cP (by omega) (by omega) (λx hx=>inv.aV hx) ha (by omega) (inv.sort s) hb kV (λhe hh x hx=>inv.pos he hh (kX.2 hx)) K (λhe h' z f=>?_) (λhe hh h' z f=>?_) (λhe hh h' cs E2 z f hE yv GB b9 nI=>?_)
 .have e1:kZ d s a (facts s)=none:=az he
  have:=stay e1 h' z f
  rw [e1] at this
  exact this
 .have e1:kZ d s a (facts s)=none:=by unfold kZ;rw [aE he,az (by rw [hh];decide)]
  have:=stay e1 h' z f
  rw [e1,he] at this
  exact this
 .have e1:kZ d s a (facts s)=some (fG a (facts s)):=by unfold kZ;rw [aE he,aE hh]
  have gp:=hK h' E2 (jX us cs) z f hE
  rw [e1,he,zl1,zl2] at gp
  exact gp (nI.more (by omega)) (inv.V7 i6 he hh (zEn b9))
end Go.Proofs.YtkgojconmeeegaaGreatDoor

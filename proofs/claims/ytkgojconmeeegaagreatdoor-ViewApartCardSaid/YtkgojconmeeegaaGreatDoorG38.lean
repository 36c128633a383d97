/- Walks: a new space of a policy. Written out by fill2.py. No condition. -/
import Derived.Test.YtkgojconmeeegaaGreatDoorG37
set_option linter.unusedSimpArgs false
set_option linter.unusedVariables false
set_option maxRecDepth 100000
set_option maxHeartbeats 0
namespace Go.Proofs.YtkgojconmeeegaaGreatDoor
open Go.Am
theorem sA.bX {N b:Nat} {h h2:Heap} {S0:Nat} {E:List Nat} {d:au} {q:Int} {facts:ByteArray→List ab} {aA us:ByteArray→Nat} (s:sA N b h S0 E d q facts aA us) (f:aM [] h h2):sA N b h2 S0 E d q facts aA us:=by
 obtain ⟨T0,D,NM,v0,v1,nv,rfl,g1,g2,g3,g4,g5,g6,g7,g8⟩:=s
 have hi:cn (aI (NM::D) h) (aI (NM::D) h2):=(f.mono (D':=NM::D) (fun _ h=>nomatch h)).inc (fun B hB=>.inl hB)
 exact ⟨T0,D,NM,v0,v1,nv,rfl,g1.bX f (by simp),g2.bX f (fun B hB=>by simp),g3.hold (fun b q=>q.bX f (by simp)),g4.mono hi,g5.mono hi,g6,fun who x hx=>(g7 who x hx).imp fun s hs=>⟨hs.1,hs.2.mono hi⟩,g8⟩
section
variable {X:List Nat} {N b:Nat} {h h2:Heap} {S0:Nat} {E:List Nat} {d:au} {q:Int} {facts:ByteArray→List ab} {aA us:ByteArray→Nat}
theorem gE.bX (s:gE X N b h S0 E d q facts aA us) (f:aM [] h h2):gE X N b h2 S0 E d q facts aA us:=⟨s.1.bX (f.kill X),s.2.1,fun B hB=>Nat.lt_of_lt_of_le (s.2.2 B hB) f.size⟩
theorem gE.lay (s:gE X N b h S0 E d q facts aA us) (bs:List bh) (w:Nat):gE X N b (h.lay bs w) S0 E d q facts aA us:=s.bX (aM.lay _ _ _ _)
theorem gE.over {bs:List bh} {w:Nat} (s:gE X N b h S0 E d q facts aA us) (x:Ext (h.lay bs w) h2):gE X N b h2 S0 E d q facts aA us:=s.bX ((aM.refl [] h).over x)
theorem gE.un (s:gE X N b h S0 E d q facts aA us):sA N b h S0 E d q facts aA us:=by
 obtain ⟨⟨T0,D,NM,v0,v1,nv,rfl,g1,g2,g3,g4,g5,g6,g7,g8⟩,mE,hX⟩:=s
 have u:=aM.j8 X h
 have hi:=OW (NM::D) X h
 exact ⟨T0,D,NM,v0,v1,nv,rfl,g1.bX u (g1.alive (by simp)),g2.bX u (fun B hB=>mE B (List.mem_cons_of_mem _ hB)),g3.hold (fun b q=>q.bX u (mE _ (by simp))),g4.mono hi,g5.mono hi,g6,fun who x hx=>(g7 who x hx).imp fun s hs=>⟨hs.1,hs.2.mono hi⟩,g8⟩
theorem gE.lt (s:gE X N b h S0 E d q facts aA us):S0 < h.size∧∀ B∈E,N≤B∧B < h.size:=by
 obtain ⟨T0,D,NM,v0,v1,nv,rfl,g1,g2,g3,g4,g5,g6,g7,g8,g9,g10,g11⟩:=s.un
 refine ⟨g1.lt,fun B hB=>?_⟩
 rcases List.mem_cons.1 hB with rfl|hB
 ·exact ⟨g11,g3.lt⟩
 ·exact g2.lo B hB
theorem gE.by (s:gE X N b h S0 E d q facts aA us) (f:aM X h h2):gE [] N b h2 S0 E d q facts aA us:=by
 obtain ⟨⟨T0,D,NM,v0,v1,nv,rfl,g1,g2,g3,g4,g5,g6,g7,g8⟩,mE,hX⟩:=s
 have u:aM X (aI X h) h2:=(aM.j8 X h).trans f (fun B hB=>.inl hB)
 have hi:cn (aI (NM::D) (aI X h)) (aI (NM::D) h2):=by
  rw [← FH]
  exact (aM.mono f (D':=(NM::D)++X) (fun B hB=>List.mem_append_right _ hB)).inc (fun B hB=>.inl (List.mem_append_left _ hB))
 exact ⟨⟨T0,D,NM,v0,v1,nv,rfl,g1.bX u (g1.alive (by simp)),g2.bX u (fun B hB=>mE B (List.mem_cons_of_mem _ hB)),g3.hold (fun b q=>q.bX u (mE _ (by simp))),g4.mono hi,g5.mono hi,g6,fun who x hx=>(g7 who x hx).imp fun s hs=>⟨hs.1,hs.2.mono hi⟩,g8⟩,fun _ _=>by simp,fun _ h=>by simp at h⟩
end
theorem zGz (d:au) (p0 p1 p2 p5 p6:Value) (q b:Int) (h:Heap) (cF:bj 1 h) (bf:(cX p0 p1 p2 p5 p6 q b).all Am.one=true) (hd:dD h p0 p1 p2 p5 p6 d) (hq:d.dB=q) (hb:d.cG=b) (hn:zn d) (pe:d.ah.length≤100000) (IV:d.bG.length≤100000) (X:List Nat) (hX:∀ B∈X,B < h.size) (K:Value→Heap→Prop)
 (wP:lY d≠0→∀ h',Ext h h'→K (.tuple #[.pointer none,.int .i64 (lY d)]) h')
 (gz:lY d=0→∀ h' S0 E,Ext h h'→gE X h.size 0 h' S0 E d q (fun _=>[]) (fun _=>0) (fun _=>0)→K (.tuple #[.pointer (some ⟨S0,0,none⟩),.int .i64 0]) h'):Ok Tryz.prog ae ov 30 [gi p0 p1 p2 p5 p6 q b] h K:=by
 rw [ao h]
 have z:=Ext.refl h
 refine Ok.aH rfl zDl (br Vs) rfl (m:=12) rfl ?_
 simp only [syms,aa,seval,Ip,ek,↓fm,eX,eG]
 refine zvH d p0 p1 p2 p5 p6 q b _ (cF.lay _ _) bf (hd.lay _ _) hq hb hn _ (fun h' x=>?_)
 have q0:=Holds.top (i:=0) x rfl
 (replace z:=z.an x (by omega);(replace hd:=hd.over x);rw [ao h'])
 have gj:=py
 simp only [syms,aa,seval,Ip,bl]
 refine iS (fun aP=>?_) (fun heq=>?_)
 ·simp only [syms,aa,seval,Ip,bl]
  exact wP aP _ (z.aw _ _ (by omega))
 simp only [syms,aa,seval,Ip,q0.lay,ek,↓fm,eX,eG]
 have hq0:=q0.lt
 refine zvX d p0 p1 p2 p5 p6 q b _ bf (hd.lay _ _).s0 (hd.lay _ _).s1 pe IV _ (fun h' v0 v1 A0 A1 x o0 o1=>?_)
 have Dy:∀ B∈h.size::X,B < h.size+1:=fun B hB=>by
  rcases List.mem_cons.1 hB with rfl|hB
  ·omega
  ·have:=hX B hB;omega
 have s0:=(o0.lay [] h'.low).aI (D:=h.size::X) (fun _ _ _ _ q=>q) (by decide) (fun B hB=>by have:=Dy B hB;rw [bm];simp only [List.length_cons,List.length_nil];omega)
 have s1:=(o1.lay [] h'.low).aI (D:=h.size::X) (fun _ _ _ _ q=>q) (by decide) (fun B hB=>by have:=Dy B hB;rw [bm];simp only [List.length_cons,List.length_nil];omega)
 (replace z:=z.an x (by omega);(replace q0:=q0.over x);(replace hd:=hd.over x);rw [ao h'])
 have YI:=q0.lt
 simp only [syms,aa,seval,Ip,eG]
 refine zzw h.size d v0 v1 q _ h.size (by rw [bm];omega) ⟨Nat.le_refl _,by rw [bm];omega⟩ X hX s0 s1 _ (fun h' S0 E x eL=>?_)
 (replace z:=z.an x (by omega);(replace q0:=q0.over x);(replace hd:=hd.over x);rw [ao h'])
 simp only [syms,aa,seval,Ip,cy,bl]
 exact gz heq _ S0 E (z.aw _ _ (by omega)) (eL.lay _ _)
theorem zN (x):cw Tryz.prog ae .eql 40 (.pointer (some x)) (.pointer none)=some (.bool false):=by kernel_rfl
theorem Pe (x):cw Tryz.prog ae .neq 40 (.pointer (some x)) (.pointer none)=some (.bool true):=by kernel_rfl
theorem zLH (T0:Nat) (v0 v1:Value) (q:Int) (NM:Nat):cut (HK T0 v0 v1 q NM) 1 7=some (cX v0 v1 (.slice none 0 0) (.slice none 0 0) (.slice none 0 0) q 0):=rfl
theorem VS (T0:Nat) (v0 v1:Value) (q:Int) (NM:Nat):(HK T0 v0 v1 q NM)[8]? = some (.map (some NM)):=rfl
theorem OS (T0:Nat) (v0 v1:Value) (q:Int) (NM:Nat):(HK T0 v0 v1 q NM)[4]? = some (.int .i64 q):=rfl
theorem zM:ae.desc 98=some (.map 9 109):=by kernel_rfl
theorem Ik:ae.zero 109=some (.agg #[.slice none 0 0,.int .u64 0]):=by kernel_rfl
theorem aek:bJ ae 109=some 2:=by kernel_rfl
theorem gO (b:Bool) (h:Heap) (K:Value→Heap→Prop):aW (some (.bool b)) h K=K (.bool b) h:=rfl
theorem zHS (a) (n c:Nat) (h:Heap):bc ae 44 (.slice a n c) h=some (.int .i64 n):=by kernel_rfl
theorem zLt (a) (n c:Nat) (v:Int):nV ae 109 [(0,.slice a n c),(1,.int .u64 v)]=some (.agg #[.slice a n c,.int .u64 v]):=by kernel_rfl
theorem Cs {n:Nat} (h:n < 1000000000):IntKind.u64.wrap ((n:Int)+1)=((n+1:Nat):Int):=by
 unfold IntKind.wrap
 simp [IntKind.signed,IntKind.bits]
 omega
def r7 (f:ByteArray→List ab) (s:ByteArray) (l:List ab):ByteArray→List ab:=fun x=>if x=s then l else f x
theorem adJ {h:Heap} {v0 v1:Value} {d:au} (s0:Sl aJ.str h v0 d.ah) (s1:Sl aJ.pred h v1 d.bG) (q:Int):(cX v0 v1 (.slice none 0 0) (.slice none 0 0) (.slice none 0 0) q 0).all Am.one=true:=by
 have h0:=s0.one
 have h1:=s1.one
 simp only [cX,List.all_cons,List.all_nil,h0,h1]
 rfl
theorem zlk (d:au) (q:Int) (s:ByteArray) (a:ab) (room:Int) (fv:Value) (is:List ab→Bool) (tn:List ab→List ab) (facts:ByteArray→List ab) (aA us:ByteArray→Nat) (h hc:Heap) (z:Ext h hc) (N b:Nat) (S0:Nat) (E:List Nat) (hN:N=h.size) (X:List Nat) (eL:gE X N b hc S0 E d q facts aA us) (cF:bj 1 hc) (Om:d.ah.length≤1000) (iq:(facts s).length≤800) (aR:∀ x∈facts s,x.aT=true) (hv:aA s < 1000000000)
 (YN:(tn (facts s)).length≤900)
 (ht:∀ (h2:Heap) (v:Value) (K:Value→Heap→Prop),Sl aJ.atom h2 v (facts s)→(∀ h' w,Ext h2 h'→(∃ a n c,w=.slice a n c)→(is (facts s)=true→lI h2 h' 34 w (tn (facts s)))→K (.tuple #[w,.bool (is (facts s))]) h')→nW Tryz.prog ae ov [v,a.val] h2 K fv)
 (K:Value→Heap→Prop)
 (wP:fo d s a≠0→∀ h',Ext h h'→aM [] hc h'→K (.tuple #[.bool false,.int .i64 (fo d s a)]) h')
 (gz:fo d s a=0→is (facts s)=false→∀ h',Ext h h'→aM [] hc h'→K (.tuple #[.bool false,.int .i64 0]) h')
 (pc:fo d s a=0→is (facts s)=true→room < (tn (facts s)).length→∀ h',Ext h h'→aM [] hc h'→K (.tuple #[.bool false,.int .i64 12]) h')
 (wQ:fo d s a=0→is (facts s)=true→((tn (facts s)).length:Int)≤room→∀ h',Ext h h'→aM E hc h'→gE X N b h' S0 E d q (r7 facts s (tn (facts s))) (gV aA s (aA s+1)) us→K (.tuple #[.bool true,.int .i64 0]) h'):Ok Tryz.prog ae ov 39 [.pointer (some ⟨S0,0,none⟩),.string s,a.val,.int .i64 room,fv] hc K:=by
 obtain ⟨⟨T0,D,NM,v0,v1,nv,rfl,x1,x2,x3,x4,x5,g6,x7,g8,g9,g10,g11⟩,mE,Tc⟩:=eL
 have ux:=aM.j8 X hc
 have ui:=OW (NM::D) X hc
 have Nc:=x1.alive (by simp)
 have yl:NM ∉ X:=mE _ (by simp)
 have FX:∀ B∈D,B ∉ X:=fun B hB=>mE B (List.mem_cons_of_mem _ hB)
 have g1:=x1.bX ux Nc
 have g2:=x2.bX ux FX
 have g3:=x3.hold (fun b q=>q.bX ux yl)
 have g4:=x4.mono ui
 have g5:=x5.mono ui
 have g7:∀ who x,dG nv who=some x→∃ s,x=.agg #[s,.int .u64 (aA who:Int)]∧Sl aJ.atom (aI (NM::D) hc) s (facts who):=fun who x hx=>(x7 who x hx).imp fun s hs=>⟨hs.1,hs.2.mono ui⟩
 have bf:=adJ g4 g5 q
 have t4:=g4.mono (rn _ _)
 have t5:=g5.mono (rn _ _)
 rw [ao hc]
 refine Ok.aH rfl zDu (br VB) rfl (m:=55) rfl ?_
 simp only [syms,aa,seval,oN,ec,zN]
 with_reducible first|refine dH (by simp only [oN]) (z.aw _ _ (by omega)) ?_
 simp only [syms,aa,seval,oN,cZ,g1.lay,↓zLH,eX,eG,ec,↓eM,eh,dC]
 refine zzu d s a v0 v1 _ _ _ q 0 _ (cF.lay _ _) bf (t4.lay _ _) (t5.lay _ _) Om _ (fun h' x=>?_)
 have q0:=Holds.top (i:=0) x rfl
 have fr:aM [] hc h':=(aM.refl [] hc).over x
 (((with_reducible refine dv ?_ ?_ ?_);(· exact (by (simp only [dx]);have:=z.size;omega));(· exact x));replace z:=z.an x (by omega);(replace g1:=g1.over x);rw [ao h'])
 simp only [syms,aa,seval,oN,bl]
 ((with_reducible refine ⟨z.cN.lay _ _,?_⟩);(intro _ h' zz x _);(simp only [el,List.append_nil] at x);(replace g1:=g1.over x);(replace q0:=q0.over x);(replace fr:=fr.over x);(replace z:=zz);(clear zz);rw [ao h'])
 simp only [syms,aa,seval,oN,bl]
 refine iS (fun aP=>?_) (fun heq=>?_)
 ·simp only [syms,aa,seval,oN,bl]
  exact wP aP _ (z.aw _ _ (by omega)) (fr.trans (aM.lay _ _ _ []) (fun _ h=>nomatch h))
 have g3':=g3.hold (fun b q=>q.bX fr (by simp))
 have GS:=fr.size
 have hq0:=q0.lt
 have yq:=g1.lt
 obtain ⟨sv,eC,rW⟩:∃ sv,(dG nv s).getD (.agg #[.slice none 0 0,.int .u64 0])=.agg #[sv,.int .u64 (aA s:Int)]∧Sl aJ.atom (aI (NM::D) hc) sv (facts s):=by
  cases hl:dG nv s with
  |none =>
   obtain ⟨e1,e2⟩:=g6 s hl
   rw [e1,e2]
   exact ⟨_,rfl,.nil⟩
  |some x=>exact g7 s x hl
 obtain ⟨sa,sn,Jb,rfl⟩:=uI rW
 simp only [syms,aa,seval,oN,gh,g1.lay,VS,Er]
 refine Rt g3' zM EM Ik ?_
 simp only [eC,Bool.false_eq_true,if_false]
 simp only [syms,aa,seval,oN,j9]
 have hA:Sl aJ.atom h' (.slice sa sn Jb) (facts s):=(rW.mono (rn _ _)).mono fr.all
 have ac8:∀ (h:Heap) (K:Value→Heap→Prop),aW (some (.slice sa sn Jb)) h K=K (.slice sa sn Jb) h:=fun _ _=>rfl
 have qC:=z.size
 refine zwB (i:=0) rfl aek rfl rfl rfl rfl ?_
 simp only [List.set_cons_zero]
 simp only [syms,aa,seval,oN,ac8,q0.lay,ec,↓eM,eh,dC]
 have A8:∀ B∈NM::D,B < h'.size:=fun B hB=>by
  rcases List.mem_cons.1 hB with rfl|hB
  ·have:=g3.lt;omega
  ·have:=(g2.lo B hB).2;omega
 refine ht _ _ _ (hA.lay _ _) (fun h' w x um ho=>?_)
 have q2:=Holds.top (i:=0) x rfl
 (replace z:=z.an x (by omega);(replace g1:=g1.over x);(replace q0:=q0.over x);(replace fr:=fr.over x);rw [ao h'])
 obtain ⟨wa,wn,wc,rfl⟩:=um
 have Tp:∀ (h:Heap) (K:Value→Heap→Prop),aW (some (.slice wa wn wc)) h K=K (.slice wa wn wc) h:=fun _ _=>rfl
 cases q9:is (facts s)
 ·simp only [syms,aa,seval,oN,gP,Tp,gO]
  (with_reducible_and_instances apply b8);(· rfl)
  simp only [syms,aa,seval,oN]
  exact gz heq q9 _ (z.aw _ _ (by omega)) (fr.trans (aM.lay _ _ _ []) (fun _ h=>nomatch h))
 replace ho:=ho q9
 have acN:=ho
 obtain ⟨AW,tw,Tq,hwq,hwA,hwl⟩:=ho
 simp only [Value.slice.injEq] at Tq
 obtain ⟨BJ,I0,hwc⟩:=Tq
 simp only [syms,aa,seval,oN,gP,Tp,gO]
 (with_reducible_and_instances apply b8);(· rfl)
 simp only [syms,aa,seval,oN,Tp,zHS,bl]
 refine bt (fun tQ=>?_) (fun hle=>?_)
 ·simp only [syms,aa,seval,oN,bl]
  exact pc heq q9 (by rw [← I0];omega) _ (z.aw _ _ (by omega)) (fr.trans (aM.lay _ _ _ []) (fun _ h=>nomatch h))
 have I6:IntKind.u64.wrap ((aA s:Int)+1)=((aA s+1:Nat):Int):=Cs (by omega)
 simp only [syms,aa,seval,oN]
 with_reducible first|refine dH (by simp only [oN]) (z.aw _ _ (by omega)) ?_
 simp only [syms,aa,seval,oN,gh,bl,cZ,j9,Tp,g1.lay,VS,q2.lay,ael,I6,zLt,W3]
 have gm:=g3.hold (fun b q=>q.bX fr (by simp))
 refine zEj gm zM EM (fun h3 m3 c3=>?_)
 have hz:=z.size
 have AZ:h.size≤NM:=by omega
 have Yg:=g3.lt
 refine nQ (A:=NM) (by kernel_rfl) (by rw [bm];omega) (by omega) (by simpa only [el,bm,List.append_nil,List.length_cons,List.length_nil,Nat.add_zero] using c3) ?_
 have z3:=(z.aw [] (h'.size+0) (by omega)).step c3 AZ
 have f3:aM [NM] h' h3:=(aM.refl [NM] h').iJ c3 (.inl (by simp))
 have hSN:S0≠NM:=fun e=>g8 (by rw [e];simp)
 have k1:=acN.kill (D:=(NM::D)++X) (fun B hB=>by
  rw [bm]
  rcases List.mem_append.1 hB with hB|hB
  ·have:=A8 B hB;omega
  ·have:=Tc B hB;omega)
 rw [FH] at k1
 clear z q0 q2
 have z:=z3
 rw [ao h3]
 simp only [syms,aa,seval,oN]
 ((with_reducible refine ⟨z.cN.lay _ _,?_⟩);(intro _ h4 zz x _);(simp only [el,List.append_nil] at x))
 replace f3:=f3.over x
 replace m3:=m3.over x
 clear z
 have z:=zz
 rw [ao h4]
 simp only [syms,aa,seval,oN,bl,gO]
 have f4:aM [NM] h' (h4.lay [] h4.low):=f3.trans (aM.lay _ _ _ []) (fun _ h=>nomatch h)
 have f5:aM [NM] hc (h4.lay [] h4.low):=fr.mono (D':=[NM]) (fun _ h=>nomatch h) |>.trans f4 (fun B hB=>.inl hB)
 have GQ:∀ B∈[NM],B∈NM::D:=fun B hB=>by rw [List.mem_singleton.1 hB];simp
 have i1:cn (aI (NM::D) (aI X hc)) (aI (NM::D) (aI X (h4.lay [] h4.low))):=((f5.kill X).mono GQ).inc (fun B hB=>.inl hB)
 have i2:cn (aI (NM::D) (aI X h')) (aI (NM::D) (aI X (h4.lay [] h4.low))):=((f4.kill X).mono GQ).inc (fun B hB=>.inl hB)
 refine wQ heq q9 (by rw [← I0];omega) _ (z.aw _ _ (by omega)) (f5.mono GQ) ⟨⟨T0,D,NM,v0,v1,gC nv s (.agg #[.slice wa wn wc,.int .u64 ((aA s+1:Nat):Int)]),rfl,x1.bX (f5.kill X) (by simpa using hSN),x2.bX (f5.kill X) (fun B hB hm=>g9 (by rw [← List.mem_singleton.1 hm];exact hB)),(m3.lay _ _).hold (fun _ q=>q.mU yl),x4.mono i1,x5.mono i1,fun who hw=>?_,fun who y hw=>?_,g8,g9,g10,g11⟩,mE,fun B hB=>Nat.lt_of_lt_of_le (Tc B hB) f5.size⟩
 ·rw [RA] at hw
  by_cases um:who=s
  ·rw [if_pos um] at hw;cases hw
  ·rw [if_neg um] at hw
   unfold r7
   rw [if_neg um,uM um]
   exact g6 who hw
 ·rw [RA] at hw
  by_cases um:who=s
  ·rw [if_pos um] at hw
   cases hw
   subst um
   unfold r7
   rw [if_pos rfl,xU]
   exact ⟨_,rfl,k1.mono i2⟩
  ·rw [if_neg um] at hw
   unfold r7
   rw [if_neg um,uM um]
   exact (x7 who y hw).imp fun v hv=>⟨hv.1,hv.2.mono i1⟩
theorem sA.turn {N b2:Nat} {h h2:Heap} {S0 T0 NM:Nat} {D D2:List Nat} {d:au} {q:Int} {facts:ByteArray→List ab} {aA lF:ByteArray→Nat} {v0 v1:Value} {nv:List (ByteArray × Value)} (q1:Holds h S0 (.row (HK T0 v0 v1 q NM) 100 false)) (m:dp h NM nv) (s0:Sl aJ.str (aI (NM::D) h) v0 d.ah) (s1:Sl aJ.pred (aI (NM::D) h) v1 d.bG)
 (g6:∀ who,dG nv who=none→facts who=[]∧aA who=0) (g7:∀ who x,dG nv who=some x→∃ s,x=.agg #[s,.int .u64 (aA who:Int)]∧Sl aJ.atom (aI (NM::D) h) s (facts who)) (g8:S0 ∉ NM::D) (g9:NM ∉ D) (g10:N≤S0) (g11:N≤NM)
 (f:aM D h h2) (t:ef N b2 h2 D2 T0 lF) (hD:∀ B∈D2,B∈D∨h.size≤B):sA N b2 h2 S0 (NM::D2) d q facts aA lF:=by
 have hi:cn (aI (NM::D) h) (aI (NM::D2) h2):=(f.mono (D':=NM::D) (fun B hB=>List.mem_cons_of_mem _ hB)).inc (fun B hB=>by
  rcases List.mem_cons.1 hB with rfl|hB
  ·exact .inl (by simp)
  ·exact (hD B hB).imp (List.mem_cons_of_mem _) id)
 have hS:S0 ∉ NM::D2:=fun hm=>by
  rcases List.mem_cons.1 hm with e|hm
  ·exact g8 (by rw [e];simp)
  ·rcases hD _ hm with e|e
   ·exact g8 (List.mem_cons_of_mem _ e)
   ·have:=q1.lt;omega
 have hM:NM ∉ D2:=fun hm=>by
  rcases hD _ hm with e|e
  ·exact g9 e
  ·have:=m.lt;omega
 exact ⟨T0,D2,NM,v0,v1,nv,rfl,q1.bX f (fun hm=>g8 (List.mem_cons_of_mem _ hm)),t,m.hold (fun b q=>q.bX f g9),s0.mono hi,s1.mono hi,g6,fun who x hx=>(g7 who x hx).imp fun s hs=>⟨hs.1,hs.2.mono hi⟩,hS,hM,g10,g11⟩
theorem Jm (T0:Nat) (v0 v1:Value) (q:Int) (NM:Nat):cut (HK T0 v0 v1 q NM) 0 1=some [.pointer (some ⟨T0,0,none⟩)]:=rfl
theorem zwm (a:ab) (l:List ab):cA a l≠[]:=by
 cases l with
 |nil=>simp [cA]
 |cons x r =>
  unfold cA
  split
  ·simp
  ·split <;> simp
theorem zs0 (d:au) (q:Int) (s:ByteArray) (a:ab) (facts:ByteArray→List ab) (aA us:ByteArray→Nat) (h hc:Heap) (z:Ext h hc) (N b:Nat) (S0:Nat) (E:List Nat) (hN:N=h.size) (X:List Nat) (eL:gE X N b hc S0 E d q facts aA us) (cF:bj 1 hc) (Om:d.ah.length≤1000) (iq:(facts s).length≤800) (aR:∀ x∈facts s,x.aT=true) (ha:a.aT=true) (hv:aA s < 1000000000) (ud:eg (facts s)=facts s) (hb:b < 50000) (kF:∀ x,us x < 1000000000)
 (dz:fo d s a=0→∀ x,xW a x→x.size≠0∧x.size≤255) (rU:(cA a (facts s)).length≤900)
 (K:Value→Heap→Prop)
 (wP:fo d s a≠0→∀ h',Ext h h'→aM [] hc h'→K (.tuple #[.bool false,.int .i64 (fo d s a)]) h')
 (gz:fo d s a=0→bC (facts s) a=true→∀ h',Ext h h'→aM [] hc h'→K (.tuple #[.bool false,.int .i64 0]) h')
 (pc:fo d s a=0→bC (facts s) a=false→q < (cA a (facts s)).length→∀ h',Ext h h'→aM [] hc h'→K (.tuple #[.bool false,.int .i64 12]) h')
 (wQ:fo d s a=0→bC (facts s) a=false→((cA a (facts s)).length:Int)≤q→∀ h' cs E2,Ext h h'→aM E hc h'→(∀ B∈E2,B∈E∨hc.size≤B)→cs.length≤4→cs.Nodup→(∀ x,x∈cs↔xW a x)→gE X N (b+4) h' S0 E2 d q (r7 facts s (cA a (facts s))) (gV aA s (aA s+1)) (ko us cs)→K (.tuple #[.bool true,.int .i64 0]) h'):Ok Tryz.prog ae ov 12 [.pointer (some ⟨S0,0,none⟩),.string s,a.val] hc K:=by
 subst hN
 have Tc:=eL.2.2
 obtain ⟨⟨T0,D,NM,v0,v1,nv,rfl,x1,g2,g3,_⟩,_⟩:=id eL
 have g1:=x1.bX (aM.j8 X hc) (x1.alive (by simp))
 have Gn:=eL.lt
 rw [ao hc]
 refine Ok.aH rfl zDb (br Vh) rfl (m:=32) rfl ?_
 simp only [syms,aa,seval,zu,Pe,g1.lay,OS,bl,cZ,ec,↓eM,eh,dC]
 refine zlk d q s a q _ (fun l => !bC l a) (fun l=>cA a (eg l)) facts aA us h _ (z.aw _ _ (by omega)) h.size b S0 (NM::D) rfl X (eL.lay _ _) (cF.lay _ _) Om iq aR hv (by rw [ud];exact rU) (fun h2 v K2 jc hk=>?_) _ (fun he h' z2 fr=>?_) (fun he q9 h' z2 fr=>?_) (fun he q9 sO h' z2 fr=>?_) (fun he q9 sO h' z2 fr eT=>?_)
 ·rw [rj]
  refine zHZ (facts s) a v h2 jc (by omega) aR ha K2 (fun h' w x ho=>hk h' w x ?_ (fun hi=>dw.b ho (zwm _ _)))
  exact uI ho.sl
 ·rw [ao h']
  simp only [syms,aa,seval,zu,gP,gO,bl]
  exact wP he _ (z2.aw _ _ (by omega)) (((aM.lay hc _ _ []).trans fr (fun _ h=>nomatch h)).trans (aM.lay _ _ _ []) (fun _ h=>nomatch h))
 ·rw [ao h']
  simp only [syms,aa,seval,zu,gP,gO,bl]
  exact gz he (by simpa using q9) _ (z2.aw _ _ (by omega)) (((aM.lay hc _ _ []).trans fr (fun _ h=>nomatch h)).trans (aM.lay _ _ _ []) (fun _ h=>nomatch h))
 ·rw [ao h']
  simp only [syms,aa,seval,zu,gP,gO,bl]
  simp only [ud] at sO
  exact pc he (by simpa using q9) sO _ (z2.aw _ _ (by omega)) (((aM.lay hc _ _ []).trans fr (fun _ h=>nomatch h)).trans (aM.lay _ _ _ []) (fun _ h=>nomatch h))
 ·simp only [ud] at sO eT
  have acq:bC (facts s) a=false:=by simpa using q9
  have k8:=dz he
  obtain ⟨⟨T1,D1,NM1,w0,w1,nw,M3,y1,y2,e3,e4,e5,e6,e7,e8,e9,ZQ,ZR⟩,mE,wz⟩:=eT
  simp only [List.cons.injEq] at M3
  obtain ⟨rfl,rfl⟩:=M3
  have ux:=aM.j8 X h'
  have FX:∀ B∈D,B ∉ X:=fun B hB=>mE B (List.mem_cons_of_mem _ hB)
  have e1:=y1.bX ux (y1.alive (by simp))
  have e2:=y2.bX ux FX
  have q0:Holds h' (hc.size+0) (.row a.cells 34 false):=(Holds.mk (by rw [bm];simp) (by rw [iR];rfl):Holds (hc.lay [.row a.cells 34 false] hc.low) (hc.size+0) (.row a.cells 34 false)).bX fr (by
   intro hm
   rcases List.mem_cons.1 hm with e|hm
   ·have:=(Gn.2 _ (List.mem_cons_self)).2;omega
   ·have:=(Gn.2 _ (List.mem_cons_of_mem _ hm)).2;omega)
  have MV:aM (NM::D) hc h':=(aM.lay hc _ _ _).trans fr (fun B hB=>.inl hB)
  rw [ao h']
  have z:=z2
  simp only [syms,aa,seval,zu,gP,gO,bl]
  with_reducible first|refine dH (by simp only [zu]) (z.aw _ _ (by omega)) ?_
  simp only [syms,aa,seval,zu,cZ,e1.lay,↓Jm,q0.lay,ec,↓eM,eh,dC,j9]
  refine zzA a h _ (z.aw _ _ (by omega)) D T1 b us (e2.lay _ _) (by omega) k8 kF _ (fun h5 cs D2 z5 ni yu fU cd xJ wt=>?_)
  have D0:=ni.size
  rw [bm] at D0
  refine yU (by kernel_rfl) z5.low (by rw [bm];exact D0) ?_
  have qf:aM D h' h5:=(aM.lay h' [] _ D).trans ni (fun B hB=>.inl hB)
  clear z
  have z:=z5
  rw [ao h5]
  simp only [syms,aa,seval,zu]
  ((with_reducible refine ⟨z.cN.lay _ _,?_⟩);(intro _ h6 zz x _);(simp only [el,List.append_nil] at x))
  replace qf:=qf.over x
  replace xJ:=xJ.over x
  clear z
  have z:=zz
  rw [ao h6]
  simp only [syms,aa,seval,zu,gP,gO,bl]
  have uY:aM D h' (h6.lay [] h6.low):=qf.trans (aM.lay _ _ _ []) (fun _ h=>nomatch h)
  have tH:∀ B∈D2,B∈D∨h'.size≤B:=fun B hB=>(wt B hB).imp id (fun e=>by rw [bm] at e;simpa using e)
  have hfh:=MV.size
  have wu:∀ B∈D2,B ∉ X:=fun B hB hx=>by
   rcases tH B hB with e|e
   ·exact FX B e hx
   ·have:=wz B hx;omega
  refine wQ he acq sO _ cs (NM::D2) (z.aw _ _ (by omega)) (MV.trans uY (fun B hB=>.inl (List.mem_cons_of_mem _ hB))) (fun B hB=>?_) yu fU cd ⟨sA.turn y1 e3 e4 e5 e6 e7 e8 e9 ZQ ZR (uY.kill X) ((xJ.lay _ _).bX (aM.dead X _) wu) (fun B hB=>by rw [iG];exact tH B hB),fun B hB=>?_,fun B hB=>Nat.lt_of_lt_of_le (wz B hB) uY.size⟩
  ·rcases List.mem_cons.1 hB with rfl|hB
   ·exact .inl (by simp)
   ·exact (tH B hB).imp (List.mem_cons_of_mem _) (fun e=>by omega)
  ·rcases List.mem_cons.1 hB with rfl|hB
   ·exact mE _ (by simp)
   ·exact wu B hB
theorem zqB (d:au) (q:Int) (s:ByteArray) (a:ab) (facts:ByteArray→List ab) (aA us:ByteArray→Nat) (h hc:Heap) (z:Ext h hc) (N b:Nat) (S0:Nat) (E:List Nat) (hN:N=h.size) (X:List Nat) (eL:gE X N b hc S0 E d q facts aA us) (cF:bj 1 hc) (Om:d.ah.length≤1000) (iq:(facts s).length≤800) (aR:∀ x∈facts s,x.aT=true) (ha:a.aT=true) (hv:aA s < 1000000000) (ud:eg (facts s)=facts s) (hb:b < 50000) (kF:∀ x,us x < 1000000000)
 (kC:fo d s a=0→bC (facts s) a=true→∀ x,xW a x→0 < us x)
 (K:Value→Heap→Prop)
 (wP:fo d s a≠0→∀ h',Ext h h'→aM [] hc h'→K (.tuple #[.bool false,.int .i64 (fo d s a)]) h')
 (gz:fo d s a=0→bC (facts s) a=false→∀ h',Ext h h'→aM [] hc h'→K (.tuple #[.bool false,.int .i64 0]) h')
 (wQ:fo d s a=0→bC (facts s) a=true→∀ h' cs E2,Ext h h'→aM E hc h'→(∀ B∈E2,B∈E∨hc.size≤B)→cs.length≤4→cs.Nodup→(∀ x,x∈cs↔xW a x)→gE X N b h' S0 E2 d q (r7 facts s (eW a (facts s))) (gV aA s (aA s+1)) (jB us cs)→K (.tuple #[.bool true,.int .i64 0]) h'):Ok Tryz.prog ae ov 13 [.pointer (some ⟨S0,0,none⟩),.string s,a.val] hc K:=by
 subst hN
 have Tc:=eL.2.2
 obtain ⟨⟨T0,D,NM,v0,v1,nv,rfl,x1,g2,g3,_⟩,_⟩:=id eL
 have g1:=x1.bX (aM.j8 X hc) (x1.alive (by simp))
 have Gn:=eL.lt
 rw [ao hc]
 refine Ok.aH rfl zDc (br Vi) rfl (m:=23) rfl ?_
 simp only [syms,aa,seval,Dm,Pe,g1.lay,OS,bl,cZ,ec,↓eM,eh,dC]
 refine zlk d q s a 1000 _ (fun l=>bC l a) (fun l=>eW a (eg l)) facts aA us h _ (z.aw _ _ (by omega)) h.size b S0 (NM::D) rfl X (eL.lay _ _) (cF.lay _ _) Om iq aR hv (by rw [ud];exact Nat.le_trans (List.length_filter_le _ _) (by omega)) (fun h2 v K2 jc hk=>?_) _ (fun he h' z2 fr=>?_) (fun he q9 h' z2 fr=>?_) (fun he q9 sO h' z2 fr=>?_) (fun he q9 sO h' z2 fr eT=>?_)
 ·rw [rj]
  refine ztm (facts s) a v h2 jc (by omega) aR ha K2 (fun h' w x hw ho=>hk h' w x hw (fun hi=>ho hi))
 ·rw [ao h']
  simp only [syms,aa,seval,Dm,gP,gO,bl]
  exact wP he _ (z2.aw _ _ (by omega)) (((aM.lay hc _ _ []).trans fr (fun _ h=>nomatch h)).trans (aM.lay _ _ _ []) (fun _ h=>nomatch h))
 ·rw [ao h']
  simp only [syms,aa,seval,Dm,gP,gO,bl]
  exact gz he q9 _ (z2.aw _ _ (by omega)) (((aM.lay hc _ _ []).trans fr (fun _ h=>nomatch h)).trans (aM.lay _ _ _ []) (fun _ h=>nomatch h))
 ·exfalso
  have h1:((eW a (eg (facts s))).length:Int)≤800:=by rw [ud];exact Int.ofNat_le.2 (Nat.le_trans (List.length_filter_le _ _) iq)
  omega
 ·simp only [ud] at eT
  have k8:=kC he q9
  obtain ⟨⟨T1,D1,NM1,w0,w1,nw,M3,y1,y2,e3,e4,e5,e6,e7,e8,e9,ZQ,ZR⟩,mE,wz⟩:=eT
  simp only [List.cons.injEq] at M3
  obtain ⟨rfl,rfl⟩:=M3
  have ux:=aM.j8 X h'
  have FX:∀ B∈D,B ∉ X:=fun B hB=>mE B (List.mem_cons_of_mem _ hB)
  have e1:=y1.bX ux (y1.alive (by simp))
  have e2:=y2.bX ux FX
  have q0:Holds h' (hc.size+0) (.row a.cells 34 false):=(Holds.mk (by rw [bm];simp) (by rw [iR];rfl):Holds (hc.lay [.row a.cells 34 false] hc.low) (hc.size+0) (.row a.cells 34 false)).bX fr (by
   intro hm
   rcases List.mem_cons.1 hm with e|hm
   ·have:=(Gn.2 _ (List.mem_cons_self)).2;omega
   ·have:=(Gn.2 _ (List.mem_cons_of_mem _ hm)).2;omega)
  have MV:aM (NM::D) hc h':=(aM.lay hc _ _ _).trans fr (fun B hB=>.inl hB)
  rw [ao h']
  have z:=z2
  simp only [syms,aa,seval,Dm,gP,gO,bl]
  with_reducible first|refine dH (by simp only [Dm]) (z.aw _ _ (by omega)) ?_
  simp only [syms,aa,seval,Dm,cZ,e1.lay,↓Jm,q0.lay,ec,↓eM,eh,dC,j9]
  refine zzp a h _ (z.aw _ _ (by omega)) D T1 b us (e2.lay _ _) (by omega) k8 kF _ (fun h5 cs D2 z5 ni yu fU cd xJ wt=>?_)
  have D0:=ni.size
  rw [bm] at D0
  refine yU (by kernel_rfl) z5.low (by rw [bm];exact D0) ?_
  have qf:aM D h' h5:=(aM.lay h' [] _ D).trans ni (fun B hB=>.inl hB)
  clear z
  have z:=z5
  rw [ao h5]
  simp only [syms,aa,seval,Dm]
  ((with_reducible refine ⟨z.cN.lay _ _,?_⟩);(intro _ h6 zz x _);(simp only [el,List.append_nil] at x))
  replace qf:=qf.over x
  replace xJ:=xJ.over x
  clear z
  have z:=zz
  rw [ao h6]
  simp only [syms,aa,seval,Dm,gP,gO,bl]
  have uY:aM D h' (h6.lay [] h6.low):=qf.trans (aM.lay _ _ _ []) (fun _ h=>nomatch h)
  have tH:∀ B∈D2,B∈D∨h'.size≤B:=fun B hB=>(wt B hB).imp id (fun e=>by rw [bm] at e;simpa using e)
  have hfh:=MV.size
  have wu:∀ B∈D2,B ∉ X:=fun B hB hx=>by
   rcases tH B hB with e|e
   ·exact FX B e hx
   ·have:=wz B hx;omega
  refine wQ he q9 _ cs (NM::D2) (z.aw _ _ (by omega)) (MV.trans uY (fun B hB=>.inl (List.mem_cons_of_mem _ hB))) (fun B hB=>?_) yu fU cd ⟨sA.turn y1 e3 e4 e5 e6 e7 e8 e9 ZQ ZR (uY.kill X) ((xJ.lay _ _).bX (aM.dead X _) wu) (fun B hB=>by rw [iG];exact tH B hB),fun B hB=>?_,fun B hB=>Nat.lt_of_lt_of_le (wz B hB) uY.size⟩
  ·rcases List.mem_cons.1 hB with rfl|hB
   ·exact .inl (by simp)
   ·exact (tH B hB).imp (List.mem_cons_of_mem _) (fun e=>by omega)
  ·rcases List.mem_cons.1 hB with rfl|hB
   ·exact mE _ (by simp)
   ·exact wu B hB
theorem sA.name {N b:Nat} {h:Heap} {S0:Nat} {E:List Nat} {d:au} {q:Int} {facts:ByteArray→List ab} {aA us:ByteArray→Nat} {nv:List (ByteArray × Value)} (g6:∀ who,dG nv who=none→facts who=[]∧aA who=0) (g7:∀ who x,dG nv who=some x→∃ s,x=.agg #[s,.int .u64 (aA who:Int)]∧Sl aJ.atom (aI E h) s (facts who)) (s:ByteArray):∃ sa sn sc,(dG nv s).getD (.agg #[.slice none 0 0,.int .u64 0])=.agg #[.slice sa sn sc,.int .u64 (aA s:Int)]∧Sl aJ.atom (aI E h) (.slice sa sn sc) (facts s):=by
 cases hl:dG nv s with
 |none =>
  obtain ⟨e1,e2⟩:=g6 s hl
  rw [e1,e2]
  exact ⟨_,_,_,rfl,.nil⟩
 |some x =>
  obtain ⟨v,rfl,f⟩:=g7 s x hl
  obtain ⟨sa,sn,sc,rfl⟩:=uI f
  exact ⟨sa,sn,sc,rfl,f⟩
theorem zvN (who:ByteArray) (d:au) (q:Int) (facts:ByteArray→List ab) (aA us:ByteArray→Nat) (h:Heap) (N b:Nat) (S0:Nat) (E:List Nat) (eL:sA N b h S0 E d q facts aA us) (iq:(facts who).length≤100000) (K:Value→Heap→Prop)
 (hk:∀ h' w A,Ext h h'→Ow aJ.atom h h' 34 A w (facts who)→K w h'):Ok Tryz.prog ae ov 35 [.pointer (some ⟨S0,0,none⟩),.string who] h K:=by
 obtain ⟨T0,D,NM,v0,v1,nv,rfl,g1,g2,g3,g4,g5,g6,g7,g8,g9,g10,g11⟩:=id eL
 obtain ⟨sa,sn,Jb,eC,rW⟩:=sA.name (N:=N) (b:=b) (S0:=S0) (d:=d) (q:=q) (us:=us) g6 g7 who
 have z:=Ext.refl h
 rw [ao h]
 refine Ok.aH rfl zDq (br Vx) rfl (m:=13) rfl ?_
 simp only [syms,aa,seval,ZN,zN,gh,g1.lay,VS,Er]
 refine Rt g3 zM EM Ik ?_
 simp only [eC,Bool.false_eq_true,if_false]
 simp only [syms,aa,seval,ZN,j9]
 have hA:Sl aJ.atom h (.slice sa sn Jb) (facts who):=rW.mono (rn _ _)
 refine zs8 (facts who) _ _ (hA.lay _ _) iq _ (fun h' w A x o=>?_)
 replace o:=o.down (h0:=h) (by rw [bm];omega)
 (replace z:=z.an x (by omega);rw [ao h'])
 have eR:=bY w
 simp only [syms,aa,seval,ZN,eR]
 exact hk _ _ _ (z.aw _ _ (by omega)) (o.lay _ _)
theorem zqC (who:ByteArray) (d:au) (q:Int) (facts:ByteArray→List ab) (aA us:ByteArray→Nat) (h:Heap) (N b:Nat) (S0:Nat) (E:List Nat) (eL:sA N b h S0 E d q facts aA us) (K:Value→Heap→Prop)
 (hk:∀ h',Ext h h'→K (.int .u64 (aA who:Int)) h'):Ok Tryz.prog ae ov 38 [.pointer (some ⟨S0,0,none⟩),.string who] h K:=by
 obtain ⟨T0,D,NM,v0,v1,nv,rfl,g1,g2,g3,g4,g5,g6,g7,g8,g9,g10,g11⟩:=id eL
 obtain ⟨sa,sn,Jb,eC,rW⟩:=sA.name (N:=N) (b:=b) (S0:=S0) (d:=d) (q:=q) (us:=us) g6 g7 who
 have z:=Ext.refl h
 rw [ao h]
 refine Ok.aH rfl zDt (br VA) rfl (m:=12) rfl ?_
 simp only [syms,aa,seval,Wk,zN,gh,g1.lay,VS,Er]
 refine Rt g3 zM EM Ik ?_
 simp only [eC,Bool.false_eq_true,if_false]
 simp only [syms,aa,seval,Wk,j9,bl]
 exact hk _ (z.aw _ _ (by omega))
section
variable {X:List Nat} {N b b2 k:Nat} {h h2:Heap} {S0:Nat} {E:List Nat} {d:au} {q:Int} {facts:ByteArray→List ab} {aA us:ByteArray→Nat} {s:ByteArray} {a:ab} {l:List ab} {cs:List ByteArray}
theorem gE.more (s:gE X N b h S0 E d q facts aA us) (hb:b≤b2):gE X N b2 h S0 E d q facts aA us:=by
 obtain ⟨⟨T0,D,NM,v0,v1,nv,e,g1,g2,g3⟩,s2⟩:=s
 exact ⟨⟨T0,D,NM,v0,v1,nv,e,g1,g2.le hb,g3⟩,s2⟩
theorem ef.down {N2 b T0:Nat} {D:List Nat} (t:ef N b h D T0 us) (hN:N2≤N):ef N2 b h D T0 us:=by
 obtain ⟨FI,FE,FM,free,aU,kv,e,⟨a1,a2,a3,lo,hi⟩,p⟩:=t
 exact ⟨FI,FE,FM,free,aU,kv,e,⟨a1,a2,a3,⟨by omega,by omega,by omega,by omega⟩,hi⟩,p⟩
theorem gE.down {N2:Nat} (s:gE X N b h S0 E d q facts aA us) (hN:N2≤N):gE X N2 b h S0 E d q facts aA us:=by
 obtain ⟨⟨T0,D,NM,v0,v1,nv,e,g1,g2,g3,g4,g5,g6,g7,g8,g9,g10,g11⟩,s2⟩:=s
 exact ⟨⟨T0,D,NM,v0,v1,nv,e,g1,g2.down hN,g3,g4,g5,g6,g7,g8,g9,by omega,by omega⟩,s2⟩
theorem gE.fresh (s:gE [] N b h S0 E d q facts aA us) (f:aM [] h h2) (hX:∀ B∈X,h.size≤B∧B < h2.size):gE X N b h2 S0 E d q facts aA us:=by
 have hl:=s.lt
 obtain ⟨⟨T0,D,NM,v0,v1,nv,rfl,g1,g2,g3,g4,g5,g6,g7,g8⟩,_⟩:=s
 have mE:∀ B∈NM::D,B ∉ X:=fun B hB hx=>by
  have h1:=(hl.2 B hB).2
  have h2:=(hX B hx).1
  omega
 have u:aM X h (aI X h2):=(f.mono (D':=X) (fun _ h=>nomatch h)).trans (aM.dead X h2) (fun B hB=>.inl hB)
 have hi:cn (aI (NM::D) h) (aI (NM::D) (aI X h2)):=by
  refine ⟨by rw [iG,iG,iG];exact f.size,fun B hB hd=>?_⟩
  rw [iG] at hB
  have hE:B ∉ NM::D:=fun hh=>hd (yT hh hB)
  have hx:B ∉ X:=fun hh=>by have:=(hX B hh).1;omega
  rw [oz hE,oz hE]
  exact u.get B hB hx
 exact ⟨⟨T0,D,NM,v0,v1,nv,rfl,g1.bX u (fun hx=>by have:=(hX _ hx).1;have:=hl.1;omega),g2.bX u (fun B hB=>mE B (List.mem_cons_of_mem _ hB)),g3.hold (fun b q=>q.bX u (mE _ (by simp))),g4.mono hi,g5.mono hi,g6,fun who x hx=>(g7 who x hx).imp fun s hs=>⟨hs.1,hs.2.mono hi⟩,g8⟩,mE,fun B hB=>(hX B hB).2⟩
theorem zlI:oD facts s (some l)=r7 facts s l:=rfl
theorem zlJ:pG aA s (some l)=gV aA s (aA s+1):=rfl
theorem zHl (h:∀ x,x∈cs↔xW a x) (t:ByteArray):ko us cs t=us t+(if rX a t then 1 else 0):=by
 unfold ko
 by_cases ht:rX a t=true
 ·rw [if_pos ht,if_pos ((h t).2 (kH.1 ht))]
 ·rw [if_neg ht,if_neg (fun hm=>ht (kH.2 ((h t).1 hm)))]
  rfl
theorem zIi (h:∀ x,x∈cs↔xW a x) (t:ByteArray):jB us cs t=us t - (if rX a t then 1 else 0):=by
 unfold jB
 by_cases ht:rX a t=true
 ·rw [if_pos ht,if_pos ((h t).2 (kH.1 ht))]
 ·rw [if_neg ht,if_neg (fun hm=>ht (kH.2 ((h t).1 hm)))]
  rfl
end
theorem zlj (d:au) (q:Int) (s:ByteArray) (a:ab) (facts:ByteArray→List ab) (aA us:ByteArray→Nat) (h hc:Heap) (z:Ext h hc) (N b k:Nat) (S0:Nat) (E:List Nat) (hN:N=h.size) (X:List Nat) (eL:gE X N b hc S0 E d q facts aA us) (inv:cQ d k facts aA us) (fU:d.ah.Nodup) (kR:d.ah.length≤16) (cF:bj 1 hc) (ha:a.aT=true) (hk:k≤700) (hb:b < 50000) (K:Value→Heap→Prop)
 (hK:∀ h' E2 lF,Ext h h'→aM E hc h'→(∀ B∈E2,B∈E∨hc.size≤B)→gE X N (b+4) h' S0 E2 d q (oD facts s (eD d q s a (facts s))) (pG aA s (eD d q s a (facts s))) lF→cQ d (k+1) (oD facts s (eD d q s a (facts s))) (pG aA s (eD d q s a (facts s))) lF→K (.tuple #[.bool (eD d q s a (facts s)).isSome,.int .i64 (iX d q s a (facts s))]) h'):Ok Tryz.prog ae ov 12 [.pointer (some ⟨S0,0,none⟩),.string s,a.val] hc K:=by
 have kF:∀ x,us x < 1000000000:=fun x=>by
  have h1:=inv.Ee x
  have h2:d.ah.length*k≤16*700:=Nat.mul_le_mul kR hk
  omega
 have hl:=inv.len s
 have hv:=inv.Ef s
 have stay:eD d q s a (facts s)=none→∀ h',Ext h h'→aM [] hc h'→K (.tuple #[.bool (eD d q s a (facts s)).isSome,.int .i64 (iX d q s a (facts s))]) h':=fun e h' z f=>by
  refine hK h' E us z (f.mono (fun _ h=>nomatch h)) (fun B hB=>.inl hB) ?_ ?_
  ·rw [e,y6,y7]
   exact (eL.bX f).more (by omega)
  ·rw [e,y6,y7]
   exact inv.more (by omega)
 refine zs0 d q s a facts aA us h hc z N b S0 E hN X eL cF (by omega) (by omega) (fun x hx=>inv.aT hx) ha (by omega) (inv.sort s) hb kF (fun he=>zp4 he) (by have:=Vb a (facts s);omega) K (fun he h' z f=>?_) (fun he hh h' z f=>?_) (fun he hh hq h' z f=>?_) (fun he hh hq h' cs E2 z f hE yu Gy cd eT=>?_)
 ·have e1:eD d q s a (facts s)=none:=if_neg he
  have e2:iX d q s a (facts s)=fo d s a:=if_neg he
  have:=stay e1 h' z f
  rw [e1,e2] at this
  exact this
 ·have e1:eD d q s a (facts s)=none:=by unfold eD;rw [if_pos he,if_pos hh]
  have e2:iX d q s a (facts s)=0:=by unfold iX;rw [if_pos he,if_pos hh]
  have:=stay e1 h' z f
  rw [e1,e2] at this
  exact this
 ·have e1:eD d q s a (facts s)=none:=by unfold eD;rw [if_pos he,if_neg (by rw [hh];decide),if_neg (by omega)]
  have e2:iX d q s a (facts s)=12:=by unfold iX;rw [if_pos he,if_neg (by rw [hh];decide),if_neg (by omega)]
  have:=stay e1 h' z f
  rw [e1,e2] at this
  exact this
 ·have e1:eD d q s a (facts s)=some (cA a (facts s)):=by unfold eD;rw [if_pos he,if_neg (by rw [hh];decide),if_pos hq]
  have e2:iX d q s a (facts s)=0:=by unfold iX;rw [if_pos he,if_neg (by rw [hh];decide),if_pos hq]
  have gz:=hK h' E2 (ko us cs) z f hE
  rw [e1,e2,zlI,zlJ] at gz
  exact gz eT (inv.adP fU he hh (zHl cd))
theorem zjM (d:au) (q:Int) (s:ByteArray) (a:ab) (facts:ByteArray→List ab) (aA us:ByteArray→Nat) (h hc:Heap) (z:Ext h hc) (N b k:Nat) (S0:Nat) (E:List Nat) (hN:N=h.size) (X:List Nat) (eL:gE X N b hc S0 E d q facts aA us) (inv:cQ d k facts aA us) (fU:d.ah.Nodup) (kR:d.ah.length≤16) (cF:bj 1 hc) (ha:a.aT=true) (hk:k≤700) (hb:b < 50000) (K:Value→Heap→Prop)
 (hK:∀ h' E2 lF,Ext h h'→aM E hc h'→(∀ B∈E2,B∈E∨hc.size≤B)→gE X N (b+4) h' S0 E2 d q (oD facts s (fF d s a (facts s))) (pG aA s (fF d s a (facts s))) lF→cQ d (k+1) (oD facts s (fF d s a (facts s))) (pG aA s (fF d s a (facts s))) lF→K (.tuple #[.bool (fF d s a (facts s)).isSome,.int .i64 (fo d s a)]) h'):Ok Tryz.prog ae ov 13 [.pointer (some ⟨S0,0,none⟩),.string s,a.val] hc K:=by
 have kF:∀ x,us x < 1000000000:=fun x=>by
  have h1:=inv.Ee x
  have h2:d.ah.length*k≤16*700:=Nat.mul_le_mul kR hk
  omega
 have hl:=inv.len s
 have hv:=inv.Ef s
 have stay:fF d s a (facts s)=none→∀ h',Ext h h'→aM [] hc h'→K (.tuple #[.bool (fF d s a (facts s)).isSome,.int .i64 (fo d s a)]) h':=fun e h' z f=>by
  refine hK h' E us z (f.mono (fun _ h=>nomatch h)) (fun B hB=>.inl hB) ?_ ?_
  ·rw [e,y6,y7]
   exact (eL.bX f).more (by omega)
  ·rw [e,y6,y7]
   exact inv.more (by omega)
 refine zqB d q s a facts aA us h hc z N b S0 E hN X eL cF (by omega) (by omega) (fun x hx=>inv.aT hx) ha (by omega) (inv.sort s) hb kF (fun he hh x hx=>inv.pos he hh (kH.2 hx)) K (fun he h' z f=>?_) (fun he hh h' z f=>?_) (fun he hh h' cs E2 z f hE yu Gy cd eT=>?_)
 ·have e1:fF d s a (facts s)=none:=if_neg he
  have:=stay e1 h' z f
  rw [e1] at this
  exact this
 ·have e1:fF d s a (facts s)=none:=by unfold fF;rw [if_pos he,if_neg (by rw [hh];decide)]
  have:=stay e1 h' z f
  rw [e1,he] at this
  exact this
 ·have e1:fF d s a (facts s)=some (eW a (facts s)):=by unfold fF;rw [if_pos he,if_pos hh]
  have gz:=hK h' E2 (jB us cs) z f hE
  rw [e1,he,zlI,zlJ] at gz
  exact gz (eT.more (by omega)) (inv.ZP fU he hh (zIi cd))
end Go.Proofs.YtkgojconmeeegaaGreatDoor

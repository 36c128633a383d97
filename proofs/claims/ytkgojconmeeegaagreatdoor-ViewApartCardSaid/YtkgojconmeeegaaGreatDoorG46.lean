/- Walks: versions held against each other; lists without anything in them. Written out by fill2.py. No condition. -/
import Derived.Test.YtkgojconmeeegaaGreatDoorG45
set_option linter.unusedSimpArgs false
set_option linter.unusedVariables false
set_option maxRecDepth 100000
set_option maxHeartbeats 0
namespace Go.Proofs.YtkgojconmeeegaaGreatDoor
open Go.Am
theorem Kq:ae.desc 46=some (.slice 55):=by kernel_rfl
theorem OV:bJ ae 55=some 1:=by kernel_rfl
theorem xB (a) (n c:Nat) (h:Heap):bc ae 44 (.slice a n c) h=some (.int .i64 n):=by kernel_rfl
theorem RT (l m:List Nat) (v u:Value) (A B:Nat) (t1 t2:TypeId) (h:Heap) (f:cJ 1 SM h t1 A v l) (g:cJ 1 SM h t2 B u m) (hs:l.length≤1000) (K:Value→Heap→Prop)
 (hk:∀ h',Ext h h'→K (.bool (decide (l=m))) h'):Ok Tryz.prog ae ov 16 [v,u] h K:=by
 obtain ⟨va,vn,vc,rfl⟩:=f.shape
 obtain ⟨ua,un,uc,rfl⟩:=g.shape
 have cz:=fun (hh:Heap)=>f.bc Kq hh
 have YC:=fun (hh:Heap)=>g.bc Kq hh
 rw [ao h]
 have z:=Ext.refl h
 refine Ok.aH rfl zDe (br Vl) rfl (m:=24) rfl ?_
 simp only [syms,aa,seval,uT,dP,cz,YC]
 refine iS (fun aP=>?_) (fun heq=>?_)
 ·rw [decide_eq_false (show ¬ l=m from fun e=>by subst e;exact aP rfl)] at hk
  simp only [syms,aa,seval,uT]
  exact hk _ (z.aw _ _ (by omega))
 have hlen:l.length=m.length:=by omega
 simp only [syms,aa,seval,uT]
 obtain ⟨I1,aS⟩:∃ I:Nat→Env→Heap→Prop,I=(fun n e h'=>∃ (i:Nat) (h1:Heap),h'=h1.lay [] h1.low∧Ext h h1∧(n=l.length - i∧i≤l.length∧l.take i=m.take i)∧∃ J:Nat→Value,e=(.slice va vn vc::.slice ua un uc::jr J 2 3 (.int .i64 i::jr J 6 20 ([])))):=⟨_,rfl⟩
 refine dj I1 _ (by rw [aS];exact ⟨0,_,rfl,z,⟨rfl,by omega,rfl⟩,aE (by kernel_rfl)⟩) ?_
 intro n e h' aL
 rw [aS] at aL
 obtain ⟨i,bH,rfl,z,hinv,J,rfl⟩:=aL
 obtain ⟨rfl,hi,kS⟩:=hinv
 have hw:=eb i (by omega)
 have f1:=cJ.uv f z.inc
 have g1:=cJ.uv g z.inc
 simp only [syms,aa,seval,uT,dP,cz]
 refine bt (fun aR=>?_) (fun aR=>?_)
 rotate_left
 ·rw [List.take_of_length_le (by omega),List.take_of_length_le (by omega)] at kS
  rw [decide_eq_true kS] at hk
  simp only [syms,aa,seval,uT]
  exact hk _ (z.aw _ _ (by omega))
 obtain ⟨r,hr⟩:∃ r,l[i]? = some r:=⟨_,List.getElem?_eq_getElem (by omega)⟩
 obtain ⟨s,jH⟩:∃ s,m[i]? = some s:=⟨_,List.getElem?_eq_getElem (by omega)⟩
 have i1:=f1.ix (kd:=.i64) (i:=i) Kq OV (by omega)
 have i2:=g1.ix (kd:=.i64) (i:=i) Kq OV (by omega)
 have c1:=f1.mw hr rfl
 have c2:=g1.mw jH rfl
 simp only [syms,aa,seval,uT]
 with_reducible first|refine dH (by simp only [uT]) (z.aw _ _ (by omega)) ?_
 simp only [syms,aa,seval,uT,dP,i1,i2,c1,c2,bl,cy]
 refine iS (fun aP=>?_) (fun he=>?_)
 ·have Oc:¬ r=s:=fun e=>aP (by rw [e])
  rw [decide_eq_false (show ¬ l=m from fun e=>by
   subst e
   rw [hr] at jH
   exact Oc (Option.some.inj jH))] at hk
  simp only [syms,aa,seval,uT]
  ((with_reducible refine ⟨z.cN.lay _ _,?_⟩);(intro _ h' zz x _);(simp only [el,List.append_nil] at x);(replace z:=zz);(clear zz);rw [ao h'])
  simp only [syms,aa,seval,uT]
  exact hk _ (z.aw _ _ (by omega))
 ·have q8:r=s:=by omega
  simp only [syms,aa,seval,uT]
  ((with_reducible refine ⟨z.cN.lay _ _,?_⟩);(intro _ h' zz x _);(simp only [el,List.append_nil] at x);(replace z:=zz);(clear zz);rw [ao h'])
  simp only [syms,aa,seval,uT]
  rw [hw]
  (rw [aS];with_reducible refine cB (m:=_) ?_ ⟨i+1,_,rfl,z,⟨rfl,by omega,by rw [List.take_add_one,List.take_add_one,hr,jH,kS,q8]⟩,aE (by kernel_rfl)⟩;omega)
theorem zln (a1 a2) (c1 c2:Nat) (h:Heap) (K:Value→Heap→Prop)
 (hk:∀ h',Ext h h'→K (.bool true) h'):Ok Tryz.prog ae ov 15 [.slice a1 0 c1,.slice a2 0 c2] h K:=by
 rw [ao h]
 have z:=Ext.refl h
 refine Ok.aH rfl zr2 (br Yo) rfl (m:=24) rfl ?_
 simp only [syms,aa,seval,yg,dP,xB]
 obtain ⟨I1,aS⟩:∃ I:Nat→Env→Heap→Prop,I=(fun n e h'=>∃ (i:Nat) (h1:Heap),h'=h1.lay [] h1.low∧Ext h h1∧(n=0∧i=0)∧∃ J:Nat→Value,e=(.slice a1 0 c1::.slice a2 0 c2::jr J 2 3 (.int .i64 i::jr J 6 20 ([])))):=⟨_,rfl⟩
 refine dj I1 _ (by rw [aS];exact ⟨0,_,rfl,z,⟨rfl,rfl⟩,aE (by kernel_rfl)⟩) ?_
 intro n e h' aL
 rw [aS] at aL
 obtain ⟨i,bH,rfl,z,hinv,J,rfl⟩:=aL
 obtain ⟨rfl,rfl⟩:=hinv
 simp only [syms,aa,seval,yg,dP,xB]
 exact hk _ (z.aw _ _ (by omega))
def Yn (h h':Heap) (w:Value) (l:List ab):Prop:=(∃ a c,w=.slice a l.length c)∧(l≠[]→∀ D:List Nat,(∀ B∈D,B < h.size)→Sl aJ.atom (aI D h') w l)
theorem dw.Wn {h h':Heap} {u:TypeId} {w:Value} {l:List ab} (f:dw h h' u w l):Yn h h' w l:=by
 rcases f with ⟨rfl,hs,he⟩|⟨A,t,rfl,e2,e3,e4⟩
 ·refine ⟨?_,fun hn=>absurd rfl hn⟩
  rcases he with rfl|⟨B,o,rfl⟩
  ·exact ⟨_,_,rfl⟩
  ·exact ⟨_,_,rfl⟩
 ·exact ⟨⟨_,_,rfl⟩,fun _ D hD=>dw.sl (h0:=h) (u:=u) (.inr ⟨A,t,rfl,e2.mU (fun hm=>by have:=hD A hm;omega),e3,e4⟩)⟩
def zk (n m:Int):Int:=if m < 1 then 0 else if n.tmod m < 0 then n.tmod m+m else n.tmod m
theorem zzM (n m:Int) (hm:1≤m):0≤zk n m∧zk n m < m:=by
 unfold zk
 rw [if_neg (by omega)]
 have h1:=Int.tmod_lt_of_pos n (show 0 < m by omega)
 have h2:=Int.lt_tmod_of_pos n (show 0 < m by omega)
 split <;> omega
theorem zvY (n m:Int) (h:Heap) (K:Value→Heap→Prop) (hm:m≤4611686018427387904) (hk:K (.int .i64 (zk n m)) h):Ok Tryz.prog ae ov 11 [.int .i64 n,.int .i64 m] h K:=by
 refine Ok.aH rfl zDa (br Vg) rfl (m:=15) rfl ?_
 simp only [syms,aa,seval,Io]
 refine bt (fun c=>?_) (fun c=>?_)
 ·simp only [syms,aa,seval,Io]
  have:zk n m=0:=by unfold zk;rw [if_pos c]
  rw [this] at hk
  exact hk
 have hb:=zzM n m (by omega)
 have hd:zk n m=if n.tmod m < 0 then n.tmod m+m else n.tmod m:=by unfold zk;rw [if_neg c]
 simp only [syms,aa,seval,Io]
 rw [zFj (by omega)]
 simp only [syms,aa,seval,Io]
 refine bt (fun c2=>?_) (fun c2=>?_)
 ·rw [if_pos c2] at hd
  rw [hd] at hk hb
  simp only [syms,aa,seval,Io]
  rw [wrap_i64 (by omega) (by omega)]
  exact hk
 ·rw [if_neg c2] at hd
  rw [hd] at hk
  simp only [syms,aa,seval,Io]
  exact hk
theorem Xs (k:Int):(zk k 2=0)↔k.tmod 2=0:=by
 unfold zk
 rw [if_neg (by omega)]
 have h1:=Int.tmod_lt_of_pos k (show (0:Int) < 2 by omega)
 have h2:=Int.lt_tmod_of_pos k (show (0:Int) < 2 by omega)
 split <;> omega
theorem Yv (c:fH):c.cells[0]? = some (.int .i64 c.k):=rfl
theorem E9 (c:fH):c.cells[1]? = some (.string c.s):=rfl
theorem zni (c:fH):(Value.agg ⟨c.cells⟩).cells.toList=c.cells:=rfl
theorem aM.ML {X:List Nat} {h h2:Heap} (f:aM X h h2):aM [] (aI X h) (aI X h2):=by
 refine ⟨by rw [iG,iG];exact f.size,fun B hB _=>?_⟩
 rw [iG] at hB
 by_cases hx:B∈X
 ·rw [yT hx hB,yT hx (Nat.lt_of_lt_of_le hB f.size)]
 ·rw [oz hx,oz hx]
  exact f.get B hB hx
theorem gE.other {X:List Nat} {N b:Nat} {h h2:Heap} {S0:Nat} {E:List Nat} {d:au} {q:Int} {facts:ByteArray→List ab} {aA us:ByteArray→Nat} (s:gE X N b h S0 E d q facts aA us) (f:aM X h h2):gE X N b h2 S0 E d q facts aA us:=⟨s.1.bX (aM.ML f),s.2.1,fun B hB=>Nat.lt_of_lt_of_le (s.2.2 B hB) f.size⟩
theorem zgp (l:List fH) (v:Value) (h:Heap) (hl:Sl aJ.act h v l) (K:Value→Heap→Prop)
 (qh:l.length≤40→(∀ c∈l,c.s.size≤300∧c.a.aT=true)→∀ h',Ext h h'→K (.bool true) h') (jU:∀ h',Ext h h'→K (.bool false) h'):Ok Tryz.prog ae ov 7 [v] h K:=by
 rw [ao h]
 have z:=Ext.refl h
 have ej:=bY v
 have cz:=fun (hh:Heap)=>hl.bc mz hh
 refine Ok.aH rfl zGU (br N7) rfl (m:=28) rfl ?_
 simp only [syms,aa,seval,c7]
 obtain ⟨I1,aS⟩:∃ I:Nat→Env→Heap→Prop,I=(fun n e h'=>∃ (i:Nat) (h1:Heap),h'=h1.lay [] h1.low∧Ext h h1∧(n=l.length - i∧i≤l.length∧(∀ c∈l.take i,c.s.size≤300∧c.a.aT=true))∧∃ J:Nat→Value,e=(v::jr J 1 2 (.int .i64 i::jr J 4 25 ([])))):=⟨_,rfl⟩
 refine dj I1 _ (by rw [aS];exact ⟨0,_,rfl,z,⟨rfl,by omega,by simp⟩,aE (by kernel_rfl)⟩) ?_
 intro n e h' aL
 rw [aS] at aL
 obtain ⟨i,bH,rfl,z,hinv,J,rfl⟩:=aL
 obtain ⟨rfl,hi,aB⟩:=hinv
 have hle:=hl.le
 simp only [syms,aa,seval,c7,ej,cz]
 refine bt (fun aR=>?_) (fun kQ=>?_)
 ·obtain ⟨r,hr,bz⟩:=eU (l:=l) (i:=i) (by omega)
  have gl:IntKind.i64.wrap ((i:Int)+1)=((i+1:Nat):Int):=by unfold maxLen at hle;rw [wrap_i64 (by omega) (by omega)];omega
  simp only [syms,aa,seval,c7,ej]
  repeat' ((first|((with_reducible apply bt) <;> intro _)|with_reducible_and_instances refine Kt (hl.mono z.inc) mz qN (by omega) hr (fun p hp=>?_)|with_reducible_and_instances refine St hp ED (fun qq hq=>?_)|with_reducible_and_instances refine hY hq kc ?_|with_reducible_and_instances refine Su hp EE (fun qq hq=>?_)|with_reducible_and_instances refine mW hq fx bO ?_|((with_reducible_and_instances refine Xr _ _ _ (fun DL h' x=>?_) (fun DL h' x=>?_)) <;> (replace z:=z.an x (by omega);rw [ao h']))|((with_reducible_and_instances apply b8);(· rfl))) <;> simp only [syms,aa,seval,c7,ej])
  all_goals first
   |exact jU _ (z.aw _ _ (by omega))
   |(rw [gl]
     (rw [aS];with_reducible refine cB (m:=_) ?_ ⟨i+1,_,rfl,z,⟨rfl,by omega,oC (i:=i) (P:=fun c:fH=>c.s.size≤300∧c.a.aT=true) bz aB ⟨by omega,DL⟩⟩,aE (by kernel_rfl)⟩;omega))
 ·rw [List.take_of_length_le (by omega)] at aB
  simp only [syms,aa,seval,c7,ej,cz]
  refine bt (fun hle=>?_) (fun tQ=>?_)
  ·simp only [syms,aa,seval,c7]
   exact qh (by omega) aB _ (z.aw _ _ (by omega))
  ·simp only [syms,aa,seval,c7]
   exact jU _ (z.aw _ _ (by omega))
theorem fC.down {N N2 S2 NB k:Nat} {h:Heap} {d:au} (f:fC N h S2 NB d k) (hN:N2≤N):fC N2 h S2 NB d k:=by
 obtain ⟨p0,p1,p2,p5,p6,q,b,nv,rows,e1,e2,e3,e4,e5,e6,e7,e8,e9⟩:=f
 exact ⟨p0,p1,p2,p5,p6,q,b,nv,rows,e1,e2,e3,e4,e5,e6,by omega,by omega,e9⟩
theorem fC.nb {N S2 NB k:Nat} {h:Heap} {d:au} (f:fC N h S2 NB d k):N≤NB∧NB < h.size:=by
 obtain ⟨p0,p1,p2,p5,p6,q,b,nv,rows,e1,e2,e3,e4,e5,e6,e7,e8,e9⟩:=f
 exact ⟨e8,e9⟩
theorem zGw (d:au) (l:List fH) (p0 p1 p2 p5 p6 lv:Value) (q b:Int) (h:Heap) (cF:bj 1 h) (hd:dD h p0 p1 p2 p5 p6 d) (hq:d.dB=q) (hb:d.cG=b) (Ba:zn d) (pe:d.ah.length≤70) (IV:d.bG.length≤70) (wI:d.aF.length≤70) (hl:Sl aJ.act h lv l) (Gt:l.length≤40) (aR:∀ c∈l,c.s.size≤300∧c.a.aT=true) (K:Value→Heap→Prop)
 (qh:∀ h',Ext h h'→K (.tuple #[.pointer none,.pointer none,.bool false]) h')
 (jU:lY d=0→∀ h' S0 S2 E facts aA us,Ext h h'→gE [] h.size (4*l.length) h' S0 E d q facts aA us→cQ d l.length facts aA us→K (.tuple #[.pointer (some ⟨S0,0,none⟩),.pointer (some ⟨S2,0,none⟩),.bool true]) h'):Ok Tryz.prog ae ov 8 [gi p0 p1 p2 p5 p6 q b,lv] h K:=by
 have bf:=hd.one q b
 rw [ao h]
 have z:=Ext.refl h
 have pg:=bY lv
 have DM:=fun (hh:Heap)=>hl.bc mz hh
 refine Ok.aH rfl zGV (br N8) rfl (m:=89) rfl ?_
 simp only [syms,aa,seval,c8,ek,↓fm,eX,eG]
 refine zGz d _ _ _ _ _ q b _ (cF.lay _ _) bf (hd.lay _ _) hq hb Ba (by omega) (by omega) [] (fun _ h=>nomatch h) _ (fun aP h' x=>?_) (fun heq h' S0 E0 x eL=>?_)
 ·have qP:=Holds.top (i:=0) x rfl
  (replace z:=z.an x (by omega);rw [ao h'])
  simp only [syms,aa,seval,c8,bl,qP.lay,↓fm,eX,eG]
  refine vM d _ _ _ _ _ q b _ bf ((hd.mono z.inc).lay _ _) wI pe [] (fun _ h=>nomatch h) ((hd.mono z.inc).lay _ _) _ (fun c h' _ x=>?_) (fun h' S2 NB x _=>?_)
  all_goals
   (replace z:=z.an x (by omega);(replace qP:=qP.over x);rw [ao h'])
   simp only [syms,aa,seval,c8,bl,cy]
   refine iS (fun _=>?_) (fun he=>absurd he aP)
   simp only [syms,aa,seval,c8]
   exact qh _ (z.aw _ _ (by omega))
 have qP:=Holds.top (i:=0) x rfl
 replace eL:=eL.down (N2:=h.size) (by rw [bm];omega)
 have ON:=cQ.empty d
 obtain ⟨fU,kR⟩:=WN heq
 (replace z:=z.an x (by omega);rw [ao h'])
 have nI:=eL.lt.2
 simp only [syms,aa,seval,c8,cy,bl,qP.lay,↓fm,eX,eG]
 refine vM d _ _ _ _ _ q b _ bf ((hd.mono z.inc).lay _ _) wI pe E0 (fun B hB=>by rw [bm];have:=(nI B hB).2;omega) (hd.mono (zn3 (z.inc.trans (cn.lay _ _ _)) (fun B hB=>(nI B hB).1))) _ (fun c h' hc x=>?_) (fun hT S2 NB x sd=>?_)
 ·(replace z:=z.an x (by omega);( replace qP:=qP.over x );( replace eL:=eL.over x );rw [ao h'])
  simp only [syms,aa,seval,c8,bl]
  refine iS (fun _=>?_) (fun he=>absurd he hc)
  simp only [syms,aa,seval,c8]
  exact qh _ (z.aw _ _ (by omega))
 have XS:=sd.nb
 rw [iG] at XS
 replace eL:=(eL.lay _ _).fresh (X:=[NB]) (x.bX []) (fun B hB=>by rw [List.mem_singleton.1 hB];exact XS)
 replace sd:=sd.down (N2:=h.size) (by rw [bm];have:=z.size;omega)
 replace z:=z.an x (by omega)
 have hzT:=z.size
 rw [ao hT]
 simp only [syms,aa,seval,c8,cy,bl]
 obtain ⟨I1,aS⟩:∃ I:Nat→Env→Heap→Prop,I=(fun n e h'=>∃ (i:Nat) (E:List Nat) (facts:ByteArray→List ab) (aA us:ByteArray→Nat) (h1:Heap),h'=h1.lay [] h1.low∧Ext h h1∧(n=l.length - i∧i≤l.length∧gE [NB] h.size (4*i) h1 S0 E d q facts aA us∧fC h.size (aI E h1) S2 NB d i∧cQ d i facts aA us)∧∃ J:Nat→Value,e=(J 0::lv::jr J 2 5 (.pointer (some ⟨S0,0,none⟩)::J 8::.pointer (some ⟨S2,0,none⟩)::J 10::.int .i64 i::jr J 12 79 ([])))):=⟨_,rfl⟩
 refine dj I1 _ (by rw [aS];exact ⟨0,E0,_,_,_,_,rfl,z,⟨rfl,by omega,eL,sd,ON⟩,aE (by kernel_rfl)⟩) ?_
 intro n e h' aL
 rw [aS] at aL
 obtain ⟨i,E,facts,aA,us,bH,rfl,z,hinv,J,rfl⟩:=aL
 clear eL sd ON
 obtain ⟨rfl,hi,eL,sd,inv⟩:=hinv
 have gl:=eb i (by omega)
 have hz:=z.size
 simp only [syms,aa,seval,c8,pg,DM]
 refine bt (fun NY=>?_) (fun kQ=>?_)
 rotate_left
 ·have iK:i=l.length:=by omega
  subst iK
  simp only [syms,aa,seval,c8,cy]
  exact jU heq _ S0 S2 E _ _ us (z.aw _ _ (by omega)) ((eL.lay _ _).by (aM.refl _ _)) inv
 obtain ⟨r,hr,bz⟩:=eU (l:=l) (i:=i) (by omega)
 have kD:=(aR r (List.mem_of_getElem? bz)).2
 have iq:=inv.len r.s
 have ph:=inv.Ef r.s
 have hNE:∀ B∈E,B≠NB:=fun B hB e=>eL.2.1 B hB (by simp [e])
 repeat' (first|simp only [syms,aa,seval,c8,pg,cZ,cy,bl]|with_reducible_and_instances refine Kt (hl.mono z.inc) mz qN (by omega) hr (fun p hp=>?_)|with_reducible_and_instances refine zHL hp U1 (fun qq hq=>?_)|with_reducible_and_instances refine hY hq L5 ?_)
 refine zvY r.k 2 _ _ (by decide) ?_
 simp only [syms,aa,seval,c8,bl]
 refine bt (fun hp=>?_) (fun hp=>?_)
 focus
  have oc:rZ d q r (facts r.s)=eD d q r.s r.a (facts r.s):=if_pos ((Xs r.k).1 hp)
  simp only [syms,aa,seval,c8]
  with_reducible first|refine dH (by simp only [c8]) (z.aw _ _ (by omega)) ?_
  repeat' (first|simp only [syms,aa,seval,c8,pg,cZ,cy,bl]|with_reducible_and_instances refine Kt (hl.mono z.inc) mz qN (by omega) hr (fun p hp=>?_)|with_reducible_and_instances refine St hp ED (fun qq hq=>?_)|with_reducible_and_instances refine Su hp EE (fun qq hq=>?_)|with_reducible_and_instances refine hY hq kc ?_|with_reducible_and_instances refine mW hq fx bO ?_)
  refine zlj d q r.s r.a facts aA us h _ (z.aw _ _ (by omega)) h.size (4*i) i S0 E rfl [NB] (eL.lay _ _) inv fU kR ((cF.ext z).lay _ _) kD (by omega) (by omega) _ (fun h3 E2 lF z2 f2 wx eT inv2=>?_)
  have lC:=f2.size
  rw [bm] at lC
  refine yU (by kernel_rfl) z2.low (by rw [bm];exact lC) ?_
  have Ct:=sd.beside (E2:=E2) ((aM.lay bH [] _ E).trans f2 (fun B hB=>.inl hB)) (fun B hB=>(wx B hB).imp id (fun e=>by rw [bm] at e;omega))
  have ln:=z2.size
  clear z eL sd
  have z:=z2
  rw [ao h3]
  simp only [syms,aa,seval,c8]
  ((with_reducible refine ⟨z.cN.lay _ _,?_⟩);(intro _ h6 zz x _);(simp only [el,List.append_nil] at x))
  replace eT:=eT.over x
  replace Ct:=Ct.dq ((aM.refl [] h3).over x)
  clear z
  have z:=zz
  rw [ao h6]
  simp only [syms,aa,seval,c8]
  with_reducible first|refine dH (by simp only [c8]) (z.aw _ _ (by omega)) ?_
  simp only [syms,aa,seval,c8,pg,cZ,cy,bl]
  repeat' ((first|with_reducible_and_instances refine Kt (hl.mono z.inc) mz qN (by omega) hr (fun p hp=>?_)|with_reducible_and_instances refine St hp ED (fun qq hq=>?_)|with_reducible_and_instances refine Su hp EE (fun qq hq=>?_)|with_reducible_and_instances refine hY hq kc ?_|with_reducible_and_instances refine mW hq fx bO ?_) <;> simp only [syms,aa,seval,c8,pg,cZ,cy,bl])
  have FY:=eT.lt.2
  have AY:NB ∉ E2:=fun hm=>eT.2.1 NB hm (by simp)
  refine HD d i r.s r.a h _ (z.aw _ _ (by omega)) h.size S2 NB rfl E2 (fun B hB=>by rw [bm];have:=(FY B hB).2;omega) (Ct.dq (aM.lay _ _ _ _)) AY (by omega) kD _ (fun h7 bb ee z7 f7 Cu=>?_)
  have IY:=f7.size
  rw [bm] at IY
  refine yU (by kernel_rfl) z7.low (by rw [bm];exact IY) ?_
  have Cy:=eT.other ((aM.lay h6 [] _ [NB]).trans f7 (fun B hB=>.inl hB))
  clear z eT Ct
  have z:=z7
  rw [ao h7]
  simp only [syms,aa,seval,c8]
  ((with_reducible refine ⟨z.cN.lay _ _,?_⟩);(intro _ h8 zz x _);(simp only [el,List.append_nil] at x))
  replace Cy:=Cy.over x
  replace Cu:=Cu.dq ((aM.refl [] h7).over x)
  rw [← oc] at Cy inv2
  clear z
  have z:=zz
  rw [ao h8]
  simp only [syms,aa,seval,c8]
  rw [gl]
  (rw [aS];with_reducible refine cB (m:=_) ?_ ⟨i+1,E2,_,_,lF,_,rfl,z,⟨rfl,by omega,Cy,Cu,inv2⟩,aE (by kernel_rfl)⟩;omega)
 focus
  have oc:rZ d q r (facts r.s)=fF d r.s r.a (facts r.s):=if_neg (fun e=>hp ((Xs r.k).2 e))
  simp only [syms,aa,seval,c8]
  with_reducible first|refine dH (by simp only [c8]) (z.aw _ _ (by omega)) ?_
  repeat' (first|simp only [syms,aa,seval,c8,pg,cZ,cy,bl]|with_reducible_and_instances refine Kt (hl.mono z.inc) mz qN (by omega) hr (fun p hp=>?_)|with_reducible_and_instances refine St hp ED (fun qq hq=>?_)|with_reducible_and_instances refine Su hp EE (fun qq hq=>?_)|with_reducible_and_instances refine hY hq kc ?_|with_reducible_and_instances refine mW hq fx bO ?_)
  refine zjM d q r.s r.a facts aA us h _ (z.aw _ _ (by omega)) h.size (4*i) i S0 E rfl [NB] (eL.lay _ _) inv fU kR ((cF.ext z).lay _ _) kD (by omega) (by omega) _ (fun h3 E2 lF z2 f2 wx eT inv2=>?_)
  have lC:=f2.size
  rw [bm] at lC
  refine yU (by kernel_rfl) z2.low (by rw [bm];exact lC) ?_
  have Ct:=sd.beside (E2:=E2) ((aM.lay bH [] _ E).trans f2 (fun B hB=>.inl hB)) (fun B hB=>(wx B hB).imp id (fun e=>by rw [bm] at e;omega))
  have ln:=z2.size
  clear z eL sd
  have z:=z2
  rw [ao h3]
  simp only [syms,aa,seval,c8]
  ((with_reducible refine ⟨z.cN.lay _ _,?_⟩);(intro _ h6 zz x _);(simp only [el,List.append_nil] at x))
  replace eT:=eT.over x
  replace Ct:=Ct.dq ((aM.refl [] h3).over x)
  clear z
  have z:=zz
  rw [ao h6]
  simp only [syms,aa,seval,c8]
  with_reducible first|refine dH (by simp only [c8]) (z.aw _ _ (by omega)) ?_
  simp only [syms,aa,seval,c8,pg,cZ,cy,bl]
  repeat' ((first|with_reducible_and_instances refine Kt (hl.mono z.inc) mz qN (by omega) hr (fun p hp=>?_)|with_reducible_and_instances refine St hp ED (fun qq hq=>?_)|with_reducible_and_instances refine Su hp EE (fun qq hq=>?_)|with_reducible_and_instances refine hY hq kc ?_|with_reducible_and_instances refine mW hq fx bO ?_) <;> simp only [syms,aa,seval,c8,pg,cZ,cy,bl])
  have FY:=eT.lt.2
  have AY:NB ∉ E2:=fun hm=>eT.2.1 NB hm (by simp)
  refine zd6 d i r.s r.a h _ (z.aw _ _ (by omega)) h.size S2 NB rfl E2 (fun B hB=>by rw [bm];have:=(FY B hB).2;omega) (Ct.dq (aM.lay _ _ _ _)) AY (by omega) kD _ (fun h7 bb ee z7 f7 Cu=>?_)
  have IY:=f7.size
  rw [bm] at IY
  refine yU (by kernel_rfl) z7.low (by rw [bm];exact IY) ?_
  have Cy:=eT.other ((aM.lay h6 [] _ [NB]).trans f7 (fun B hB=>.inl hB))
  clear z eT Ct
  have z:=z7
  rw [ao h7]
  simp only [syms,aa,seval,c8]
  ((with_reducible refine ⟨z.cN.lay _ _,?_⟩);(intro _ h8 zz x _);(simp only [el,List.append_nil] at x))
  replace Cy:=Cy.over x
  replace Cu:=Cu.dq ((aM.refl [] h7).over x)
  rw [← oc] at Cy inv2
  clear z
  have z:=zz
  rw [ao h8]
  simp only [syms,aa,seval,c8]
  rw [gl]
  (rw [aS];with_reducible refine cB (m:=_) ?_ ⟨i+1,E2,_,_,lF,_,rfl,z,⟨rfl,by omega,Cy,Cu,inv2⟩,aE (by kernel_rfl)⟩;omega)
end Go.Proofs.YtkgojconmeeegaaGreatDoor

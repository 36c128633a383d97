/- The code of some functions, node by node, for simp. Written by a program (mkcode.py). No condition. -/
import Derived.Test.YtkgojconmeeegaaGreatDoorG44
set_option linter.unusedSimpArgs false
set_option linter.unusedVariables false
set_option maxRecDepth 100000
set_option maxHeartbeats 0
namespace Go.Proofs.YtkgojconmeeegaaGreatDoor
open Go.Am
noncomputable def KE:=bA Tryz.f105
noncomputable def PD:=PLift.up (by have c:=bB KE Tryz.f105;simp only [aK,Tryz.f105,seval] at c;exact nd c <| nd @tB <| nd @j6 <| nd @ct <| nd @iu <| @zLV)
theorem cT:type_of% PD.down:=PD.down
noncomputable def VQ:=bA Tryz.f62
noncomputable def lE:=PLift.up (by have c:=bB VQ Tryz.f62;simp only [aK,Tryz.f62,seval] at c;exact nd c <| nd @tB <| nd @ct <| @aaQ)
theorem Fw:type_of% lE.down:=lE.down
noncomputable def KF:=bA Tryz.f106
noncomputable def PE:=PLift.up (by have c:=bB KF Tryz.f106;simp only [aK,Tryz.f106,seval] at c;exact nd c <| nd @tB <| nd @j6 <| nd @ct <| nd @iu <| @zLW)
theorem lJ:type_of% PE.down:=PE.down
noncomputable def VV:=bA Tryz.f63
noncomputable def qE:=PLift.up (by have c:=bB VV Tryz.f63;simp only [aK,Tryz.f63,seval] at c;exact nd c <| nd @tB <| nd @ct <| @aaR)
theorem Iv:type_of% qE.down:=qE.down
theorem R4 (l:List ab) (a:ab) (v:Value) (h:Heap) (hl:Sl aJ.atom h v l) (hn:l.length≤100000) (aR:∀ x∈l,x.aT=true) (ha:a.aT=true) (K:Value→Heap→Prop)
 (hk:∀ h',Ext h h'→K (.bool (bC l a)) h'):Ok Tryz.prog ae ov 61 [v,a.val] h K:=by
 rw [ao h]
 have z:=Ext.refl h
 have bx:=bY v
 have iq:=fun (hh:Heap)=>hl.bc bL hh
 refine Ok.aH rfl zDK (br VP) rfl (m:=17) rfl ?_
 simp only [syms,aa,seval,yh,ec,bx]
 refine ml (fun h' x hq=>?_)
 have q0:=hq 0 _ rfl
 clear hq
 (replace z:=z.an x (by omega);rw [ao h'])
 obtain ⟨I1,aS⟩:∃ I:Nat→Env→Heap→Prop,I=(fun n e h'=>∃ (i:Nat) (h1:Heap),h'=h1.lay [] h1.low∧Ext h h1∧(n=l.length - i∧i≤l.length∧(∀ x∈l.take i,¬ cI x=cI a)∧Holds h1 (h.size+0) (.row a.cells 34 false))∧∃ J:Nat→Value,e=(v::jr J 1 2 (.pointer (some ⟨h.size+0,0,none⟩)::J 4::.int .i64 i::jr J 6 13 ([])))):=⟨_,rfl⟩
 refine dj I1 _ (by rw [aS];exact ⟨0,_,rfl,z,⟨rfl,by omega,by simp,q0⟩,aE (by kernel_rfl)⟩) ?_
 intro n e h' aL
 rw [aS] at aL
 obtain ⟨i,bH,rfl,z,hinv,J,rfl⟩:=aL
 clear q0
 obtain ⟨rfl,hi,lR,q0⟩:=hinv
 have gl:=eb i (by omega)
 simp only [syms,aa,seval,yh,bx,iq]
 refine bt (fun i6=>?_) (fun i6=>?_)
 rotate_left
 ·rw [List.take_of_length_le (by omega)] at lR
  have e:bC l a=false:=by
   cases e:bC l a
   ·rfl
   ·obtain ⟨x,hx,e2⟩:=cR.1 e
    exact absurd e2 (lR x hx)
  rw [e] at hk
  repeat' (simp only [syms,aa,seval,yh,bx])
  exact hk _ (z.aw _ _ (by omega))
 have hr:l[(i:Int).toNat]? = some (l.getD i aj):=jn (by omega)
 have cd:l.getD i aj∈l:=List.mem_of_getElem? hr
 simp only [syms,aa,seval,yh,bx]
 with_reducible first|refine dH (by simp only [yh]) (z.aw _ _ (by omega)) ?_
 simp only [syms,aa,seval,yh,bx]
 repeat' ((first|with_reducible_and_instances refine pT (hl.mono z.inc) bL bO (by omega) hr (fun p hp=>?_)|with_reducible_and_instances refine mW hp fx bO ?_) <;> simp only [syms,aa,seval,yh,bx,q0.lay,ec,↓eM,eh,dC])
 refine zvJ _ a (aR _ cd) ha _ _ (fun h' x=>?_)
 (((with_reducible refine dv ?_ ?_ ?_);(· exact (by (simp only [dx]);have:=z.size;omega));(· exact x));replace z:=z.an x (by omega);(replace q0:=q0.over x);rw [ao h'])
 simp only [syms,aa,seval,yh]
 refine nX (fun hc=>?_) (fun hc=>?_)
 ·have e:bC l a=true:=cR.2 ⟨_,cd,bT.1 hc⟩
  rw [e] at hk
  repeat' (first|simp only [syms,aa,seval,yh]|((with_reducible refine ⟨z.cN.lay _ _,?_⟩);(intro _ h' zz x _);(simp only [el,List.append_nil] at x);(replace q0:=q0.over x);(replace z:=zz);(clear zz);rw [ao h']))
  exact hk _ (z.aw _ _ (by omega))
 ·have pK:¬ cI (l.getD i aj)=cI a:=fun e=>absurd (bT.2 e) hc
  have GA:=oC (i:=i) (P:=fun x:ab=>¬ cI x=cI a) (jn (l:=l) (i:=i) (by omega)) lR pK
  repeat' (first|simp only [syms,aa,seval,yh]|((with_reducible refine ⟨z.cN.lay _ _,?_⟩);(intro _ h' zz x _);(simp only [el,List.append_nil] at x);(replace q0:=q0.over x);(replace z:=zz);(clear zz);rw [ao h']))
  rw [gl]
  (rw [aS];with_reducible refine cB (m:=_) ?_ ⟨i+1,_,rfl,z,⟨rfl,by omega,GA,q0⟩,aE (by kernel_rfl)⟩;omega)
theorem RH {a b d:Heap} {A:Nat} (i:cn a b) (c:fp A b d) (hA:a.size≤A):cn a d:=⟨Nat.le_trans i.size c.size,fun B hB hd=>(c.get B (Nat.lt_of_lt_of_le hB i.size) (by omega)).trans (i.get B hB hd)⟩
theorem zGc {n:Nat} (h:2≤n):n / 2 < n∧0 < n / 2∧n - n / 2 < n:=by omega
theorem Rv:∀ (k:Nat) (l:List ab) (v:Value) (h:Heap),l.length≤k→Sl aJ.atom h v l→l.length≤100000→(∀ x∈l,x.aT=true)→∀ (K:Value→Heap→Prop),
 (∀ h' w,Ext h h'→km h h' 34 w (eg l)→K w h')→Ok Tryz.prog ae ov 105 [v] h K
 |k,l,v,h,kB,hl,hn,aR,K,hk=>by
  rw [ao h]
  have z:=Ext.refl h
  have bx:=bY v
  have iq:=fun (hh:Heap)=>hl.bc bL hh
  refine Ok.aH rfl zwN (br KE) rfl (m:=68) rfl ?_
  simp only [syms,aa,seval,cT,bx,iq]
  refine bt (fun i7=>?_) (fun i7=>?_)
  ·repeat' ( simp only [syms,aa,seval,cT,bx])
   simp only [syms,aa,seval,cT,lG,vL]
   obtain ⟨news,hs,mR⟩:=tk (A:=h.size+1) (r:=aJ.atom) (by decide) (hl.lay [.row [] 34 false] h.low) (fun cs y hr=>hr)
   have f:Ow aJ.atom h (h.lay [.row [] 34 false] h.low) 34 (h.size+1) (.slice (some ⟨h.size+0,0,none⟩) 0 0) [] :=
    .inl ⟨by omega,rfl,.inr ⟨h.size+0,0,rfl,by omega,by rw [bm];simp,[],34,false,by rw [iR];rfl⟩⟩
   obtain ⟨w,h',A',e1,e2,e3,e4,e5⟩:=zb (t:=44) bL se rfl (by decide) (by rw [bm];omega) f hs mR (by simp only [List.length_nil];omega) (by simp only [List.length_nil];omega)
   rw [e1]
   have eR:=bY w
   replace z:=(Ext.refl h).cM e3 (by omega) (by omega)
   rw [ao h']
   repeat' (simp only [syms,aa,seval,cT,eR])
   rw [zwy (by omega)] at hk
   exact hk _ _ (z.aw _ _ (by omega)) (Xe ((by simpa using e2:Ow aJ.atom h h' 34 A' w l).mono (cn.lay _ _ _)))
  match k,kB with
  |0,kB=>exact absurd kB (by omega)
  |k+1,kB =>
   have hq:IntKind.i64.wrap (((l.length:Nat):Int).tdiv 2)=((l.length / 2:Nat):Int):=by
    rw [Int.tdiv_eq_ediv_of_nonneg (by omega),wrap_i64 (by omega) (by omega)]
    omega
   obtain ⟨g1,g2,g3⟩:=zGc (n:=l.length) (by omega)
   simp only [syms,aa,seval,cT,bx,iq]
   rw [zuw (by decide),hq]
   repeat' (simp only [syms,aa,seval,cT,bx])
   with_reducible first|refine dH (by simp only [cT]) (z.aw _ _ (by omega)) ?_
   simp only [syms,aa,seval,cT,bx]
   repeat' ((with_reducible_and_instances refine zGY (hl.mono z.inc) (by decide) bL bO (show l.length / 2≤l.length by omega) (fun v1 kg=>?_)) <;> simp only [syms,aa,seval,cT,bx])
   have tl1:(l.take (l.length / 2)).length=l.length / 2:=by rw [List.length_take];omega
   have tl2:(l.drop (l.length / 2)).length=l.length - l.length / 2:=by rw [List.length_drop]
   have YX:∀ x∈l.take (l.length / 2),x.aT=true:=fun x hx=>aR x (List.mem_of_mem_take hx)
   have YY:∀ x∈l.drop (l.length / 2),x.aT=true:=fun x hx=>aR x (List.mem_of_mem_drop hx)
   refine Rv k (l.take (l.length / 2)) v1 _ (by omega) (kg.lay _ _) (by omega) YX _ (fun h' w1 x o1=>?_)
   replace o1:=(o1.own (by have:=CC (l.take (l.length / 2));omega)).sl
   (((with_reducible refine dv ?_ ?_ ?_);(· exact (by (simp only [dx]);have:=z.size;omega));(· exact x));replace z:=z.an x (by omega);rw [ao h'])
   have GV:=bY w1
   simp only [syms,aa,seval,cT,bx,GV]
   repeat' ((with_reducible_and_instances refine zvg (hl.mono z.inc) (by decide) bL bO (show l.length / 2≤l.length by omega) (fun v2 jI=>?_)) <;> simp only [syms,aa,seval,cT,bx,GV])
   refine Rv k (l.drop (l.length / 2)) v2 _ (by omega) ((by assumption:Sl aJ.atom _ v2 _).lay _ _) (by omega) YY _ (fun h' w2 x o2=>?_)
   replace o2:=(o2.own (by have:=CC (l.drop (l.length / 2));omega)).sl
   (((with_reducible refine dv ?_ ?_ ?_);(· exact (by (simp only [dx]);have:=z.size;omega));(· exact x));replace z:=z.an x (by omega);(replace o1:=o1.over x);rw [ao h'])
   have ac6:=bY w2
   repeat' (first|simp only [syms,aa,seval,cT,GV,ac6]|((with_reducible refine ⟨z.cN.lay _ _,?_⟩);(intro _ h' zz x _);(simp only [el,List.append_nil] at x);(replace o1:=o1.over x);(replace o2:=o2.over x);(replace z:=zz);(clear zz);rw [ao h']))
   have ar4:=CC (l.take (l.length / 2))
   have ar5:=CC (l.drop (l.length / 2))
   have Tk:=zwx (l.take (l.length / 2)) (l.drop (l.length / 2))
   rw [List.take_append_drop] at Tk
   have acw:=JI YX
   have acx:=JI YY
   generalize eg (l.take (l.length / 2))=s1 at *
   generalize eg (l.drop (l.length / 2))=s2 at *
   have uq:=z.size
   obtain ⟨H0,tI⟩:∃ H0,H0=h':=⟨_,rfl⟩
   rw [← tI] at o1 o2 uq
   obtain ⟨I1,aS⟩:∃ I:Nat→Env→Heap→Prop,I=(fun n e h'=>∃ (va vb wo:Value) (xs ys out:List ab) (A:Nat) (h1:Heap),h'=h1.lay [] h1.low∧Ext h h1∧(n=xs.length+ys.length∧out++ng xs ys=eg l∧Sl aJ.atom H0 va xs∧Sl aJ.atom H0 vb ys∧Ow aJ.atom H0 h1 34 A wo out∧cn H0 h1∧(∀ x∈xs,x.aT=true)∧(∀ x∈ys,x.aT=true)∧out.length+xs.length+ys.length≤l.length)∧∃ J:Nat→Value,e=(jr J 0 4 (va::vb::wo::jr J 7 62 ([])))):=⟨_,rfl⟩
   refine dj I1 _ (by rw [aS];exact ⟨w1,w2,.slice none 0 0,s1,s2,[],H0.size,_,rfl,z,⟨rfl,by simpa using Tk,o1,o2,Ow.nil (Nat.le_refl _),by rw [tI];exact cn.refl _,acw,acx,by simp only [List.length_nil];omega⟩,aE (by kernel_rfl)⟩) ?_
   intro n e h' aL
   rw [aS] at aL
   obtain ⟨va,vb,wo,xs,ys,out,A,bH,rfl,z,hinv,J,rfl⟩:=aL
   clear o1 o2
   obtain ⟨rfl,fE,sa,sb,ow,i1,la,lb,GR⟩:=hinv
   have pf:=bY va
   have nM:=bY vb
   have qz:=bY wo
   have NT:=fun (hh:Heap)=>sa.bc bL hh
   have NU:=fun (hh:Heap)=>sb.bc bL hh
   have qC:=z.size
   have Au:0 < xs.length→0 < ys.length→∃ x Hp y Hq,xs=x::Hp∧ys=y::Hq:=fun h1 h2=>by
    match xs,ys,h1,h2 with
    |x::xs,y::ys,_,_=>exact ⟨x,xs,y,ys,rfl,rfl⟩
   have Nv:¬ (0 < xs.length∧0 < ys.length)→ng xs ys=xs++ys:=fun hh=>by
    cases xs with
    |nil=>rw [Fz];rfl
    |cons x xs=>cases ys with
     |nil=>rw [Cw];simp
     |cons y ys=>exact absurd ⟨by simp,by simp⟩ hh
   simp only [syms,aa,seval,cT,pf,nM,qz,NT,NU]
   refine bt (fun f1=>?_) (fun f1=>?_)
   rotate_left
   ·repeat' ( simp only [syms,aa,seval,cT,pf,nM,qz,NT,NU])
    simp only [syms,aa,seval,cT,lG,vL]
    rw [Nv (by omega)] at fE
    have gZ:=i1.size
    have hlen:(out++xs).length=out.length+xs.length:=List.length_append
    obtain ⟨Pf,lS,jY⟩:=tk (A:=A) (r:=aJ.atom) (by decide) ((sa.mono i1).lay [] bH.low) (fun cs y hr=>hr)
    have ND:=ow.fresh
    refine Eu (r:=aJ.atom) bL se rfl (by decide) gZ ow lS jY (by omega) (by omega) (fun w5 h5 A5 o5 c5 Wr=>?_)
    have i5:=RH (i1.trans (cn.lay _ _ _)) c5 ND
    replace z:=(z.aw _ _ (by omega)).step c5 (by omega)
    rw [ao h5]
    have ji:=bY w5
    simp only [syms,aa,seval,cT,ji,nM,lG,vL]
    have Bu:=i5.size
    have YR:=z.size
    obtain ⟨Pg,jc,xl⟩:=tk (A:=A5) (r:=aJ.atom) (by decide) ((sb.mono i5).lay [] h5.low) (fun cs y hr=>hr)
    have hf5:=o5.fresh
    refine Eu (r:=aJ.atom) bL se rfl (by decide) Bu o5 jc xl (by omega) (by omega) (fun w6 h6 A6 o6 c6 hA6=>?_)
    replace z:=(z.aw _ _ (by omega)).step c6 (by omega)
    rw [ao h6]
    have kG:=bY w6
    repeat' (simp only [syms,aa,seval,cT,kG])
    rw [List.append_assoc,fE] at o6
    exact hk _ _ (z.aw _ _ (by omega)) (Xd (Xe (o6.mono (cn.lay _ _ _))) uq)
   simp only [syms,aa,seval,cT,pf,nM,qz,NT,NU]
   refine bt (fun f2=>?_) (fun f2=>?_)
   rotate_left
   ·repeat' ( simp only [syms,aa,seval,cT,pf,nM,qz,NT,NU])
    simp only [syms,aa,seval,cT,lG,vL]
    rw [Nv (by omega)] at fE
    have gZ:=i1.size
    have hlen:(out++xs).length=out.length+xs.length:=List.length_append
    obtain ⟨Pf,lS,jY⟩:=tk (A:=A) (r:=aJ.atom) (by decide) ((sa.mono i1).lay [] bH.low) (fun cs y hr=>hr)
    have ND:=ow.fresh
    refine Eu (r:=aJ.atom) bL se rfl (by decide) gZ ow lS jY (by omega) (by omega) (fun w5 h5 A5 o5 c5 Wr=>?_)
    have i5:=RH (i1.trans (cn.lay _ _ _)) c5 ND
    replace z:=(z.aw _ _ (by omega)).step c5 (by omega)
    rw [ao h5]
    have ji:=bY w5
    simp only [syms,aa,seval,cT,ji,nM,lG,vL]
    have Bu:=i5.size
    have YR:=z.size
    obtain ⟨Pg,jc,xl⟩:=tk (A:=A5) (r:=aJ.atom) (by decide) ((sb.mono i5).lay [] h5.low) (fun cs y hr=>hr)
    have hf5:=o5.fresh
    refine Eu (r:=aJ.atom) bL se rfl (by decide) Bu o5 jc xl (by omega) (by omega) (fun w6 h6 A6 o6 c6 hA6=>?_)
    replace z:=(z.aw _ _ (by omega)).step c6 (by omega)
    rw [ao h6]
    have kG:=bY w6
    repeat' (simp only [syms,aa,seval,cT,kG])
    rw [List.append_assoc,fE] at o6
    exact hk _ _ (z.aw _ _ (by omega)) (Xd (Xe (o6.mono (cn.lay _ _ _))) uq)
   obtain ⟨ax,Hp,ay,Hq,rfl,rfl⟩:=Au (by omega) (by omega)
   have tK:=la ax (List.mem_cons_self ..)
   have hay:=lb ay (List.mem_cons_self ..)
   obtain ⟨B5,ga,Y5⟩:=sa.sub (T:=ae) (t:=44) (by decide) bL bO (dS.num .i64 0 1) (dS.no _) (show 1≤(ax::Hp).length by simp) (Nat.le_refl _)
   obtain ⟨TN,gb,B0⟩:=sb.sub (T:=ae) (t:=44) (by decide) bL bO (dS.num .i64 0 1) (dS.no _) (show 1≤(ay::Hq).length by simp) (Nat.le_refl _)
   rw [List.take_length,List.drop_succ_cons,List.drop_zero] at Y5 B0
   rw [show ((1:Nat):Int)=1 from rfl] at ga gb
   have ac7:∀ (h:Heap) (K:Value→Heap→Prop),aW (some B5) h K=K B5 h:=fun _ _=>rfl
   have OG:∀ (h:Heap) (K:Value→Heap→Prop),aW (some TN) h K=K TN h:=fun _ _=>rfl
   repeat' (simp only [syms,aa,seval,cT,pf,nM,qz,NT,NU])
   with_reducible first|refine dH (by simp only [cT]) (z.aw _ _ (by omega)) ?_
   have YK:(ax::Hp)[(0:Int).toNat]? = some ax:=rfl
   have YL:(ay::Hq)[(0:Int).toNat]? = some ay:=rfl
   simp only [syms,aa,seval,cT,pf,nM,qz]
   repeat' ((first|with_reducible_and_instances refine pT (sa.mono i1) bL bO (by omega) YK (fun p hp=>?_)|with_reducible_and_instances refine pT (sb.mono i1) bL bO (by omega) YL (fun p hp=>?_)|with_reducible_and_instances refine mW hp fx bO ?_) <;> simp only [syms,aa,seval,cT,pf,nM,qz])
   refine zvJ ax ay tK hay _ _ (fun h' x=>?_)
   (((with_reducible refine dv ?_ ?_ ?_);(· exact (by (simp only [dx]);have:=z.size;omega));(· exact x));replace z:=z.an x (by omega);(replace ow:=ow.over x);(replace i1:=i1.over x);rw [ao h'])
   simp only [syms,aa,seval,cT,pf,nM,qz]
   ((with_reducible refine ⟨z.cN.lay _ _,?_⟩);(intro _ h' zz x _);(simp only [el,List.append_nil] at x);(replace ow:=ow.over x);(replace i1:=i1.over x);(replace z:=zz);(clear zz);rw [ao h'])
   simp only [syms,aa,seval,cT,pf,nM,qz]
   refine bt (fun vd=>?_) (fun vd=>?_)
   ·simp only [syms,aa,seval,cT,pf,nM,qz]
    with_reducible first|refine dH (by simp only [cT]) (z.aw _ _ (by omega)) ?_
    simp only [syms,aa,seval,cT,pf,nM,qz]
    repeat' ((first|with_reducible_and_instances refine pT (sa.mono i1) bL bO (by omega) YK (fun p hp=>?_)|with_reducible_and_instances refine mW hp fx bO ?_) <;> simp only [syms,aa,seval,cT,pf,nM,qz,JO])
    have ln:=z.size
    refine xQ (by omega) (by omega) ?_
    simp only [syms,aa,seval,cT,lG,vL,qz]
    have Ab:=ow.fresh
    have gZ:=i1.size
    have Ol:out.length≤100000:=by omega
    obtain ⟨lS,jY⟩:=J8 (A:=A) (B:=h'.size+0) (r:=aJ.atom) (c:=1) (y:=ax) (by decide) (show (h'.lay [bh.row ax.cells 34 false] (h'.size+1)).get (h'.size+0)=some (.row ax.cells 34 false) by rw [iR];rfl) rfl
    obtain ⟨w3,h3,A3,e1,o3,c3,e4,e5⟩:=zb (t:=44) bL se rfl (by decide) (by rw [bm];omega) (ow.mono (cn.lay _ _ _)) lS jY (by omega) (by omega)
    rw [e1]
    simp only [syms,aa,seval,cT]
    refine nQ (A:=A) (by kernel_rfl) (by rw [bm];omega) (by omega) (by simpa only [el,bm,List.append_nil,List.length_cons,List.length_nil,Nat.zero_add] using c3) ?_
    have i3:=RH (i1.trans (cn.lay _ _ _)) c3 Ab
    replace z:=(z.aw [bh.row ax.cells 34 false] (h'.size+1) (by omega)).step c3 (by omega)
    clear i1 ow e1 e4 e5 c3 lS jY
    have OE:=bY w3
    rw [ao h3]
    repeat' (first|simp only [syms,aa,seval,cT,OE,pf,nM,ga,ac7]|((with_reducible refine ⟨z.cN.lay _ _,?_⟩);(intro _ h' zz x _);(simp only [el,List.append_nil] at x);(replace o3:=o3.over x);(replace i3:=i3.over x);(replace z:=zz);(clear zz);rw [ao h']))
    rw [TX vd] at fE
    (rw [aS];with_reducible refine cB (m:=_) ?_ ⟨B5,vb,w3,Hp,ay::Hq,out++[ax],A3,_,rfl,z,⟨rfl,by rw [← fE,List.append_assoc,List.cons_append,List.nil_append],Y5,sb,o3,i3,fun x hx=>la x (List.mem_cons_of_mem _ hx),lb,by simp only [List.length_cons,List.length_append,List.length_nil] at GR ⊢;omega⟩,aE (by kernel_rfl)⟩;(simp only [List.length_cons];omega))
   repeat' (first|simp only [syms,aa,seval,cT,pf,nM,qz]|((with_reducible apply bt) <;> intro _))
   ·have pK:0 < aQ ax ay:=by assumption
    with_reducible first|refine dH (by simp only [cT]) (z.aw _ _ (by omega)) ?_
    simp only [syms,aa,seval,cT,pf,nM,qz]
    repeat' ((first|with_reducible_and_instances refine pT (sb.mono i1) bL bO (by omega) YL (fun p hp=>?_)|with_reducible_and_instances refine mW hp fx bO ?_) <;> simp only [syms,aa,seval,cT,pf,nM,qz,JO])
    have ln:=z.size
    refine xQ (by omega) (by omega) ?_
    simp only [syms,aa,seval,cT,lG,vL,qz]
    have Ab:=ow.fresh
    have gZ:=i1.size
    have Ol:out.length≤100000:=by omega
    obtain ⟨lS,jY⟩:=J8 (A:=A) (B:=h'.size+0) (r:=aJ.atom) (c:=1) (y:=ay) (by decide) (show (h'.lay [bh.row ay.cells 34 false] (h'.size+1)).get (h'.size+0)=some (.row ay.cells 34 false) by rw [iR];rfl) rfl
    obtain ⟨w3,h3,A3,e1,o3,c3,e4,e5⟩:=zb (t:=44) bL se rfl (by decide) (by rw [bm];omega) (ow.mono (cn.lay _ _ _)) lS jY (by omega) (by omega)
    rw [e1]
    simp only [syms,aa,seval,cT]
    refine nQ (A:=A) (by kernel_rfl) (by rw [bm];omega) (by omega) (by simpa only [el,bm,List.append_nil,List.length_cons,List.length_nil,Nat.zero_add] using c3) ?_
    have i3:=RH (i1.trans (cn.lay _ _ _)) c3 Ab
    replace z:=(z.aw [bh.row ay.cells 34 false] (h'.size+1) (by omega)).step c3 (by omega)
    clear i1 ow e1 e4 e5 c3 lS jY
    have OE:=bY w3
    rw [ao h3]
    repeat' (first|simp only [syms,aa,seval,cT,OE,pf,nM,gb,OG]|((with_reducible refine ⟨z.cN.lay _ _,?_⟩);(intro _ h' zz x _);(simp only [el,List.append_nil] at x);(replace o3:=o3.over x);(replace i3:=i3.over x);(replace z:=zz);(clear zz);rw [ao h']))
    rw [TW pK] at fE
    (rw [aS];with_reducible refine cB (m:=_) ?_ ⟨va,TN,w3,ax::Hp,Hq,out++[ay],A3,_,rfl,z,⟨rfl,by rw [← fE,List.append_assoc,List.cons_append,List.nil_append],sa,B0,o3,i3,la,fun x hx=>lb x (List.mem_cons_of_mem _ hx),by simp only [List.length_cons,List.length_append,List.length_nil] at GR ⊢;omega⟩,aE (by kernel_rfl)⟩;(simp only [List.length_cons];omega))
   ·have pJ:aQ ax ay=0:=by omega
    rw [gb]
    repeat' (simp only [syms,aa,seval,cT,OG])
    rw [TV pJ] at fE
    (rw [aS];with_reducible refine cB (m:=_) ?_ ⟨va,TN,wo,ax::Hp,Hq,out,A,_,rfl,z,⟨rfl,fE,sa,B0,ow,i1,la,fun x hx=>lb x (List.mem_cons_of_mem _ hx),by simp only [List.length_cons] at GR ⊢;omega⟩,aE (by kernel_rfl)⟩;(simp only [List.length_cons];omega))
theorem zGv (l:List ab) (a:ab) (v:Value) (h:Heap) (hl:Sl aJ.atom h v l) (hn:l.length≤900) (aR:∀ x∈l,x.aT=true) (ha:a.aT=true) (K:Value→Heap→Prop)
 (hk:∀ h' w,Ext h h'→km h h' 34 w (cA a (eg l))→K (.tuple #[w,.bool (!bC l a)]) h'):Ok Tryz.prog ae ov 62 [v,a.val] h K:=by
 rw [ao h]
 have z:=Ext.refl h
 refine Ok.aH rfl zDL (br VQ) rfl (m:=16) rfl ?_
 simp only [syms,aa,seval,Fw,ec]
 refine Rv l.length l v _ (Nat.le_refl _) (hl.lay _ _) (by omega) aR _ (fun h' w x ho=>?_)
 replace ho:=Xd (h0:=h) ho (by rw [bm];omega)
 have q0:=Holds.top (i:=0) x rfl
 (replace z:=z.an x (by omega);rw [ao h'])
 have bx:=bY w
 have DM:=CC l
 have vl:=JI aR
 have YG:=ho.own (by omega)
 repeat' (simp only [syms,aa,seval,Fw,bx,q0.lay,ec,↓eM,eh,dC])
 refine R4 (eg l) a w _ (YG.sl.lay _ _) (by omega) vl ha _ (fun h' x=>?_)
 have acJ:=(YG.lay _ _).mono x.inc
 (replace z:=z.an x (by omega);(replace q0:=q0.over x);rw [ao h'])
 rw [JP]
 cases hb:bC l a
 ·rw [hb] at hk
  repeat' (simp only [syms,aa,seval,Fw,bx,q0.lay,ec,↓eM,eh,dC,JO])
  simp only [syms,aa,seval,Fw,lG,vL]
  have hz:=z.size
  obtain ⟨w2,h2,e2,o2,A2,IB,c2⟩:=zE1 (a:=a) (lw:=h'.low) bL Xn (by decide) (by decide) hz acJ (by omega)
  rw [e2]
  replace z:=z.cM c2 IB (by omega)
  have jI:=bY w2
  rw [ao h2]
  simp only [syms,aa,seval,Fw,jI]
  refine Rv (eg l++[a]).length (eg l++[a]) w2 _ (Nat.le_refl _) (o2.sl.lay _ _) (by simp only [List.length_append,List.length_cons,List.length_nil];omega) (fun x hx=>(List.mem_append.1 hx).elim (vl x) (fun hx=>by rw [List.mem_singleton.1 hx];exact ha)) _ (fun h' w3 x o3=>?_)
  have ln:=z.size
  replace o3:=Xd (h0:=h) o3 (by rw [bm];omega)
  rw [zwz] at o3
  (replace z:=z.an x (by omega);rw [ao h'])
  have OE:=bY w3
  repeat' (simp only [syms,aa,seval,Fw,OE])
  exact hk _ _ (z.aw _ _ (by omega)) (T2 o3 (cn.lay _ _ _))
 ·have Ar:=UP (a:=a) (ri l).iI (by rw [JP,hb])
  rw [hb,Ar] at hk
  repeat' (simp only [syms,aa,seval,Fw,bx])
  exact hk _ _ (z.aw _ _ (by omega)) (T2 (T2 ho (cn.over (cn.refl _) x)) (cn.lay _ _ _))
theorem zvR (l m:List ab) (v u:Value) (h:Heap) (hl:Sl aJ.atom h v l) (hm:Sl aJ.atom h u m) (hn:l.length≤900) (Ob:m.length≤900) (aR:∀ x∈l,x.aT=true) (IU:∀ x∈m,x.aT=true) (K:Value→Heap→Prop)
 (hk:∀ h' w A,Ext h h'→Ow aJ.atom h h' 34 A w ((eg l).filter (fun x => !bC m x))→K w h'):Ok Tryz.prog ae ov 106 [v,u] h K:=by
 rw [ao h]
 have z:=Ext.refl h
 have lT:=bY u
 refine Ok.aH rfl zwO (br KF) rfl (m:=29) rfl ?_
 repeat' (simp only [syms,aa,seval,lJ])
 refine Rv l.length l v _ (Nat.le_refl _) (hl.lay _ _) (by omega) aR _ (fun h' w x ho=>?_)
 have DM:=CC l
 have vl:=JI aR
 replace ho:=(ho.own (by omega)).sl
 (replace z:=z.an x (by omega);rw [ao h'])
 have eR:=bY w
 generalize eg l=s at *
 simp only [syms,aa,seval,lJ,eR]
 repeat' ((first|((with_reducible first|apply bt|apply nX|apply iS|apply H3|apply UR) <;> intro _)|((with_reducible_and_instances apply b8);(· rfl))) <;> simp only [syms,aa,seval,lJ,eR])
 have uq:=z.size
 obtain ⟨H0,tI⟩:∃ H0,H0=h':=⟨_,rfl⟩
 rw [← tI] at ho uq
 obtain ⟨I1,aS⟩:∃ I:Nat→Env→Heap→Prop,I=(fun n e h'=>∃ (i:Nat) (wo:Value) (A:Nat) (h1:Heap),h'=h1.lay [] h1.low∧Ext h h1∧(n=s.length - i∧i≤s.length∧Ow aJ.atom H0 h1 34 A wo ((s.take i).filter (fun x => !bC m x))∧cn H0 h1)∧∃ J:Nat→Value,e=(v::u::jr J 2 3 (wo::w::.int .i64 i::jr J 8 23 ([])))):=⟨_,rfl⟩
 refine dj I1 _ (by rw [aS];exact ⟨0,.slice none 0 0,H0.size,_,rfl,z,⟨rfl,by omega,Ow.nil (Nat.le_refl _),by rw [tI];exact cn.refl _⟩,aE (by kernel_rfl)⟩) ?_
 intro n e h' aL
 rw [aS] at aL
 obtain ⟨i,wo,A,bH,rfl,z,hinv,J,rfl⟩:=aL
 obtain ⟨rfl,hi,ow,i1⟩:=hinv
 have gl:=eb i (by omega)
 have D8:=bY wo
 have iq:=fun (hh:Heap)=>ho.bc bL hh
 simp only [syms,aa,seval,lJ,eR,iq]
 refine bt (fun i6=>?_) (fun i6=>?_)
 rotate_left
 ·rw [List.take_of_length_le (by omega)] at ow
  repeat' (simp only [syms,aa,seval,lJ,D8])
  exact hk _ _ A (z.aw _ _ (by omega)) (zwg (ow.mono (cn.lay _ _ _)) uq)
 have hr:s[(i:Int).toNat]? = some (s.getD i aj):=jn (by omega)
 have cd:s.getD i aj∈s:=List.mem_of_getElem? hr
 have kS:s.take (i+1)=s.take i++[s.getD i aj]:=by rw [List.take_add_one,jn (l:=s) (i:=i) (by omega)];rfl
 simp only [syms,aa,seval,lJ,eR,lT]
 repeat' ((first|with_reducible_and_instances refine pT (ho.mono i1) bL bO (by omega) hr (fun p hp=>?_)|with_reducible_and_instances refine mW hp fx bO ?_) <;> simp only [syms,aa,seval,lJ,eR,lT])
 refine R4 m _ u _ ((hm.mono z.inc).lay _ _) (by omega) IU (vl _ cd) _ (fun h' x=>?_)
 (replace z:=z.an x (by omega);(replace ow:=ow.over x);(replace i1:=i1.over x);rw [ao h'])
 cases hb:bC m (s.getD i aj)
 ·simp only [syms,aa,seval,lJ,eR,D8]
  repeat' ((first|with_reducible_and_instances refine pT (ho.mono i1) bL bO (by omega) hr (fun p hp=>?_)|with_reducible_and_instances refine mW hp fx bO ?_|((with_reducible_and_instances apply b8);(· rfl))) <;> simp only [syms,aa,seval,lJ,eR,D8,JO])
  simp only [syms,aa,seval,lJ,lG,vL]
  have Ab:=ow.fresh
  have gZ:=i1.size
  have sJ:((s.take i).filter (fun x => !bC m x)).length≤900:=by
   have:=List.length_filter_le (fun x => !bC m x) (s.take i)
   rw [List.length_take] at this
   omega
  obtain ⟨lS,jY⟩:=J8 (A:=A) (B:=h'.size+0) (r:=aJ.atom) (c:=1) (y:=s.getD i aj) (by decide) (show (h'.lay [bh.row (s.getD i aj).cells 34 false] h'.low).get (h'.size+0)=some (.row (s.getD i aj).cells 34 false) by rw [iR];rfl) rfl
  refine Eu (r:=aJ.atom) bL se rfl (by decide) gZ ow lS jY (by omega) (by omega) (fun w5 h5 A5 o5 c5 Wr=>?_)
  have i5:=RH (i1.trans (cn.lay _ _ _)) c5 Ab
  replace z:=(z.aw _ _ (by omega)).step c5 (by omega)
  rw [ao h5]
  have ji:=bY w5
  repeat' (simp only [syms,aa,seval,lJ,ji])
  rw [gl]
  (rw [aS];with_reducible refine cB (m:=_) ?_ ⟨i+1,w5,A5,_,rfl,z,⟨rfl,by omega,by rw [kS,List.filter_append,List.filter_cons,hb];simpa using o5,i5⟩,aE (by kernel_rfl)⟩;omega)
 ·repeat' (first|simp only [syms,aa,seval,lJ,eR,D8]|((with_reducible_and_instances apply b8);(· rfl)))
  rw [gl]
  (rw [aS];with_reducible refine cB (m:=_) ?_ ⟨i+1,wo,A,_,rfl,z,⟨rfl,by omega,by rw [kS,List.filter_append,List.filter_cons,hb];simpa using ow,i1⟩,aE (by kernel_rfl)⟩;omega)
theorem ztn (l:List ab) (a:ab) (v:Value) (h:Heap) (hl:Sl aJ.atom h v l) (hn:l.length≤900) (aR:∀ x∈l,x.aT=true) (ha:a.aT=true) (K:Value→Heap→Prop)
 (hk:∀ h' w A,Ext h h'→Ow aJ.atom h h' 34 A w (eW a (eg l))→K (.tuple #[w,.bool (bC l a)]) h'):Ok Tryz.prog ae ov 63 [v,a.val] h K:=by
 rw [ao h]
 have z:=Ext.refl h
 have ej:=bY v
 refine Ok.aH rfl zDM (br VV) rfl (m:=11) rfl ?_
 simp only [syms,aa,seval,Iv,ec]
 refine ml (fun h' x hq=>?_)
 have q0:=hq 0 _ rfl
 clear hq
 (replace z:=z.an x (by omega);rw [ao h'])
 with_reducible first|refine dH (by simp only [Iv]) (z.aw _ _ (by omega)) ?_
 repeat' (simp only [syms,aa,seval,Iv,ej,q0.lay,ec,↓eM,eh,dC,JO])
 have hz:=z.size
 refine xQ (by omega) (by omega) ?_
 simp only [syms,aa,seval,Iv,ej]
 refine zvR l [a] v _ _ ((hl.mono z.inc).lay _ _) zCY hn (by simp) aR (by simpa using ha) _ (fun h' w A x ho=>?_)
 rw [zuO] at ho
 replace ho:=zwg (h0:=h) ho (by rw [bm];omega)
 (((with_reducible refine dv ?_ ?_ ?_);(· exact (by (simp only [dx]);have:=z.size;omega));(· exact x));replace z:=z.an x (by omega);(replace q0:=q0.over x);rw [ao h'])
 have eR:=bY w
 repeat' (simp only [syms,aa,seval,Iv,eR,ej,q0.lay,ec,↓eM,eh,dC])
 refine R4 l a v _ ((hl.mono z.inc).lay _ _) (by omega) aR ha _ (fun h' x=>?_)
 (((with_reducible refine dv ?_ ?_ ?_);(· exact (by (simp only [dx]);have:=z.size;omega));(· exact x));replace z:=z.an x (by omega);(replace q0:=q0.over x);(replace ho:=ho.over x);rw [ao h'])
 generalize bC l a=b at hk ⊢
 cases b
 all_goals
  repeat' (first|simp only [syms,aa,seval,Iv,eR]|((with_reducible refine ⟨z.cN.lay _ _,?_⟩);(intro _ h' zz x _);(simp only [el,List.append_nil] at x);(replace q0:=q0.over x);(replace ho:=ho.over x);(replace z:=zz);(clear zz);rw [ao h']))
  exact hk _ _ A (z.aw _ _ (by omega)) (ho.mono (cn.lay _ _ _))
theorem km.kill {h0 h:Heap} {u:TypeId} {v:Value} {s:List ab} {D:List Nat} (f:km h0 h u v s) (aP:s≠[]) (hs:s.length≤100000) (hD:∀ B∈D,B < h0.size):Sl aJ.atom (aI D h) v s:=by
 rcases f with ⟨e,_⟩|⟨A,e1,e2,e3,e4⟩
 ·exact absurd e aP
 ·have hA:A ∉ D:=fun hm=>by have:=hD A hm;omega
  exact (km.own (h0:=h0) (u:=u) (.inr ⟨A,e1,⟨by rw [iG];exact e2.lt,by rw [oz hA];exact e2.get⟩,e3,e4⟩) hs).sl
section
variable {N S2 NB k:Nat} {h hc h2:Heap} {X:List Nat} {d:au}
theorem fC.dq (f:fC N (aI X hc) S2 NB d k) (fr:aM [] hc h2):fC N (aI X h2) S2 NB d k:=f.inc (fr.kill X).all
theorem fC.more (f:fC N h S2 NB d k):fC N h S2 NB d (k+1):=by
 obtain ⟨p0,p1,p2,p5,p6,q,b,nv,rows,e1,e2,e3,e4,e5,e6⟩:=f
 exact ⟨p0,p1,p2,p5,p6,q,b,nv,rows,e1,e2,e3,e4,fun x hx=>⟨by have:=(e5 x hx).1;omega,(e5 x hx).2.imp fun l hl=>⟨hl.1,by have:=hl.2.1;omega,hl.2.2⟩⟩,e6⟩
theorem fC.beside {E E2:List Nat} (f:fC N (aI E hc) S2 NB d k) (fr:aM E hc h2) (hE:∀ B∈E2,B∈E∨hc.size≤B):fC N (aI E2 h2) S2 NB d k:=f.inc (fr.inc hE)
theorem fC.turn {p0 p1 p2 p5 p6 nv w:Value} {q b:Int} {rows:List lH} {i n:Nat} {x:lH} {s:ByteArray} {l:List ab}
 (e1:Holds (aI X hc) S2 (.row (C7 p0 p1 p2 p5 p6 q b nv) 122 false)) (e2:dD (aI [NB] (aI X hc)) p0 p1 p2 p5 p6 d) (e4:rows.map lH.who=d.ah)
 (e5:∀ x∈rows,x.n≤k∧∃ l:List ab,Sl aJ.atom (aI [NB] (aI X hc)) x.v l∧l.length≤k∧∀ y∈l,y.aT=true) (e6:S2≠NB) (e7:N≤S2) (e8:N≤NB) (e9:NB < hc.size)
 (hx:rows[i]? = some x) (hw:x.who=s) (fr:aM [NB] hc h2) (yl:NB ∉ X) (o:cJ 3 lH.cells h2 124 NB nv (rows.set i ⟨s,w,n⟩)) (hn:n≤k+1) (sw:Sl aJ.atom (aI (NB::X) h2) w l) (hl:l.length≤k+1) (aR:∀ y∈l,y.aT=true) :
 fC N (aI X h2) S2 NB d (k+1):=by
 have fk:=fr.kill X
 have ik:cn (aI [NB] (aI X hc)) (aI [NB] (aI X h2)):=fk.inc (fun B hB=>.inl hB)
 have iK:=(List.getElem?_eq_some_iff.1 hx).1
 have uk:(rows.set i ⟨s,w,n⟩).map lH.who=d.ah:=by
  rw [List.map_set,← e4]
  refine List.ext_getElem? fun j=>?_
  rw [List.getElem?_set]
  by_cases di:i=j
  ·subst di
   rw [if_pos rfl,if_pos (by rw [List.length_map];exact iK),List.getElem?_map,hx,Option.map_some,hw]
  ·rw [if_neg di]
 refine ⟨p0,p1,p2,p5,p6,q,b,nv,rows.set i ⟨s,w,n⟩,e1.bX fk (by simpa using e6),e2.mono ik,o.hold (fun _ q=>q.mU yl),uk,fun y hy=>?_,e6,e7,e8,by rw [iG];exact Nat.lt_of_lt_of_le e9 fr.size⟩
 rcases List.mem_or_eq_of_mem_set hy with hm|rfl
 ·obtain ⟨g1,l2,g2,g3,g4⟩:=e5 y hm
  exact ⟨by omega,l2,g2.mono ik,by omega,g4⟩
 ·exact ⟨hn,l,sw,hl,aR⟩
end
theorem OU:bJ ae 55=some 1:=by kernel_rfl
theorem CZ:bJ ae 44=some 1:=by kernel_rfl
theorem zGQ:bJ ae 120=some 1:=by kernel_rfl
theorem zGL:pU ae 120 120=true:=by kernel_rfl
theorem zLu (a0 a1 a2 a5 a6) (n0 c0 n1 c1 n2 c2 n5 c5 n6 c6:Nat) (q b:Int):nV ae 122 [(0,gi (.slice a0 n0 c0) (.slice a1 n1 c1) (.slice a2 n2 c2) (.slice a5 n5 c5) (.slice a6 n6 c6) q b)]=some (.agg ⟨C7 (.slice a0 n0 c0) (.slice a1 n1 c1) (.slice a2 n2 c2) (.slice a5 n5 c5) (.slice a6 n6 c6) q b (.slice none 0 0)⟩):=by kernel_rfl
theorem zLs (s:ByteArray):nV ae 124 [(0,.string s)]=some (.agg ⟨[.string s,.slice none 0 0,.int .u64 0]⟩):=by kernel_rfl
theorem JH {a x:ab}:∀ {l:List ab},x∈cA a l→x=a∨x∈l
 | [],h=>.inl (List.mem_singleton.1 h)
 |y::r,h=>by
  unfold cA at h
  split at h
  ·rcases List.mem_cons.1 h with e|h
   ·exact .inl e
   ·exact .inr h
  ·split at h
   ·exact .inr h
   ·rcases List.mem_cons.1 h with e|h
    ·exact .inr (by rw [e];exact List.mem_cons_self)
    ·exact (JH h).imp id (List.mem_cons_of_mem _)
theorem zrT {a:ab} {l:List ab} (h:bC l a=false):(cA a l).length=l.length+1:=by
 rw [(JZ h).length_eq];rfl
theorem HD (d:au) (k:Nat) (s:ByteArray) (a:ab) (h hc:Heap) (z:Ext h hc) (N S2 NB:Nat) (hN:N=h.size) (X:List Nat) (Dy:∀ B∈X,B < hc.size) (sd:fC N (aI X hc) S2 NB d k) (yl:NB ∉ X) (hk8:k≤800) (ha:a.aT=true) (K:Value→Heap→Prop)
 (hK:∀ h' bb e,Ext h h'→aM [NB] hc h'→fC N (aI X h') S2 NB d (k+1)→K (.tuple #[.bool bb,.int .i64 e]) h'):Ok Tryz.prog ae ov 32 [.pointer (some ⟨S2,0,none⟩),.string s,a.val] hc K:=by
 subst hN
 obtain ⟨p0,p1,p2,p5,p6,q,b,nv,rows,e1,e2,e3,e4,e5,e6,e7,e8,e9⟩:=id sd
 rw [iG] at e9
 have ik:=rn X hc
 have g1:=e1.mono ik
 have g2:=(e2.mono (rn [NB] _)).mono ik
 have g3:=cJ.uv e3 ik
 have bf:=g2.one q b
 have ej:=bY nv
 have oo:=z.size
 rw [ao hc]
 refine Ok.aH rfl zDn (br Vu) rfl (m:=61) rfl ?_
 simp only [syms,aa,seval,kP,ec]
 with_reducible first|refine dH (by simp only [kP]) (z.aw _ _ (by omega)) ?_
 simp only [syms,aa,seval,kP,cy,cZ,g1.lay,↓MK,eX,eG,ec,↓eM,eh,dC]
 refine WI d s a p0 p1 p2 p5 p6 q b _ bf (g2.lay _ _) _ (fun fe h' x Gf=>?_)
 have q0:=Holds.top (i:=0) x rfl
 have fr:aM [] hc h':=(aM.refl [] hc).over x
 replace g1:=g1.over x
 replace g3:=g3.over x
 (((with_reducible refine dv ?_ ?_ ?_);(· exact (by (simp only [dx]);have:=z.size;omega));(· exact x));replace z:=z.an x (by omega);rw [ao h'])
 simp only [syms,aa,seval,kP,bl]
 ((with_reducible refine ⟨z.cN.lay _ _,?_⟩);(intro _ h' zz x _);(simp only [el,List.append_nil] at x);(replace q0:=q0.over x);(replace fr:=fr.over x);(replace g1:=g1.over x);(replace g3:=g3.over x);(replace z:=zz);(clear zz);rw [ao h'])
 simp only [syms,aa,seval,kP,bl]
 refine iS (fun aP=>?_) (fun heq=>?_)
 ·skip
  simp only [syms,aa,seval,kP,bl]
  exact hK _ _ _ (z.aw _ _ (by omega)) ((fr.mono (fun _ h=>nomatch h)).trans (aM.lay _ _ _ []) (fun _ h=>nomatch h)) (sd.dq (fr.trans (aM.lay _ _ _ []) (fun _ h=>nomatch h))).more
 simp only [syms,aa,seval,kP]
 with_reducible first|refine dH (by simp only [kP]) (z.aw _ _ (by omega)) ?_
 simp only [syms,aa,seval,kP,cy,cZ,g1.lay,Kb,ej]
 refine CW rows s p0 p1 p2 p5 p6 nv q b S2 NB _ (g1.on _ _) (g3.lay _ _) _ (fun i r hr hw h' x=>?_) (fun lR h' x=>?_)
 rotate_left
 ·exfalso
  have hm:=Gf heq
  rw [← e4] at hm
  obtain ⟨y,hy,e⟩:=List.mem_map.1 hm
  exact lR y hy e
 (((with_reducible refine dv ?_ ?_ ?_);(· exact (by (simp only [dx]);have:=z.size;omega));(· exact x));replace z:=z.an x (by omega);(replace q0:=q0.over x);(replace fr:=fr.over x);(replace g1:=g1.over x);(replace g3:=g3.over x);rw [ao h'])
 obtain rfl:=hw
 obtain ⟨gj,l,lS,iq,aR⟩:=e5 r (List.mem_of_getElem? hr)
 have yx:Sl aJ.atom hc r.v l:=(lS.mono (rn [NB] _)).mono ik
 have iK:=(List.getElem?_eq_some_iff.1 hr).1
 have gZ:=g3.ix (kd:=.i64) (i:=i) Sk Va iK
 have ph:∀ (h:Heap) (K:Value→Heap→Prop),aW (some r.v) h K=K r.v h:=fun _ _=>rfl
 have YB:=fun (hh:Heap)=>yx.bc bL hh
 simp only [syms,aa,seval,kP,bl,gZ,cy]
 ((with_reducible refine ⟨z.cN.lay _ _,?_⟩);(intro _ h' zz x _);(simp only [el,List.append_nil] at x);(replace q0:=q0.over x);(replace fr:=fr.over x);(replace g1:=g1.over x);(replace g3:=g3.over x);(replace z:=zz);(clear zz);rw [ao h'])
 simp only [syms,aa,seval,kP,cy]
 have c1:=g3.gF (j:=1) hr (by omega) rfl
 with_reducible first|refine dH (by simp only [kP]) (z.aw _ _ (by omega)) ?_
 simp only [syms,aa,seval,kP,cy,c1,ph,q0.lay,ec,↓eM,eh,dC]
 refine R4 l a r.v _ ((yx.mono fr.all).lay _ _) (by omega) aR ha _ (fun h' x=>?_)
 clear c1
 (((with_reducible refine dv ?_ ?_ ?_);(· exact (by (simp only [dx]);have:=z.size;omega));(· exact x));replace z:=z.an x (by omega);(replace q0:=q0.over x);(replace fr:=fr.over x);(replace g1:=g1.over x);(replace g3:=g3.over x);rw [ao h'])
 simp only [syms,aa,seval,kP]
 ((with_reducible refine ⟨z.cN.lay _ _,?_⟩);(intro _ h' zz x _);(simp only [el,List.append_nil] at x);(replace q0:=q0.over x);(replace fr:=fr.over x);(replace g1:=g1.over x);(replace g3:=g3.over x);(replace z:=zz);(clear zz);rw [ao h'])
 cases hh:bC l a
 rotate_left
 ·skip
  simp only [syms,aa,seval,kP,bl]
  exact hK _ _ _ (z.aw _ _ (by omega)) ((fr.mono (fun _ h=>nomatch h)).trans (aM.lay _ _ _ []) (fun _ h=>nomatch h)) (sd.dq (fr.trans (aM.lay _ _ _ []) (fun _ h=>nomatch h))).more
 simp only [syms,aa,seval,kP]
 have kR:=Vb a (eg l)
 have rW:=CC l
 have c1:=g3.gF (j:=1) hr (by omega) rfl
 with_reducible first|refine dH (by simp only [kP]) (z.aw _ _ (by omega)) ?_
 simp only [syms,aa,seval,kP,cy,c1,ph,YB,g1.lay,zHB,bl]
 clear c1
 refine bt (fun kQ=>?_) (fun i7=>?_)
 ·simp only [syms,aa,seval,kP]
  ((with_reducible refine ⟨z.cN.lay _ _,?_⟩);(intro _ h' zz x _);(simp only [el,List.append_nil] at x);(replace q0:=q0.over x);(replace fr:=fr.over x);(replace g1:=g1.over x);(replace g3:=g3.over x);(replace z:=zz);(clear zz);rw [ao h'])
  simp only [syms,aa,seval,kP,bl]
  exact hK _ _ _ (z.aw _ _ (by omega)) ((fr.mono (fun _ h=>nomatch h)).trans (aM.lay _ _ _ []) (fun _ h=>nomatch h)) (sd.dq (fr.trans (aM.lay _ _ _ []) (fun _ h=>nomatch h))).more
 simp only [syms,aa,seval,kP]
 ((with_reducible refine ⟨z.cN.lay _ _,?_⟩);(intro _ h' zz x _);(simp only [el,List.append_nil] at x);(replace q0:=q0.over x);(replace fr:=fr.over x);(replace g1:=g1.over x);(replace g3:=g3.over x);(replace z:=zz);(clear zz);rw [ao h'])
 simp only [syms,aa,seval,kP]
 have c1:=g3.gF (j:=1) hr (by omega) rfl
 with_reducible first|refine dH (by simp only [kP]) (z.aw _ _ (by omega)) ?_
 simp only [syms,aa,seval,kP,cy,c1,ph,q0.lay,ec,↓eM,eh,dC]
 have NJ:=fr.size
 refine zGv l a r.v _ ((yx.mono fr.all).lay _ _) (by omega) aR ha _ (fun h' w x ho=>?_)
 clear c1
 have xm:Sl aJ.atom (aI (NB::X) h') w (cA a (eg l)):=km.kill ho (zwm _ _) (by omega) (fun B hB=>by
  rw [bm]
  rcases List.mem_cons.1 hB with rfl|hB
  ·omega
  ·have:=Dy B hB;omega)
 (((with_reducible refine dv ?_ ?_ ?_);(· exact (by (simp only [dx]);have:=z.size;omega));(· exact x));replace z:=z.an x (by omega);(replace q0:=q0.over x);(replace fr:=fr.over x);(replace g1:=g1.over x);(replace g3:=g3.over x);rw [ao h'])
 obtain ⟨wa,wn,wc,rfl⟩:=uI xm
 rw [hh]
 simp only [syms,aa,seval,kP,gP,dP,gO,cy,Bool.not_false]
 have acd:=fr.size
 refine cJ.store (off:=1) (y:=(⟨r.who,.slice wa wn wc,r.n⟩:lH)) R2 g3 hr CZ (by omega) rfl rfl rfl (by rfl) (fun h3 g4 c4=>?_)
 have z3:=z.cM c4 e8 (by omega)
 have lC:=c4.size
 rw [bm] at lC
 refine yU (by kernel_rfl) z3.low (by rw [bm];exact lC) ?_
 have ju:aM [NB] hc h3:=(fr.mono (D':=[NB]) (fun _ h=>nomatch h)).iJ c4 (.inl (by simp))
 have oS:aM [NB] h' h3:=(aM.refl [NB] h').iJ c4 (.inl (by simp))
 clear z fr g3 g1 q0
 have z:=z3
 rw [ao h3]
 simp only [syms,aa,seval,kP]
 ((with_reducible refine ⟨z.cN.lay _ _,?_⟩);(intro _ h' zz x _);(simp only [el,List.append_nil] at x);(replace g4:=g4.over x);(replace ju:=ju.over x);(replace oS:=oS.over x);(replace z:=zz);(clear zz);rw [ao h'])
 have tZ:(rows.set i (⟨r.who,.slice wa wn wc,r.n⟩:lH))[i]? = some ⟨r.who,.slice wa wn wc,r.n⟩:=by rw [List.getElem?_set,if_pos rfl,if_pos iK]
 have c2:=g4.gF (j:=2) tZ (by omega) rfl
 have BK:IntKind.u64.wrap ((r.n:Int)+1)=((r.n+1:Nat):Int):=Cs (by omega)
 simp only [syms,aa,seval,kP,cy,c2,bl,BK]
 refine cJ.store (off:=2) (y:=(⟨r.who,.slice wa wn wc,r.n+1⟩:lH)) R2 g4 tZ OU (by omega) rfl rfl rfl (by rfl) (fun h5 g5 c5=>?_)
 have Ye:=ju.size
 have z5:=z.cM c5 e8 (by omega)
 have ni:aM [NB] hc h5:=ju.iJ c5 (.inl (by simp))
 have FP:aM [NB] _ h5:=oS.iJ c5 (.inl (by simp))
 rw [List.set_set] at g5
 clear z g4 ju oS c2
 have z:=z5
 rw [ao h5]
 simp only [syms,aa,seval,kP,gP,gO,bl]
 have qf:=ni.trans (aM.lay h5 [] h5.low []) (fun _ h=>nomatch h)
 have FR:=FP.trans (aM.lay h5 [] h5.low []) (fun _ h=>nomatch h)
 exact hK _ _ _ (z.aw _ _ (by omega)) qf (fC.turn e1 e2 e4 e5 e6 e7 e8 e9 hr rfl qf yl (g5.lay _ _) (by omega) (xm.mono ((FR.mono (D':=NB::X) (by simp)).inc (fun B hB=>.inl hB))) (by omega) (fun y hy=>(JH hy).elim (fun e=>by rw [e];exact ha) (JI aR y)))
theorem zd6 (d:au) (k:Nat) (s:ByteArray) (a:ab) (h hc:Heap) (z:Ext h hc) (N S2 NB:Nat) (hN:N=h.size) (X:List Nat) (Dy:∀ B∈X,B < hc.size) (sd:fC N (aI X hc) S2 NB d k) (yl:NB ∉ X) (hk8:k≤800) (ha:a.aT=true) (K:Value→Heap→Prop)
 (hK:∀ h' bb e,Ext h h'→aM [NB] hc h'→fC N (aI X h') S2 NB d (k+1)→K (.tuple #[.bool bb,.int .i64 e]) h'):Ok Tryz.prog ae ov 33 [.pointer (some ⟨S2,0,none⟩),.string s,a.val] hc K:=by
 subst hN
 obtain ⟨p0,p1,p2,p5,p6,q,b,nv,rows,e1,e2,e3,e4,e5,e6,e7,e8,e9⟩:=id sd
 rw [iG] at e9
 have ik:=rn X hc
 have g1:=e1.mono ik
 have g2:=(e2.mono (rn [NB] _)).mono ik
 have g3:=cJ.uv e3 ik
 have bf:=g2.one q b
 have ej:=bY nv
 have oo:=z.size
 rw [ao hc]
 refine Ok.aH rfl zDo (br Vv) rfl (m:=51) rfl ?_
 simp only [syms,aa,seval,me,ec]
 with_reducible first|refine dH (by simp only [me]) (z.aw _ _ (by omega)) ?_
 simp only [syms,aa,seval,me,cy,cZ,g1.lay,↓MK,eX,eG,ec,↓eM,eh,dC]
 refine WI d s a p0 p1 p2 p5 p6 q b _ bf (g2.lay _ _) _ (fun fe h' x Gf=>?_)
 have q0:=Holds.top (i:=0) x rfl
 have fr:aM [] hc h':=(aM.refl [] hc).over x
 replace g1:=g1.over x
 replace g3:=g3.over x
 (((with_reducible refine dv ?_ ?_ ?_);(· exact (by (simp only [dx]);have:=z.size;omega));(· exact x));replace z:=z.an x (by omega);rw [ao h'])
 simp only [syms,aa,seval,me,bl]
 ((with_reducible refine ⟨z.cN.lay _ _,?_⟩);(intro _ h' zz x _);(simp only [el,List.append_nil] at x);(replace q0:=q0.over x);(replace fr:=fr.over x);(replace g1:=g1.over x);(replace g3:=g3.over x);(replace z:=zz);(clear zz);rw [ao h'])
 simp only [syms,aa,seval,me,bl]
 refine iS (fun aP=>?_) (fun heq=>?_)
 ·skip
  simp only [syms,aa,seval,me,bl]
  exact hK _ _ _ (z.aw _ _ (by omega)) ((fr.mono (fun _ h=>nomatch h)).trans (aM.lay _ _ _ []) (fun _ h=>nomatch h)) (sd.dq (fr.trans (aM.lay _ _ _ []) (fun _ h=>nomatch h))).more
 simp only [syms,aa,seval,me]
 with_reducible first|refine dH (by simp only [me]) (z.aw _ _ (by omega)) ?_
 simp only [syms,aa,seval,me,cy,cZ,g1.lay,Kb,ej]
 refine CW rows s p0 p1 p2 p5 p6 nv q b S2 NB _ (g1.on _ _) (g3.lay _ _) _ (fun i r hr hw h' x=>?_) (fun lR h' x=>?_)
 rotate_left
 ·exfalso
  have hm:=Gf heq
  rw [← e4] at hm
  obtain ⟨y,hy,e⟩:=List.mem_map.1 hm
  exact lR y hy e
 (((with_reducible refine dv ?_ ?_ ?_);(· exact (by (simp only [dx]);have:=z.size;omega));(· exact x));replace z:=z.an x (by omega);(replace q0:=q0.over x);(replace fr:=fr.over x);(replace g1:=g1.over x);(replace g3:=g3.over x);rw [ao h'])
 obtain rfl:=hw
 obtain ⟨gj,l,lS,iq,aR⟩:=e5 r (List.mem_of_getElem? hr)
 have yx:Sl aJ.atom hc r.v l:=(lS.mono (rn [NB] _)).mono ik
 have iK:=(List.getElem?_eq_some_iff.1 hr).1
 have gZ:=g3.ix (kd:=.i64) (i:=i) Sk Va iK
 have ph:∀ (h:Heap) (K:Value→Heap→Prop),aW (some r.v) h K=K r.v h:=fun _ _=>rfl
 have YB:=fun (hh:Heap)=>yx.bc bL hh
 simp only [syms,aa,seval,me,bl,gZ,cy]
 ((with_reducible refine ⟨z.cN.lay _ _,?_⟩);(intro _ h' zz x _);(simp only [el,List.append_nil] at x);(replace q0:=q0.over x);(replace fr:=fr.over x);(replace g1:=g1.over x);(replace g3:=g3.over x);(replace z:=zz);(clear zz);rw [ao h'])
 simp only [syms,aa,seval,me,cy]
 have c1:=g3.gF (j:=1) hr (by omega) rfl
 with_reducible first|refine dH (by simp only [me]) (z.aw _ _ (by omega)) ?_
 simp only [syms,aa,seval,me,cy,c1,ph,q0.lay,ec,↓eM,eh,dC]
 refine R4 l a r.v _ ((yx.mono fr.all).lay _ _) (by omega) aR ha _ (fun h' x=>?_)
 clear c1
 (((with_reducible refine dv ?_ ?_ ?_);(· exact (by (simp only [dx]);have:=z.size;omega));(· exact x));replace z:=z.an x (by omega);(replace q0:=q0.over x);(replace fr:=fr.over x);(replace g1:=g1.over x);(replace g3:=g3.over x);rw [ao h'])
 simp only [syms,aa,seval,me]
 cases hh:bC l a
 ·skip
  (with_reducible_and_instances apply b8);(· rfl)
  simp only [syms,aa,seval,me,Bool.not_false]
  ((with_reducible refine ⟨z.cN.lay _ _,?_⟩);(intro _ h' zz x _);(simp only [el,List.append_nil] at x);(replace q0:=q0.over x);(replace fr:=fr.over x);(replace g1:=g1.over x);(replace g3:=g3.over x);(replace z:=zz);(clear zz);rw [ao h'])
  simp only [syms,aa,seval,me,bl]
  exact hK _ _ _ (z.aw _ _ (by omega)) ((fr.mono (fun _ h=>nomatch h)).trans (aM.lay _ _ _ []) (fun _ h=>nomatch h)) (sd.dq (fr.trans (aM.lay _ _ _ []) (fun _ h=>nomatch h))).more
 (with_reducible_and_instances apply b8);(· rfl)
 simp only [syms,aa,seval,me,Bool.not_true]
 ((with_reducible refine ⟨z.cN.lay _ _,?_⟩);(intro _ h' zz x _);(simp only [el,List.append_nil] at x);(replace q0:=q0.over x);(replace fr:=fr.over x);(replace g1:=g1.over x);(replace g3:=g3.over x);(replace z:=zz);(clear zz);rw [ao h'])
 simp only [syms,aa,seval,me]
 have c1:=g3.gF (j:=1) hr (by omega) rfl
 with_reducible first|refine dH (by simp only [me]) (z.aw _ _ (by omega)) ?_
 simp only [syms,aa,seval,me,cy,c1,ph,q0.lay,ec,↓eM,eh,dC]
 have NJ:=fr.size
 refine ztn l a r.v _ ((yx.mono fr.all).lay _ _) (by omega) aR ha _ (fun h' w A x ho=>?_)
 clear c1
 have xm:Sl aJ.atom (aI (NB::X) h') w (eW a (eg l)):=ho.aI (fun _ _ _ _ q=>q) (by decide) (fun B hB=>by
  rw [bm]
  rcases List.mem_cons.1 hB with rfl|hB
  ·omega
  ·have:=Dy B hB;omega)
 (((with_reducible refine dv ?_ ?_ ?_);(· exact (by (simp only [dx]);have:=z.size;omega));(· exact x));replace z:=z.an x (by omega);(replace q0:=q0.over x);(replace fr:=fr.over x);(replace g1:=g1.over x);(replace g3:=g3.over x);rw [ao h'])
 obtain ⟨wa,wn,wc,rfl⟩:=uI xm
 rw [hh]
 simp only [syms,aa,seval,me,gP,dP,gO,cy]
 have acd:=fr.size
 refine cJ.store (off:=1) (y:=(⟨r.who,.slice wa wn wc,r.n⟩:lH)) R2 g3 hr CZ (by omega) rfl rfl rfl (by rfl) (fun h3 g4 c4=>?_)
 have z3:=z.cM c4 e8 (by omega)
 have lC:=c4.size
 rw [bm] at lC
 refine yU (by kernel_rfl) z3.low (by rw [bm];exact lC) ?_
 have ju:aM [NB] hc h3:=(fr.mono (D':=[NB]) (fun _ h=>nomatch h)).iJ c4 (.inl (by simp))
 have oS:aM [NB] h' h3:=(aM.refl [NB] h').iJ c4 (.inl (by simp))
 clear z fr g3 g1 q0
 have z:=z3
 rw [ao h3]
 simp only [syms,aa,seval,me]
 ((with_reducible refine ⟨z.cN.lay _ _,?_⟩);(intro _ h' zz x _);(simp only [el,List.append_nil] at x);(replace g4:=g4.over x);(replace ju:=ju.over x);(replace oS:=oS.over x);(replace z:=zz);(clear zz);rw [ao h'])
 have tZ:(rows.set i (⟨r.who,.slice wa wn wc,r.n⟩:lH))[i]? = some ⟨r.who,.slice wa wn wc,r.n⟩:=by rw [List.getElem?_set,if_pos rfl,if_pos iK]
 have c2:=g4.gF (j:=2) tZ (by omega) rfl
 have BK:IntKind.u64.wrap ((r.n:Int)+1)=((r.n+1:Nat):Int):=Cs (by omega)
 simp only [syms,aa,seval,me,cy,c2,bl,BK]
 refine cJ.store (off:=2) (y:=(⟨r.who,.slice wa wn wc,r.n+1⟩:lH)) R2 g4 tZ OU (by omega) rfl rfl rfl (by rfl) (fun h5 g5 c5=>?_)
 have Ye:=ju.size
 have z5:=z.cM c5 e8 (by omega)
 have ni:aM [NB] hc h5:=ju.iJ c5 (.inl (by simp))
 have FP:aM [NB] _ h5:=oS.iJ c5 (.inl (by simp))
 rw [List.set_set] at g5
 clear z g4 ju oS c2
 have z:=z5
 rw [ao h5]
 simp only [syms,aa,seval,me,gP,gO,bl]
 have qf:=ni.trans (aM.lay h5 [] h5.low []) (fun _ h=>nomatch h)
 have FR:=FP.trans (aM.lay h5 [] h5.low []) (fun _ h=>nomatch h)
 have rM:(eW a (eg l)).length≤k+1:=Nat.le_trans (List.length_filter_le _ _) (by have:=CC l;omega)
 exact hK _ _ _ (z.aw _ _ (by omega)) qf (fC.turn e1 e2 e4 e5 e6 e7 e8 e9 hr rfl qf yl (g5.lay _ _) (by omega) (xm.mono ((FR.mono (D':=NB::X) (by simp)).inc (fun B hB=>.inl hB))) rM (fun y hy=>JI aR y (List.mem_filter.1 hy).1))
theorem zvD {h:Heap} {A:Nat} {c1 c2:List Value} (f:Holds h A (.row c1 124 false)) (g:Holds h A (.row c2 28 false)):False:=by
 have e:=f.get.symm.trans g.get
 simp only [Option.some.injEq,bh.row.injEq] at e
 exact absurd e.2.1 (by decide)
theorem vM (d:au) (p0 p1 p2 p5 p6:Value) (q b:Int) (h:Heap) (bf:(cX p0 p1 p2 p5 p6 q b).all Am.one=true) (hd:dD h p0 p1 p2 p5 p6 d) (hn:d.aF.length≤70) (kR:d.ah.length≤70) (X:List Nat) (hX:∀ B∈X,B < h.size) (hdX:dD (aI X h) p0 p1 p2 p5 p6 d) (K:Value→Heap→Prop)
 (qh:∀ c h',c≠0→Ext h h'→K (.tuple #[.pointer none,.int .i64 c]) h')
 (jU:∀ h' S2 NB,Ext h h'→fC h.size (aI X h') S2 NB d 0→K (.tuple #[.pointer (some ⟨S2,0,none⟩),.int .i64 0]) h'):Ok Tryz.prog ae ov 31 [gi p0 p1 p2 p5 p6 q b] h K:=by
 obtain ⟨a0,n0,c0,rfl⟩:=uI hd.s0
 obtain ⟨a1,n1,c1,rfl⟩:=uI hd.s1
 obtain ⟨a2,n2,c2,rfl⟩:=uI hd.s2
 obtain ⟨a5,n5,c5,rfl⟩:=uI hd.s5
 obtain ⟨a6,n6,c6,rfl⟩:=uI hd.s6
 rw [ao h]
 have z:=Ext.refl h
 have cz:=fun (hh:Heap)=>hd.s0.bc cY hh
 have hle:=hd.s0.le
 refine Ok.aH rfl zDm (br Vt) rfl (m:=37) rfl ?_
 simp only [syms,aa,seval,sD,ek,↓fm,eX,eG]
 refine zhI d _ _ _ _ _ q b _ bf (hd.lay _ _) hn _ (fun c h' x=>?_)
 have q0:=Holds.top (i:=0) x rfl
 (replace z:=z.an x (by omega);rw [ao h'])
 obtain ⟨A0,dZ⟩:∃ A0,A0=h.size+0:=⟨_,rfl⟩
 rw [← dZ] at q0
 rw [← dZ]
 simp only [syms,aa,seval,sD,bl]
 refine iS (fun aP=>?_) (fun heq=>?_)
 ·simp only [syms,aa,seval,sD,bl]
  exact qh _ _ aP (z.aw _ _ (by omega))
 have aqL:=q0.lt
 subst heq
 have hz:=z.size
 simp only [syms,aa,seval,sD,q0.lay,↓fm,eX,eG,zLu,j9]
 obtain ⟨S2,yn⟩:∃ S2,S2=h'.size+0:=⟨_,rfl⟩
 refine ml (fun h' x hq=>?_)
 have q1:=hq 0 _ rfl
 clear hq
 (replace z:=z.an x (by omega);(replace q0:=q0.over x);rw [ao h'])
 rw [← yn] at q1
 rw [← yn]
 have aq5:=q1.lt
 have MY:A0≠S2:=by omega
 obtain ⟨I1,aS⟩:∃ I:Nat→Env→Heap→Prop,I=(fun n e h'=>∃ (i:Nat) (NB:Nat) (nv:Value) (rows:List lH) (h1:Heap),h'=h1.lay [] h1.low∧Ext h h1∧(n=d.ah.length - i∧i≤d.ah.length∧Holds h1 A0 (.row (cX (.slice a0 n0 c0) (.slice a1 n1 c1) (.slice a2 n2 c2) (.slice a5 n5 c5) (.slice a6 n6 c6) q b) 28 false)∧Holds h1 S2 (.row (C7 (.slice a0 n0 c0) (.slice a1 n1 c1) (.slice a2 n2 c2) (.slice a5 n5 c5) (.slice a6 n6 c6) q b nv) 122 false)∧cJ 3 lH.cells h1 124 NB nv rows∧rows.map lH.who=d.ah.take i∧(∀ x∈rows,x.v=.slice none 0 0∧x.n=0)∧h.size≤NB∧NB < h1.size∧NB≠S2∧(NB=A0→nv=.slice none 0 0))∧∃ J:Nat→Value,e=(J 0::.pointer (some ⟨A0,0,none⟩)::jr J 2 3 (.pointer (some ⟨S2,0,none⟩)::.int .i64 i::jr J 7 31 ([])))):=⟨_,rfl⟩
 refine dj I1 _ (by rw [aS];exact ⟨0,A0,.slice none 0 0,[],_,rfl,z,⟨rfl,by omega,q0,q1,cJ.nil,by simp,by simp,by omega,q0.lt,MY,fun _=>rfl⟩,aE (by kernel_rfl)⟩) ?_
 intro n e h' aL
 rw [aS] at aL
 obtain ⟨i,NB,nv,rows,bH,rfl,z,hinv,J,rfl⟩:=aL
 clear q0 q1
 obtain ⟨rfl,hi,q0,q1,f,uk,aB,A7,A8,A4,hNA⟩:=hinv
 have gl:=eb i (by omega)
 have qC:=z.size
 have kD:rows.length=i:=by
  have:=congrArg List.length uk
  rw [List.length_map,List.length_take] at this
  omega
 simp only [syms,aa,seval,sD,q0.lay,dY,dP,cz]
 refine bt (fun aR=>?_) (fun kQ=>?_)
 ·obtain ⟨r,hr,bz⟩:=eU (l:=d.ah) (i:=i) (by omega)
  simp only [syms,aa,seval,sD]
  with_reducible first|refine dH (by simp only [sD]) (z.aw _ _ (by omega)) ?_
  obtain ⟨va,vn,vc,rfl⟩:=f.shape
  simp only [syms,aa,seval,sD,cy,q1.lay,Kb,q0.lay,dY,dP]
  repeat' ((first|with_reducible_and_instances refine qV (hd.s0.mono z.inc) cY oq (by omega) hr (fun p hp=>?_)|with_reducible_and_instances refine hY hp kc ?_) <;> simp only [syms,aa,seval,sD,cy,q1.lay,Kb,q0.lay,dY,dP,zLs,j9])
  refine xQ (by omega) (by omega) ?_
  simp only [syms,aa,seval,sD,lG,zGL,dP]
  refine cJ.app (x:=(⟨r,.slice none 0 0,0⟩:lH)) (j:=0) R2 rfl (by decide) Sk zkf f rfl (by omega) (by omega) (fun v3 h3 N3 f3 XR D9 qZ=>?_)
  have c3:=qZ A8
  have z3:=z.cM c3 A7 (by omega)
  have lC:=c3.size
  rw [bm] at lC
  simp only [List.length_cons,List.length_nil] at lC
  refine yU (by kernel_rfl) z3.low (by rw [bm];simp only [List.length_cons,List.length_nil];omega) ?_
  have q13:=q1.bE c3 A4.symm
  have uZ:Holds h3 A0 (.row (cX (.slice a0 n0 c0) (.slice a1 n1 c1) (.slice a2 n2 c2) (.slice a5 n5 c5) (.slice a6 n6 c6) q b) 28 false):=by
   by_cases hh:NB=A0
   ·exact q0.over (D9 (hNA hh))
   ·exact q0.bE c3 (fun e=>hh e.symm)
  have aq2:N3 < h3.size:=f3.lt (by simp)
  have abz:N3≠A0:=fun e=>by
   rcases f3 with ⟨_,h0⟩|⟨qq,row,_,rV,_⟩
   ·simp at h0
   ·exact zvD rV (e ▸ uZ)
  have M9:N3≠S2:=fun e=>by
   rcases XR with ⟨e2,_⟩|e2
   ·exact A4 (e2 ▸ e)
   ·rw [bm] at e2
    have:=q1.lt
    omega
  have abA:h.size≤N3:=by
   rcases XR with ⟨e2,_⟩|e2
   ·omega
   ·rw [bm] at e2
    omega
  obtain ⟨xa,xn,xc,rfl⟩:=f3.shape
  clear z q0 q1 f D9 qZ
  have z:=z3
  rw [ao h3]
  simp only [syms,aa,seval,sD,dP,cy]
  refine HB (o:=7) q13 zGQ rfl rfl (by show 7+1≤8;decide) rfl (fun h4 Pn c4=>?_)
  replace Pn:Holds h4 S2 (.row (C7 (.slice a0 n0 c0) (.slice a1 n1 c1) (.slice a2 n2 c2) (.slice a5 n5 c5) (.slice a6 n6 c6) q b (.slice xa xn xc)) 122 false):=Pn
  have z4:=z.cM c4 (by omega) (by omega)
  have vp:=c4.size
  rw [bm] at vp
  refine yU (by kernel_rfl) z4.low (by rw [bm];exact vp) ?_
  have BX:=uZ.bE c4 MY
  have f4:=f3.bE c4 M9
  clear z
  have z:=z4
  rw [ao h4]
  simp only [syms,aa,seval,sD]
  ((with_reducible refine ⟨z.cN.lay _ _,?_⟩);(intro _ h' zz x _);(simp only [el,List.append_nil] at x);(replace BX:=BX.over x);(replace Pn:=Pn.over x);(replace f4:=f4.over x);(replace z:=zz);(clear zz);rw [ao h'])
  simp only [syms,aa,seval,sD]
  rw [gl]
  (rw [aS];with_reducible refine cB (m:=_) ?_ ⟨i+1,N3,.slice xa xn xc,rows++[⟨r,.slice none 0 0,0⟩],_,rfl,z,⟨rfl,by omega,BX,Pn,f4,by rw [List.map_append,uk,List.take_add_one,show d.ah[i]? = some r from bz];simp,fun x hx=>(List.mem_append.1 hx).elim (aB x) (fun e=>by rw [List.mem_singleton.1 e];exact ⟨rfl,rfl⟩),abA,f4.lt (by simp),M9,fun e=>absurd e abz⟩,aE (by kernel_rfl)⟩;omega)
 ·rw [List.take_of_length_le (by omega)] at uk
  have hzz:=z.size
  have Nc:S2 ∉ X:=fun hx=>by have:=hX _ hx;omega
  have yl:NB ∉ X:=fun hx=>by have:=hX _ hx;omega
  simp only [syms,aa,seval,sD,cy,bl]
  refine jU _ S2 NB (z.aw _ _ (by omega)) ⟨.slice a0 n0 c0,.slice a1 n1 c1,.slice a2 n2 c2,.slice a5 n5 c5,.slice a6 n6 c6,q,b,nv,rows,(q1.on _ _).mU Nc,hdX.mono (zn3 (((z.bX []).trans (aM.lay _ _ _ []) (fun _ h=>nomatch h)).kill X).all (fun B hB=>by rw [List.mem_singleton.1 hB,iG];exact A7)),(f.lay _ _).hold (fun _ q=>q.mU yl),uk,fun x hx=>?_,A4.symm,by omega,A7,by rw [iG,bm];omega⟩
  obtain ⟨e1,e2⟩:=aB x hx
  rw [e1,e2]
  exact ⟨Nat.le_refl _,[],.nil,Nat.le_refl _,by simp⟩
end Go.Proofs.YtkgojconmeeegaaGreatDoor

/- Frames beside blocks that another thing turns. No condition. -/
import Derived.Test.YtkgojconmeeegaaGreatDoorG26
set_option linter.unusedSimpArgs false
set_option linter.unusedVariables false
set_option maxRecDepth 100000
set_option maxHeartbeats 0
namespace Go.Am
theorem FH:∀ (D X:List Nat) (h:Heap),aI (D++X) h=aI D (aI X h)
 | [],_,_=>rfl
 |A::D,X,h=>by
  show kill A (aI (D++X) h)=kill A (aI D (aI X h))
  rw [FH D X h]
section
variable {D E X:List Nat} {a b h:Heap} {B:Nat} {k:bh}
theorem aM.kill (f:aM D a b) (X:List Nat):aM D (aI X a) (aI X b):=by
 refine ⟨by rw [iG,iG];exact f.size,fun B hB hn=>?_⟩
 rw [iG] at hB
 by_cases hx:B∈X
 ·rw [yT hx hB,yT hx (Nat.lt_of_lt_of_le hB f.size)]
 ·rw [oz hx,oz hx]
  exact f.get B hB hn
theorem aM.dead (X:List Nat) (h:Heap):aM X h (aI X h):=⟨by rw [iG];exact Nat.le_refl _,fun B _ hn=>oz hn⟩
theorem aM.j8 (X:List Nat) (h:Heap):aM X (aI X h) h:=⟨by rw [iG];exact Nat.le_refl _,fun B _ hn=>(oz hn).symm⟩
theorem Holds.alive (q:Holds (aI X h) B k) (hk:k≠.dead):B ∉ X:=fun hx=>by
 have h1:=q.lt
 rw [iG] at h1
 have h2:=q.get
 rw [yT hx h1] at h2
 cases h2
 exact hk rfl
theorem Holds.mU (q:Holds h B k) (hB:B ∉ X):Holds (aI X h) B k:=q.bX (aM.dead X h) hB
theorem OW (E X:List Nat) (h:Heap):cn (aI E (aI X h)) (aI E h):=by
 refine ⟨by rw [iG,iG,iG];exact Nat.le_refl _,fun B hB hd=>?_⟩
 rw [iG,iG] at hB
 have hE:B ∉ E:=fun hh=>hd (yT hh (by rw [iG];exact hB))
 have hX:B ∉ X:=fun hh=>hd (by rw [oz hE];exact yT hh hB)
 rw [oz hE,oz hE,oz hX]
end
end Go.Am
namespace Go.Proofs.YtkgojconmeeegaaGreatDoor
open Go.Am
noncomputable def Ll:=bA Tryz.f181
noncomputable def Qy:=PLift.up (by have c:=bB Ll Tryz.f181;simp only [aK,Tryz.f181,seval] at c;exact nd c <| @zMF)
theorem Mu:type_of% Qy.down:=Qy.down
noncomputable def LN:=bA Tryz.f230
noncomputable def Q2:=PLift.up (by have c:=bB LN Tryz.f230;simp only [aK,Tryz.f230,seval] at c;exact nd c <| @zM9)
theorem MD:type_of% Q2.down:=Q2.down
noncomputable def Ly:=bA Tryz.f209
noncomputable def QP:=PLift.up (by have c:=bB Ly Tryz.f209;simp only [aK,Tryz.f209,seval] at c;exact nd c <| @zMW)
theorem Mz:type_of% QP.down:=QP.down
noncomputable def Lm:=bA Tryz.f182
noncomputable def Qz:=PLift.up (by have c:=bB Lm Tryz.f182;simp only [aK,Tryz.f182,seval] at c;exact nd c <| @zMG)
theorem rI:type_of% Qz.down:=Qz.down
noncomputable def Lk:=bA Tryz.f180
noncomputable def Qx:=PLift.up (by have c:=bB Lk Tryz.f180;simp only [aK,Tryz.f180,seval] at c;exact nd c <| nd @AQ <| @zME)
theorem kr:type_of% Qx.down:=Qx.down
noncomputable def Lz:=bA Tryz.f210
noncomputable def QQ:=PLift.up (by have c:=bB Lz Tryz.f210;simp only [aK,Tryz.f210,seval] at c;exact nd c <| @zMX)
theorem MA:type_of% QQ.down:=QQ.down
noncomputable def Ln:=bA Tryz.f183
noncomputable def QA:=PLift.up (by have c:=bB Ln Tryz.f183;simp only [aK,Tryz.f183,seval] at c;exact nd c <| @zMH)
theorem zB:type_of% QA.down:=QA.down
noncomputable def KU:=bA Tryz.f141
noncomputable def P3:=PLift.up (by have c:=bB KU Tryz.f141;simp only [aK,Tryz.f141,seval] at c;exact nd c <| @zMe)
theorem vU:type_of% P3.down:=P3.down
noncomputable def KV:=bA Tryz.f142
noncomputable def P4:=PLift.up (by have c:=bB KV Tryz.f142;simp only [aK,Tryz.f142,seval] at c;exact nd c <| @zMf)
theorem Fh:type_of% P4.down:=P4.down
noncomputable def LI:=bA Tryz.f221
noncomputable def QX:=PLift.up (by have c:=bB LI Tryz.f221;simp only [aK,Tryz.f221,seval] at c;exact nd c <| @zM4)
theorem vX:type_of% QX.down:=QX.down
noncomputable def LP:=bA Tryz.f232
noncomputable def Q4:=PLift.up (by have c:=bB LP Tryz.f232;simp only [aK,Tryz.f232,seval] at c;exact nd c <| @zNb)
theorem vZ:type_of% Q4.down:=Q4.down
noncomputable def LH:=bA Tryz.f220
noncomputable def QW:=PLift.up (by have c:=bB LH Tryz.f220;simp only [aK,Tryz.f220,seval] at c;exact nd c <| @zM3)
theorem Fp:type_of% QW.down:=QW.down
noncomputable def LO:=bA Tryz.f231
noncomputable def Q3:=PLift.up (by have c:=bB LO Tryz.f231;simp only [aK,Tryz.f231,seval] at c;exact nd c <| @zNa)
theorem vY:type_of% Q3.down:=Q3.down
noncomputable def Yp:=bA Tryz.f44
noncomputable def ZV:=PLift.up (by have c:=bB Yp Tryz.f44;simp only [aK,Tryz.f44,seval] at c;exact nd c <| @aaE)
theorem Is:type_of% ZV.down:=ZV.down
noncomputable def Ys:=bA Tryz.f77
noncomputable def yG:=PLift.up (by have c:=bB Ys Tryz.f77;simp only [aK,Tryz.f77,seval] at c;exact nd c <| nd @j5 <| nd @gn <| nd @j7 <| @aa4)
theorem zJ:type_of% yG.down:=yG.down
noncomputable def E7:=bA Tryz.f198
noncomputable def QN:=PLift.up (by have c:=bB E7 Tryz.f198;simp only [aK,Tryz.f198,seval] at c;exact nd c <| nd @Kg <| nd @HW <| nd @G9 <| nd @gn <| @zMU)
theorem zD:type_of% QN.down:=QN.down
noncomputable def Le:=bA Tryz.f162
noncomputable def Qp:=PLift.up (by have c:=bB Le Tryz.f162;simp only [aK,Tryz.f162,seval] at c;exact nd c <| nd @Fc <| nd @vI <| nd @HX <| nd @EC <| nd @Da <| nd @XP <| nd @mi <| nd @qI <| nd @ct <| nd @gn <| nd @Yk <| @zMy)
theorem mv:type_of% Qp.down:=Qp.down
noncomputable def Lw:=bA Tryz.f197
noncomputable def QM:=PLift.up (by have c:=bB Lw Tryz.f197;simp only [aK,Tryz.f197,seval] at c;exact nd c <| nd @qI <| @zMT)
theorem Fm:type_of% QM.down:=QM.down
noncomputable def Lq:=bA Tryz.f186
noncomputable def QD:=PLift.up (by have c:=bB Lq Tryz.f186;simp only [aK,Tryz.f186,seval] at c;exact nd c <| nd @ct <| @zMK)
theorem Mx:type_of% QD.down:=QD.down
noncomputable def EZ:=bA Tryz.f120
noncomputable def PT:=PLift.up (by have c:=bB EZ Tryz.f120;simp only [aK,Tryz.f120,seval] at c;exact nd c <| nd @Fc <| nd @tA <| nd @Kg <| nd @HW <| nd @XP <| nd @qI <| nd @ct <| nd @G9 <| nd @gn <| nd @Yk <| @zL8)
theorem gS:type_of% PT.down:=PT.down
theorem zvP (l:List ByteArray) (v:Value) (a:ByteArray) (h:Heap) (hl:Sl aJ.str h v l) (hs:l.length≤1000) (K:Value→Heap→Prop)
 (hk:∀ h',Ext h h'→K (.int .i64 (j4 (fun x=>decide (a=x)) l)) h'):Ok Tryz.prog ae ov 77 [v,.string a] h K:=by
 rw [ao h]
 have z:=Ext.refl h
 refine Ok.aH rfl zr6 (br Ys) rfl (m:=17) rfl ?_
 simp only [syms,aa,seval,zJ]
 repeat' ((with_reducible_and_instances refine HH hl cY ?_) <;> simp only [syms,aa,seval,zJ])
 obtain ⟨I1,aS⟩:∃ I:Nat→Env→Heap→Prop,I=(fun n e h'=>∃ (i:Nat) (h1:Heap),h'=h1.lay [] h1.low∧Ext h h1∧(n=l.length - i∧i≤l.length∧(∀ x∈l.take i,decide (a=x)=false))∧∃ J:Nat→Value,e=(v::.string a::jr J 2 5 (.int .i64 l.length::.int .i64 i::jr J 9 10 ([])))):=⟨_,rfl⟩
 refine dj I1 _ (by rw [aS];exact ⟨0,_,rfl,z,⟨rfl,by omega,by simp⟩,aE (by kernel_rfl)⟩) ?_
 intro n e h' aL
 rw [aS] at aL
 obtain ⟨i,bH,rfl,z,hinv,J,rfl⟩:=aL
 obtain ⟨rfl,hi,aB⟩:=hinv
 have hw:=eb i (by omega)
 simp only [syms,aa,seval,zJ]
 refine bt (fun aR=>?_) (fun aR=>?_)
 rotate_left
 ·simp only [syms,aa,seval,zJ]
  rw [List.take_of_length_le (by omega)] at aB
  have:=JX aB
  rw [this] at hk
  exact hk _ (z.aw _ _ (by omega))
 obtain ⟨r,hr,bz⟩:=eU (l:=l) (i:=i) (by omega)
 repeat' (first|simp only [syms,aa,seval,zJ]|((with_reducible apply bt) <;> intro _)|with_reducible_and_instances refine qV (hl.mono z.inc) cY oq (by omega) hr (fun p hp=>?_)|with_reducible_and_instances refine hY hp kc ?_)
 ·have hx:a=r:=by assumption
  have:=JQ (p:=fun x=>decide (a=x)) bz aB (decide_eq_true hx)
  rw [this] at hk
  exact hk _ (z.aw _ _ (by omega))
 ·have hx:¬ a=r:=by assumption
  rw [hw]
  (rw [aS];with_reducible refine cB (m:=_) ?_ ⟨i+1,_,rfl,z,⟨rfl,by omega,oC (i:=i) (P:=fun x:ByteArray=>decide (a=x)=false) bz aB (decide_eq_false hx)⟩,aE (by kernel_rfl)⟩;omega)
theorem zy5 (l:List ByteArray) (a:ByteArray):decide (j4 (fun x=>decide (a=x)) l ≥ 0)=jw l a:=by
 rw [Xz]
 unfold jw
 congr 1
 funext x
 exact decide_eq_decide.2 ⟨Eq.symm,Eq.symm⟩
theorem zif (l:List ByteArray) (v:Value) (a:ByteArray) (h:Heap) (hl:Sl aJ.str h v l) (hs:l.length≤1000) (K:Value→Heap→Prop)
 (hk:∀ h',Ext h h'→K (.bool (jw l a)) h'):Ok Tryz.prog ae ov 44 [v,.string a] h K:=by
 refine Ok.aH rfl zr3 (br Yp) rfl (m:=7) rfl ?_
 simp only [syms,aa,seval,Is]
 refine zvP l v a h hl hs _ (fun h' x=>?_)
 simp only [syms,aa,seval,Is,zy5]
 refine SI (fun hh=>?_) (fun hh=>?_)
 all_goals
  simp only [syms,aa,seval,Is]
  rw [hh] at hk
  exact hk _ x
theorem zmx (l:List ByteArray) (who:ByteArray) (p0 p1 p2 p5 p6:Value) (q b:Int) (h:Heap) (hl:Sl aJ.str h p0 l) (hs:l.length≤1000) (K:Value→Heap→Prop) (hk:∀ h',Ext h h'→K (.bool (jw l who)) h'):Ok Tryz.prog ae ov 45 [gi p0 p1 p2 p5 p6 q b,.string who] h K:=by
 rw [ao h]
 have z:=Ext.refl h
 have bx:=bY p0
 refine Ok.aH rfl zr4 (br Yq) rfl (m:=7) rfl ?_
 repeat' (simp only [syms,aa,seval,SR,ek,dY,bx])
 refine zif l _ who _ (hl.lay _ _) hs _ (fun h' x=>?_)
 (replace z:=z.an x (by omega);rw [ao h'])
 repeat' (simp only [syms,aa,seval,SR])
 exact hk _ (z.aw _ _ (by omega))
theorem zkr (l:List aZ) (v fv:Value) (pr:aZ→Bool) (h:Heap) (hl:Sl aJ.clear h v l) (hs:l.length≤1000) (Aq:∀ (x:aZ) (b:Value) (hc:Heap) (K:Value→Heap→Prop),Ext h hc→(∀ h',Ext hc h'→K (.bool (pr x)) h')→nW Tryz.prog ae ov [.agg ⟨[.string x.who,b]⟩] hc K fv) (K:Value→Heap→Prop)
 (hk:∀ h',Ext h h'→K (.int .i64 (j4 pr l)) h'):Ok Tryz.prog ae ov 46 [v,fv] h K:=by
 rw [ao h]
 have z:=Ext.refl h
 refine Ok.aH rfl zDz (br VG) rfl (m:=17) rfl ?_
 simp only [syms,aa,seval,It]
 repeat' ((with_reducible_and_instances refine HH hl jT ?_) <;> simp only [syms,aa,seval,It])
 obtain ⟨I1,aS⟩:∃ I:Nat→Env→Heap→Prop,I=(fun n e h'=>∃ (i:Nat) (h1:Heap),h'=h1.lay [] h1.low∧Ext h h1∧(n=l.length - i∧i≤l.length∧∀ x∈l.take i,pr x=false)∧∃ J:Nat→Value,e=(v::fv::jr J 2 5 (.int .i64 l.length::.int .i64 i::jr J 9 10 ([])))):=⟨_,rfl⟩
 refine dj I1 _ (by rw [aS];exact ⟨0,_,rfl,z,⟨rfl,by omega,by simp⟩,aE (by kernel_rfl)⟩) ?_
 intro n e h' aL
 rw [aS] at aL
 obtain ⟨i,bH,rfl,z,hinv,J,rfl⟩:=aL
 obtain ⟨rfl,hi,aB⟩:=hinv
 have hw:=eb i (by omega)
 repeat' (first|simp only [syms,aa,seval,It]|((with_reducible apply bt) <;> intro _))
 rotate_left
 ·rw [List.take_of_length_le (by omega)] at aB
  have:=JX aB
  rw [this] at hk
  exact hk _ (z.aw _ _ (by omega))
 obtain ⟨r,hr,bz⟩:=eU (l:=l) (i:=i) (by assumption)
 repeat' ((first|with_reducible_and_instances refine Df (hl.mono z.inc) jT jD (by omega) hr (fun p b hb hp=>?_)|with_reducible_and_instances refine Hc hp tu jD ?_) <;> simp only [syms,aa,seval,It])
 refine Aq _ _ _ _ (z.aw _ _ (by omega)) (fun h' x=>?_)
 (replace z:=z.an x (by omega);rw [ao h'])
 cases hx:pr r
 rotate_left
 ·simp only [syms,aa,seval,It]
  have:=JQ bz aB hx
  rw [this] at hk
  exact hk _ (z.aw _ _ (by omega))
 ·simp only [syms,aa,seval,It]
  rw [hw]
  (rw [aS];with_reducible refine cB (m:=_) ?_ ⟨i+1,_,rfl,z,⟨rfl,by omega,oC (i:=i) (P:=fun x:aZ=>pr x=false) bz aB hx⟩,aE (by kernel_rfl)⟩;omega)
theorem zqx (who:ByteArray) (x:aZ) (b:Value) (A:Nat) (h:Heap) (q0:Holds h A (.row [.string who] 9 false)) (K:Value→Heap→Prop)
 (hk:∀ h',Ext h h'→K (.bool (decide (x.who=who))) h'):Ok Tryz.prog ae ov 47 [.agg ⟨[.string x.who,b]⟩,.pointer (some ⟨A,0,none⟩)] h K:=by
 rw [ao h]
 have z:=Ext.refl h
 refine Ok.aH rfl zDA (br VH) rfl (m:=6) rfl ?_
 simp only [syms,aa,seval,MG]
 repeat' ((first|((with_reducible first|apply bt|apply nX|apply iS|apply H3|apply UR) <;> intro _)|with_reducible_and_instances refine Df (hl.mono z.inc) jT jD (by omega) hr (fun p b hb hp=>?_)|with_reducible_and_instances refine Hc hp tu jD ?_) <;> simp only [syms,aa,seval,MG,q0.lay])
 simp only [syms,aa,seval,MG,q0.lay]
 refine bt (fun hh=>?_) (fun hh=>?_)
 ·simp only [syms,aa,seval,MG]
  rw [decide_eq_true hh] at hk
  exact hk _ (z.aw _ _ (by omega))
 ·simp only [syms,aa,seval,MG]
  rw [decide_eq_false hh] at hk
  exact hk _ (z.aw _ _ (by omega))
theorem ad2:pU ae 22 22=true:=by kernel_rfl
def rD (h h':Heap) (e:TypeId) (w:Value) (l:List ByteArray):Prop:=(w=.slice none 0 0∧l=[])∨∃ A,h.size≤A∧l.length≤1000∧fw h' A e w l
theorem rD.sl {h h':Heap} {e:TypeId} {w:Value} {l:List ByteArray} (f:rD h h' e w l):Sl aJ.str h' w l:=by
 rcases f with ⟨rfl,rfl⟩|⟨A,_,hn,f⟩
 ·exact .nil
 ·exact f.sl hn
def eP (d:au) (who:ByteArray):List ByteArray:=if jw d.ah who=true then uG d who else []
theorem RG {d:au} {who:ByteArray} (h:∀ c∈d.aF,c.reads.length≤40):(eP d who).length≤41:=by
 unfold eP
 split
 ·rw [Rh]
  have:=zoI (who:=who) h
  omega
 ·simp
theorem TH (d:au) (who:ByteArray) (p0 p1 p2 p5 p6:Value) (q b:Int) (h:Heap) (bf:(cX p0 p1 p2 p5 p6 q b).all Am.one=true) (hd:dD h p0 p1 p2 p5 p6 d) (nj:d.ah.length≤1000) (ky:d.aF.length≤1000) (fS:vC d.ah d.aF) (kD:∀ c∈d.aF,c.reads.length≤40) (K:Value→Heap→Prop)
 (hk:∀ w h',Ext h h'→rD h h' 9 w (eP d who)→K w h'):Ok Tryz.prog ae ov 18 [gi p0 p1 p2 p5 p6 q b,.string who] h K:=by
 rw [ao h]
 have z:=Ext.refl h
 have jI:=bY p2
 refine Ok.aH rfl zDg (br Vn) rfl (m:=29) rfl ?_
 repeat' (simp only [syms,aa,seval,uU,ek,↓fm,eX,eG])
 refine zmx d.ah who _ _ _ _ _ _ _ _ (hd.s0.lay _ _) nj _ (fun h' x=>?_)
 have q0:=Holds.top (i:=0) x rfl
 have e0:=Holds.top (i:=1) x rfl
 (replace z:=z.an x (by omega);rw [ao h'])
 cases hh:jw d.ah who
 ·repeat' (first|simp only [syms,aa,seval,uU,Bool.not_false]|((with_reducible_and_instances apply b8);(· rfl)))
  refine hk _ _ (z.aw _ _ (by omega)) ?_
  unfold eP
  rw [hh]
  exact .inl ⟨rfl,rfl⟩
 have eR:eP d who=uG d who:=by unfold eP;rw [hh];rfl
 rw [eR] at hk
 have uq:=z.size
 repeat' (first|simp only [syms,aa,seval,uU,Bool.not_true,q0.lay,e0.lay,fN,jI]|((with_reducible_and_instances apply b8);(· rfl)))
 refine zkr d.aF _ _ (fun c=>decide (c.who=who)) _ ((hd.s2.mono z.inc).lay _ _) ky (fun x b hc K' xe jW=>?_) _ (fun h' x=>?_)
 ·rw [uC]
  exact zqx who x b _ hc (e0.over xe) K' jW
 have b0:=Holds.top (i:=0) x rfl
 (replace z:=z.an x (by omega);(replace q0:=q0.over x);(replace e0:=e0.over x);rw [ao h'])
 have nk:=zoI (who:=who) kD
 have sQ:=bY p2
 rcases zty d.aF who with ⟨i,c,gZ,vj,Bt⟩|⟨gZ,Bt⟩
 ·rw [gZ]
  obtain ⟨c',hc,wF⟩:=eU (l:=d.aF) (i:=i) (by have:=(List.getElem?_eq_some_iff.1 vj).1;omega)
  cases vj.symm.trans wF
  repeat' (first|simp only [syms,aa,seval,uU,q0.lay,fN,jI]|((with_reducible apply bt) <;> intro _))
  rotate_left
  ·exfalso;omega
  repeat' ((first|with_reducible_and_instances refine Df (hd.s2.mono z.inc) jT jD (by omega) hc (fun p b hb hp=>?_)|with_reducible_and_instances refine FJ hp Kh (fun q hq=>?_)|with_reducible_and_instances refine hY hq zp ?_) <;> simp only [syms,aa,seval,uU,q0.lay,fN,jI])
  have cV:c.reads.length≤900:=by have:=kD c (List.mem_of_getElem? vj);omega
  simp only [syms,aa,seval,uU,lG,ad2]
  obtain ⟨wv,h2,A',e1,e2,e3,e4⟩:=zE2 (T:=ae) (t:=22) cY Eo (by decide) (b0.on [] h'.low) (Sl.lay (by assumption) [] h'.low) cV
  rw [e1,ao h2]
  rw [← Bt] at e2
  have z2:=z.an e3 (by omega)
  have ln:=z.size
  have hA:h.size≤A':=by
   rcases e4 with e4|e4
   ·omega
   ·rw [e4,bm];omega
  clear e1 e3 e4
  rw [ao h2] at e2
  replace z2:=z2.aw [] h2.low (by omega)
  repeat' (simp only [syms,aa,seval,uU])
  obtain ⟨h3,s1,s2,s3⟩:=zkc e2 (by simp) (by simp only [List.length_cons];omega)
  have z3:=z2.step s3 hA
  refine Ok.over (g:=H5) rfl s1 ?_
  rw [ao h3]
  rw [ao h3] at s2 z3
  repeat' (simp only [syms,aa,seval,uU])
  obtain ⟨h4,c1,c2,c3⟩:=zi4 s2 (by have:=Rh d who;intro e;unfold uG at this;rw [e] at this;simp at this;omega) (by rw [Rn,List.length_cons];omega) (FF fS)
  have z4:=z3.step c3 hA
  refine Ok.over (g:=HO) rfl c1 ?_
  rw [ao h4]
  rw [ao h4] at c2 z4
  simp only [syms,aa,seval,uU]
  exact hk _ _ z4 (.inr ⟨_,by omega,by rw [Rh];omega,c2⟩)
 ·rw [gZ]
  have e2:=(show ∀ {N:Nat},Holds h' N (.row [.string who] 9 false)→fw h' N 9 (.slice (some ⟨N,0,none⟩) 1 1) (who::uN d.aF who) from fun q=>by rw [Bt];exact ⟨1,rfl,.inl ⟨by have:=zh;omega,Nat.le_refl _⟩,q⟩) b0
  have z2:=z.aw [] h'.low (by omega)
  rw [ao h'] at e2
  repeat' (simp only [syms,aa,seval,uU])
  obtain ⟨h3,s1,s2,s3⟩:=zkc e2 (by simp) (by simp only [List.length_cons];omega)
  have z3:=z2.step s3 (by omega)
  refine Ok.over (g:=H5) rfl s1 ?_
  rw [ao h3]
  rw [ao h3] at s2 z3
  repeat' (simp only [syms,aa,seval,uU])
  obtain ⟨h4,c1,c2,c3⟩:=zi4 s2 (by have:=Rh d who;intro e;unfold uG at this;rw [e] at this;simp at this;omega) (by rw [Rn,List.length_cons];omega) (FF fS)
  have z4:=z3.step c3 (by omega)
  refine Ok.over (g:=HO) rfl c1 ?_
  rw [ao h4]
  rw [ao h4] at c2 z4
  simp only [syms,aa,seval,uU]
  exact hk _ _ z4 (.inr ⟨_,by omega,by rw [Rh];omega,c2⟩)
theorem zGC (d:au) (who other:ByteArray) (p0 p1 p2 p5 p6:Value) (q b:Int) (h:Heap) (bf:(cX p0 p1 p2 p5 p6 q b).all Am.one=true) (hd:dD h p0 p1 p2 p5 p6 d) (nj:d.ah.length≤1000) (ky:d.aF.length≤1000) (fS:vC d.ah d.aF) (kD:∀ c∈d.aF,c.reads.length≤40) (K:Value→Heap→Prop)
 (hk:∀ h',Ext h h'→K (.bool (jw (eP d who) other)) h'):Ok Tryz.prog ae ov 14 [gi p0 p1 p2 p5 p6 q b,.string who,.string other] h K:=by
 rw [ao h]
 have z:=Ext.refl h
 refine Ok.aH rfl zDd (br Vk) rfl (m:=9) rfl ?_
 repeat' (simp only [syms,aa,seval,ZM,ek,↓fm,eX,eG])
 refine TH d who _ _ _ _ _ _ _ _ bf (hd.lay _ _) nj ky fS kD _ (fun w h' x hs=>?_)
 replace hs:=hs.sl
 (replace z:=z.an x (by omega);rw [ao h'])
 have eR:=bY w
 repeat' (simp only [syms,aa,seval,ZM,eR])
 refine zif (eP d who) w other _ (hs.lay _ _) (by have:=RG (who:=who) kD;omega) _ (fun h' x=>?_)
 (replace z:=z.an x (by omega);rw [ao h'])
 repeat' (simp only [syms,aa,seval,ZM])
 exact hk _ (z.aw _ _ (by omega))
noncomputable def Vw:=bA Tryz.f34
noncomputable def Zm:=PLift.up (by have c:=bB Vw Tryz.f34;simp only [aK,Tryz.f34,seval] at c;exact nd c <| @aau)
theorem c34:type_of% Zm.down:=Zm.down
noncomputable def VW:=bA Tryz.f64
noncomputable def qF:=PLift.up (by have c:=bB VW Tryz.f64;simp only [aK,Tryz.f64,seval] at c;exact nd c <| nd @j5 <| nd @dW <| nd @adB <| nd @gn <| nd @j7 <| nd @aaS <| @abj)
theorem zG:type_of% qF.down:=qF.down
noncomputable def Vz:=bA Tryz.f37
noncomputable def Zp:=PLift.up (by have c:=bB Vz Tryz.f37;simp only [aK,Tryz.f37,seval] at c;exact nd c <| @aax)
theorem c37:type_of% Zp.down:=Zp.down
noncomputable def VY:=bA Tryz.f67
noncomputable def sV:=PLift.up (by have c:=bB VY Tryz.f67;simp only [aK,Tryz.f67,seval] at c;exact nd c <| nd @j5 <| nd @dW <| nd @gn <| nd @adC <| nd @j7 <| nd @aaV <| @abk)
theorem zI:type_of% sV.down:=sV.down
noncomputable def N9:=bA Tryz.f9
noncomputable def x9:=PLift.up (by have c:=bB N9 Tryz.f9;simp only [aK,Tryz.f9,seval] at c;exact nd c <| nd @ZA <| nd @ZI <| nd @dW <| nd @adA <| @fi9)
theorem c9:type_of% x9.down:=x9.down
noncomputable def Vf:=bA Tryz.f10
noncomputable def Px:=PLift.up (by have c:=bB Vf Tryz.f10;simp only [aK,Tryz.f10,seval] at c;exact nd c <| nd @Zx <| nd @ZH <| nd @dW <| nd @ady <| @aab)
theorem Fg:type_of% Px.down:=Px.down
noncomputable def Vl:=bA Tryz.f16
noncomputable def Qm:=PLift.up (by have c:=bB Vl Tryz.f16;simp only [aK,Tryz.f16,seval] at c;exact nd c <| nd @adr <| nd @AL <| nd @Pb <| @aah)
theorem uT:type_of% Qm.down:=Qm.down
noncomputable def N3:=bA Tryz.f3
noncomputable def x3:=PLift.up (by have c:=bB N3 Tryz.f3;simp only [aK,Tryz.f3,seval] at c;exact nd c <| nd @ZG <| nd @U1 <| nd @ED <| nd @EE <| nd @dW <| nd @mi <| nd @ct <| nd @adx <| nd @gn <| nd @iu <| nd @Pb <| nd @AQ <| @fi3)
theorem c3:type_of% x3.down:=x3.down
noncomputable def KP:=bA Tryz.f121
noncomputable def PU:=PLift.up (by have c:=bB KP Tryz.f121;simp only [aK,Tryz.f121,seval] at c;exact nd c <| nd @Jq <| @zL9)
theorem ZL:type_of% PU.down:=PU.down
noncomputable def LQ:=bA Tryz.f257
noncomputable def Q5:=PLift.up (by have c:=bB LQ Tryz.f257;simp only [aK,Tryz.f257,seval] at c;exact nd c <| nd @Cn <| nd @mi <| @zNc)
theorem v7:type_of% Q5.down:=Q5.down
noncomputable def LU:=bA Tryz.f260
noncomputable def Q8:=PLift.up (by have c:=bB LU Tryz.f260;simp only [aK,Tryz.f260,seval] at c;exact nd c <| nd @Cn <| nd @mi <| nd @zNf <| @zNo)
theorem v8:type_of% Q8.down:=Q8.down
noncomputable def LR:=bA Tryz.f258
noncomputable def Q6:=PLift.up (by have c:=bB LR Tryz.f258;simp only [aK,Tryz.f258,seval] at c;exact nd c <| nd @UE <| nd @Cn <| nd @Cp <| nd @mi <| nd @Jq <| @zNd)
theorem ME:type_of% Q6.down:=Q6.down
noncomputable def LS:=bA Tryz.f259
noncomputable def Q7:=PLift.up (by have c:=bB LS Tryz.f259;simp only [aK,Tryz.f259,seval] at c;exact nd c <| nd @zLz <| nd @UE <| nd @Cp <| nd @zNe <| @zNn)
theorem Fs:type_of% Q7.down:=Q7.down
noncomputable def KQ:=bA Tryz.f122
noncomputable def PV:=PLift.up (by have c:=bB KQ Tryz.f122;simp only [aK,Tryz.f122,seval] at c;exact nd c <| @zMa)
theorem vS:type_of% PV.down:=PV.down
noncomputable def KS:=bA Tryz.f124
noncomputable def PX:=PLift.up (by have c:=bB KS Tryz.f124;simp only [aK,Tryz.f124,seval] at c;exact nd c <| nd @zMc <| @zNh)
theorem zw:type_of% PX.down:=PX.down
noncomputable def Lj:=bA Tryz.f168
noncomputable def Qu:=PLift.up (by have c:=bB Lj Tryz.f168;simp only [aK,Tryz.f168,seval] at c;exact nd c <| nd @zMD <| @zNj)
theorem lL:type_of% Qu.down:=Qu.down
noncomputable def Li:=bA Tryz.f167
noncomputable def Qt:=PLift.up (by have c:=bB Li Tryz.f167;simp only [aK,Tryz.f167,seval] at c;exact nd c <| @zMC)
theorem dE:type_of% Qt.down:=Qt.down
noncomputable def KR:=bA Tryz.f123
noncomputable def PW:=PLift.up (by have c:=bB KR Tryz.f123;simp only [aK,Tryz.f123,seval] at c;exact nd c <| nd @UF <| nd @UH <| nd @Co <| nd @Cq <| nd @mi <| nd @Jr <| @zMb)
theorem vT:type_of% PW.down:=PW.down
noncomputable def V3:=bA Tryz.f73
noncomputable def yC:=PLift.up (by have c:=bB V3 Tryz.f73;simp only [aK,Tryz.f73,seval] at c;exact nd c <| nd @Ko <| nd @UE <| nd @zu6 <| nd @UF <| nd @UG <| nd @UH <| nd @Co <| nd @Cp <| nd @Cq <| nd @Cr <| nd @mi <| nd @Jr <| nd @AQ <| @aa0)
theorem oO:type_of% yC.down:=yC.down
noncomputable def V6:=bA Tryz.f76
noncomputable def yF:=PLift.up (by have c:=bB V6 Tryz.f76;simp only [aK,Tryz.f76,seval] at c;exact nd c <| nd @zu6 <| nd @UF <| nd @UG <| nd @zF4 <| nd @UH <| nd @Co <| nd @Cq <| nd @Cr <| nd @mi <| nd @gn <| @aa3)
theorem uV:type_of% yF.down:=yF.down
noncomputable def V5:=bA Tryz.f75
noncomputable def yE:=PLift.up (by have c:=bB V5 Tryz.f75;simp only [aK,Tryz.f75,seval] at c;exact nd c <| nd @UG <| nd @Cr <| @aa2)
theorem ZO:type_of% yE.down:=yE.down
noncomputable def We:=bA Tryz.f96
noncomputable def yO:=PLift.up (by have c:=bB We Tryz.f96;simp only [aK,Tryz.f96,seval] at c;exact nd c <| @abc)
theorem c96:type_of% yO.down:=yO.down
end Go.Proofs.YtkgojconmeeegaaGreatDoor

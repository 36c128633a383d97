/- Walks: bindings: may they be Written out by fill2.py. No condition. -/
import Derived.Test.YtdplfgoifjjniaaGreatDoorG31
set_option linter.unusedSimpArgs false
set_option linter.unusedVariables false
set_option maxRecDepth 100000
set_option maxHeartbeats 0
namespace Go.Proofs.YtdplfgoifjjniaaGreatDoor
open Go.Am
theorem OP {I:Nat→Env→Heap→Prop} {m:Nat} {Q:Ex→Env→Heap→Prop} {x:Ex} {e:Env} {h0 h1:Heap} {bs:List bh} {w:Nat} (z:Ext h0 (h1.lay bs w)) (hk:∀ H,Ext h0 H→(∀ A b,Holds h1 A b→Holds H A b)→cP h1 H→GU I m Q x e (H.lay [] H.low)):GU I m Q x e (h1.lay bs w):=by
 have:=hk _ z (fun A b q=>q.on bs w) (cP.lay _ _ _)
 rwa [← ao] at this
theorem zB7 (a:ab) (k:Nat) (hk:k < 4):cut a.cells (3+k*2) 2=some (a.arg k).cells:=by
 have:k=0∨k=1∨k=2∨k=3:=by omega
 rcases this with rfl|rfl|rfl|rfl <;> rfl
noncomputable def Hq:=bq Tryz.f128
noncomputable def K8:=PLift.up (by have c:=bu Hq Tryz.f128;simp only [aE,Tryz.f128,seval] at c;exact nd c <| nd @B8 <| nd @pQ <| nd @EK <| nd @ri <| nd @EL <| nd @PE <| nd @oX <| nd @b9 <| nd @gf <| nd @PF <| @zHj)
theorem iV:type_of% K8.down:=K8.down
noncomputable def N95:=bq Tryz.f95
noncomputable def x95:=PLift.up (by have c:=bu N95 Tryz.f95;simp only [aE,Tryz.f95,seval] at c;exact nd c <| nd @b9 <| @U7)
theorem Fq:type_of% x95.down:=x95.down
noncomputable def BZ:=bq Tryz.f152
noncomputable def Lt:=PLift.up (by have c:=bu BZ Tryz.f152;simp only [aE,Tryz.f152,seval] at c;exact nd c <| nd @jf <| nd @b9 <| nd @zHC <| @zD3)
theorem fc:type_of% Lt.down:=Lt.down
noncomputable def HL:=bq Tryz.f168
noncomputable def LC:=PLift.up (by have c:=bu HL Tryz.f168;simp only [aE,Tryz.f168,seval] at c;exact nd c <| nd @jf <| nd @b9 <| nd @zHJ <| @zHU)
theorem oo:type_of% LC.down:=LC.down
noncomputable def HK:=bq Tryz.f164
noncomputable def LA:=PLift.up (by have c:=bu HK Tryz.f164;simp only [aE,Tryz.f164,seval] at c;exact nd c <| nd @zHI <| @zHT)
theorem na:type_of% LA.down:=LA.down
noncomputable def iD:=bq Tryz.f153
noncomputable def Lu:=PLift.up (by have c:=bu iD Tryz.f153;simp only [aE,Tryz.f153,seval] at c;exact nd c <| nd @jf <| nd @b9 <| nd @zHD <| @zHS)
theorem bJ:type_of% Lu.down:=Lu.down
noncomputable def BX:=bq Tryz.f142
noncomputable def Lm:=PLift.up (by have c:=bu BX Tryz.f142;simp only [aE,Tryz.f142,seval] at c;exact nd c <| nd @zHw <| @zHR)
theorem fx:type_of% Lm.down:=Lm.down
noncomputable def BT:=bq Tryz.f124
noncomputable def K5:=PLift.up (by have c:=bu BT Tryz.f124;simp only [aE,Tryz.f124,seval] at c;exact nd c <| nd @ia <| nd @zHg <| @zHP)
theorem m9:type_of% K5.down:=K5.down
noncomputable def RL:=bq Tryz.f41
noncomputable def x41:=PLift.up (by have c:=bu RL Tryz.f41;simp only [aE,Tryz.f41,seval] at c;exact nd c <| nd @Cb <| @Uf)
theorem Af:type_of% x41.down:=x41.down
noncomputable def BU:=bq Tryz.f125
noncomputable def K6:=PLift.up (by have c:=bu BU Tryz.f125;simp only [aE,Tryz.f125,seval] at c;exact nd c <| nd @jf <| nd @b9 <| nd @ia <| @zHh)
theorem ei:type_of% K6.down:=K6.down
noncomputable def Hp:=bq Tryz.f126
noncomputable def K7:=PLift.up (by have c:=bu Hp Tryz.f126;simp only [aE,Tryz.f126,seval] at c;exact nd c <| nd @b9 <| @zHi)
theorem wM:type_of% K7.down:=K7.down
noncomputable def N93:=bq Tryz.f93
noncomputable def x93:=PLift.up (by have c:=bu N93 Tryz.f93;simp only [aE,Tryz.f93,seval] at c;exact nd c <| @U5)
theorem Cr:type_of% x93.down:=x93.down
noncomputable def N92:=bq Tryz.f92
noncomputable def x92:=PLift.up (by have c:=bu N92 Tryz.f92;simp only [aE,Tryz.f92,seval] at c;exact nd c <| nd @jf <| nd @b9 <| nd @ia <| @U4)
theorem sB:type_of% x92.down:=x92.down
noncomputable def N61:=bq Tryz.f61
noncomputable def x61:=PLift.up (by have c:=bu N61 Tryz.f61;simp only [aE,Tryz.f61,seval] at c;exact nd c <| @Uz)
theorem It:type_of% x61.down:=x61.down
noncomputable def N94:=bq Tryz.f94
noncomputable def x94:=PLift.up (by have c:=bu N94 Tryz.f94;simp only [aE,Tryz.f94,seval] at c;exact nd c <| nd @jf <| nd @b9 <| nd @ia <| @U6)
theorem lY:type_of% x94.down:=x94.down
noncomputable def N62:=bq Tryz.f62
noncomputable def x62:=PLift.up (by have c:=bu N62 Tryz.f62;simp only [aE,Tryz.f62,seval] at c;exact nd c <| nd @b9 <| @UA)
theorem c62:type_of% x62.down:=x62.down
theorem RI:rm ae 23 23=true:=by kernel_rfl
theorem Pj (a:ab):a.cells[0]? = some (.string a.says):=rfl
theorem zoo (a:ab):a.cells[1]? = some (.string a.pred):=rfl
theorem zum (a:ab) (ha:a.ba=true) (h:Heap) (K:Value→Heap→Prop)
 (hk:∀ h',Ext h h'→K (.string ⟨(cO a).toArray⟩) h'):Ok Tryz.prog ae ov 128 [a.val] h K:=by
 rw [ao h]
 have z:=Ext.refl h
 obtain ⟨xz,j7⟩:=Y2 ha
 refine Ok.aD rfl zvg (br Hq) rfl (m:=37) rfl ?_
 simp -implicitDefEqProofs only [syms,aa,seval,iV,eW,Pj,zoo,↓ff,eR,dQ]
 refine sO ?_ (fun S1 vM qn=>?_)
 ·show a.says.size+6≤_
  omega
 simp -implicitDefEqProofs only [syms,aa,seval,iV,Pj,zoo,↓ff,eR,dQ]
 refine sO ?_ (fun S hS mh=>?_)
 ·rw [qn]
  show a.says.size+6+_≤_
  omega
 have hSl:S.data.toList=a.says.data.toList++GV++a.pred.data.toList:=by rw [hS,vM,s8,s8];rfl
 have hSz:S.size≤700:=by
  rw [mh,qn]
  show a.says.size+6+_≤_
  omega
 clear hS vM qn mh
 simp -implicitDefEqProofs only [syms,aa,seval,iV,↓ff,eR,dQ]
 refine MB a _ _ (fun v H0 x hv=>?_)
 (replace z:=z.an x (by omega);rw [ao H0])
 have Ke:=z.size
 have bC:=cJ v
 simp -implicitDefEqProofs only [syms,aa,seval,iV,bC]
 repeat' ((first|((with_reducible apply pK) <;> intro _)|with_reducible_and_instances refine Mz hv vB ?_) <;> simp -implicitDefEqProofs only [syms,aa,seval,iV,bC])
 ·have CL:S=⟨(cO a).toArray⟩:=X6 (by rw [hSl,zvP (by omega)])
  rw [CL]
  exact hk _ (z.aw _ _ (by omega))
 obtain ⟨I1,aR⟩:∃ I:Nat→Env→Heap→Prop,I=(fun n e h'=>∃ (i:Nat) (w:Value) (A:Nat) (h1:Heap),h'=h1.lay [] h1.low∧Ext h h1∧(n=a.args.length - i∧i≤a.args.length∧Ow aK.str H0 h1 9 A w ((a.args.take i).map (·.s))∧cP H0 h1)∧∃ J:Nat→Value,e=(jr J 0 3 (.string S::J 4::w::jr J 6 14 (v::.int .i64 a.args.length::.int .i64 i::jr J 23 15 ([]))))):=⟨_,rfl⟩
 refine dg I1 _ (by rw [aR];exact ⟨0,.slice none 0 0,H0.size,_,rfl,z,⟨rfl,by omega,Ow.nil (Nat.le_refl _),cP.refl _⟩,aB (by kernel_rfl)⟩) ?_
 intro n e h' aH
 rw [aR] at aH
 obtain ⟨i,w,A,bE,rfl,z,hinv,J,rfl⟩:=aH
 obtain ⟨rfl,hi,ho,i1⟩:=hinv
 have Vx:a.args.length≤4:=by rw [sS];unfold ab.cx;omega
 have hw:=eg i (by omega)
 have hz:=z.size
 simp -implicitDefEqProofs only [syms,aa,seval,iV]
 refine bp (fun aS=>?_) (fun aS=>?_)
 rotate_left
 ·simp -implicitDefEqProofs only [syms,aa,seval,iV]
  rw [List.take_of_length_le (by omega)] at ho
  have hJ:=zrk ha
  have uC:(a.args.map (·.s)).map (·.data.toList)=iC a:=by rw [List.map_map];rfl
  have DK:=cJ w
  refine sO ?_ (fun S3 CM A7=>?_)
  ·show S.size+1≤_
   omega
  have al1:S3.size≤701:=by
   rw [A7]
   show S.size+1≤_
   omega
  have Vr:S3.data.toList=S.data.toList++[40]:=by rw [CM,s8]
  simp -implicitDefEqProofs only [syms,aa,seval,iV,DK]
  refine Ok.over (g:=EZ) rfl (zCG ((ho.sl (by decide)).lay _ _) (fun e=>by have:=congrArg List.length e;rw [List.length_map,List.length_nil] at this;omega) (by rw [List.length_map];omega) (by rw [uC];exact Nat.le_trans hJ (by decide))) ?_
  rw [uC]
  obtain ⟨J2,hJ2⟩:∃ J2:ByteArray,J2=⟨(Lib.join (iC a) (ByteArray.mk #[44,32]).data.toList).toArray⟩:=⟨_,rfl⟩
  rw [← hJ2]
  have hJl:J2.data.toList=Lib.join (iC a) cT:=by rw [hJ2];rfl
  have hJz:J2.size≤1300:=by rw [← Cc,hJl];exact hJ
  simp -implicitDefEqProofs only [syms,aa,seval,iV]
  refine sO ?_ (fun S4 hS4 hz4=>?_)
  ·omega
  simp -implicitDefEqProofs only [syms,aa,seval,iV]
  refine sO ?_ (fun S5 hS5 hz5=>?_)
  ·rw [hz4]
   show S3.size+J2.size+1≤_
   omega
  repeat' (simp -implicitDefEqProofs only [syms,aa,seval,iV])
  have hS6:S5=⟨(cO a).toArray⟩:=X6 (by rw [hS5,s8,hS4,s8,Vr,hSl,hJl,zvR (by omega)])
  rw [hS6]
  exact hk _ (z.aw _ _ (by omega))
 obtain ⟨r,hr,bo⟩:=eP (l:=a.args) (i:=i) aS
 simp -implicitDefEqProofs only [syms,aa,seval,iV]
 repeat' ((first|with_reducible_and_instances refine MM (hv.mono i1) vB iJ (by omega) hr (fun p hp=>?_)|with_reducible_and_instances refine FW hp oh iJ ?_) <;> simp -implicitDefEqProofs only [syms,aa,seval,iV,mr,nO,List.all_cons,List.all_nil,Am.one,Bool.and_true,Bool.true_and,Bool.and_self,List.set_cons_zero,List.set_cons_succ,kM,fe,nJ,gy,gz,aQ.val,aQ.cells])
 simp -implicitDefEqProofs only [syms,aa,seval,iV,sX,RI]
 obtain ⟨WE,DE⟩:=zpw (A:=A) (B:=bE.size+1) (r:=aK.str) (c:=1) (y:=r.s) (by decide) (show (bE.lay [bh.row [Value.bool r.v,Value.string r.s] 39 false,bh.row [Value.string r.s] 9 false] (min bE.low (bE.size+0))).get (bE.size+1)=some (.row [Value.string r.s] 9 false) by rw [kX];rfl) rfl
 have cN:=ho.fresh
 have iO:((a.args.take i).map (·.s)).length≤4:=by rw [List.length_map,List.length_take];omega
 refine zsM (r:=aK.str) cM Ev rfl (by decide) i1.size ho WE DE (by omega) (by omega) (fun w' h2 A' o2 c2 Vf=>?_)
 replace z:=(z.aw _ _ (by omega)).step c2 (by omega)
 have i2:=zCB (i1.trans (cP.lay _ _ _)) c2 cN
 have lz:(a.args.take (i+1)).map (·.s)=(a.args.take i).map (·.s)++[r.s]:=by rw [List.take_add_one,bo,List.map_append];rfl
 rw [← lz] at o2
 rw [ao h2]
 have DK:∀ (h:Heap) (K:Value→Heap→Prop),aU (some w') h K=K w' h:=fun _ _=>rfl
 repeat' (simp -implicitDefEqProofs only [syms,aa,seval,iV,DK])
 rw [hw]
 (rw [aR];with_reducible refine cz (m:=_) ?_ ⟨i+1,w',A',_,rfl,z,⟨rfl,by omega,o2,i2⟩,aB (by kernel_rfl)⟩;omega)
 trace_state
theorem BE (a b:ab) (ha:a.ba=true) (hb:b.ba=true) (h:Heap) (K:Value→Heap→Prop)
 (hk:∀ h',Ext h h'→K (.int .i64 (aM a b)) h'):Ok Tryz.prog ae ov 95 [a.val,b.val] h K:=by
 rw [ao h]
 have z:=Ext.refl h
 refine Ok.aD rfl zAM (br N95) rfl (m:=8) rfl ?_
 repeat' (simp -implicitDefEqProofs only [syms,aa,seval,Fq,eW])
 refine (eu (by simp only [Fq])) (z.aw _ _ (by omega)) ?_
 simp -implicitDefEqProofs only [syms,aa,seval,Fq,↓ff,eR,dQ]
 refine zum a ha _ _ (fun h' x=>?_)
 have q1:=Holds.top (i:=1) x rfl
 (((with_reducible refine dK ?_ ?_ ?_);(· exact (by (simp only [dM]);have:=z.size;omega));(· exact x));replace z:=z.an x (by omega);rw [ao h'])
 repeat' (simp -implicitDefEqProofs only [syms,aa,seval,Fq,q1.lay,↓ff,eR,dQ])
 refine zum b hb _ _ (fun h' x=>?_)
 (((with_reducible refine dK ?_ ?_ ?_);(· exact (by (simp only [dM]);have:=z.size;omega));(· exact x));replace z:=z.an x (by omega);rw [ao h'])
 repeat' (simp -implicitDefEqProofs only [syms,aa,seval,Fq])
 refine Ok.over (g:=Mt) rfl rfl ?_
 refine dK (by have:=z.size;rw [bB];omega) (by simpa only [cq,bB,List.append_nil,List.length_nil,Nat.add_zero] using Ext.refl (h'.lay [] h'.size)) ?_
 repeat' (first|simp -implicitDefEqProofs only [syms,aa,seval,Fq]|((with_reducible refine ⟨z.cW.lay _ _,?_⟩);(intro _ h' zz x _);(simp only [cq,List.append_nil] at x);(replace z:=zz);(clear zz);rw [ao h']))
 exact hk _ (z.aw _ _ (by omega))
end Go.Proofs.YtdplfgoifjjniaaGreatDoor

/- Walks: bindings: may they be Written out by fill2.py. No condition. -/
import Derived.Test.YtkgojconmeeegaaGreatDoorG29
set_option linter.unusedSimpArgs false
set_option linter.unusedVariables false
set_option maxRecDepth 100000
set_option maxHeartbeats 0
namespace Go.Proofs.YtkgojconmeeegaaGreatDoor
open Go.Am
theorem W6 {I:Nat→Env→Heap→Prop} {m:Nat} {Q:Ex→Env→Heap→Prop} {x:Ex} {e:Env} {h0 h1:Heap} {bs:List bh} {w:Nat} (z:Ext h0 (h1.lay bs w)) (hk:∀ H,Ext h0 H→(∀ A b,Holds h1 A b→Holds H A b)→cn h1 H→Ku I m Q x e (H.lay [] H.low)):Ku I m Q x e (h1.lay bs w):=by
 have:=hk _ z (fun A b q=>q.on bs w) (cn.lay _ _ _)
 rwa [← ao] at this
theorem zFB (a:ab) (k:Nat) (hk:k < 4):cut a.cells (3+k*2) 2=some (a.arg k).cells:=by
 have:k=0∨k=1∨k=2∨k=3:=by omega
 rcases this with rfl|rfl|rfl|rfl <;> rfl
noncomputable def La:=bA Tryz.f158
noncomputable def Qk:=PLift.up (by have c:=bB La Tryz.f158;simp only [aK,Tryz.f158,seval] at c;exact nd c <| nd @Fc <| nd @tA <| nd @HW <| nd @vI <| nd @HX <| nd @XP <| nd @qI <| nd @ct <| nd @gn <| nd @Yk <| @zMu)
theorem jP:type_of% Qk.down:=Qk.down
noncomputable def KG:=bA Tryz.f108
noncomputable def PG:=PLift.up (by have c:=bB KG Tryz.f108;simp only [aK,Tryz.f108,seval] at c;exact nd c <| nd @ct <| @zLY)
theorem tC:type_of% PG.down:=PG.down
noncomputable def E4:=bA Tryz.f193
noncomputable def QK:=PLift.up (by have c:=bB E4 Tryz.f193;simp only [aK,Tryz.f193,seval] at c;exact nd c <| nd @j6 <| nd @ct <| nd @zMR <| @Jp)
theorem fK:type_of% QK.down:=QK.down
noncomputable def LM:=bA Tryz.f227
noncomputable def Q1:=PLift.up (by have c:=bB LM Tryz.f227;simp only [aK,Tryz.f227,seval] at c;exact nd c <| nd @j6 <| nd @ct <| nd @zM8 <| @zNm)
theorem qb:type_of% Q1.down:=Q1.down
noncomputable def LG:=bA Tryz.f215
noncomputable def QV:=PLift.up (by have c:=bB LG Tryz.f215;simp only [aK,Tryz.f215,seval] at c;exact nd c <| nd @zM2 <| @zNl)
theorem oM:type_of% QV.down:=QV.down
noncomputable def jq:=bA Tryz.f194
noncomputable def QL:=PLift.up (by have c:=bB jq Tryz.f194;simp only [aK,Tryz.f194,seval] at c;exact nd c <| nd @j6 <| nd @ct <| nd @zMS <| @zNk)
theorem bR:type_of% QL.down:=QL.down
noncomputable def E1:=bA Tryz.f156
noncomputable def Qj:=PLift.up (by have c:=bB E1 Tryz.f156;simp only [aK,Tryz.f156,seval] at c;exact nd c <| nd @zMt <| @zNi)
theorem gq:type_of% Qj.down:=Qj.down
noncomputable def EX:=bA Tryz.f107
noncomputable def PF:=PLift.up (by have c:=bB EX Tryz.f107;simp only [aK,Tryz.f107,seval] at c;exact nd c <| nd @iu <| nd @zLX <| @zNg)
theorem oK:type_of% PF.down:=PF.down
noncomputable def Yr:=bA Tryz.f65
noncomputable def qG:=PLift.up (by have c:=bB Yr Tryz.f65;simp only [aK,Tryz.f65,seval] at c;exact nd c <| nd @tB <| @aaT)
theorem Dq:type_of% qG.down:=qG.down
noncomputable def EY:=bA Tryz.f109
noncomputable def PH:=PLift.up (by have c:=bB EY Tryz.f109;simp only [aK,Tryz.f109,seval] at c;exact nd c <| nd @j6 <| nd @ct <| nd @iu <| @zLZ)
theorem eI:type_of% PH.down:=PH.down
noncomputable def KH:=bA Tryz.f110
noncomputable def PJ:=PLift.up (by have c:=bB KH Tryz.f110;simp only [aK,Tryz.f110,seval] at c;exact nd c <| nd @ct <| @zL0)
theorem zr:type_of% PJ.down:=PJ.down
noncomputable def VX:=bA Tryz.f66
noncomputable def qH:=PLift.up (by have c:=bB VX Tryz.f66;simp only [aK,Tryz.f66,seval] at c;exact nd c <| @aaU)
theorem Fx:type_of% qH.down:=qH.down
noncomputable def KN:=bA Tryz.f116
noncomputable def PQ:=PLift.up (by have c:=bB KN Tryz.f116;simp only [aK,Tryz.f116,seval] at c;exact nd c <| nd @j6 <| nd @ct <| nd @iu <| @zL6)
theorem lK:type_of% PQ.down:=PQ.down
noncomputable def V0:=bA Tryz.f69
noncomputable def sX:=PLift.up (by have c:=bB V0 Tryz.f69;simp only [aK,Tryz.f69,seval] at c;exact nd c <| @aaX)
theorem MH:type_of% sX.down:=sX.down
noncomputable def KO:=bA Tryz.f117
noncomputable def PR:=PLift.up (by have c:=bB KO Tryz.f117;simp only [aK,Tryz.f117,seval] at c;exact nd c <| nd @j6 <| nd @ct <| nd @iu <| @zL7)
theorem gI:type_of% PR.down:=PR.down
noncomputable def V1:=bA Tryz.f70
noncomputable def sY:=PLift.up (by have c:=bB V1 Tryz.f70;simp only [aK,Tryz.f70,seval] at c;exact nd c <| nd @ct <| @aaY)
theorem Wl:type_of% sY.down:=sY.down
theorem VU:pU ae 22 22=true:=by kernel_rfl
theorem Xw (a:ab):a.cells[0]? = some (.string a.says):=rfl
theorem UJ (a:ab):a.cells[1]? = some (.string a.pred):=rfl
theorem zv9 (a:ab) (ha:a.aT=true) (h:Heap) (K:Value→Heap→Prop)
 (hk:∀ h',Ext h h'→K (.string ⟨(cI a).toArray⟩) h'):Ok Tryz.prog ae ov 158 [a.val] h K:=by
 rw [ao h]
 have z:=Ext.refl h
 obtain ⟨lS,jc⟩:=TF ha
 refine Ok.aH rfl zxi (br La) rfl (m:=37) rfl ?_
 simp only [syms,aa,seval,jP,ec,Xw,UJ,↓eM,eh,dC]
 refine vw ?_ (fun S1 ym qC=>?_)
 ·show a.says.size+6≤_
  omega
 simp only [syms,aa,seval,jP,Xw,UJ,↓eM,eh,dC]
 refine vw ?_ (fun S hS ln=>?_)
 ·rw [qC]
  show a.says.size+6+_≤_
  omega
 have XZ:S.data.toList=a.says.data.toList++Kw++a.pred.data.toList:=by rw [hS,ym,vH,vH];rfl
 have X0:S.size≤700:=by
  rw [ln,qC]
  show a.says.size+6+_≤_
  omega
 clear hS ym qC ln
 simp only [syms,aa,seval,jP,↓eM,eh,dC]
 refine R3 a _ _ (fun v H0 x hv=>?_)
 (replace z:=z.an x (by omega);rw [ao H0])
 have uq:=z.size
 have bx:=bY v
 simp only [syms,aa,seval,jP,bx]
 repeat' ((first|((with_reducible apply nX) <;> intro _)|with_reducible_and_instances refine HH hv ye ?_) <;> simp only [syms,aa,seval,jP,bx])
 ·have yn:S=⟨(cI a).toArray⟩:=Cg (by rw [XZ,zx9 (by omega)])
  rw [yn]
  exact hk _ (z.aw _ _ (by omega))
 obtain ⟨I1,aS⟩:∃ I:Nat→Env→Heap→Prop,I=(fun n e h'=>∃ (i:Nat) (w:Value) (A:Nat) (h1:Heap),h'=h1.lay [] h1.low∧Ext h h1∧(n=a.args.length - i∧i≤a.args.length∧Ow aJ.str H0 h1 9 A w ((a.args.take i).map (·.s))∧cn H0 h1)∧∃ J:Nat→Value,e=(jr J 0 3 (.string S::J 4::w::jr J 6 14 (v::.int .i64 a.args.length::.int .i64 i::jr J 23 15 ([]))))):=⟨_,rfl⟩
 refine dj I1 _ (by rw [aS];exact ⟨0,.slice none 0 0,H0.size,_,rfl,z,⟨rfl,by omega,Ow.nil (Nat.le_refl _),cn.refl _⟩,aE (by kernel_rfl)⟩) ?_
 intro n e h' aL
 rw [aS] at aL
 obtain ⟨i,w,A,bH,rfl,z,hinv,J,rfl⟩:=aL
 obtain ⟨rfl,hi,ho,i1⟩:=hinv
 have IH:a.args.length≤4:=by rw [vB];unfold ab.cL;omega
 have hw:=eb i (by omega)
 have hz:=z.size
 simp only [syms,aa,seval,jP]
 refine bt (fun aR=>?_) (fun aR=>?_)
 rotate_left
 ·simp only [syms,aa,seval,jP]
  rw [List.take_of_length_le (by omega)] at ho
  have hJ:=zsL ha
  have w8:(a.args.map (·.s)).map (·.data.toList)=jo a:=by rw [List.map_map];rfl
  have xq:=bY w
  refine vw ?_ (fun S3 F1 yA=>?_)
  ·show S.size+1≤_
   omega
  have asO:S3.size≤701:=by
   rw [yA]
   show S.size+1≤_
   omega
  have abJ:S3.data.toList=S.data.toList++[40]:=by rw [F1,vH]
  simp only [syms,aa,seval,jP,xq]
  refine Ok.over (g:=Ii) rfl (zGk ((ho.sl (by decide)).lay _ _) (fun e=>by have:=congrArg List.length e;rw [List.length_map,List.length_nil] at this;omega) (by rw [List.length_map];omega) (by rw [w8];exact Nat.le_trans hJ (by decide))) ?_
  rw [w8]
  obtain ⟨J2,Wv⟩:∃ J2:ByteArray,J2=⟨(Lib.join (jo a) (ByteArray.mk #[44,32]).data.toList).toArray⟩:=⟨_,rfl⟩
  rw [← Wv]
  have Ww:J2.data.toList=Lib.join (jo a) dm:=by rw [Wv];rfl
  have hJz:J2.size≤1300:=by rw [← Ff,Ww];exact hJ
  simp only [syms,aa,seval,jP]
  refine vw ?_ (fun S4 hS4 hz4=>?_)
  ·omega
  simp only [syms,aa,seval,jP]
  refine vw ?_ (fun S5 hS5 YR=>?_)
  ·rw [hz4]
   show S3.size+J2.size+1≤_
   omega
  repeat' (simp only [syms,aa,seval,jP])
  have hS6:S5=⟨(cI a).toArray⟩:=Cg (by rw [hS5,vH,hS4,vH,abJ,XZ,Ww,zyb (by omega)])
  rw [hS6]
  exact hk _ (z.aw _ _ (by omega))
 obtain ⟨r,hr,bz⟩:=eU (l:=a.args) (i:=i) aR
 simp only [syms,aa,seval,jP]
 repeat' ((first|with_reducible_and_instances refine Sj (hv.mono i1) ye jC (by omega) hr (fun p hp=>?_)|with_reducible_and_instances refine I8 hp pY jC ?_) <;> simp only [syms,aa,seval,jP,nT,pA,List.all_cons,List.all_nil,Am.one,Bool.and_true,Bool.true_and,Bool.and_self,List.set_cons_zero,List.set_cons_succ,lW,fV,pt,iA,iB,pF,aX.val,aX.cells])
 simp only [syms,aa,seval,jP,lG,VU]
 obtain ⟨acU,jY⟩:=J8 (A:=A) (B:=bH.size+1) (r:=aJ.str) (c:=1) (y:=r.s) (by decide) (show (bH.lay [bh.row [Value.bool r.v,Value.string r.s] 31 false,bh.row [Value.string r.s] 9 false] (min bH.low (bH.size+0))).get (bH.size+1)=some (.row [Value.string r.s] 9 false) by rw [iR];rfl) rfl
 have df:=ho.fresh
 have iq:((a.args.take i).map (·.s)).length≤4:=by rw [List.length_map,List.length_take];omega
 refine Eu (r:=aJ.str) cY Eo rfl (by decide) i1.size ho acU jY (by omega) (by omega) (fun w' h2 A' o2 c2 IB=>?_)
 replace z:=(z.aw _ _ (by omega)).step c2 (by omega)
 have i2:=zGf (i1.trans (cn.lay _ _ _)) c2 df
 have kS:(a.args.take (i+1)).map (·.s)=(a.args.take i).map (·.s)++[r.s]:=by rw [List.take_add_one,bz,List.map_append];rfl
 rw [← kS] at o2
 rw [ao h2]
 have xq:∀ (h:Heap) (K:Value→Heap→Prop),aW (some w') h K=K w' h:=fun _ _=>rfl
 repeat' (simp only [syms,aa,seval,jP,xq])
 rw [hw]
 (rw [aS];with_reducible refine cB (m:=_) ?_ ⟨i+1,w',A',_,rfl,z,⟨rfl,by omega,o2,i2⟩,aE (by kernel_rfl)⟩;omega)
 trace_state
theorem EI (a b:ab) (ha:a.aT=true) (hb:b.aT=true) (h:Heap) (K:Value→Heap→Prop)
 (hk:∀ h',Ext h h'→K (.int .i64 (aQ a b)) h'):Ok Tryz.prog ae ov 108 [a.val,b.val] h K:=by
 rw [ao h]
 have z:=Ext.refl h
 refine Ok.aH rfl zwP (br KG) rfl (m:=8) rfl ?_
 repeat' (simp only [syms,aa,seval,tC,ec])
 refine (dH (by simp only [tC])) (z.aw _ _ (by omega)) ?_
 simp only [syms,aa,seval,tC,↓eM,eh,dC]
 refine zv9 a ha _ _ (fun h' x=>?_)
 have q1:=Holds.top (i:=1) x rfl
 (((with_reducible refine dv ?_ ?_ ?_);(· exact (by (simp only [dx]);have:=z.size;omega));(· exact x));replace z:=z.an x (by omega);rw [ao h'])
 repeat' (simp only [syms,aa,seval,tC,q1.lay,↓eM,eh,dC])
 refine zv9 b hb _ _ (fun h' x=>?_)
 (((with_reducible refine dv ?_ ?_ ?_);(· exact (by (simp only [dx]);have:=z.size;omega));(· exact x));replace z:=z.an x (by omega);rw [ao h'])
 repeat' (simp only [syms,aa,seval,tC])
 refine Ok.over (g:=RR) rfl rfl ?_
 refine dv (by have:=z.size;rw [bm];omega) (by simpa only [el,bm,List.append_nil,List.length_nil,Nat.add_zero] using Ext.refl (h'.lay [] h'.size)) ?_
 repeat' (first|simp only [syms,aa,seval,tC]|((with_reducible refine ⟨z.cN.lay _ _,?_⟩);(intro _ h' zz x _);(simp only [el,List.append_nil] at x);(replace z:=zz);(clear zz);rw [ao h']))
 exact hk _ (z.aw _ _ (by omega))
end Go.Proofs.YtkgojconmeeegaaGreatDoor

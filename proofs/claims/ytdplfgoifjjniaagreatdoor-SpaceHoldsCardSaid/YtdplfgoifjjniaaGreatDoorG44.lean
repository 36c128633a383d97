/- The code of some functions, node by node, for simp. Written by a program (mkcode.py). No condition. -/
import Derived.Test.YtdplfgoifjjniaaGreatDoorG41
set_option linter.unusedSimpArgs false
set_option linter.unusedVariables false
set_option maxRecDepth 100000
set_option maxHeartbeats 0
namespace Go.Proofs.YtdplfgoifjjniaaGreatDoor
open Go.Am
noncomputable def N22:=bq Tryz.f22
noncomputable def x22:=PLift.up (by have c:=bu N22 Tryz.f22;simp only [aE,Tryz.f22,seval] at c;exact nd c <| nd @jf <| nd @b9 <| nd @ia <| @TW)
theorem Ae:type_of% x22.down:=x22.down
noncomputable def G4:=bq Tryz.f104
noncomputable def KJ:=PLift.up (by have c:=bu G4 Tryz.f104;simp only [aE,Tryz.f104,seval] at c;exact nd c <| @zGW)
theorem Ic:type_of% KJ.down:=KJ.down
noncomputable def HG:=bq Tryz.f158
noncomputable def Lv:=PLift.up (by have c:=bu HG Tryz.f158;simp only [aE,Tryz.f158,seval] at c;exact nd c <| @zHE)
theorem Ip:type_of% Lv.down:=Lv.down
noncomputable def HB:=bq Tryz.f146
noncomputable def Ln:=PLift.up (by have c:=bu HB Tryz.f146;simp only [aE,Tryz.f146,seval] at c;exact nd c <| @zHx)
theorem Io:type_of% Ln.down:=Ln.down
noncomputable def Ht:=bq Tryz.f132
noncomputable def Lb:=PLift.up (by have c:=bu Ht Tryz.f132;simp only [aE,Tryz.f132,seval] at c;exact nd c <| nd @xQ <| @zHm)
theorem lW:type_of% Lb.down:=Lb.down
noncomputable def HD:=bq Tryz.f148
noncomputable def Lp:=PLift.up (by have c:=bu HD Tryz.f148;simp only [aE,Tryz.f148,seval] at c;exact nd c <| nd @xQ <| @zHz)
theorem lX:type_of% Lp.down:=Lp.down
noncomputable def Hu:=bq Tryz.f133
noncomputable def Lc:=PLift.up (by have c:=bu Hu Tryz.f133;simp only [aE,Tryz.f133,seval] at c;exact nd c <| nd @je <| nd @gf <| nd @jg <| @zHn)
theorem Ch:type_of% Lc.down:=Lc.down
noncomputable def HC:=bq Tryz.f147
noncomputable def Lo:=PLift.up (by have c:=bu HC Tryz.f147;simp only [aE,Tryz.f147,seval] at c;exact nd c <| nd @pQ <| @zHy)
theorem Cj:type_of% Lo.down:=Lo.down
noncomputable def G3:=bq Tryz.f103
noncomputable def KI:=PLift.up (by have c:=bu G3 Tryz.f103;simp only [aE,Tryz.f103,seval] at c;exact nd c <| @zGV)
theorem tx:type_of% KI.down:=KI.down
noncomputable def N70:=bq Tryz.f70
noncomputable def x70:=PLift.up (by have c:=bu N70 Tryz.f70;simp only [aE,Tryz.f70,seval] at c;exact nd c <| @UH)
theorem Fo:type_of% x70.down:=x70.down
noncomputable def N71:=bq Tryz.f71
noncomputable def x71:=PLift.up (by have c:=bu N71 Tryz.f71;simp only [aE,Tryz.f71,seval] at c;exact nd c <| @UI)
theorem Tl:type_of% x71.down:=x71.down
noncomputable def BV:=bq Tryz.f134
noncomputable def Ld:=PLift.up (by have c:=bu BV Tryz.f134;simp only [aE,Tryz.f134,seval] at c;exact nd c <| nd @EJ <| nd @EK <| nd @D0 <| nd @gf <| @zHo)
theorem wN:type_of% Ld.down:=Ld.down
noncomputable def G5:=bq Tryz.f105
noncomputable def KK:=PLift.up (by have c:=bu G5 Tryz.f105;simp only [aE,Tryz.f105,seval] at c;exact nd c <| nd @ri <| nd @EL <| nd @BA <| nd @wq <| nd @oT <| nd @kV <| nd @oX <| nd @gf <| @zGX)
theorem iT:type_of% KK.down:=KK.down
theorem znu (l m:List ab) (v u:Value) (h:Heap) (hl:Sl aK.atom h v l) (hm:Sl aK.atom h u m) (hs:l.length≤1000) (j7:m.length≤1000) (K:Value→Heap→Prop)
 (hk:∀ h',Ext h h'→K (.bool (decide (l=m))) h'):Ok Tryz.prog ae ov 22 [v,u] h K:=by
 rw [ao h]
 have z:=Ext.refl h
 have iO:=fun (hh:Heap)=>hl.bd cf hh
 have FJ:=fun (hh:Heap)=>hm.bd cf hh
 refine Ok.aD rfl zzE (br N22) rfl (m:=24) rfl ?_
 simp -implicitDefEqProofs only [syms,aa,seval,Ae,iO,FJ]
 refine iK (fun aO=>?_) (fun heq=>?_)
 ·rw [decide_eq_false (show ¬ l=m from fun e=>by subst e;exact aO rfl)] at hk
  repeat' (simp -implicitDefEqProofs only [syms,aa,seval,Ae])
  exact hk _ (z.aw _ _ (by omega))
 have hlen:l.length=m.length:=by omega
 repeat' (simp -implicitDefEqProofs only [syms,aa,seval,Ae])
 obtain ⟨I1,aR⟩:∃ I:Nat→Env→Heap→Prop,I=(fun n e h'=>∃ (i:Nat) (h1:Heap),h'=h1.lay [] h1.low∧Ext h h1∧(n=l.length - i∧i≤l.length∧l.take i=m.take i)∧∃ J:Nat→Value,e=(v::u::jr J 2 3 (.int .i64 i::jr J 6 20 ([])))):=⟨_,rfl⟩
 refine dg I1 _ (by rw [aR];exact ⟨0,_,rfl,z,⟨rfl,by omega,rfl⟩,aB (by kernel_rfl)⟩) ?_
 intro n e h' aH
 rw [aR] at aH
 obtain ⟨i,bE,rfl,z,hinv,J,rfl⟩:=aH
 obtain ⟨rfl,hi,lz⟩:=hinv
 have hw:=eg i (by omega)
 simp -implicitDefEqProofs only [syms,aa,seval,Ae,iO]
 refine bp (fun aS=>?_) (fun aS=>?_)
 rotate_left
 ·rw [List.take_of_length_le (by omega),List.take_of_length_le (by omega)] at lz
  rw [decide_eq_true lz] at hk
  repeat' (simp -implicitDefEqProofs only [syms,aa,seval,Ae])
  exact hk _ (z.aw _ _ (by omega))
 obtain ⟨r,hr,bo⟩:=eP (l:=l) (i:=i) (by omega)
 obtain ⟨s,hs,j6⟩:=eP (l:=m) (i:=i) (by omega)
 simp -implicitDefEqProofs only [syms,aa,seval,Ae]
 repeat' ((first|((with_reducible apply MT) <;> intro _)|with_reducible_and_instances refine pg (hl.mono z.inc) cf bS (by omega) hr (fun p hp=>?_)|with_reducible_and_instances refine pg (hm.mono z.inc) cf bS (by omega) hs (fun p hp=>?_)|with_reducible_and_instances refine mM hp fw bS ?_|with_reducible refine eu (by simp only [Ae]) (z.aw _ _ (by omega)) ?_|((with_reducible refine ⟨z.cW.lay _ _,?_⟩);(intro _ h' zz x _);(simp only [cq,List.append_nil] at x);(replace z:=zz);(clear zz);rw [ao h'])) <;> simp -implicitDefEqProofs only [syms,aa,seval,Ae,zsV])
 ·have aO:¬ r=s:=by assumption
  rw [decide_eq_false (show ¬ l=m from fun e=>by
   subst e
   rw [bo] at j6
   exact aO (Option.some.inj j6))] at hk
  exact hk _ (z.aw _ _ (by omega))
 ·have he:r=s:=by assumption
  rw [hw]
  (rw [aR];with_reducible refine cz (m:=_) ?_ ⟨i+1,_,rfl,z,⟨rfl,by omega,by rw [List.take_add_one,List.take_add_one,bo,j6,lz,he]⟩,aB (by kernel_rfl)⟩;omega)
theorem ZB (c:Int) (h:Heap) (K:Value→Heap→Prop) (h1:(97≤c∧c≤122)→K (.bool true) h) (h2:¬ (97≤c∧c≤122)→K (.bool false) h):Ok Tryz.prog ae ov 104 [.int .u8 c] h K:=by
 refine Ok.aD rfl zuV (br G4) rfl (m:=8) rfl ?_
 simp -implicitDefEqProofs only [syms,aa,seval,Ic]
 repeat' (refine bp (fun c=>?_) (fun c=>?_) <;> simp -implicitDefEqProofs only [syms,aa,seval,Ic])
 all_goals first|exact h1 (by omega)|exact h2 (by omega)
theorem zqk (c:Int) (h:Heap) (K:Value→Heap→Prop) (h1:(65≤c∧c≤90)→K (.bool true) h) (h2:¬ (65≤c∧c≤90)→K (.bool false) h):Ok Tryz.prog ae ov 158 [.int .u8 c] h K:=by
 refine Ok.aD rfl zvx (br HG) rfl (m:=8) rfl ?_
 simp -implicitDefEqProofs only [syms,aa,seval,Ip]
 repeat' (refine bp (fun c=>?_) (fun c=>?_) <;> simp -implicitDefEqProofs only [syms,aa,seval,Ip])
 all_goals first|exact h1 (by omega)|exact h2 (by omega)
theorem zqj (c:Int) (h:Heap) (K:Value→Heap→Prop) (h1:(48≤c∧c≤57)→K (.bool true) h) (h2:¬ (48≤c∧c≤57)→K (.bool false) h):Ok Tryz.prog ae ov 146 [.int .u8 c] h K:=by
 refine Ok.aD rfl zvr (br HB) rfl (m:=8) rfl ?_
 simp -implicitDefEqProofs only [syms,aa,seval,Io]
 repeat' (refine bp (fun c=>?_) (fun c=>?_) <;> simp -implicitDefEqProofs only [syms,aa,seval,Io])
 all_goals first|exact h1 (by omega)|exact h2 (by omega)
theorem zBV:nR ae 39 []=some bT.val:=by kernel_rfl
theorem O8 (a:ab) (k:Nat) (hk:k < 4):cut a.cells (3+k*2) 2=some (a.arg k).cells:=by
 have:k=0∨k=1∨k=2∨k=3:=by omega
 rcases this with rfl|rfl|rfl|rfl <;> rfl
theorem O4 (a:aQ):Value.agg a.cells.toArray=a.val:=rfl
theorem MF (a:ab):a.cells[0]? = some (.string a.says):=rfl
theorem MG (a:ab):a.cells[1]? = some (.string a.pred):=rfl
theorem Bv (a:ab):a.cells[2]? = some (.int .i64 a.n):=rfl
noncomputable def N28:=bq Tryz.f28
noncomputable def x28:=PLift.up (by have c:=bu N28 Tryz.f28;simp only [aE,Tryz.f28,seval] at c;exact nd c <| nd @EJ <| nd @wq <| nd @oT <| nd @D0 <| nd @b9 <| @T3)
theorem Fk:type_of% x28.down:=x28.down
noncomputable def N50:=bq Tryz.f50
noncomputable def x50:=PLift.up (by have c:=bu N50 Tryz.f50;simp only [aE,Tryz.f50,seval] at c;exact nd c <| nd @pQ <| nd @EJ <| nd @EK <| nd @wq <| nd @oT <| nd @oX <| nd @D0 <| nd @b9 <| nd @gf <| @Uo)
theorem rA:type_of% x50.down:=x50.down
noncomputable def N75:=bq Tryz.f75
noncomputable def x75:=PLift.up (by have c:=bu N75 Tryz.f75;simp only [aE,Tryz.f75,seval] at c;exact nd c <| nd @b9 <| @UM)
theorem c75:type_of% x75.down:=x75.down
theorem znj (s:ByteArray) (h:Heap) (K:Value→Heap→Prop) (h1:xR s→∀ h',Ext h h'→K (.bool true) h') (h2:¬ xR s→∀ h',Ext h h'→K (.bool false) h'):Ok Tryz.prog ae ov 132 [.string s] h K:=by
 rw [ao h]
 have z:=Ext.refl h
 refine Ok.aD rfl zvj (br Ht) rfl (m:=40) rfl ?_
 simp -implicitDefEqProofs only [syms,aa,seval,lW]
 refine bp (fun c=>?_) (fun c1=>?_)
 ·simp -implicitDefEqProofs only [syms,aa,seval,lW]
  exact h2 (fun x=>by have:=x.pos;omega) _ (z.aw _ _ (by omega))
 simp -implicitDefEqProofs only [syms,aa,seval,lW]
 refine bp (fun c=>?_) (fun c2=>?_)
 ·simp -implicitDefEqProofs only [syms,aa,seval,lW]
  exact h2 (fun x=>by have:=x.len;omega) _ (z.aw _ _ (by omega))
 simp -implicitDefEqProofs only [syms,aa,seval,lW]
 refine Eu Tryz.underlying9 rfl rfl (by omega) (by omega) ?_
 simp -implicitDefEqProofs only [syms,aa,seval,lW]
 refine pK (fun c=>?_) (fun c3=>?_)
 ·simp -implicitDefEqProofs only [syms,aa,seval,lW]
  exact h2 (fun x=>x.first (by simpa using c)) _ (z.aw _ _ (by omega))
 repeat' (simp -implicitDefEqProofs only [syms,aa,seval,lW])
 obtain ⟨I1,aR⟩:∃ I:Nat→Env→Heap→Prop,I=(fun n e h'=>∃ (i:Nat) (h1:Heap),h'=h1.lay [] h1.low∧Ext h h1∧(n=s.size - i∧i≤s.size∧∀ j,j < i→od (ke s j))∧∃ J:Nat→Value,e=(.string s::jr J 1 2 (.int .i64 i::jr J 4 37 ([])))):=⟨_,rfl⟩
 refine dg I1 _ (by rw [aR];exact ⟨0,_,rfl,z,⟨rfl,by omega,fun j hj=>by omega⟩,aB (by kernel_rfl)⟩) ?_
 intro n e h' aH
 rw [aR] at aH
 obtain ⟨i,bE,rfl,z,hinv,J,rfl⟩:=aH
 obtain ⟨rfl,hi,az⟩:=hinv
 have hw:=eg i (by omega)
 simp -implicitDefEqProofs only [syms,aa,seval,lW,hw]
 repeat' ((first|((with_reducible first|apply bp|apply iK) <;> intro _)|with_reducible_and_instances refine ZB _ _ _ (fun _=>?_) (fun _=>?_)|with_reducible_and_instances refine zqj _ _ _ (fun _=>?_) (fun _=>?_)|((with_reducible_and_instances apply Eu);(· exact Tryz.underlying9);(· rfl);(· rfl);(· omega);(· omega))|((with_reducible_and_instances apply cm);(· rfl))) <;> simp -implicitDefEqProofs only [syms,aa,seval,lW,hw])
 all_goals first
  |(with_reducible refine h2 (fun x=>?_) _ (z.aw _ _ (by omega))
    have hx:=x.all i (by omega)
    unfold od at hx
    omega)
  |(with_reducible refine h1 ?_ _ (z.aw _ _ (by omega))
    exact ⟨by omega,by omega,by simpa using c3,fun j hj=>az j (by omega)⟩)
  |(have uD:∀ j,j < i+1→od (ke s j):=by
     intro j hj
     by_cases jN:j < i
     ·exact az j jN
     ·have:j=i:=by omega
      subst this
      unfold od
      omega
    (rw [aR];with_reducible refine cz (m:=_) ?_ ⟨i+1,_,rfl,z,⟨rfl,by omega,uD⟩,aB (by kernel_rfl)⟩;omega))
theorem znv (s:ByteArray) (h:Heap) (K:Value→Heap→Prop) (h1:r8 s→∀ h',Ext h h'→K (.bool true) h') (h2:¬ r8 s→∀ h',Ext h h'→K (.bool false) h'):Ok Tryz.prog ae ov 148 [.string s] h K:=by
 rw [ao h]
 have z:=Ext.refl h
 refine Ok.aD rfl zvt (br HD) rfl (m:=48) rfl ?_
 simp -implicitDefEqProofs only [syms,aa,seval,lX]
 refine bp (fun c=>?_) (fun c1=>?_)
 ·simp -implicitDefEqProofs only [syms,aa,seval,lX]
  exact h2 (fun x=>by have:=x.pos;omega) _ (z.aw _ _ (by omega))
 simp -implicitDefEqProofs only [syms,aa,seval,lX]
 refine bp (fun c=>?_) (fun c2=>?_)
 ·simp -implicitDefEqProofs only [syms,aa,seval,lX]
  exact h2 (fun x=>by have:=x.len;omega) _ (z.aw _ _ (by omega))
 simp -implicitDefEqProofs only [syms,aa,seval,lX]
 refine Eu Tryz.underlying9 rfl rfl (by omega) (by omega) ?_
 simp -implicitDefEqProofs only [syms,aa,seval,lX]
 refine zqk _ _ _ (fun cg=>?_) (fun cg=>?_)
 rotate_left
 ·repeat' (first|simp -implicitDefEqProofs only [syms,aa,seval,lX]|((with_reducible_and_instances apply cm);(· rfl)))
  exact h2 (fun x=>cg (by simpa using x.first)) _ (z.aw _ _ (by omega))
 repeat' (first|simp -implicitDefEqProofs only [syms,aa,seval,lX]|((with_reducible_and_instances apply cm);(· rfl)))
 obtain ⟨I1,aR⟩:∃ I:Nat→Env→Heap→Prop,I=(fun n e h'=>∃ (i:Nat) (h1:Heap),h'=h1.lay [] h1.low∧Ext h h1∧(n=s.size - i∧i≤s.size∧∀ j,j < i→jH (ke s j))∧∃ J:Nat→Value,e=(.string s::jr J 1 2 (.int .i64 i::jr J 4 45 ([])))):=⟨_,rfl⟩
 refine dg I1 _ (by rw [aR];exact ⟨0,_,rfl,z,⟨rfl,by omega,fun j hj=>by omega⟩,aB (by kernel_rfl)⟩) ?_
 intro n e h' aH
 rw [aR] at aH
 obtain ⟨i,bE,rfl,z,hinv,J,rfl⟩:=aH
 obtain ⟨rfl,hi,az⟩:=hinv
 have hw:=eg i (by omega)
 simp -implicitDefEqProofs only [syms,aa,seval,lX,hw]
 repeat' ((first|((with_reducible first|apply bp|apply iK) <;> intro _)|with_reducible_and_instances refine ZB _ _ _ (fun _=>?_) (fun _=>?_)|with_reducible_and_instances refine zqj _ _ _ (fun _=>?_) (fun _=>?_)|with_reducible_and_instances refine zqk _ _ _ (fun _=>?_) (fun _=>?_)|((with_reducible_and_instances apply Eu);(· exact Tryz.underlying9);(· rfl);(· rfl);(· omega);(· omega))|((with_reducible_and_instances apply cm);(· rfl))) <;> simp -implicitDefEqProofs only [syms,aa,seval,lX,hw])
 all_goals first
  |(with_reducible refine h2 (fun x=>?_) _ (z.aw _ _ (by omega))
    have hx:=x.all i (by omega)
    unfold jH at hx
    omega)
  |(with_reducible refine h1 ?_ _ (z.aw _ _ (by omega))
    exact ⟨by omega,by omega,by simpa using cg,fun j hj=>az j (by omega)⟩)
  |(have uD:∀ j,j < i+1→jH (ke s j):=by
     intro j hj
     by_cases jN:j < i
     ·exact az j jN
     ·have:j=i:=by omega
      subst this
      unfold jH
      omega
    (rw [aR];with_reducible refine cz (m:=_) ?_ ⟨i+1,_,rfl,z,⟨rfl,by omega,uD⟩,aB (by kernel_rfl)⟩;omega))
theorem znt (s:ByteArray) (h:Heap) (K:Value→Heap→Prop) (h1:mj s→∀ h',Ext h h'→K (.bool true) h') (h2:¬ mj s→∀ h',Ext h h'→K (.bool false) h'):Ok Tryz.prog ae ov 133 [.string s] h K:=by
 rw [ao h]
 have z:=Ext.refl h
 unfold mj at h1 h2
 refine Ok.aD rfl zvk (br Hu) rfl (m:=17) rfl ?_
 simp -implicitDefEqProofs only [syms,aa,seval,Ch,Cj]
 refine Ok.aD rfl zvs (br HC) rfl (m:=2) rfl ?_
 simp -implicitDefEqProofs only [syms,aa,seval,Ch,Cj]
 repeat' ((first|((with_reducible apply bp) <;> intro _)|with_reducible_and_instances refine Mq ?_) <;> simp -implicitDefEqProofs only [syms,aa,seval,Ch,Cj])
 all_goals first
  |(with_reducible refine h1 ?_ _ (z.aw _ _ (by omega))
    first
     |exact .inl (by assumption)
     |exact .inr (.inl (by assumption))
     |exact .inr (.inr (.inl (by assumption)))
     |exact .inr (.inr (.inr (.inl (by assumption))))
     |exact .inr (.inr (.inr (.inr (.inl (by assumption)))))
     |exact .inr (.inr (.inr (.inr (.inr (.inl (by assumption))))))
     |exact .inr (.inr (.inr (.inr (.inr (.inr (.inl (by assumption)))))))
     |exact .inr (.inr (.inr (.inr (.inr (.inr (.inr (by assumption))))))))
  |(with_reducible refine h2 ?_ _ (z.aw _ _ (by omega))
    rintro (e|e|e|e|e|e|e|e) <;> exact absurd e (by assumption))
theorem zni (s:ByteArray) (h:Heap) (K:Value→Heap→Prop) (h1:gq s→∀ h',Ext h h'→K (.bool true) h') (h2:¬ gq s→∀ h',Ext h h'→K (.bool false) h'):Ok Tryz.prog ae ov 103 [.string s] h K:=by
 rw [ao h]
 have z:=Ext.refl h
 refine Ok.aD rfl zuU (br G3) rfl (m:=9) rfl ?_
 simp -implicitDefEqProofs only [syms,aa,seval,tx]
 refine znj _ _ _ (fun hs h' x=>?_) (fun hs h' x=>?_)
 ·(replace z:=z.an x (by omega);rw [ao h'])
  simp -implicitDefEqProofs only [syms,aa,seval,tx]
  refine znt _ _ _ (fun hr h' x=>?_) (fun hr h' x=>?_)
  ·(replace z:=z.an x (by omega);rw [ao h'])
   repeat' (first|simp -implicitDefEqProofs only [syms,aa,seval,tx]|((with_reducible_and_instances apply cm);(· rfl)))
   exact h2 (fun x=>x.2 hr) _ (z.aw _ _ (by omega))
  ·(replace z:=z.an x (by omega);rw [ao h'])
   repeat' (first|simp -implicitDefEqProofs only [syms,aa,seval,tx]|((with_reducible_and_instances apply cm);(· rfl)))
   exact h1 ⟨hs,hr⟩ _ (z.aw _ _ (by omega))
 ·(replace z:=z.an x (by omega);rw [ao h'])
  simp -implicitDefEqProofs only [syms,aa,seval,tx]
  exact h2 (fun x=>hs x.1) _ (z.aw _ _ (by omega))
theorem ZA (s:ByteArray) (h:Heap) (K:Value→Heap→Prop) (h1:iL s→∀ h',Ext h h'→K (.bool true) h') (h2:¬ iL s→∀ h',Ext h h'→K (.bool false) h'):Ok Tryz.prog ae ov 70 [.string s] h K:=by
 rw [ao h]
 have z:=Ext.refl h
 refine Ok.aD rfl zAn (br N70) rfl (m:=9) rfl ?_
 simp -implicitDefEqProofs only [syms,aa,seval,Fo]
 refine zni _ _ _ (fun hs h' x=>?_) (fun hs h' x=>?_)
 ·(replace z:=z.an x (by omega);rw [ao h'])
  have:=hs.1.pos
  simp -implicitDefEqProofs only [syms,aa,seval,Fo]
  refine Eu Tryz.underlying9 rfl rfl (by omega) (by omega) ?_
  simp -implicitDefEqProofs only [syms,aa,seval,Fo]
  refine ZB _ _ _ (fun cg=>?_) (fun cg=>?_)
  ·repeat' ( simp -implicitDefEqProofs only [syms,aa,seval,Fo])
   exact h1 ⟨hs,by simpa using cg⟩ _ (z.aw _ _ (by omega))
  ·repeat' ( simp -implicitDefEqProofs only [syms,aa,seval,Fo])
   exact h2 (fun x=>cg (by simpa using x.2)) _ (z.aw _ _ (by omega))
 ·(replace z:=z.an x (by omega);rw [ao h'])
  simp -implicitDefEqProofs only [syms,aa,seval,Fo]
  exact h2 (fun x=>hs x.1) _ (z.aw _ _ (by omega))
theorem zqn (s:ByteArray) (h:Heap) (K:Value→Heap→Prop) (h1:iL s→∀ h',Ext h h'→K (.bool true) h') (h2:¬ iL s→∀ h',Ext h h'→K (.bool false) h'):Ok Tryz.prog ae ov 71 [.string s] h K:=by
 rw [ao h]
 have z:=Ext.refl h
 refine Ok.aD rfl zAo (br N71) rfl (m:=4) rfl ?_
 simp -implicitDefEqProofs only [syms,aa,seval,Tl]
 refine ZA _ _ _ (fun hs h' x=>?_) (fun hs h' x=>?_)
 ·(replace z:=z.an x (by omega);rw [ao h'])
  simp -implicitDefEqProofs only [syms,aa,seval,Tl]
  exact h1 hs _ (z.aw _ _ (by omega))
 ·(replace z:=z.an x (by omega);rw [ao h'])
  simp -implicitDefEqProofs only [syms,aa,seval,Tl]
  exact h2 hs _ (z.aw _ _ (by omega))
theorem zw9 (t:aQ) (h:Heap) (K:Value→Heap→Prop) (h1:dv t→∀ h',Ext h h'→K (.bool true) h') (h2:¬ dv t→∀ h',Ext h h'→K (.bool false) h'):Ok Tryz.prog ae ov 134 [t.val] h K:=by
 rw [ao h]
 have z:=Ext.refl h
 rcases t with ⟨tv,ts⟩
 unfold dv at h1 h2
 cases tv
 ·refine Ok.aD rfl znY (br BV) rfl (m:=10) rfl ?_
  simp -implicitDefEqProofs only [syms,aa,seval,wN,aQ.val,aQ.cells]
  refine zni _ _ _ (fun hs h' x=>?_) (fun hs h' x=>?_)
  all_goals
   (replace z:=z.an x (by omega);rw [ao h'])
   simp -implicitDefEqProofs only [syms,aa,seval,wN]
   first
    |exact h1 hs _ (z.aw _ _ (by omega))
    |exact h2 hs _ (z.aw _ _ (by omega))
 ·refine Ok.aD rfl znY (br BV) rfl (m:=10) rfl ?_
  simp -implicitDefEqProofs only [syms,aa,seval,wN,aQ.val,aQ.cells]
  refine znv _ _ _ (fun hs h' x=>?_) (fun hs h' x=>?_)
  all_goals
   (replace z:=z.an x (by omega);rw [ao h'])
   simp -implicitDefEqProofs only [syms,aa,seval,wN]
   first
    |exact h1 hs _ (z.aw _ _ (by omega))
    |exact h2 hs _ (z.aw _ _ (by omega))
end Go.Proofs.YtdplfgoifjjniaaGreatDoor

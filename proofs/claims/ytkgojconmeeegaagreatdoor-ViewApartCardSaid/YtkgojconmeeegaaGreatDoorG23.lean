/- The code of some functions, node by node, for simp. Written by a program (mkcode.py). No condition. -/
import Derived.Test.YtkgojconmeeegaaGreatDoorG22
import Derived.Test.YtkgojconmeeegaaGreatDoorG21
import Derived.Lib.RowBridge
set_option linter.unusedSimpArgs false
set_option linter.unusedVariables false
set_option maxRecDepth 100000
set_option maxHeartbeats 0
namespace Go.Proofs.YtkgojconmeeegaaGreatDoor
open Go.Am
noncomputable def Vm:=bA Tryz.f17
noncomputable def Qv:=PLift.up (by have c:=bB Vm Tryz.f17;simp only [aK,Tryz.f17,seval] at c;exact nd c <| nd @HW <| nd @vI <| nd @HX <| nd @Da <| nd @rY <| nd @gn <| nd @AQ <| @aai)
theorem Wj:type_of% Qv.down:=Qv.down
noncomputable def Vr:=bA Tryz.f29
noncomputable def Zh:=PLift.up (by have c:=bB Vr Tryz.f29;simp only [aK,Tryz.f29,seval] at c;exact nd c <| nd @j6 <| nd @ct <| nd @iu <| @aap)
theorem SQ:type_of% Zh.down:=Zh.down
noncomputable def Vg:=bA Tryz.f11
noncomputable def PI:=PLift.up (by have c:=bB Vg Tryz.f11;simp only [aK,Tryz.f11,seval] at c;exact nd c <| @aac)
theorem Io:type_of% PI.down:=PI.down
/-! ### Light -/
theorem Xr (a:ab) (h:Heap) (K:Value→Heap→Prop) (h1:a.aT=true→∀ h',Ext h h'→K (.bool true) h') (h2:a.aT=false→∀ h',Ext h h'→K (.bool false) h'):Ok Tryz.prog ae ov 17 [a.val] h K:=by
 rw [ao h]
 have z:=Ext.refl h
 unfold ab.val ab.cells
 refine Ok.aH rfl zDf (br Vm) rfl (m:=29) rfl ?_
 simp only [syms,aa,seval,Wj]
 repeat' ((first|((with_reducible apply bt) <;> intro _)|with_reducible_and_instances refine RN ?_) <;> simp only [syms,aa,seval,Wj])
 all_goals first
  |with_reducible exact h2 (by simp [ab.aT];omega) _ (z.aw _ _ (by omega))
  |with_reducible exact h1 (by simp [ab.aT];omega) _ (z.aw _ _ (by omega))
theorem zou (l:List ab) (v:Value) (m:Int) (h:Heap) (hl:Sl aJ.atom h v l) (K:Value→Heap→Prop) (h1:(l.length:Int)≤m→(∀ a∈l,a.aT=true)→∀ h',Ext h h'→K (.bool true) h') (h2:∀ h',Ext h h'→K (.bool false) h'):Ok Tryz.prog ae ov 29 [v,.int .i64 m] h K:=by
 rw [ao h]
 have z:=Ext.refl h
 have hle:=hl.le
 refine Ok.aH rfl zDk (br Vr) rfl (m:=20) rfl ?_
 simp only [syms,aa,seval,SQ]
 repeat' ((first|((with_reducible apply bt) <;> intro _)|with_reducible_and_instances refine HH hl bL ?_) <;> simp only [syms,aa,seval,SQ])
 ·exact h2 _ (z.aw _ _ (by omega))
 refine zHi (fun e h'=>∃ (i:Nat) (h1:Heap) (x1 x2 x3 x4 x6 x7 x8 x9 Px PI PS PY PZ Qc Qm Qv Qw B7 B8 Zd:Value),h'=h1.lay [] h1.low∧Ext h h1∧i≤l.length∧(∀ a∈l.take i,a.aT=true)∧e=[v,x1,x2,x3,x4,.int .i64 i,x6,x7,x8,x9,Px,PI,PS,PY,PZ,Qc,Qm,Qv,Qw,B7,B8,Zd]) (fun e _=>match e.get 5 with | .int _ i=>l.length - i.toNat|_=>0) ?_ ?_
 ·exact ⟨0,h,_,_,_,_,_,_,_,_,_,_,_,_,_,_,_,_,_,_,_,_,rfl,z,by omega,by simp,rfl⟩
 rintro e h' ⟨i,bH,x1,x2,x3,x4,x6,x7,x8,x9,Px,PI,PS,PY,PZ,Qc,Qm,Qv,Qw,B7,B8,Zd,rfl,z,hi,aB,rfl⟩
 have hw:i < l.length→IntKind.i64.wrap ((i:Int)+1)=((i+1:Nat):Int):=fun hh=>by unfold maxLen at hle;rw [wrap_i64 (by omega) (by omega)];omega
 simp only [syms,aa,seval,SQ]
 repeat' ((first|((with_reducible apply bt) <;> intro _)|with_reducible_and_instances refine HH hl bL ?_|with_reducible_and_instances refine YU (hl.mono z.inc) bL bO (by omega) (by omega) (fun a p ha hp=>?_)|with_reducible_and_instances refine mW hp fx bO ?_|((with_reducible_and_instances refine Xr _ _ _ (fun oc h' x=>?_) (fun oc h' x=>?_)) <;> (replace z:=z.an x (by omega);rw [ao h']))|((with_reducible_and_instances apply b8);(· rfl))) <;> simp only [syms,aa,seval,SQ])
 all_goals first
  |with_reducible exact h2 _ (z.aw _ _ (by omega))
  |with_reducible exact h1 (by omega) (by rw [List.take_of_length_le (by omega)] at aB;exact aB) _ (z.aw _ _ (by omega))
  |(rw [hw (by omega)]
    with_reducible refine zog ?_ ?_
    ·exact ⟨i+1,h',_,_,_,_,_,_,_,_,_,_,_,_,_,_,_,_,_,_,_,_,rfl,z,by omega,oC ha aB oc,rfl⟩
    ·show l.length - ((i+1:Nat):Int).toNat < l.length - (i:Int).toNat
     omega)
noncomputable def Vq:=bA Tryz.f28
noncomputable def Zg:=PLift.up (by have c:=bB Vq Tryz.f28;simp only [aK,Tryz.f28,seval] at c;exact nd c <| nd @j5 <| nd @gn <| nd @j7 <| nd @AQ <| @aao)
theorem SP:type_of% Zg.down:=Zg.down
noncomputable def N6:=bA Tryz.f6
noncomputable def x6:=PLift.up (by have c:=bB N6 Tryz.f6;simp only [aK,Tryz.f6,seval] at c;exact nd c <| nd @HV <| nd @Kf <| nd @XJ <| nd @XK <| nd @XL <| nd @HY <| nd @Db <| nd @Kh <| nd @HZ <| nd @H2 <| nd @XM <| nd @Ss <| nd @XN <| nd @xy <| nd @xz <| nd @G7 <| nd @G8 <| nd @lV <| nd @uz <| nd @AH <| nd @AJ <| nd @AK <| nd @ct <| nd @mV <| nd @gn <| nd @xC <| nd @AN <| nd @AO <| nd @AP <| nd @AQ <| @fi6)
theorem c6:type_of% x6.down:=x6.down
noncomputable def Vo:=bA Tryz.f24
noncomputable def Ze:=PLift.up (by have c:=bB Vo Tryz.f24;simp only [aK,Tryz.f24,seval] at c;exact nd c <| nd @HV <| nd @j5 <| nd @lV <| nd @gn <| nd @j7 <| @aam)
theorem SO:type_of% Ze.down:=Ze.down
theorem zhf (l:List ByteArray) (v:Value) (n0 m:Int) (h:Heap) (hl:Sl aJ.str h v l) (K:Value→Heap→Prop) (qh:(l.length:Int)≤n0→∀ h',Ext h h'→K (.bool true) h') (jU:∀ h',Ext h h'→K (.bool false) h'):Ok Tryz.prog ae ov 28 [v,.int .i64 n0,.int .i64 m] h K:=by
 rw [ao h]
 have z:=Ext.refl h
 have hle:=hl.le
 have bx:=bY v
 have cz:=fun (hh:Heap)=>hl.bc cY hh
 refine Ok.aH rfl zDj (br Vq) rfl (m:=26) rfl ?_
 repeat' (first|simp only [syms,aa,seval,SP,bx,cz]|((with_reducible apply bt) <;> intro _))
 ·exact jU _ (z.aw _ _ (by omega))
 obtain ⟨I1,aS⟩:∃ I:Nat→Env→Heap→Prop,I=(fun n e h'=>∃ (i:Nat) (s:Int) (h1:Heap),h'=h1.lay [] h1.low∧Ext h h1∧(n=l.length - i∧i≤l.length)∧∃ J:Nat→Value,e=(v::.int .i64 n0::.int .i64 m::jr J 3 4 (.int .i64 s::.int .i64 i::jr J 9 20 ([])))):=⟨_,rfl⟩
 refine dj I1 _ (by rw [aS];exact ⟨0,0,_,rfl,z,⟨rfl,by omega⟩,aE (by kernel_rfl)⟩) ?_
 intro n e h' aL
 rw [aS] at aL
 obtain ⟨i,s,bH,rfl,z,hinv,J,rfl⟩:=aL
 obtain ⟨rfl,hi⟩:=hinv
 have hw:i < l.length→IntKind.i64.wrap ((i:Int)+1)=((i+1:Nat):Int):=fun hh=>by unfold maxLen at hle;rw [wrap_i64 (by omega) (by omega)];omega
 simp only [syms,aa,seval,SP,bx,cz]
 refine bt (fun aR=>?_) (fun aR=>?_)
 rotate_left
 ·repeat' ( simp only [syms,aa,seval,SP])
  exact qh (by omega) _ (z.aw _ _ (by omega))
 obtain ⟨r,hr,bz⟩:=eU (l:=l) (i:=i) (by omega)
 repeat' (first|simp only [syms,aa,seval,SP,bx]|((with_reducible apply bt) <;> intro _)|with_reducible_and_instances refine qV (hl.mono z.inc) cY oq (by omega) hr (fun p hp=>?_)|with_reducible_and_instances refine hY hp kc ?_)
 ·exact jU _ (z.aw _ _ (by omega))
 ·rw [hw (by omega)]
  (rw [aS];with_reducible refine cB (m:=_) ?_ ⟨i+1,IntKind.i64.wrap (s+r.size),_,rfl,z,⟨rfl,by omega⟩,aE (by kernel_rfl)⟩;omega)
def jw (l:List ByteArray) (x:ByteArray):Bool:=l.any (fun y=>decide (y=x))
theorem fY {l:List ByteArray} {x:ByteArray}:jw l x=true↔x∈l:=by
 unfold jw
 rw [List.any_eq_true]
 exact ⟨fun ⟨y,h1,h2⟩=>of_decide_eq_true h2 ▸ h1,fun h=>⟨x,h,decide_eq_true rfl⟩⟩
theorem HI (l:List ByteArray) (who:ByteArray) (p0 p1 p2 p5 p6:Value) (q b:Int) (h:Heap) (hl:Sl aJ.str h p0 l) (K:Value→Heap→Prop) (hk:∀ h',Ext h h'→K (.bool (jw l who)) h'):Ok Tryz.prog ae ov 24 [gi p0 p1 p2 p5 p6 q b,.string who] h K:=by
 rw [ao h]
 have z:=Ext.refl h
 have hle:=hl.le
 have bx:=bY p0
 have cz:=fun (hh:Heap)=>hl.bc cY hh
 refine Ok.aH rfl zDh (br Vo) rfl (m:=18) rfl ?_
 repeat' (simp only [syms,aa,seval,SO,ek,dY,bx,cz])
 refine ml (fun h' x hq=>?_)
 have q0:=hq 0 _ rfl
 clear hq
 (replace z:=z.an x (by omega);rw [ao h'])
 obtain ⟨A0,dZ⟩:∃ A0,A0=h.size+0:=⟨_,rfl⟩
 rw [← dZ] at q0
 rw [← dZ]
 obtain ⟨I1,aS⟩:∃ I:Nat→Env→Heap→Prop,I=(fun n e h'=>∃ (i:Nat) (h1:Heap),h'=h1.lay [] h1.low∧Ext h h1∧(n=l.length - i∧i≤l.length∧(∀ x∈l.take i,decide (x=who)=false)∧Holds h1 A0 (.row (cX p0 p1 p2 p5 p6 q b) 28 false))∧∃ J:Nat→Value,e=(J 0::.string who::.pointer (some ⟨A0,0,none⟩)::jr J 3 2 (.int .i64 i::jr J 6 14 ([])))):=⟨_,rfl⟩
 refine dj I1 _ (by rw [aS];exact ⟨0,_,rfl,z,⟨rfl,by omega,by simp,q0⟩,aE (by kernel_rfl)⟩) ?_
 intro n e h' aL
 rw [aS] at aL
 obtain ⟨i,bH,rfl,z,hinv,J,rfl⟩:=aL
 clear q0
 obtain ⟨rfl,hi,aB,q0⟩:=hinv
 have hw:i < l.length→IntKind.i64.wrap ((i:Int)+1)=((i+1:Nat):Int):=fun hh=>by unfold maxLen at hle;rw [wrap_i64 (by omega) (by omega)];omega
 simp only [syms,aa,seval,SO,q0.lay,dY,bx,cz]
 refine bt (fun aR=>?_) (fun aR=>?_)
 rotate_left
 ·rw [List.take_of_length_le (by omega)] at aB
  have hf:jw l who=false:=by unfold jw;rw [List.any_eq_false];intro x hx;rw [aB x hx];decide
  rw [hf] at hk
  repeat' (simp only [syms,aa,seval,SO])
  exact hk _ (z.aw _ _ (by omega))
 obtain ⟨r,hr,bz⟩:=eU (l:=l) (i:=i) (by omega)
 repeat' (first|simp only [syms,aa,seval,SO,q0.lay,dY,bx]|((with_reducible apply bt) <;> intro _)|with_reducible_and_instances refine qV (hl.mono z.inc) cY oq (by omega) hr (fun p hp=>?_)|with_reducible_and_instances refine hY hp kc ?_)
 ·have he:r=who:=by assumption
  rw [show jw l who=true from fY.2 (he ▸ List.mem_of_getElem? bz)] at hk
  exact hk _ (z.aw _ _ (by omega))
 ·have aP:¬ r=who:=by assumption
  rw [hw (by omega)]
  (rw [aS];with_reducible refine cB (m:=_) ?_ ⟨i+1,_,rfl,z,⟨rfl,by omega,oC (i:=i) (P:=fun x:ByteArray=>decide (x=who)=false) bz aB (decide_eq_false aP),q0⟩,aE (by kernel_rfl)⟩;omega)
noncomputable def VG:=bA Tryz.f46
noncomputable def ZX:=PLift.up (by have c:=bB VG Tryz.f46;simp only [aK,Tryz.f46,seval] at c;exact nd c <| nd @xz <| nd @AM <| nd @AN <| @aaG)
theorem It:type_of% ZX.down:=ZX.down
noncomputable def VH:=bA Tryz.f47
noncomputable def ZY:=PLift.up (by have c:=bB VH Tryz.f47;simp only [aK,Tryz.f47,seval] at c;exact nd c <| nd @Db <| nd @gn <| @aaH)
theorem MG:type_of% ZY.down:=ZY.down
noncomputable def Vn:=bA Tryz.f18
noncomputable def Qw:=PLift.up (by have c:=bB Vn Tryz.f18;simp only [aK,Tryz.f18,seval] at c;exact nd c <| nd @tA <| nd @XJ <| nd @Kh <| nd @xz <| nd @lV <| nd @AH <| nd @dW <| nd @gn <| @aaj)
theorem uU:type_of% Qw.down:=Qw.down
noncomputable def Vk:=bA Tryz.f14
noncomputable def PZ:=PLift.up (by have c:=bB Vk Tryz.f14;simp only [aK,Tryz.f14,seval] at c;exact nd c <| nd @dW <| @aaf)
theorem ZM:type_of% PZ.down:=PZ.down
noncomputable def KI:=bA Tryz.f111
noncomputable def PK:=PLift.up (by have c:=bB KI Tryz.f111;simp only [aK,Tryz.f111,seval] at c;exact nd c <| nd @zNs <| nd @zNv <| nd @zNy <| @zL1)
theorem qa:type_of% PK.down:=PK.down
noncomputable def KJ:=bA Tryz.f112
noncomputable def PL:=PLift.up (by have c:=bB KJ Tryz.f112;simp only [aK,Tryz.f112,seval] at c;exact nd c <| @zL2)
theorem ZK:type_of% PL.down:=PL.down
noncomputable def Lb:=bA Tryz.f159
noncomputable def Ql:=PLift.up (by have c:=bB Lb Tryz.f159;simp only [aK,Tryz.f159,seval] at c;exact nd c <| nd @G9 <| nd @adz <| @zMv)
theorem Mr:type_of% Ql.down:=Ql.down
noncomputable def Yq:=bA Tryz.f45
noncomputable def ZW:=PLift.up (by have c:=bB Yq Tryz.f45;simp only [aK,Tryz.f45,seval] at c;exact nd c <| nd @HV <| nd @lV <| @aaF)
theorem SR:type_of% ZW.down:=ZW.down
noncomputable def Lc:=bA Tryz.f160
noncomputable def Qn:=PLift.up (by have c:=bB Lc Tryz.f160;simp only [aK,Tryz.f160,seval] at c;exact nd c <| nd @Fe <| nd @Kf <| nd @HY <| nd @Sr <| nd @xy <| nd @uz <| nd @mi <| nd @Ha <| nd @gn <| nd @xC <| @zMw)
theorem vV:type_of% Qn.down:=Qn.down
noncomputable def KL:=bA Tryz.f114
noncomputable def PN:=PLift.up (by have c:=bB KL Tryz.f114;simp only [aK,Tryz.f114,seval] at c;exact nd c <| nd @EP <| nd @vI <| nd @HX <| nd @EC <| nd @dW <| nd @mi <| nd @gn <| @zL4)
theorem jM:type_of% PN.down:=PN.down
noncomputable def Ld:=bA Tryz.f161
noncomputable def Qo:=PLift.up (by have c:=bB Ld Tryz.f161;simp only [aK,Tryz.f161,seval] at c;exact nd c <| nd @ct <| @zMx)
theorem Ms:type_of% Qo.down:=Qo.down
noncomputable def VZ:=bA Tryz.f68
noncomputable def sW:=PLift.up (by have c:=bB VZ Tryz.f68;simp only [aK,Tryz.f68,seval] at c;exact nd c <| nd @EP <| nd @vI <| nd @dW <| nd @ct <| nd @gn <| @aaW)
theorem sE:type_of% sW.down:=sW.down
noncomputable def KK:=bA Tryz.f113
noncomputable def PM:=PLift.up (by have c:=bB KK Tryz.f113;simp only [aK,Tryz.f113,seval] at c;exact nd c <| nd @dW <| nd @ct <| @zL3)
theorem Ml:type_of% PM.down:=PM.down
noncomputable def V2:=bA Tryz.f72
noncomputable def yB:=PLift.up (by have c:=bB V2 Tryz.f72;simp only [aK,Tryz.f72,seval] at c;exact nd c <| nd @ct <| @aaZ)
theorem Wm:type_of% yB.down:=yB.down
end Go.Proofs.YtkgojconmeeegaaGreatDoor
namespace Go.Am
def yb (l:List eo) (a:ab):List ab:=match l.find? (fun r=>r.atom == a) with
 |some r=>r.body
 |none=>[]
structure sx (l:List eo) (goals out:List ab):Prop where
 iI:dR out
 plain:vN out
 rO:∀ g∈goals,g∈out
 closed:∀ x∈out,∀ b∈yb l x,b∈out
 least:∀ S:ab→Prop,(∀ g∈goals,S g)→(∀ x,S x→∀ b∈yb l x,S b)→∀ x∈out,S x
theorem sx.none {l:List eo} {o:List ab} (f:sx l [] o):o=[]:=by
 cases o with
 |nil=>rfl
 |cons x o=>exact (f.least (fun _=>False) (fun g hg=>by cases hg) (fun _ h=>h.elim) x (List.mem_cons_self ..)).elim
def De (l:List eo):List ab:=l.flatMap (·.body)
theorem zsm {l:List eo} {a b:ab} (h:b∈yb l a):b∈De l:=by
 unfold yb at h
 split at h
 ·rename_i r hr
  exact List.mem_flatMap.2 ⟨r,List.mem_of_find?_eq_some hr,h⟩
 ·cases h
structure SN (l:List eo) (goals out todo:List ab):Prop where
 iI:dR out
 plain:vN out
 rO:∀ g∈goals,g∈out
 closed:∀ x∈out,x∈todo∨∀ b∈yb l x,b∈out
 D6:∀ x∈todo,x∈out
 least:∀ S:ab→Prop,(∀ g∈goals,S g)→(∀ x,S x→∀ b∈yb l x,S b)→∀ x∈out,S x
structure kl (l:List eo) (goals out todo:List ab) (x:ab) (j:Nat):Prop where
 iI:dR out
 plain:vN out
 rO:∀ g∈goals,g∈out
 closed:∀ y∈out,y∈todo∨y=x∨∀ b∈yb l y,b∈out
 D6:∀ y∈todo,y∈out
 here:x∈out
 done:∀ b∈(yb l x).take j,b∈out
 least:∀ S:ab→Prop,(∀ g∈goals,S g)→(∀ x,S x→∀ b∈yb l x,S b)→∀ x∈out,S x
theorem kl.add {l:List eo} {goals out todo:List ab} {x a:ab} {j:Nat} (f:kl l goals out todo x j) (ha:(yb l x)[j]? = some a) (hp:ie a):kl l goals (cA a out) (todo++[a]) x (j+1):=by
 have lR:∀ y,y∈cA a out↔y∈out∨y=a:=fun y=>by
  rw [HE f.iI]
  constructor
  ·rintro (h|⟨rfl,_⟩)
   ·exact .inl h
   ·exact .inr rfl
  ·rintro (h|rfl)
   ·exact .inl h
   ·by_cases hy:y∈out
    ·exact .inl hy
    ·refine .inr ⟨rfl,fun z hz e=>hy ?_⟩
     rw [(zwj hp (f.plain z hz)).1 e]
     exact hz
 have cd:a∈yb l x:=List.mem_of_getElem? ha
 refine ⟨Xj f.iI,fun y hy=>?_,fun g hg=>(lR g).2 (.inl (f.rO g hg)),fun y hy=>?_,fun y hy=>?_,(lR x).2 (.inl f.here),fun b hb=>?_,fun S h1 h2 y hy=>?_⟩
 ·rcases (lR y).1 hy with h|rfl
  ·exact f.plain y h
  ·exact hp
 ·rcases (lR y).1 hy with h|rfl
  ·rcases f.closed y h with h|h|h
   ·exact .inl (List.mem_append_left _ h)
   ·exact .inr (.inl h)
   ·exact .inr (.inr (fun b hb=>(lR b).2 (.inl (h b hb))))
  ·exact .inl (List.mem_append_right _ (List.mem_cons_self ..))
 ·rcases List.mem_append.1 hy with h|h
  ·exact (lR y).2 (.inl (f.D6 y h))
  ·have:y=a:=by simpa using h
   exact (lR y).2 (.inr this)
 ·rw [List.take_add_one,ha] at hb
  rcases List.mem_append.1 hb with hb|hb
  ·exact (lR b).2 (.inl (f.done b hb))
  ·have:b=a:=by simpa using hb
   exact (lR b).2 (.inr this)
 ·rcases (lR y).1 hy with h|rfl
  ·exact f.least S h1 h2 y h
  ·exact h2 x (f.least S h1 h2 x f.here) y cd
theorem kl.len {l:List eo} {goals out todo:List ab} {x:ab} {j:Nat} (f:kl l goals out todo x j) (hp:vN (goals++De l)):out.length≤goals.length+(De l).length:=by
 have h1:∀ y∈out,y∈goals++De l:=f.least (·∈goals++De l) (fun g hg=>List.mem_append_left _ hg) (fun y _ b hb=>List.mem_append_right _ (zsm hb))
 have h2:∀ y,y∈out→y∈eg (goals++De l):=fun y hy=>(zvy hp).2 (h1 y hy)
 have h3:=CC (goals++De l)
 have h4:out.length≤(eg (goals++De l)).length:=by
  have e:out=(eg (goals++De l)).filter (fun x=>decide (x∈out)):=U4 f.iI (zsi _ (ri _).iI) (fun y=>by
   rw [List.mem_filter,decide_eq_true_iff]
   exact ⟨fun hy=>⟨h2 y hy,hy⟩,fun hy=>hy.2⟩)
  rw [e]
  exact List.length_filter_le _ _
 rw [List.length_append] at h3
 omega
end Go.Am
namespace Go.Am
open Go.Proofs
structure Yu (h:Heap) (p0 p1 p2 p5 p6:Value) (d:au):Prop where
 s0:Sl aJ.str h p0 d.ah
 s2:Sl aJ.clear h p2 d.aF
theorem dD.k {h:Heap} {p0 p1 p2 p5 p6:Value} {d:au} (f:dD h p0 p1 p2 p5 p6 d):Yu h p0 p1 p2 p5 p6 d:=⟨f.s0,f.s2⟩
end Go.Am
namespace Go.Am
def fJ {κ:Type} (kv:κ→Value) (h:Heap) (A:Nat) (met:List κ):Prop:=∃ es clock,∃ ks:List κ,Holds h A (.map es clock)∧es.map (fun x:MapEntry=>x.key)=ks.map kv∧(∀ a,a∈ks↔a∈met)∧∀ x∈es,x.val=.agg ⟨[]⟩
section
variable {κ:Type} {kv:κ→Value} {T:bK} {t kt et:TypeId} {A:Nat} {met:List κ} {a:κ} {h1:Heap} {bs:List bh} {w:Nat} {K:Value→Heap→Prop} {z:Value}
theorem T5 [DecidableEq κ] (heq:∀ x y:κ,fB T 20 kt (kv x) (kv y)=some (decide (x=y))):∀ (es:List MapEntry) (ks:List κ) (i:Nat),es.map (fun x:MapEntry=>x.key)=ks.map kv →
 (a ∉ ks→pV T kt (kv a) es i=some none)∧(a∈ks→∃ (j:Nat) (e:MapEntry),pV T kt (kv a) es i=some (some (i+j,e.val))∧es[j]? = some e∧e.key=kv a)
 | [],ks,i,hk=>by
  cases ks with
  |nil=>exact ⟨fun _=>rfl,fun h=>by simp at h⟩
  |cons k ks=>simp at hk
 |e::es,ks,i,hk=>by
  cases ks with
  |nil=>simp at hk
  |cons k ks =>
   simp only [List.map_cons,List.cons.injEq] at hk
   obtain ⟨h1,h2⟩:=T5 heq es ks (i+1) hk.2
   unfold pV
   rw [hk.1,heq]
   by_cases hx:a=k
   ·subst hx
    refine ⟨fun hn=>absurd List.mem_cons_self hn,fun _=>⟨0,e,by simp,rfl,hk.1⟩⟩
   ·simp only [decide_eq_false hx,Option.bind_some,Bool.false_eq_true,if_false,List.mem_cons,hx,false_or]
    refine ⟨h1,fun ha=>?_⟩
    obtain ⟨j,e',g1,g2,g3⟩:=h2 ha
    refine ⟨j+1,e',?_,by simpa using g2,g3⟩
    rw [g1,show i+1+j=i+(j+1) by omega]
    simp
theorem US [DecidableEq κ] (hp:∀ x:κ,plain (kv x)=true) (a:κ) (heq:∀ x y:κ,fB T 20 kt (kv x) (kv y)=some (decide (x=y))):uP T kt (kv a)=true:=by
 unfold uP
 rw [hp,heq]
 simp
theorem fJ.over (m:fJ kv h1 A met) {h2:Heap} (x:Ext (h1.lay bs w) h2):fJ kv h2 A met:=by
 obtain ⟨es,cl,ks,m1,m2,m3⟩:=m
 exact ⟨es,cl,ks,m1.over x,m2,m3⟩
theorem fJ.new (q:Holds h1 A (.map [] 0)):fJ kv h1 A ([]:List κ):=⟨[],0,[],q,rfl,fun _=>Iff.rfl,fun _ hx=>by simp at hx⟩
theorem fJ.same {Pd:List κ} (m:fJ kv h1 A met) (h:∀ a,a∈met↔a∈Pd):fJ kv h1 A Pd:=by
 obtain ⟨es,cl,ks,m1,m2,m3,m4⟩:=m
 exact ⟨es,cl,ks,m1,m2,fun a=>(m3 a).trans (h a),m4⟩
theorem zsS [DecidableEq κ] (m:fJ kv h1 A met) (hp:∀ x:κ,plain (kv x)=true) (hd:T.desc t=some (.map kt et)) (heq:∀ x y:κ,fB T 20 kt (kv x) (kv y)=some (decide (x=y))) (hz:T.zero et=some (.agg ⟨[]⟩))
 (qh:a∈met→K (.tuple #[.agg ⟨[]⟩,.bool true]) (h1.lay bs w)) (jU:a ∉ met→K (.tuple #[.agg ⟨[]⟩,.bool false]) (h1.lay bs w)):aW (xX T t (.map (some A)) (kv a) true (h1.lay bs w)) (h1.lay bs w) K:=by
 obtain ⟨es,cl,ks,m1,m2,m3,m4⟩:=m
 obtain ⟨f1,f2⟩:=T5 (a:=a) heq es ks 0 m2
 have hg:(h1.lay bs w).get A=some (.map es cl):=m1.lay bs w
 unfold xX
 simp only [hd,US hp a heq,if_true,SK,hg,Option.bind_some]
 by_cases ha:a∈ks
 ·obtain ⟨j,e,hr,hx,_⟩:=f2 ha
  rw [hr]
  have jb:e.val=.agg ⟨[]⟩:=m4 e (List.mem_of_getElem? hx)
  simp only [jb,Option.bind_some,Option.map_some,if_true]
  exact qh ((m3 a).1 ha)
 ·rw [f1 ha]
  simp only [hz,Option.bind_some,Option.map_some,if_true]
  exact jU (fun hh=>ha ((m3 a).2 hh))
theorem zEi [DecidableEq κ] (m:fJ kv h1 A met) (hp:∀ x:κ,plain (kv x)=true) (xk:∀ x:κ,HJ (kv x) (kv x)=true) (hd:T.desc t=some (.map kt et)) (heq:∀ x y:κ,fB T 20 kt (kv x) (kv y)=some (decide (x=y)))
 (hK:∀ h',fJ kv h' A (a::met)→fp A (h1.lay bs w) h'→K undef h'):iw (oB T t (.map (some A)) (kv a) (.agg ⟨[]⟩) (h1.lay bs w)) K:=by
 obtain ⟨es,cl,ks,m1,m2,m3,m4⟩:=m
 obtain ⟨f1,f2⟩:=T5 (a:=a) heq es ks 0 m2
 have hg:(h1.lay bs w).get A=some (.map es cl):=m1.lay bs w
 have hA:A < (h1.lay bs w).size:=(m1.on bs w).lt
 have hc:∀ b,fp A (h1.lay bs w) ((h1.lay bs w).set A b):=fun b=>⟨by rw [Heap.size_set];exact Nat.le_refl _,fun B hB aP=>by rw [Heap.aD _ _ _ _ hA,if_neg aP],by rw [Heap.bW];omega⟩
 have hh:∀ b,Holds ((h1.lay bs w).set A b) A b:=fun b=>⟨by rw [Heap.size_set];exact hA,by rw [Heap.aD _ _ _ _ hA,if_pos rfl]⟩
 by_cases ha:a∈ks
 ·obtain ⟨j,e,hr,hx,Yd⟩:=f2 ha
  have he:oB T t (.map (some A)) (kv a) (.agg ⟨[]⟩) (h1.lay bs w)=some ((h1.lay bs w).set A (.map (es.modify j fun e=>{ e with key:=kv a,val:=.agg ⟨[]⟩ }) cl)):=by
   unfold oB
   simp only [hd,hg,US hp a heq,if_true,hr,Option.bind_some,Nat.zero_add,hx,Yd,xk]
  rw [he]
  refine hK _ ⟨_,cl,ks,hh _,?_,fun b=>?_,fun x G3=>?_⟩ (hc _)
  ·rw [← m2]
   refine List.ext_getElem? (fun i=>?_)
   simp only [List.getElem?_map,List.getElem?_modify]
   by_cases di:j=i
   ·subst di
    rw [hx]
    simp [Yd]
   ·cases es[i]? <;> simp [di]
  ·rw [m3,List.mem_cons]
   exact ⟨.inr,fun h=>h.elim (fun e=>e ▸ (m3 a).1 ha) id⟩
  ·obtain ⟨i,hi⟩:=List.getElem?_of_mem G3
   rw [List.getElem?_modify] at hi
   cases zZ:es[i]? with
   |none=>rw [zZ] at hi;simp at hi
   |some y =>
    rw [zZ] at hi
    simp only [Option.map_eq_map,Option.map_some,Option.some.injEq] at hi
    by_cases di:j=i
    ·rw [if_pos di] at hi;rw [← hi]
    ·rw [if_neg di] at hi;rw [← hi];exact m4 y (List.mem_of_getElem? zZ)
 ·have he:oB T t (.map (some A)) (kv a) (.agg ⟨[]⟩) (h1.lay bs w)=some ((h1.lay bs w).set A (.map (es++[{ key:=kv a,val:=.agg ⟨[]⟩,born:=cl }]) (cl+1))):=by
   unfold oB
   simp only [hd,hg,US hp a heq,if_true,f1 ha,Option.bind_some]
  rw [he]
  refine hK _ ⟨_,_,ks++[a],hh _,by simp [m2],fun b=>?_,fun x hx=>?_⟩ (hc _)
  ·rw [List.mem_append,List.mem_singleton,List.mem_cons,m3]
   exact Or.comm
  ·rcases List.mem_append.1 hx with hx|hx
   ·exact m4 x hx
   ·rw [List.mem_singleton.1 hx]
end
end Go.Am

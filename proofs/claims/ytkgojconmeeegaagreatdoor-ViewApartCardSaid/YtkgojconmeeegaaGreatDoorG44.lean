/- The code of some functions, node by node, for simp. Written by a program (mkcode.py). No condition. -/
import Derived.Test.YtkgojconmeeegaaGreatDoorG43
set_option linter.unusedSimpArgs false
set_option linter.unusedVariables false
set_option maxRecDepth 100000
set_option maxHeartbeats 0
namespace Go.Proofs.YtkgojconmeeegaaGreatDoor
open Go.Am
noncomputable def Vt:=bA Tryz.f31
noncomputable def Zj:=PLift.up (by have c:=bB Vt Tryz.f31;simp only [aK,Tryz.f31,seval] at c;exact nd c <| nd @zLx <| nd @Xy <| nd @HV <| nd @j5 <| nd @Yj <| nd @lV <| nd @dW <| nd @gn <| nd @j7 <| @aar)
theorem sD:type_of% Zj.down:=Zj.down
noncomputable def Vu:=bA Tryz.f32
noncomputable def Zk:=PLift.up (by have c:=bB Vu Tryz.f32;simp only [aK,Tryz.f32,seval] at c;exact nd c <| nd @zu3 <| nd @Xy <| nd @zu4 <| nd @zu5 <| nd @Sq <| nd @Cm <| nd @Yj <| nd @dW <| nd @mi <| nd @ct <| nd @mV <| nd @AL <| nd @iu <| @aas)
theorem kP:type_of% Zk.down:=Zk.down
noncomputable def Vv:=bA Tryz.f33
noncomputable def Zl:=PLift.up (by have c:=bB Vv Tryz.f33;simp only [aK,Tryz.f33,seval] at c;exact nd c <| nd @zu3 <| nd @Xy <| nd @zu4 <| nd @zu5 <| nd @Cm <| nd @Yj <| nd @dW <| nd @ct <| nd @mV <| nd @AL <| @aat)
theorem me:type_of% Zl.down:=Zl.down
noncomputable def VO:=bA Tryz.f60
noncomputable def Z5:=PLift.up (by have c:=bB VO Tryz.f60;simp only [aK,Tryz.f60,seval] at c;exact nd c <| nd @Xy <| nd @zjG <| nd @Cm <| nd @Yj <| nd @gn <| nd @zNw <| @aaO)
theorem Iu:type_of% Z5.down:=Z5.down
noncomputable def VN:=bA Tryz.f59
noncomputable def Z4:=PLift.up (by have c:=bB VN Tryz.f59;simp only [aK,Tryz.f59,seval] at c;exact nd c <| nd @vI <| nd @dW <| nd @ct <| nd @gn <| @aaN)
theorem Dp:type_of% Z4.down:=Z4.down
noncomputable def N7:=bA Tryz.f7
noncomputable def x7:=PLift.up (by have c:=bB N7 Tryz.f7;simp only [aK,Tryz.f7,seval] at c;exact nd c <| nd @ED <| nd @EE <| nd @O5 <| nd @ct <| nd @gn <| nd @Pa <| nd @AQ <| @fi7)
theorem c7:type_of% x7.down:=x7.down
noncomputable def N8:=bA Tryz.f8
noncomputable def x8:=PLift.up (by have c:=bB N8 Tryz.f8;simp only [aK,Tryz.f8,seval] at c;exact nd c <| nd @U1 <| nd @ED <| nd @EE <| nd @O5 <| nd @dW <| nd @mi <| nd @ct <| nd @gn <| nd @Pa <| @fi8)
theorem c8:type_of% x8.down:=x8.down
structure lH where
 who:ByteArray
 v:Value
 n:Nat
def lH.cells (x:lH):List Value:=[.string x.who,x.v,.int .u64 x.n]
theorem R2 (x:lH):x.cells.length=3:=rfl
def C7 (p0 p1 p2 p5 p6:Value) (q b:Int) (nv:Value):List Value:=[p0,p1,p2,.int .i64 q,.int .i64 b,p5,p6,nv]
def fC (N:Nat) (h:Heap) (S2 NB:Nat) (d:au) (k:Nat):Prop :=
 ∃ p0 p1 p2 p5 p6 q b nv rows,Holds h S2 (.row (C7 p0 p1 p2 p5 p6 q b nv) 122 false)∧dD (aI [NB] h) p0 p1 p2 p5 p6 d∧cJ 3 lH.cells h 124 NB nv rows∧rows.map lH.who=d.ah ∧
   (∀ x∈rows,x.n≤k∧∃ l:List ab,Sl aJ.atom (aI [NB] h) x.v l∧l.length≤k∧∀ y∈l,y.aT=true)∧S2≠NB∧N≤S2∧N≤NB∧NB < h.size
theorem cJ.uv {α:Type} {k:Nat} {cell:α→List Value} {h h1:Heap} {u:TypeId} {A:Nat} {v:Value} {l:List α} (f:cJ k cell h u A v l) (i:cn h h1):cJ k cell h1 u A v l:=by
 rcases f with f|⟨q,row,e1,e2,e3⟩
 ·exact .inl f
 ·exact .inr ⟨q,row,e1,e2.mono i,e3⟩
theorem zlg {a b:Heap} {A:Nat} (i:cn a b):cn (aI [A] a) (aI [A] b):=zy6 i
theorem fC.inc {N S2 NB k:Nat} {h h2:Heap} {d:au} (f:fC N h S2 NB d k) (i:cn h h2):fC N h2 S2 NB d k:=by
 obtain ⟨p0,p1,p2,p5,p6,q,b,nv,rows,e1,e2,e3,e4,e5,e6,e7,e8,e9⟩:=f
 exact ⟨p0,p1,p2,p5,p6,q,b,nv,rows,e1.mono i,e2.mono (zlg i),cJ.uv e3 i,e4,fun x hx=>⟨(e5 x hx).1,(e5 x hx).2.imp fun _ hl=>⟨hl.1.mono (zlg i),hl.2⟩⟩,e6,e7,e8,Nat.lt_of_lt_of_le e9 i.size⟩
theorem Kb (p0 p1 p2 p5 p6 nv:Value) (q b:Int):(C7 p0 p1 p2 p5 p6 q b nv)[7]? = some nv:=rfl
theorem zHB (p0 p1 p2 p5 p6 nv:Value) (q b:Int):(C7 p0 p1 p2 p5 p6 q b nv)[3]? = some (.int .i64 q):=rfl
theorem MK (p0 p1 p2 p5 p6 nv:Value) (q b:Int):cut (C7 p0 p1 p2 p5 p6 q b nv) 0 7=some (cX p0 p1 p2 p5 p6 q b):=rfl
theorem Sk:ae.desc 120=some (.slice 124):=by kernel_rfl
theorem Va:bJ ae 124=some 3:=by kernel_rfl
theorem CW (rows:List lH) (who:ByteArray) (p0 p1 p2 p5 p6 nv:Value) (q b:Int) (S2 NB:Nat) (h:Heap) (q0:Holds h S2 (.row (C7 p0 p1 p2 p5 p6 q b nv) 122 false)) (f:cJ 3 lH.cells h 124 NB nv rows) (K:Value→Heap→Prop)
 (qh:∀ (i:Nat) x,rows[i]? = some x→x.who=who→∀ h',Ext h h'→K (.int .i64 i) h') (jU:(∀ x∈rows,¬ x.who=who)→∀ h',Ext h h'→K (.int .i64 (-1)) h'):Ok Tryz.prog ae ov 60 [.pointer (some ⟨S2,0,none⟩),.string who] h K:=by
 have z:=Ext.refl h
 have ej:=bY nv
 have cz:=fun (hh:Heap)=>f.bc Sk hh
 have hle:=f.mX
 rw [ao h]
 refine Ok.aH rfl zDJ (br VO) rfl (m:=24) rfl ?_
 simp only [syms,aa,seval,Iu]
 obtain ⟨I1,aS⟩:∃ I:Nat→Env→Heap→Prop,I=(fun n e h'=>∃ (i:Nat) (h1:Heap),h'=h1.lay [] h1.low∧Ext h h1∧(n=rows.length - i∧i≤rows.length∧(∀ x∈rows.take i,¬ x.who=who))∧∃ J:Nat→Value,e=(.pointer (some ⟨S2,0,none⟩)::.string who::jr J 2 3 (.int .i64 i::jr J 6 20 ([])))):=⟨_,rfl⟩
 refine dj I1 _ (by rw [aS];exact ⟨0,_,rfl,z,⟨rfl,by omega,by simp⟩,aE (by kernel_rfl)⟩) ?_
 intro n e h' aL
 rw [aS] at aL
 obtain ⟨i,bH,rfl,z,hinv,J,rfl⟩:=aL
 obtain ⟨rfl,hi,aB⟩:=hinv
 have gl:=eb i (by omega)
 have q1:=q0.mono z.inc
 have f1:=cJ.uv f z.inc
 simp only [syms,aa,seval,Iu,cy,q1.lay,Kb,ej,cz]
 refine bt (fun aR=>?_) (fun kQ=>?_)
 ·obtain ⟨r,hr⟩:∃ r,rows[i]? = some r:=⟨_,List.getElem?_eq_getElem (by omega)⟩
  have gZ:=f1.ix (kd:=.i64) (i:=i) Sk Va (by omega)
  have c0:=f1.gF (j:=0) hr (by omega) rfl
  simp only [syms,aa,seval,Iu,cy,q1.lay,Kb,ej,gZ,c0,cZ]
  refine bt (fun he=>?_) (fun aP=>?_)
  ·simp only [syms,aa,seval,Iu]
   exact qh i r hr he _ (z.aw _ _ (by omega))
  ·simp only [syms,aa,seval,Iu]
   rw [gl]
   (rw [aS];with_reducible refine cB (m:=_) ?_ ⟨i+1,_,rfl,z,⟨rfl,by omega,oC (i:=i) (P:=fun x:lH=>¬ x.who=who) hr aB aP⟩,aE (by kernel_rfl)⟩;omega)
 ·rw [List.take_of_length_le (by omega)] at aB
  simp only [syms,aa,seval,Iu]
  exact jU aB _ (z.aw _ _ (by omega))
theorem zkY (a:ab) (i:Nat) (hi:i < 4):a.cells[3+i*2+0]? = some (.bool (a.arg i).v):=by
 have:i=0∨i=1∨i=2∨i=3:=by omega
 rcases this with rfl|rfl|rfl|rfl <;> rfl
theorem ztf (a:ab) (h:Heap) (K:Value→Heap→Prop) (hk:∀ h',Ext h h'→K (.bool a.ground) h'):Ok Tryz.prog ae ov 86 [a.val] h K:=by
 rw [ao h]
 have z:=Ext.refl h
 have wI:a.cL≤4:=by unfold ab.cL;omega
 refine Ok.aH rfl zDZ (br V7) rfl (m:=14) rfl ?_
 repeat' (simp only [syms,aa,seval,Iw,ec])
 refine ml (fun h' x hq=>?_)
 have q0:=hq 0 _ rfl
 clear hq
 (replace z:=z.an x (by omega);rw [ao h'])
 obtain ⟨A0,dZ⟩:∃ A0,A0=h.size+0:=⟨_,rfl⟩
 rw [← dZ] at q0
 rw [← dZ]
 obtain ⟨I1,aS⟩:∃ I:Nat→Env→Heap→Prop,I=(fun n e h'=>∃ (i:Nat) (h1:Heap),h'=h1.lay [] h1.low∧Ext h h1∧(n=a.cL - i∧i≤a.cL∧(∀ j,j < i→(a.arg j).v=false)∧Holds h1 A0 (.row a.cells 34 false))∧∃ J:Nat→Value,e=(J 0::.pointer (some ⟨A0,0,none⟩)::J 2::.int .i64 i::jr J 4 11 ([]))):=⟨_,rfl⟩
 refine dj I1 _ (by rw [aS];exact ⟨0,_,rfl,z,⟨rfl,by omega,fun j hj=>by omega,q0⟩,aE (by kernel_rfl)⟩) ?_
 intro n e h' aL
 rw [aS] at aL
 obtain ⟨i,bH,rfl,z,hinv,J,rfl⟩:=aL
 clear q0
 obtain ⟨rfl,hi,aB,q0⟩:=hinv
 have hw:=eb i (by omega)
 simp only [syms,aa,seval,Iw,q0.lay,↓eM,eh,dC]
 refine Xq a _ _ (fun h' x=>?_)
 (replace z:=z.an x (by omega);(replace q0:=q0.over x);rw [ao h'])
 simp only [syms,aa,seval,Iw]
 refine bt (fun aR=>?_) (fun aR=>?_)
 rotate_left
 ·have hg:a.ground=true:=mD.2 (fun j hj=>aB j (by omega))
  rw [hg] at hk
  repeat' (simp only [syms,aa,seval,Iw])
  exact hk _ (z.aw _ _ (by omega))
 have IM:(0:Int)≤(i:Int)∧(i:Int) < 4:=by omega
 have IK:=zkY a i (by omega)
 obtain ⟨vb,sQ⟩:∃ vb,(a.arg i).v=vb:=⟨_,rfl⟩
 rw [sQ] at IK
 cases vb
 ·repeat' ( simp only [syms,aa,seval,Iw,q0.lay,IM,and_self,if_true,IK])
  rw [hw]
  have w9:∀ j,j < i+1→(a.arg j).v=false:=by
   intro j hj
   by_cases ke:j < i
   ·exact aB j ke
   ·have:j=i:=by omega
    subst this
    exact sQ
  (rw [aS];with_reducible refine cB (m:=_) ?_ ⟨i+1,_,rfl,z,⟨rfl,by omega,w9,q0⟩,aE (by kernel_rfl)⟩;omega)
 ·have hg:a.ground=false:=by
   cases hgg:a.ground
   ·rfl
   ·rw [mD.1 hgg i (by omega)] at sQ
    cases sQ
  rw [hg] at hk
  repeat' (simp only [syms,aa,seval,Iw,q0.lay,IM,and_self,if_true,IK])
  exact hk _ (z.aw _ _ (by omega))
theorem WI (d:au) (s:ByteArray) (a:ab) (p0 p1 p2 p5 p6:Value) (q b:Int) (h:Heap) (bf:(cX p0 p1 p2 p5 p6 q b).all Am.one=true) (hd:dD h p0 p1 p2 p5 p6 d) (K:Value→Heap→Prop) (hk:∀ e h',Ext h h'→(e=0→s∈d.ah)→K (.int .i64 e) h'):Ok Tryz.prog ae ov 59 [gi p0 p1 p2 p5 p6 q b,.string s,a.val] h K:=by
 rw [ao h]
 have z:=Ext.refl h
 refine Ok.aH rfl zDI (br VN) rfl (m:=25) rfl ?_
 simp only [syms,aa,seval,Dp,ek,ec,↓fm,eX,eG,cZ]
 refine HI d.ah s _ _ _ _ _ _ _ _ (hd.s0.lay _ _) _ (fun h' x=>?_)
 have q0:=Holds.top (i:=0) x rfl
 have e0:=Holds.top (i:=1) x rfl
 (replace z:=z.an x (by omega);rw [ao h'])
 cases hh:jw d.ah s
 ·repeat' (first|simp only [syms,aa,seval,Dp,Bool.not_false]|((with_reducible_and_instances apply b8);(· rfl)))
  exact hk _ _ (z.aw _ _ (by omega)) (fun e=>absurd e (by decide))
 have hm:=fY.1 hh
 repeat' (first|simp only [syms,aa,seval,Dp,Bool.not_true,q0.lay,e0.lay,↓fm,eX,eG,ec,↓eM,eh,dC]|((with_reducible_and_instances apply b8);(· rfl)))
 refine kX d a _ _ _ _ _ _ _ _ bf ((hd.mono z.inc).lay _ _) _ (fun _ h' x=>?_) (fun c h' hc x=>?_)
 rotate_left
 ·(replace z:=z.an x (by omega);( replace q0:=q0.over x );( replace e0:=e0.over x );rw [ao h'])
  simp only [syms,aa,seval,Dp,bl]
  refine iS (fun _=>?_) (fun h0=>absurd h0 hc)
  simp only [syms,aa,seval,Dp,bl]
  exact hk _ _ (z.aw _ _ (by omega)) (fun _=>hm)
 (replace z:=z.an x (by omega);(replace q0:=q0.over x);(replace e0:=e0.over x);rw [ao h'])
 simp only [syms,aa,seval,Dp,bl,e0.lay,ec,↓eM,eh,dC]
 refine ztf a _ _ (fun h' x=>?_)
 (replace z:=z.an x (by omega);(replace q0:=q0.over x);(replace e0:=e0.over x);rw [ao h'])
 cases a.ground
 ·repeat' (first|simp only [syms,aa,seval,Dp,Bool.not_false]|((with_reducible_and_instances apply b8);(· rfl)))
  exact hk _ _ (z.aw _ _ (by omega)) (fun _=>hm)
 repeat' (first|simp only [syms,aa,seval,Dp,Bool.not_true,e0.lay,Ka,cZ]|((with_reducible apply bt) <;> intro _)|((with_reducible_and_instances apply b8);(· rfl)))
 all_goals exact hk _ _ (z.aw _ _ (by omega)) (fun _=>hm)
end Go.Proofs.YtkgojconmeeegaaGreatDoor

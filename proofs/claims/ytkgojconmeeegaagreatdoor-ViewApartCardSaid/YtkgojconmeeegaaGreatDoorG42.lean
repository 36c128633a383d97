/- Walks: terms and atoms of the document's form Written out by fill2.py. No condition. -/
import Derived.Test.YtkgojconmeeegaaGreatDoorG40
set_option linter.unusedSimpArgs false
set_option linter.unusedVariables false
set_option maxRecDepth 100000
set_option maxHeartbeats 0
namespace Go.Proofs.YtkgojconmeeegaaGreatDoor
open Go.Am
theorem zFn:nV ae 31 []=some cm.val:=by kernel_rfl
theorem Xk (a:ab) (k:Nat) (hk:k < 4):cut a.cells (3+k*2) 2=some (a.arg k).cells:=by
 have:k=0∨k=1∨k=2∨k=3:=by omega
 rcases this with rfl|rfl|rfl|rfl <;> rfl
theorem W4 (a:aX):Value.agg a.cells.toArray=a.val:=rfl
theorem Ka (a:ab):a.cells[0]? = some (.string a.says):=rfl
theorem R0 (a:ab):a.cells[1]? = some (.string a.pred):=rfl
theorem Ew (a:ab):a.cells[2]? = some (.int .i64 a.n):=rfl
theorem zjd (t:aX) (h:Heap) (K:Value→Heap→Prop) (h1:XC t→∀ h',Ext h h'→K (.bool true) h') (h2:∀ h',Ext h h'→K (.bool false) h'):Ok Tryz.prog ae ov 192 [t.val] h K:=by
 rw [ao h]
 have z:=Ext.refl h
 rcases t with ⟨tv,ts⟩
 unfold XC at h1
 cases tv
 ·refine Ok.aH rfl zo9 (br E3) rfl (m:=10) rfl ?_
  simp only [syms,aa,seval,zC,aX.val,aX.cells]
  refine HF _ _ _ (fun hs h' x=>?_) (fun h' x=>?_)
  all_goals
   (replace z:=z.an x (by omega);rw [ao h'])
   simp only [syms,aa,seval,zC]
   first
    |exact h1 hs _ (z.aw _ _ (by omega))
    |exact h2 _ (z.aw _ _ (by omega))
 ·refine Ok.aH rfl zo9 (br E3) rfl (m:=10) rfl ?_
  simp only [syms,aa,seval,zC,aX.val,aX.cells]
  refine WT _ _ _ (fun hs h' x=>?_) (fun h' x=>?_)
  all_goals
   (replace z:=z.an x (by omega);rw [ao h'])
   simp only [syms,aa,seval,zC]
   first
    |exact h1 hs _ (z.aw _ _ (by omega))
    |exact h2 _ (z.aw _ _ (by omega))
theorem zje (a:ab) (h:Heap) (K:Value→Heap→Prop) (h1:rE a→∀ h',Ext h h'→K (.int .i64 0) h') (h2:∀ c h',c≠0→Ext h h'→K (.int .i64 c) h'):Ok Tryz.prog ae ov 155 [a.val] h K:=by
 rw [ao h]
 have z:=Ext.refl h
 refine Ok.aH rfl zxh (br K9) rfl (m:=46) rfl ?_
 repeat' (simp only [syms,aa,seval,jO,ec,Ka,R0,Ew])
 refine eN _ _ _ (fun hs h' x=>?_) (fun h' x=>?_)
 rotate_left
 ·(replace z:=z.an x (by omega);rw [ao h'])
  repeat' (first|simp only [syms,aa,seval,jO]|((with_reducible_and_instances apply b8);(· rfl)))
  exact h2 _ _ (by decide) (z.aw _ _ (by omega))
 have q0:=Holds.top (i:=0) x rfl
 (replace z:=z.an x (by omega);rw [ao h'])
 repeat' (first|simp only [syms,aa,seval,jO,q0.lay,Ka,R0,Ew]|((with_reducible_and_instances apply b8);(· rfl)))
 refine s8 _ _ _ (fun hp h' x=>?_) (fun h' x=>?_)
 rotate_left
 ·(replace z:=z.an x (by omega);( replace q0:=q0.over x );rw [ao h'])
  repeat' (first|simp only [syms,aa,seval,jO]|((with_reducible_and_instances apply b8);(· rfl)))
  exact h2 _ _ (by decide) (z.aw _ _ (by omega))
 (replace z:=z.an x (by omega);(replace q0:=q0.over x);rw [ao h'])
 repeat' (first|simp only [syms,aa,seval,jO,q0.lay,Ka,R0,Ew]|((with_reducible apply bt) <;> intro _)|((with_reducible_and_instances apply b8);(· rfl)))
 all_goals try exact h2 _ _ (by decide) (z.aw _ _ (by omega))
 have pe:0≤a.n:=by omega
 have IW:a.n≤4:=by omega
 obtain ⟨I1,aS⟩:∃ I:Nat→Env→Heap→Prop,I=(fun n e h'=>∃ (i:Nat) (h1:Heap),h'=h1.lay [] h1.low∧Ext h h1∧(n=4 - i∧(i:Int)≤a.n∧(∀ j,j < i→XC (a.arg j))∧Holds h1 (h.size+0) (.row a.cells 34 false))∧∃ J:Nat→Value,e=(J 0::.pointer (some ⟨h.size+0,0,none⟩)::J 2::.int .i64 i::jr J 4 43 ([]))):=⟨_,rfl⟩
 refine dj I1 _ (by rw [aS];exact ⟨0,_,rfl,z,⟨rfl,by omega,fun j hj=>by omega,q0⟩,aE (by kernel_rfl)⟩) ?_
 intro n e h' aL
 rw [aS] at aL
 obtain ⟨i,bH,rfl,z,hinv,J,rfl⟩:=aL
 clear q0
 obtain ⟨rfl,hi,aB,q0⟩:=hinv
 have gl:=eb i (by omega)
 simp only [syms,aa,seval,jO,q0.lay,Ew]
 refine bt (fun aR=>?_) (fun aR=>?_)
 ·have rR:(0:Int)≤(i:Int)∧(i:Int) < 4:=by omega
  have lN:=Xk a i (by omega)
  repeat' (simp only [syms,aa,seval,jO,q0.lay,rR,↓lN,W4,RF,and_self,if_true])
  refine zjd _ _ _ (fun ht h' x=>?_) (fun h' x=>?_)
  ·(replace z:=z.an x (by omega);( replace q0:=q0.over x );rw [ao h'])
   have w9:∀ j,j < i+1→XC (a.arg j):=by
    intro j hj
    by_cases ke:j < i
    ·exact aB j ke
    ·have:j=i:=by omega
     subst this
     exact ht
   repeat' (first|simp only [syms,aa,seval,jO]|((with_reducible_and_instances apply b8);(· rfl)))
   rw [gl]
   (rw [aS];with_reducible refine cB (m:=_) ?_ ⟨i+1,_,rfl,z,⟨rfl,by omega,w9,q0⟩,aE (by kernel_rfl)⟩;omega)
  ·(replace z:=z.an x (by omega);( replace q0:=q0.over x );rw [ao h'])
   repeat' (first|simp only [syms,aa,seval,jO]|((with_reducible_and_instances apply b8);(· rfl)))
   exact h2 _ _ (by decide) (z.aw _ _ (by omega))
 have aL:a.n=(i:Int):=by omega
 repeat' (simp only [syms,aa,seval,jO,q0.lay,Ew])
 rw [aL]
 obtain ⟨I2,fM⟩:∃ I:Nat→Env→Heap→Prop,I=(fun n e h'=>∃ (k:Nat) (h1:Heap),h'=h1.lay [] h1.low∧Ext h h1∧(n=4 - k∧i≤k∧k≤4∧(∀ j,i≤j→j < k→a.arg j=cm)∧Holds h1 (h.size+0) (.row a.cells 34 false))∧∃ J:Nat→Value,e=(J 0::.pointer (some ⟨h.size+0,0,none⟩)::jr J 2 2 (.int .i64 k::jr J 5 42 ([])))):=⟨_,rfl⟩
 refine dj I2 _ (by rw [fM];exact ⟨i,_,rfl,z,⟨rfl,by omega,by omega,fun j h1 h2=>by omega,q0⟩,aE (by kernel_rfl)⟩) ?_
 intro n e h' aL
 rw [fM] at aL
 obtain ⟨k,yi,rfl,z,hinv,J,rfl⟩:=aL
 clear q0
 obtain ⟨rfl,tS,wQ,gf,q0⟩:=hinv
 have pP:=eb k (by omega)
 simp only [syms,aa,seval,jO]
 refine bt (fun aR=>?_) (fun aR=>?_)
 rotate_left
 ·repeat' ( simp only [syms,aa,seval,jO])
  exact h1 ⟨hs,hp,by omega,by omega,fun j hj=>aB j (by omega),fun j h1 h2=>gf j (by omega) (by omega)⟩ _ (z.aw _ _ (by omega))
 have rR:(0:Int)≤(k:Int)∧(k:Int) < 4:=by omega
 have lN:=Xk a k (by omega)
 simp only [syms,aa,seval,jO,q0.lay,rR,↓lN,W4,RF,and_self,if_true,zFn,znc]
 refine H3 (fun aP=>?_) (fun heq=>?_)
 ·repeat' ( simp only [syms,aa,seval,jO])
  exact h2 _ _ (by decide) (z.aw _ _ (by omega))
 ·have w9:∀ j,i≤j→j < k+1→a.arg j=cm:=by
   intro j h1 h2
   by_cases ke:j < k
   ·exact gf j h1 ke
   ·have:j=k:=by omega
    subst this
    exact heq
  repeat' (simp only [syms,aa,seval,jO])
  rw [pP]
  (rw [fM];with_reducible refine cB (m:=_) ?_ ⟨k+1,_,rfl,z,⟨rfl,by omega,by omega,w9,q0⟩,aE (by kernel_rfl)⟩;omega)
noncomputable def V7:=bA Tryz.f86
noncomputable def yH:=PLift.up (by have c:=bB V7 Tryz.f86;simp only [aK,Tryz.f86,seval] at c;exact nd c <| nd @Kg <| nd @Da <| nd @rY <| nd @ct <| nd @G9 <| @aa5)
theorem Iw:type_of% yH.down:=yH.down
noncomputable def Lv:=bA Tryz.f191
noncomputable def QI:=PLift.up (by have c:=bB Lv Tryz.f191;simp only [aK,Tryz.f191,seval] at c;exact nd c <| nd @tA <| nd @Kg <| nd @HW <| nd @Da <| nd @rY <| nd @qI <| nd @ct <| nd @G9 <| nd @gn <| @zMP)
theorem k6:type_of% QI.down:=QI.down
noncomputable def K8:=bA Tryz.f154
noncomputable def Qh:=PLift.up (by have c:=bB K8 Tryz.f154;simp only [aK,Tryz.f154,seval] at c;exact nd c <| nd @ct <| @zMr)
theorem Mq:type_of% Qh.down:=Qh.down
noncomputable def Vp:=bA Tryz.f25
noncomputable def Zf:=PLift.up (by have c:=bB Vp Tryz.f25;simp only [aK,Tryz.f25,seval] at c;exact nd c <| nd @EC <| nd @mi <| @aan)
theorem c25:type_of% Zf.down:=Zf.down
noncomputable def KT:=bA Tryz.f140
noncomputable def P2:=PLift.up (by have c:=bB KT Tryz.f140;simp only [aK,Tryz.f140,seval] at c;exact nd c <| nd @HW <| nd @HX <| nd @Da <| nd @rY <| nd @ct <| nd @gn <| @zMd)
theorem jN:type_of% P2.down:=P2.down
noncomputable def V8:=bA Tryz.f89
noncomputable def yI:=PLift.up (by have c:=bB V8 Tryz.f89;simp only [aK,Tryz.f89,seval] at c;exact nd c <| nd @vI <| nd @ct <| nd @gn <| @aa6)
theorem Ix:type_of% yI.down:=yI.down
noncomputable def VI:=bA Tryz.f53
noncomputable def ZZ:=PLift.up (by have c:=bB VI Tryz.f53;simp only [aK,Tryz.f53,seval] at c;exact nd c <| nd @ct <| @aaI)
theorem Dn:type_of% ZZ.down:=ZZ.down
noncomputable def VP:=bA Tryz.f61
noncomputable def gD:=PLift.up (by have c:=bB VP Tryz.f61;simp only [aK,Tryz.f61,seval] at c;exact nd c <| nd @j6 <| nd @ct <| nd @iu <| @aaP)
theorem yh:type_of% gD.down:=gD.down
end Go.Proofs.YtkgojconmeeegaaGreatDoor
namespace Go.Am
open Go.Lib
theorem Ux (n m:List UInt8) (ns:List (List UInt8)):join (n::m::ns) dm=n++(dm++join (m::ns) dm):=by
 simp [join,List.intercalate]
theorem U8 (n:List UInt8):join [n] dm=n:=by simp [join,List.intercalate]
theorem zn8:∀ (l:List (List UInt8)) (x:List UInt8),l≠[]→join (l++[x]) dm=join l dm++dm++x
 | [],x,h=>absurd rfl h
 | [a],x,_=>by
  rw [List.cons_append,List.nil_append,Ux,U8,U8,List.append_assoc]
 |a::b::l,x,_=>by
  rw [List.cons_append,List.cons_append,Ux,Ux,← List.cons_append,zn8 (b::l) x (by simp)]
  simp only [List.append_assoc]
def uQ (ns:List (List UInt8)):List UInt8:=if ns=[] then [] else 40::join ns dm
theorem zws (x:List UInt8):uQ [x]=[40]++x:=by unfold uQ;rw [if_neg (by simp),U8];rfl
theorem ztC {l:List (List UInt8)} (x:List UInt8) (h:l≠[]):uQ (l++[x])=uQ l++dm++x:=by
 unfold uQ
 rw [if_neg (by simp),if_neg h,zn8 l x h]
 rfl
theorem zya (a:ab):cI a=a.says.data.toList++Kw++(a.pred.data.toList++uQ (jo a)++(if a.cL=0 then [] else [41])):=by
 have h1:(jo a=[])↔a.args=[]:=by unfold jo;rw [List.map_eq_nil_iff]
 have h2:a.args=[]↔a.cL=0:=by rw [← List.length_eq_zero_iff,vB]
 unfold cI uQ
 by_cases h:a.cL=0
 ·rw [if_pos (h2.2 h),if_pos (h1.2 (h2.2 h)),if_pos h]
  simp only [List.append_assoc,List.append_nil]
 ·have h3:¬ a.args=[]:=fun e=>h (h2.1 e)
  rw [if_neg h3,if_neg (fun e=>h3 (h1.1 e)),if_neg h]
  simp only [List.append_assoc,List.cons_append,List.nil_append]
theorem zzj {a:ab} {i:Nat} (h:i < a.cL):(jo a).take (i+1)=(jo a).take i++[(a.arg i).s.data.toList]:=by
 have hc:a.cL≤4:=Nat.min_le_right _ _
 have e:a.args[i]? = some (a.arg i):=by
  unfold ab.args
  rw [List.getElem?_take,if_pos h]
  have:i=0∨i=1∨i=2∨i=3:=by omega
  rcases this with rfl|rfl|rfl|rfl <;> rfl
 rw [List.take_add_one]
 congr 1
 unfold jo
 rw [List.getElem?_map,e]
 rfl
theorem zok (a:ab):(jo a).length=a.cL:=by unfold jo;rw [List.length_map,vB]
theorem Uz:∀ a b:List UInt8,Op.bytesLess a b=decide (compareBytes a b < 0)
 | [],[]=>by simp [Op.bytesLess,compareBytes]
 | [],_::_=>by simp [Op.bytesLess,compareBytes]
 |_::_,[]=>by simp [Op.bytesLess,compareBytes]
 |a::xs,b::ys=>by
  rw [compareBytes]
  unfold Op.bytesLess
  rw [Uz xs ys]
  by_cases h1:a < b
  ·simp [h1]
  ·by_cases h2:b < a
   ·have h3:a≠b:=fun e=>by subst e;exact IJ a h2
    simp [h1,h2,h3]
   ·have h3:=zr8 h1 h2
    simp [h1,h2,h3]
theorem zyI (a b:List UInt8):(Op.bytesLess a b=true∧compareBytes a b = -1)∨(Op.bytesLess a b=false∧Op.bytesLess b a=true∧compareBytes a b=1)∨(Op.bytesLess a b=false∧Op.bytesLess b a=false∧compareBytes a b=0):=by
 have h1:=Uz a b
 have h2:=Uz b a
 have h3:=Un a b
 rcases znr a b with h|h|h
 ·exact .inl ⟨by rw [h1,h];rfl,h⟩
 ·refine .inr (.inr ⟨by rw [h1,h];rfl,?_,h⟩)
  rw [h2,decide_eq_false_iff_not]
  omega
 ·refine .inr (.inl ⟨by rw [h1,h];rfl,?_,h⟩)
  rw [h2,decide_eq_true_iff]
  omega
end Go.Am
namespace Go.Proofs.YtkgojconmeeegaaGreatDoor
open Go.Am
theorem Ul {P:Program} {T:bK} {t:TypeId} {a b:ByteArray}:cw P T .lss t (.string a) (.string b)=some (.bool (Op.bytesLess a.data.toList b.data.toList)):=by
 refine RZ rfl ?_ rfl
 unfold Op.stringOp
 simp only [JL]
 rfl
theorem zrg {P:Program} {T:bK} {t:TypeId} {a b:ByteArray}:cw P T .gtr t (.string a) (.string b)=some (.bool (!(Op.bytesLess a.data.toList b.data.toList || a.data.toList == b.data.toList))):=by
 refine RZ rfl ?_ rfl
 unfold Op.stringOp
 simp only [JL]
 rfl
theorem zFt (a:ab):a.cells[2]? = some (.int .i64 a.n):=rfl
theorem Xq (a:ab) (h:Heap) (K:Value→Heap→Prop) (hk:∀ h',Ext h h'→K (.int .i64 (a.cL:Nat)) h'):Ok Tryz.prog ae ov 25 [a.val] h K:=by
 rw [ao h]
 have z:=Ext.refl h
 have e:((a.cL:Nat):Int)=if 4 < (if a.n < 0 then 0 else a.n) then 4 else if a.n < 0 then 0 else a.n:=by
  unfold ab.cL
  split <;> split <;> (skip) <;> omega
 rw [e] at hk
 refine Ok.aH rfl zDi (br Vp) rfl (m:=6) rfl ?_
 repeat' (first|simp only [syms,aa,seval,c25,ec,zFt]|((with_reducible_and_instances apply zvA);(· rfl);(· rfl))|((with_reducible_and_instances apply zvw);(· rfl);(· rfl)))
 exact hk _ (z.aw _ _ (by omega))
theorem zyK (a:ab) (k:Nat) (hk:k < 4):a.cells[3+k*2+1]? = some (.string (a.arg k).s):=by
 have:k=0∨k=1∨k=2∨k=3:=by omega
 rcases this with rfl|rfl|rfl|rfl <;> rfl
theorem zGB (a:ab) (ha:a.aT=true) (h:Heap) (K:Value→Heap→Prop)
 (hk:∀ h' (S:ByteArray),Ext h h'→S.data.toList=a.pred.data.toList++uQ (jo a)++(if a.cL=0 then [] else [41])→S.size≤2000→K (.string S) h'):Ok Tryz.prog ae ov 140 [a.val] h K:=by
 rw [ao h]
 have z:=Ext.refl h
 obtain ⟨lS,jc⟩:=TF ha
 have hc4:a.cL≤4:=Nat.min_le_right _ _
 refine Ok.aH rfl zw2 (br KT) rfl (m:=31) rfl ?_
 simp only [syms,aa,seval,jN,ec,UJ]
 refine ml (fun h' x hq=>?_)
 have q0:=hq 0 _ rfl
 clear hq
 (replace z:=z.an x (by omega);rw [ao h'])
 obtain ⟨I1,aS⟩:∃ I:Nat→Env→Heap→Prop,I=(fun n e h'=>∃ (i:Nat) (S:ByteArray) (h1:Heap),h'=h1.lay [] h1.low∧Ext h h1∧(n=a.cL - i∧i≤a.cL∧S.data.toList=a.pred.data.toList++uQ ((jo a).take i)∧S.size≤300+i*310∧Holds h1 (h.size+0) (.row a.cells 34 false))∧∃ J:Nat→Value,e=(J 0::.pointer (some ⟨h.size+0,0,none⟩)::J 2::.string S::.int .i64 i::jr J 5 27 ([]))):=⟨_,rfl⟩
 refine dj I1 _ (by rw [aS];exact ⟨0,a.pred,_,rfl,z,⟨rfl,by omega,by simp [uQ],by omega,q0⟩,aE (by kernel_rfl)⟩) ?_
 intro n e h' aL
 rw [aS] at aL
 obtain ⟨i,S,bH,rfl,z,hinv,J,rfl⟩:=aL
 clear q0
 obtain ⟨rfl,hi,hS,X0,q0⟩:=hinv
 have gl:=eb i (by omega)
 repeat' (simp only [syms,aa,seval,jN,q0.lay,↓eM,eh,dC])
 refine Xq a _ _ (fun h' x=>?_)
 (replace z:=z.an x (by omega);(replace q0:=q0.over x);rw [ao h'])
 simp only [syms,aa,seval,jN,q0.lay,↓eM,eh,dC]
 refine bt (fun aR=>?_) (fun aR=>?_)
 ·have rR:(0:Int)≤(i:Int)∧(i:Int) < 4:=by omega
  have eQ:=zyK a i (by omega)
  have w8:=zzj (a:=a) (i:=i) (by omega)
  have DL:=Rz ha i
  simp only [syms,aa,seval,jN]
  refine nX (fun h0=>?_) (fun h0=>?_)
  ·have h0:i=0:=by omega
   simp only [syms,aa,seval,jN]
   refine vw ?_ (fun S1 ym qC=>?_)
   ·show S.size+1≤_
    omega
   repeat' (simp only [syms,aa,seval,jN,q0.lay,rR,eQ,and_self,if_true])
   refine vw ?_ (fun S2 yn ln=>?_)
   ·rw [qC]
    show S.size+1+_≤_
    omega
   have yA:S2.size≤300+(i+1)*310:=by
    rw [ln,qC]
    show S.size+1+_≤_
    omega
   have F1:S2.data.toList=a.pred.data.toList++uQ ((jo a).take (i+1)):=by
    rw [yn,vH,ym,vH,hS,w8,h0,List.take_zero,List.nil_append,zws]
    simp [uQ]
   repeat' (simp only [syms,aa,seval,jN])
   rw [gl]
   (rw [aS];with_reducible refine cB (m:=_) ?_ ⟨i+1,S2,_,rfl,z,⟨rfl,by omega,F1,yA,q0⟩,aE (by kernel_rfl)⟩;omega)
  ·have h0:i≠0:=by omega
   simp only [syms,aa,seval,jN]
   refine vw ?_ (fun S1 ym qC=>?_)
   ·show S.size+2≤_
    omega
   repeat' (simp only [syms,aa,seval,jN,q0.lay,rR,eQ,and_self,if_true])
   refine vw ?_ (fun S2 yn ln=>?_)
   ·rw [qC]
    show S.size+2+_≤_
    omega
   have yA:S2.size≤300+(i+1)*310:=by
    rw [ln,qC]
    show S.size+2+_≤_
    omega
   have F1:S2.data.toList=a.pred.data.toList++uQ ((jo a).take (i+1)):=by
    have aP:(jo a).take i≠[]:=fun e=>by
     have:=congrArg List.length e
     rw [List.length_take,zok,List.length_nil] at this
     omega
    rw [yn,vH,ym,vH,hS,w8,ztC _ aP]
    simp only [List.append_assoc]
    rfl
   repeat' (simp only [syms,aa,seval,jN])
   rw [gl]
   (rw [aS];with_reducible refine cB (m:=_) ?_ ⟨i+1,S2,_,rfl,z,⟨rfl,by omega,F1,yA,q0⟩,aE (by kernel_rfl)⟩;omega)
 have aL:i=a.cL:=by omega
 rw [List.take_of_length_le (by rw [zok];omega)] at hS
 repeat' (simp only [syms,aa,seval,jN,q0.lay,↓eM,eh,dC])
 refine Xq a _ _ (fun h' x=>?_)
 (replace z:=z.an x (by omega);(replace q0:=q0.over x);rw [ao h'])
 simp only [syms,aa,seval,jN]
 refine bt (fun kC=>?_) (fun kC=>?_)
 ·repeat' ( simp only [syms,aa,seval,jN])
  refine vw ?_ (fun S1 ym qC=>?_)
  ·show S.size+1≤_
   omega
  repeat' (simp only [syms,aa,seval,jN])
  refine hk _ S1 (z.aw _ _ (by omega)) ?_ (by rw [qC];show S.size+1≤_;omega)
  rw [ym,vH,hS,if_neg (by omega)]
 ·repeat' ( simp only [syms,aa,seval,jN])
  refine hk _ S (z.aw _ _ (by omega)) ?_ (by omega)
  rw [hS,if_pos (by omega),List.append_nil]
theorem zrL (a:ab) (ha:a.aT=true) (h:Heap) (K:Value→Heap→Prop)
 (hk:∀ h',Ext h h'→K (.string ⟨(cI a).toArray⟩) h'):Ok Tryz.prog ae ov 89 [a.val] h K:=by
 rw [ao h]
 have z:=Ext.refl h
 obtain ⟨lS,jc⟩:=TF ha
 refine Ok.aH rfl zD0 (br V8) rfl (m:=8) rfl ?_
 repeat' (simp only [syms,aa,seval,Ix,ec,Xw])
 refine (dH (by simp only [Ix])) (z.aw _ _ (by omega)) ?_
 simp only [syms,aa,seval,Ix,Xw,↓eM,eh,dC]
 refine vw ?_ (fun S1 ym qC=>?_)
 ·show a.says.size+6≤_
  omega
 simp only [syms,aa,seval,Ix,↓eM,eh,dC]
 refine zGB a ha _ _ (fun h' S x hS X0=>?_)
 (((with_reducible refine dv ?_ ?_ ?_);(· exact (by (simp only [dx]);have:=z.size;omega));(· exact x));replace z:=z.an x (by omega);rw [ao h'])
 simp only [syms,aa,seval,Ix]
 refine vw ?_ (fun S2 yn ln=>?_)
 ·rw [qC]
  show a.says.size+6+_≤_
  omega
 have F1:S2=⟨(cI a).toArray⟩:=Cg (by rw [yn,vH,ym,vH,hS,zya];rfl)
 repeat' (first|simp only [syms,aa,seval,Ix]|((with_reducible refine ⟨z.cN.lay _ _,?_⟩);(intro _ h' zz x _);(simp only [el,List.append_nil] at x);(replace z:=zz);(clear zz);rw [ao h']))
 rw [F1]
 exact hk _ (z.aw _ _ (by omega))
theorem zvJ (a b:ab) (ha:a.aT=true) (hb:b.aT=true) (h:Heap) (K:Value→Heap→Prop)
 (hk:∀ h',Ext h h'→K (.int .i64 (aQ a b)) h'):Ok Tryz.prog ae ov 53 [a.val,b.val] h K:=by
 rw [ao h]
 have z:=Ext.refl h
 refine Ok.aH rfl zDD (br VI) rfl (m:=17) rfl ?_
 repeat' (simp only [syms,aa,seval,Dn,ec])
 refine (dH (by simp only [Dn])) (z.aw _ _ (by omega)) ?_
 simp only [syms,aa,seval,Dn,↓eM,eh,dC]
 refine zrL a ha _ _ (fun h' x=>?_)
 have q1:=Holds.top (i:=1) x rfl
 (((with_reducible refine dv ?_ ?_ ?_);(· exact (by (simp only [dx]);have:=z.size;omega));(· exact x));replace z:=z.an x (by omega);rw [ao h'])
 repeat' (simp only [syms,aa,seval,Dn,q1.lay,↓eM,eh,dC])
 refine zrL b hb _ _ (fun h' x=>?_)
 (((with_reducible refine dv ?_ ?_ ?_);(· exact (by (simp only [dx]);have:=z.size;omega));(· exact x));replace z:=z.an x (by omega);rw [ao h'])
 repeat' (first|simp only [syms,aa,seval,Dn]|((with_reducible refine ⟨z.cN.lay _ _,?_⟩);(intro _ h' zz x _);(simp only [el,List.append_nil] at x);(replace z:=zz);(clear zz);rw [ao h']))
 have hc:aQ a b=Lib.compareBytes (cI a) (cI b):=rfl
 rw [hc] at hk
 rcases zyI (cI a) (cI b) with ⟨h1,h2⟩|⟨h1,h3,h2⟩|⟨h1,h3,h2⟩
 ·rw [h2] at hk
  repeat' (simp only [syms,aa,seval,Dn,Ul,h1])
  exact hk _ (z.aw _ _ (by omega))
 ·rw [h2] at hk
  have h4:(cI a == cI b)=false:=by
   cases e:cI a == cI b
   ·rfl
   ·have e2:cI a=cI b:=by simpa using e
    rw [e2,RQ] at h2
    cases h2
  repeat' (simp only [syms,aa,seval,Dn,Ul,zrg,h1,h4,Bool.or_false,Bool.not_false])
  exact hk _ (z.aw _ _ (by omega))
 ·rw [h2] at hk
  have h4:(cI a == cI b)=true:=by
   rw [JW h2]
   simp
  repeat' (simp only [syms,aa,seval,Dn,Ul,zrg,h1,h4,Bool.or_true,Bool.not_true])
  exact hk _ (z.aw _ _ (by omega))
end Go.Proofs.YtkgojconmeeegaaGreatDoor

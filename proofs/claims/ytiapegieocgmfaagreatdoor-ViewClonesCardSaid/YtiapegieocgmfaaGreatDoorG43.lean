/- Walks: terms and atoms of the document's form Written out by fill2.py. No condition. -/
import Derived.Test.YtiapegieocgmfaaGreatDoorG41
set_option linter.unusedSimpArgs false
set_option linter.unusedVariables false
set_option maxRecDepth 100000
set_option maxHeartbeats 0
noncomputable section
namespace Go.Proofs.YtiapegieocgmfaaGreatDoor
open Go.Am Tryz
theorem zAI:qp aD 44 []=some cT.val:=by kernel_rfl
theorem TG (a:ak) (k:Nat) (hk:k < 4):cut a.cells (3+k*2) 2=some (a.arg k).cells:=by
 have:k=0\/k=1\/k=2\/k=3:=by omega
 rcases this with rfl|rfl|rfl|rfl <;> rfl
theorem Tu (a:aZ):Value.agg a.cells.toArray=a.val:=rfl
theorem Jx (a:ak):a.cells[0]? = some (.string a.says):=rfl
theorem QC (a:ak):a.cells[1]? = some (.string a.pred):=rfl
theorem Ec (a:ak):a.cells[2]? = some (.int .i64 a.n):=rfl
theorem zw7 (t:aZ) (h:Heap) (K:aF) (h1:Ee t->∀ h',Ext h h'->K (.bool true) h') (h2:∀ h',Ext h h'->K (.bool false) h'):Ok prog aD ov 165 [t.val] h K:=by
 rw [ao h]
 have z:=Ext.refl h
 rcases t with ⟨tv,ts⟩
 unfold Ee at h1
 cases tv
 .refine Ok.aw 10 (bq EM) ?_
  simp only [aa,seval,Be,aZ.val,aZ.cells]
  refine zsw _ _ _ (λhs h' x=>?_) (λh' x=>?_)
  all_goals
   (replace z:=z.an x;rw [ao h'])
   simp only [aa,seval,Be]
   first
    |exact h1 hs _ z.aA
    |exact h2 _ z.aA
 .refine Ok.aw 10 (bq EM) ?_
  simp only [aa,seval,Be,aZ.val,aZ.cells]
  refine zrd _ _ _ (λhs h' x=>?_) (λh' x=>?_)
  all_goals
   (replace z:=z.an x;rw [ao h'])
   simp only [aa,seval,Be]
   first
    |exact h1 hs _ z.aA
    |exact h2 _ z.aA
theorem zw9 (a:ak) (h:Heap) (K:aF) (h1:gO a->∀ h',Ext h h'->K (.int .i64 0) h') (h2:∀ c h',c≠0->Ext h h'->K (.int .i64 c) h'):Ok prog aD ov 131 [a.val] h K:=by
 rw [ao h]
 have z:=Ext.refl h
 refine Ok.aw 46 (bq Kq) ?_
 repeat' (simp only [aa,seval,kl,eE,Jx,QC,Ec])
 refine zfp _ _ _ (λhs h' x=>?_) (λh' x=>?_)
 rotate_left
 ·(replace z:=z.an x;rw [ao h'])
  repeat' (first|simp only [aa,seval,kl]|((with_reducible apply bX);(· rfl)))
  exact h2 _ _ (by decide) z.aA
 have q0:=Holds.top (i:=0) x rfl
 (replace z:=z.an x;rw [ao h'])
 repeat' (first|simp only [aa,seval,kl,q0.lay,Jx,QC,Ec]|((with_reducible apply bX);(· rfl)))
 refine zhZ _ _ _ (λhp h' x=>?_) (λh' x=>?_)
 rotate_left
 ·(replace z:=z.an x;( replace q0:=q0.over x );rw [ao h'])
  repeat' (first|simp only [aa,seval,kl]|((with_reducible apply bX);(· rfl)))
  exact h2 _ _ (by decide) z.aA
 (replace z:=z.an x;replace q0:=q0.over x;rw [ao h'])
 repeat' (first|simp only [aa,seval,kl,q0.lay,Jx,QC,Ec]|((with_reducible apply bn) <;> intro _)|((with_reducible apply bX);(· rfl)))
 all_goals try exact h2 _ _ (by decide) z.aA
 have oF:0<=a.n:=by omega
 have Sn:a.n<=4:=by omega
 obtain ⟨I1,aU⟩:∃ I:Nat->Env->Heap->Prop,I=(λn e h'=>∃ (i:Nat) (h1:Heap),h'=h1.lay [] h1.low/\Ext h h1/\(n=4 - i/\(i:Int)<=a.n/\(∀ j,j < i->Ee (a.arg j))/\Holds h1 (h.size+0) (.row a.cells 47 false))/\∃ J:Nat->ab,e=(J 0::.pointer (some ⟨h.size+0,0,none⟩)::J 2::.int .i64 i::jr J 4 43 ([]))):=⟨_,rfl⟩
 refine dA I1 _ (by rw [aU];exact ⟨0,_,rfl,z,⟨rfl,by omega,λj hj=>by omega,q0⟩,bl⟩) ?_
 intro n e h' aO
 rw [aU] at aO
 obtain ⟨i,bC,rfl,z,hinv,J,rfl⟩:=aO
 clear q0
 obtain ⟨rfl,hi,aH,q0⟩:=hinv
 have fH:=ei i (by omega)
 simp only [aa,seval,kl,q0.lay,Ec]
 refine bn (λaT=>?_) (λaT=>?_)
 .have s7:(0:Int)<=(i:Int)/\(i:Int) < 4:=by omega
  have mC:=TG a i (by omega)
  repeat' (simp only [aa,seval,kl,q0.lay,s7,↓mC,Tu,Qe,and_self,if_true])
  refine zw7 _ _ _ (λht h' x=>?_) (λh' x=>?_)
  ·(replace z:=z.an x;( replace q0:=q0.over x );rw [ao h'])
   have yJ:∀ j,j < i+1->Ee (a.arg j):=by
    intro j hj
    by_cases kQ:j < i
    .exact aH j kQ
    .have:j=i:=by omega
     subst this
     exact ht
   repeat' (first|simp only [aa,seval,kl]|((with_reducible apply bX);(· rfl)))
   rw [fH]
   (rw [aU];with_reducible refine cy (m:=_) ?_ ⟨i+1,_,rfl,z,⟨rfl,by omega,yJ,q0⟩,bl⟩;omega)
  ·(replace z:=z.an x;( replace q0:=q0.over x );rw [ao h'])
   repeat' (first|simp only [aa,seval,kl]|((with_reducible apply bX);(· rfl)))
   exact h2 _ _ (by decide) z.aA
 have aO:a.n=(i:Int):=by omega
 repeat' (simp only [aa,seval,kl,q0.lay,Ec])
 rw [aO]
 obtain ⟨I2,fM⟩:∃ I:Nat->Env->Heap->Prop,I=(λn e h'=>∃ (k:Nat) (h1:Heap),h'=h1.lay [] h1.low/\Ext h h1/\(n=4 - k/\i<=k/\k<=4/\(∀ j,i<=j->j < k->a.arg j=cT)/\Holds h1 (h.size+0) (.row a.cells 47 false))/\∃ J:Nat->ab,e=(J 0::.pointer (some ⟨h.size+0,0,none⟩)::jr J 2 2 (.int .i64 k::jr J 5 42 ([])))):=⟨_,rfl⟩
 refine dA I2 _ (by rw [fM];exact ⟨i,_,rfl,z,⟨rfl,by omega,by omega,λj h1 h2=>by omega,q0⟩,bl⟩) ?_
 intro n e h' aO
 rw [fM] at aO
 obtain ⟨k,zT,rfl,z,hinv,J,rfl⟩:=aO
 clear q0
 obtain ⟨rfl,vq,yw,fX,q0⟩:=hinv
 have qD:=ei k (by omega)
 simp only [aa,seval,kl]
 refine bn (λaT=>?_) (λaT=>?_)
 rotate_left
 .repeat' ( simp only [aa,seval,kl])
  exact h1 ⟨hs,hp,by omega,by omega,λj hj=>aH j (by omega),λj h1 h2=>fX j (by omega) (by omega)⟩ _ z.aA
 have s7:(0:Int)<=(k:Int)/\(k:Int) < 4:=by omega
 have mC:=TG a k (by omega)
 simp only [aa,seval,kl,q0.lay,s7,↓mC,Tu,Qe,and_self,if_true,zAI,zn4]
 refine rJ (λaQ=>?_) (λheq=>?_)
 .repeat' ( simp only [aa,seval,kl])
  exact h2 _ _ (by decide) z.aA
 .have yJ:∀ j,i<=j->j < k+1->a.arg j=cT:=by
   intro j h1 h2
   by_cases kQ:j < k
   .exact fX j h1 kQ
   .have:j=k:=by omega
    subst this
    exact heq
  repeat' (simp only [aa,seval,kl])
  rw [qD]
  (rw [fM];with_reducible refine cy (m:=_) ?_ ⟨k+1,_,rfl,z,⟨rfl,by omega,by omega,yJ,q0⟩,bl⟩;omega)
def N83:=bA f83
def x83:=PLift.up (by have c:=bB N83 f83;simp only [aN,f83,seval] at c;exact nd c <| nd @JO <| nd @CA <| nd @th <| nd @GV <| nd @cq <| @Wo)
theorem Iq:type_of% x83.down:=x83.down
def KO:=bA f164
def Pg:=PLift.up (by have c:=bB KO f164;simp only [aN,f164,seval] at c;exact nd c <| nd @sL <| nd @JO <| nd @HK <| nd @CA <| nd @th <| nd @GV <| nd @rp <| nd @cq <| nd @gA <| @zD8)
theorem lQ:type_of% Pg.down:=Pg.down
def Kp:=bA f130
def OO:=PLift.up (by have c:=bB Kp f130;simp only [aN,f130,seval] at c;exact nd c <| nd @cq <| @zDI)
theorem Lt:type_of% OO.down:=OO.down
def Kr:=bA f132
def OQ:=PLift.up (by have c:=bB Kr f132;simp only [aN,f132,seval] at c;exact nd c <| nd @En <| nd @mZ <| @zDK)
theorem U6:type_of% OQ.down:=OQ.down
def KP:=bA f166
def Pj:=PLift.up (by have c:=bB KP f166;simp only [aN,f166,seval] at c;exact nd c <| nd @HK <| nd @HL <| nd @CA <| nd @th <| nd @cq <| nd @gA <| @zEa)
theorem km:type_of% Pj.down:=Pj.down
def Ks:=bA f133
def OR:=PLift.up (by have c:=bB Ks f133;simp only [aN,f133,seval] at c;exact nd c <| nd @zB <| nd @cq <| nd @gA <| @zDL)
theorem uS:type_of% OR.down:=OR.down
def N84:=bA f84
def x84:=PLift.up (by have c:=bB N84 f84;simp only [aN,f84,seval] at c;exact nd c <| nd @cq <| @Wp)
theorem C5:type_of% x84.down:=x84.down
def N49:=bA f49
def x49:=PLift.up (by have c:=bB N49 f49;simp only [aN,f49,seval] at c;exact nd c <| nd @j4 <| nd @cq <| nd @je <| @VU)
theorem zR:type_of% x49.down:=x49.down
end Go.Proofs.YtiapegieocgmfaaGreatDoor
namespace Go.Am
open Go.Lib
theorem zmN (n m:List UInt8) (ns:List (List UInt8)):join (n::m::ns) dC=n++(dC++join (m::ns) dC):=by
 simp [join,List.intercalate]
theorem zwl (n:List UInt8):join [n] dC=n:=by simp [join,List.intercalate]
theorem zoO:∀ (l:List (List UInt8)) (x:List UInt8),l≠[]->join (l++[x]) dC=join l dC++dC++x
 | [],x,h=>absurd rfl h
 | [a],x,_=>by
  rw [xz,pE,zmN,zwl,zwl,j7]
 |a::b::l,x,_=>by
  rw [xz,xz,zmN,zmN,<- xz,zoO (b::l) x (by simp)]
  simp only [j7]
def wq (ns:List (List UInt8)):List UInt8:=if ns=[] then [] else 40::join ns dC
theorem zxo (x:List UInt8):wq [x]=[40]++x:=by unfold wq;rw [az (by simp),zwl];rfl
theorem zuD {l:List (List UInt8)} (x:List UInt8) (h:l≠[]):wq (l++[x])=wq l++dC++x:=by
 unfold wq
 rw [az (by simp),az h,zoO l x h]
 rfl
theorem zxL (a:ak):cL a=a.says.data.toList++J4++(a.pred.data.toList++wq (jO a)++(if a.cO=0 then [] else [41])):=by
 have h1:(jO a=[])↔a.args=[]:=by unfold jO;rw [List.map_eq_nil_iff]
 have h2:a.args=[]↔a.cO=0:=by rw [<- xu,w9]
 unfold cL wq
 by_cases h:a.cO=0
 .rw [aE (h2.2 h),aE (h1.2 (h2.2 h)),aE h]
  simp only [j7,bu]
 .have h3:¬ a.args=[]:=λe=>h (h2.1 e)
  rw [az h3,az (λe=>h3 (h1.1 e)),az h]
  simp only [j7,xz,pE]
theorem zyI {a:ak} {i:Nat} (h:i < a.cO):(jO a).take (i+1)=(jO a).take i++[(a.arg i).s.data.toList]:=by
 have hc:a.cO<=4:=Et _ _
 have e:a.args[i]? = some (a.arg i):=by
  unfold ak.args
  rw [mi,aE h]
  have:i=0\/i=1\/i=2\/i=3:=by omega
  rcases this with rfl|rfl|rfl|rfl <;> rfl
 rw [oW]
 congr 1
 unfold jO
 rw [lC,e]
 rfl
theorem zoZ (a:ak):(jO a).length=a.cO:=by unfold jO;rw [gi,w9]
theorem zmS:∀ a b:List UInt8,Op.bytesLess a b=decide (compareBytes a b < 0)
 | [],[]=>by simp [Op.bytesLess,compareBytes]
 | [],_::_=>by simp [Op.bytesLess,compareBytes]
 |_::_,[]=>by simp [Op.bytesLess,compareBytes]
 |a::xs,b::ys=>by
  rw [compareBytes]
  unfold Op.bytesLess
  rw [zmS xs ys]
  by_cases h1:a < b
  .simp [h1]
  .by_cases h2:b < a
   .have h3:a≠b:=λe=>by subst e;exact zfz a h2
    simp [h1,h2,h3]
   .have h3:=zsZ h1 h2
    simp [h1,h2,h3]
theorem zyf (a b:List UInt8):(Op.bytesLess a b=true/\compareBytes a b = -1)\/(Op.bytesLess a b=false/\Op.bytesLess b a=true/\compareBytes a b=1)\/(Op.bytesLess a b=false/\Op.bytesLess b a=false/\compareBytes a b=0):=by
 have h1:=zmS a b
 have h2:=zmS b a
 have h3:=zmw a b
 rcases zoh a b with h|h|h
 .exact .inl ⟨by rw [h1,h];rfl,h⟩
 .refine .inr (.inr ⟨by rw [h1,h];rfl,?_,h⟩)
  rw [h2,decide_eq_false_iff_not]
  omega
 .refine .inr (.inl ⟨by rw [h1,h];rfl,?_,h⟩)
  rw [h2,decide_eq_true_iff]
  omega
end Go.Am
namespace Go.Proofs.YtiapegieocgmfaaGreatDoor
open Go.Am Tryz
theorem zmq {P:Program} {T:bI} {t:TypeId} {a b:au}:cz P T .lss t (.string a) (.string b)=some (.bool (Op.bytesLess a.data.toList b.data.toList)):=by
 refine QB rfl ?_ rfl
 unfold Op.stringOp
 simp only [IZ]
 rfl
theorem zr3 {P:Program} {T:bI} {t:TypeId} {a b:au}:cz P T .gtr t (.string a) (.string b)=some (.bool (!(Op.bytesLess a.data.toList b.data.toList || a.data.toList == b.data.toList))):=by
 refine QB rfl ?_ rfl
 unfold Op.stringOp
 simp only [IZ]
 rfl
theorem zAK (a:ak):a.cells[2]? = some (.int .i64 a.n):=rfl
theorem TK (a:ak) (h:Heap) (K:aF) (hk:∀ h',Ext h h'->K (.int .i64 (a.cO:Nat)) h'):Ok prog aD ov 132 [a.val] h K:=by
 rw [ao h]
 have z:=Ext.refl h
 have e:((a.cO:Nat):Int)=if 4 < (if a.n < 0 then 0 else a.n) then 4 else if a.n < 0 then 0 else a.n:=by
  unfold ak.cO
  split <;> split <;> (skip) <;> omega
 rw [e] at hk
 refine Ok.aw 6 (bq Kr) ?_
 repeat' (first|simp only [aa,seval,U6,eE,zAK]|((with_reducible apply zww);(· rfl);(· rfl))|((with_reducible apply zwt);(· rfl);(· rfl)))
 exact hk _ z.aA
theorem zyh (a:ak) (k:Nat) (hk:k < 4):a.cells[3+k*2+1]? = some (.string (a.arg k).s):=by
 have:k=0\/k=1\/k=2\/k=3:=by omega
 rcases this with rfl|rfl|rfl|rfl <;> rfl
theorem zBs (a:ak) (ha:a.aW=true) (h:Heap) (K:aF)
 (hk:∀ h' (S:au),Ext h h'->S.data.toList=a.pred.data.toList++wq (jO a)++(if a.cO=0 then [] else [41])->S.size<=2000->K (.string S) h'):Ok prog aD ov 166 [a.val] h K:=by
 rw [ao h]
 have z:=Ext.refl h
 obtain ⟨mE,gV⟩:=zhv ha
 have hc4:a.cO<=4:=Et _ _
 refine Ok.aw 31 (bq KP) ?_
 simp only [aa,seval,km,eE,zvI]
 refine na (λh' x hq=>?_)
 have q0:=hq 0 _ rfl
 clear hq
 (replace z:=z.an x;rw [ao h'])
 obtain ⟨I1,aU⟩:∃ I:Nat->Env->Heap->Prop,I=(λn e h'=>∃ (i:Nat) (S:au) (h1:Heap),h'=h1.lay [] h1.low/\Ext h h1/\(n=a.cO - i/\i<=a.cO/\S.data.toList=a.pred.data.toList++wq ((jO a).take i)/\S.size<=300+i*310/\Holds h1 (h.size+0) (.row a.cells 47 false))/\∃ J:Nat->ab,e=(J 0::.pointer (some ⟨h.size+0,0,none⟩)::J 2::.string S::.int .i64 i::jr J 5 27 ([]))):=⟨_,rfl⟩
 refine dA I1 _ (by rw [aU];exact ⟨0,a.pred,_,rfl,z,⟨rfl,by omega,by simp [wq],by omega,q0⟩,bl⟩) ?_
 intro n e h' aO
 rw [aU] at aO
 obtain ⟨i,S,bC,rfl,z,hinv,J,rfl⟩:=aO
 clear q0
 obtain ⟨rfl,hi,hS,hSz,q0⟩:=hinv
 have fH:=ei i (by omega)
 repeat' (simp only [aa,seval,km,q0.lay,↓eY,eJ,dX])
 refine TK a _ _ (λh' x=>?_)
 (replace z:=z.an x;replace q0:=q0.over x;rw [ao h'])
 simp only [aa,seval,km,q0.lay,↓eY,eJ,dX]
 refine bn (λaT=>?_) (λaT=>?_)
 .have s7:(0:Int)<=(i:Int)/\(i:Int) < 4:=by omega
  have eD:=zyh a i (by omega)
  have yI:=zyI (a:=a) (i:=i) (by omega)
  have IF:=Qf ha i
  simp only [aa,seval,km]
  refine lK (λh0=>?_) (λh0=>?_)
  .have h0:i=0:=by omega
   simp only [aa,seval,km]
   refine wY ?_ (λS1 zY r8=>?_)
   .show S.size+1<=_
    omega
   repeat' (simp only [aa,seval,km,q0.lay,s7,eD,and_self,if_true])
   refine wY ?_ (λS2 zZ mG=>?_)
   .rw [r8]
    show S.size+1+_<=_
    omega
   have Al:S2.size<=300+(i+1)*310:=by
    rw [mG,r8]
    show S.size+1+_<=_
    omega
   have FN:S2.data.toList=a.pred.data.toList++wq ((jO a).take (i+1)):=by
    rw [zZ,xj,zY,xj,hS,yI,h0,xB,pE,zxo]
    simp [wq]
   repeat' (simp only [aa,seval,km])
   rw [fH]
   (rw [aU];with_reducible refine cy (m:=_) ?_ ⟨i+1,S2,_,rfl,z,⟨rfl,by omega,FN,Al,q0⟩,bl⟩;omega)
  .have h0:i≠0:=by omega
   simp only [aa,seval,km]
   refine wY ?_ (λS1 zY r8=>?_)
   .show S.size+2<=_
    omega
   repeat' (simp only [aa,seval,km,q0.lay,s7,eD,and_self,if_true])
   refine wY ?_ (λS2 zZ mG=>?_)
   .rw [r8]
    show S.size+2+_<=_
    omega
   have Al:S2.size<=300+(i+1)*310:=by
    rw [mG,r8]
    show S.size+2+_<=_
    omega
   have FN:S2.data.toList=a.pred.data.toList++wq ((jO a).take (i+1)):=by
    have aQ:(jO a).take i≠[]:=λe=>by
     have:=congrArg List.length e
     rw [gh,zoZ,dN] at this
     omega
    rw [zZ,xj,zY,xj,hS,yI,zuD _ aQ]
    simp only [j7]
    rfl
   repeat' (simp only [aa,seval,km])
   rw [fH]
   (rw [aU];with_reducible refine cy (m:=_) ?_ ⟨i+1,S2,_,rfl,z,⟨rfl,by omega,FN,Al,q0⟩,bl⟩;omega)
 have aO:i=a.cO:=by omega
 rw [gE (by rw [zoZ];omega)] at hS
 repeat' (simp only [aa,seval,km,q0.lay,↓eY,eJ,dX])
 refine TK a _ _ (λh' x=>?_)
 (replace z:=z.an x;replace q0:=q0.over x;rw [ao h'])
 simp only [aa,seval,km]
 refine bn (λlj=>?_) (λlj=>?_)
 .repeat' ( simp only [aa,seval,km])
  refine wY ?_ (λS1 zY r8=>?_)
  .show S.size+1<=_
   omega
  repeat' (simp only [aa,seval,km])
  refine hk _ S1 z.aA ?_ (by rw [r8];show S.size+1<=_;omega)
  rw [zY,xj,hS,az (by omega)]
 .repeat' ( simp only [aa,seval,km])
  refine hk _ S z.aA ?_ (by omega)
  rw [hS,aE (by omega),bu]
theorem zsF (a:ak) (ha:a.aW=true) (h:Heap) (K:aF)
 (hk:∀ h',Ext h h'->K (.string ⟨(cL a).toArray⟩) h'):Ok prog aD ov 133 [a.val] h K:=by
 rw [ao h]
 have z:=Ext.refl h
 obtain ⟨mE,gV⟩:=zhv ha
 refine Ok.aw 8 (bq Ks) ?_
 repeat' (simp only [aa,seval,uS,eE,zqv])
 refine (dL (by simp only [uS])) z.aA ?_
 simp only [aa,seval,uS,zqv,↓eY,eJ,dX]
 refine wY ?_ (λS1 zY r8=>?_)
 .show a.says.size+6<=_
  omega
 simp only [aa,seval,uS,↓eY,eJ,dX]
 refine zBs a ha _ _ (λh' S x hS hSz=>?_)
 (((with_reducible refine cU ?_ ?_ ?_);(· exact (by (simp only [ck]);have:=z.size;omega));(· exact x));replace z:=z.an x;rw [ao h'])
 simp only [aa,seval,uS]
 refine wY ?_ (λS2 zZ mG=>?_)
 .rw [r8]
  show a.says.size+6+_<=_
  omega
 have FN:S2=⟨(cL a).toArray⟩:=Z3 (by rw [zZ,xj,zY,xj,hS,zxL];rfl)
 repeat' (first|simp only [aa,seval,uS]|((with_reducible refine ⟨z.cn.lay _ _,?_⟩);(intro _ h' zz x _);(simp only [bM,bu] at x);(replace z:=zz);(clear zz);rw [ao h']))
 rw [FN]
 exact hk _ z.aA
theorem zwG (a b:ak) (ha:a.aW=true) (hb:b.aW=true) (h:Heap) (K:aF)
 (hk:∀ h',Ext h h'->K (.int .i64 (aX a b)) h'):Ok prog aD ov 84 [a.val,b.val] h K:=by
 rw [ao h]
 have z:=Ext.refl h
 refine Ok.aw 17 (bq N84) ?_
 repeat' (simp only [aa,seval,C5,eE])
 refine (dL (by simp only [C5])) z.aA ?_
 simp only [aa,seval,C5,↓eY,eJ,dX]
 refine zsF a ha _ _ (λh' x=>?_)
 have q1:=Holds.top (i:=1) x rfl
 (((with_reducible refine cU ?_ ?_ ?_);(· exact (by (simp only [ck]);have:=z.size;omega));(· exact x));replace z:=z.an x;rw [ao h'])
 repeat' (simp only [aa,seval,C5,q1.lay,↓eY,eJ,dX])
 refine zsF b hb _ _ (λh' x=>?_)
 (((with_reducible refine cU ?_ ?_ ?_);(· exact (by (simp only [ck]);have:=z.size;omega));(· exact x));replace z:=z.an x;rw [ao h'])
 repeat' (first|simp only [aa,seval,C5]|((with_reducible refine ⟨z.cn.lay _ _,?_⟩);(intro _ h' zz x _);(simp only [bM,bu] at x);(replace z:=zz);(clear zz);rw [ao h']))
 have hc:aX a b=Lib.compareBytes (cL a) (cL b):=rfl
 rw [hc] at hk
 rcases zyf (cL a) (cL b) with ⟨h1,h2⟩|⟨h1,h3,h2⟩|⟨h1,h3,h2⟩
 .rw [h2] at hk
  repeat' (simp only [aa,seval,C5,zmq,h1])
  exact hk _ z.aA
 .rw [h2] at hk
  have h4:(cL a == cL b)=false:=by
   cases e:cL a == cL b
   .rfl
   .have e2:cL a=cL b:=by simpa using e
    rw [e2,Ql] at h2
    cases h2
  repeat' (simp only [aa,seval,C5,zmq,zr3,h1,h4,Bool.or_false,kW])
  exact hk _ z.aA
 .rw [h2] at hk
  have h4:(cL a == cL b)=true:=by
   rw [Jo h2]
   simp
  repeat' (simp only [aa,seval,C5,zmq,zr3,h1,h4,Bool.or_true,fQ])
  exact hk _ z.aA
end Go.Proofs.YtiapegieocgmfaaGreatDoor

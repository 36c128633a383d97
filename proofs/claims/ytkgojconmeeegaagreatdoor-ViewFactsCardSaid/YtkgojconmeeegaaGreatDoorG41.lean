/- Walks: terms and atoms of the document's form Written out by fill2.py. No condition. -/
import Derived.Test.YtkgojconmeeegaaGreatDoorG39
set_option linter.unusedSimpArgs false
set_option linter.unusedVariables false
set_option maxRecDepth 100000
set_option maxHeartbeats 0
noncomputable section
namespace Go.Proofs.YtkgojconmeeegaaGreatDoor
open Go.Am Tryz
theorem zCa:od aA 31 []=some cu.val:=by kernel_rfl
theorem UG (a:ak) (k:Nat) (hk:k < 4):cut a.cells (3+k*2) 2=some (a.arg k).cells:=by
 have:k=0\/k=1\/k=2\/k=3:=by omega
 rcases this with rfl|rfl|rfl|rfl <;> rfl
theorem zi5 (a:aH):Value.agg a.cells.toArray=a.val:=rfl
theorem zq9 (a:ak):a.cells[0]? = some (.string a.says):=rfl
theorem zwP (a:ak):a.cells[1]? = some (.string a.pred):=rfl
theorem UY (a:ak):a.cells[2]? = some (.int .i64 a.n):=rfl
theorem zyk (t:aH) (h:Heap) (K:aG) (h1:EA t->∀ h',Ext h h'->K (.bool true) h') (h2:∀ h',Ext h h'->K (.bool false) h'):Ok prog aA ov 192 [t.val] h K:=by
 rw [ao h]
 have z:=Ext.refl h
 rcases t with ⟨tv,ts⟩
 unfold EA at h1
 cases tv
 .refine Ok.aq 10 (bm E7) ?_
  simp only [aa,seval,Bm,aH.val,aH.cells]
  refine ztj _ _ _ (λhs h' x=>?_) (λh' x=>?_)
  all_goals
   (replace z:=z.aj x;rw [ao h'])
   simp only [aa,seval,Bm]
   first
    |exact h1 hs _ z.au
    |exact h2 _ z.au
 .refine Ok.aq 10 (bm E7) ?_
  simp only [aa,seval,Bm,aH.val,aH.cells]
  refine zr5 _ _ _ (λhs h' x=>?_) (λh' x=>?_)
  all_goals
   (replace z:=z.aj x;rw [ao h'])
   simp only [aa,seval,Bm]
   first
    |exact h1 hs _ z.au
    |exact h2 _ z.au
theorem zym (a:ak) (h:Heap) (K:aG) (h1:gN a->∀ h',Ext h h'->K (.int .i64 0) h') (h2:∀ c h',c≠0->Ext h h'->K (.int .i64 c) h'):Ok prog aA ov 155 [a.val] h K:=by
 rw [ao h]
 have z:=Ext.refl h
 refine Ok.aq 46 (bm K0) ?_
 repeat' (simp only [aa,seval,kg,fA,zq9])
 refine zfP _ _ _ (λhs h' x=>?_) (λh' x=>?_)
 rotate_left
 ·(replace z:=z.aj x;rw [ao h'])
  repeat' (first|simp only [aa,seval,kg]|((with_reducible apply bI);(· rfl)))
  exact h2 _ _ (by decide) z.au
 have q0:=Holds.top (i:=0) x rfl
 (replace z:=z.aj x;rw [ao h'])
 repeat' (first|simp only [aa,seval,kg,q0.lay,zwP]|((with_reducible apply bI);(· rfl)))
 refine zio _ _ _ (λhp h' x=>?_) (λh' x=>?_)
 rotate_left
 ·(replace z:=z.aj x;( replace q0:=q0.over x );rw [ao h'])
  repeat' (first|simp only [aa,seval,kg]|((with_reducible apply bI);(· rfl)))
  exact h2 _ _ (by decide) z.au
 (replace z:=z.aj x;replace q0:=q0.over x;rw [ao h'])
 repeat' (first|simp only [aa,seval,kg,q0.lay,UY]|((with_reducible apply bg) <;> intro _)|((with_reducible apply bI);(· rfl)))
 all_goals try exact h2 _ _ (by decide) z.au
 have sx:0<=a.n:=by omega
 have Ty:a.n<=4:=by omega
 obtain ⟨I1,aO⟩:∃ I:Nat->Env->Heap->Prop,I=(λn e h'=>∃ (i:Nat) (h1:Heap),h'=h1.lay [] h1.low/\Ext h h1/\(n=4 - i/\(i:Int)<=a.n/\(∀ j,j < i->EA (a.arg j))/\Holds h1 (h.size+0) (.row a.cells 34 false))/\∃ J:Nat->ae,e=(J 0::.pointer (some ⟨h.size+0,0,none⟩)::J 2::.int .i64 i::jr J 4 43 ([]))):=⟨_,rfl⟩
 refine cK I1 _ (by rw [aO];exact ⟨0,_,rfl,z,⟨rfl,by omega,λj hj=>by omega,q0⟩,bc⟩) ?_
 intro n e h' aK
 rw [aO] at aK
 obtain ⟨i,bD,rfl,z,hinv,J,rfl⟩:=aK
 clear q0
 obtain ⟨rfl,hi,aC,q0⟩:=hinv
 have fb:=dE i (by omega)
 simp only [aa,seval,kg,q0.lay,UY]
 refine bg (λaP=>?_) (λaP=>?_)
 .have lN:(0:Int)<=(i:Int)/\(i:Int) < 4:=by omega
  have kE:=UG a i (by omega)
  repeat' (simp only [aa,seval,kg,q0.lay,lN,↓kE,zi5,zq])
  refine zyk _ _ _ (λht h' x=>?_) (λh' x=>?_)
  ·(replace z:=z.aj x;( replace q0:=q0.over x );rw [ao h'])
   have oF:∀ j,j < i+1->EA (a.arg j):=by
    intro j hj
    by_cases j6:j < i
    .exact aC j j6
    .have:j=i:=by omega
     subst this
     exact ht
   repeat' (first|simp only [aa,seval,kg]|((with_reducible apply bI);(· rfl)))
   rw [fb]
   (rw [aO];with_reducible refine bS (m:=_) ?_ ⟨i+1,_,rfl,z,⟨rfl,by omega,oF,q0⟩,bc⟩;omega)
  ·(replace z:=z.aj x;( replace q0:=q0.over x );rw [ao h'])
   repeat' (first|simp only [aa,seval,kg]|((with_reducible apply bI);(· rfl)))
   exact h2 _ _ (by decide) z.au
 have aK:a.n=(i:Int):=by omega
 repeat' (simp only [aa,seval,kg,q0.lay,UY])
 rw [aK]
 obtain ⟨I2,ey⟩:∃ I:Nat->Env->Heap->Prop,I=(λn e h'=>∃ (k:Nat) (h1:Heap),h'=h1.lay [] h1.low/\Ext h h1/\(n=4 - k/\i<=k/\k<=4/\(∀ j,i<=j->j < k->a.arg j=cu)/\Holds h1 (h.size+0) (.row a.cells 34 false))/\∃ J:Nat->ae,e=(J 0::.pointer (some ⟨h.size+0,0,none⟩)::jr J 2 2 (.int .i64 k::jr J 5 42 ([])))):=⟨_,rfl⟩
 refine cK I2 _ (by rw [ey];exact ⟨i,_,rfl,z,⟨rfl,by omega,by omega,λj h1 h2=>by omega,q0⟩,bc⟩) ?_
 intro n e h' aK
 rw [ey] at aK
 obtain ⟨k,j4,rfl,z,hinv,J,rfl⟩:=aK
 clear q0
 obtain ⟨rfl,ry,tF,gg,q0⟩:=hinv
 have qG:=dE k (by omega)
 simp only [aa,seval,kg]
 refine bg (λaP=>?_) (λaP=>?_)
 rotate_left
 .repeat' ( simp only [aa,seval,kg])
  exact h1 ⟨hs,hp,by omega,by omega,λj hj=>aC j (by omega),λj h1 h2=>gg j (by omega) (by omega)⟩ _ z.au
 have lN:(0:Int)<=(k:Int)/\(k:Int) < 4:=by omega
 have kE:=UG a k (by omega)
 simp only [aa,seval,kg,q0.lay,lN,↓kE,zi5,zq,zCa,zop]
 refine uR (λba=>?_) (λheq=>?_)
 .repeat' ( simp only [aa,seval,kg])
  exact h2 _ _ (by decide) z.au
 .have oF:∀ j,i<=j->j < k+1->a.arg j=cu:=by
   intro j h1 h2
   by_cases j6:j < k
   .exact gg j h1 j6
   .have:j=k:=by omega
    subst this
    exact heq
  repeat' (simp only [aa,seval,kg])
  rw [qG]
  (rw [ey];with_reducible refine bS (m:=_) ?_ ⟨k+1,_,rfl,z,⟨rfl,by omega,by omega,oF,q0⟩,bc⟩;omega)
def Vp:=bp f86
def x86:=PLift.up (by have c:=bq Vp f86;simp only [aI,f86,seval] at c;exact nd c <| nd @tY <| nd @zD <| nd @pZ <| nd @bP <| nd @sB <| @Xn)
theorem wB:type_of% x86.down:=x86.down
def Ls:=bp f191
def Qn:=PLift.up (by have c:=bq Ls f191;simp only [aI,f191,seval] at c;exact nd c <| nd @u9 <| nd @tY <| nd @qM <| nd @zD <| nd @pZ <| nd @jA <| nd @bP <| nd @sB <| nd @eC <| @zGe)
theorem mx:type_of% Qn.down:=Qn.down
def KZ:=bp f154
def PO:=PLift.up (by have c:=bq KZ f154;simp only [aI,f154,seval] at c;exact nd c <| nd @bP <| @zFG)
theorem Me:type_of% PO.down:=PO.down
def N87:=bp f87
def x87:=PLift.up (by have c:=bq N87 f87;simp only [aI,f87,seval] at c;exact nd c <| nd @lG <| nd @qJ <| nd @wW <| nd @oL <| nd @jA <| nd @eC <| nd @qa <| @Xo)
theorem Iy:type_of% x87.down:=x87.down
def N84:=bp f84
def x84:=PLift.up (by have c:=bq N84 f84;simp only [aI,f84,seval] at c;exact nd c <| nd @lG <| nd @qJ <| nd @wW <| nd @tY <| nd @qM <| nd @oL <| nd @sB <| nd @eC <| nd @qa <| @Xl)
theorem Dq:type_of% x84.down:=x84.down
def KJ:=bp f138
def Px:=PLift.up (by have c:=bq KJ f138;simp only [aI,f138,seval] at c;exact nd c <| nd @lG <| nd @tY <| nd @qM <| nd @jA <| nd @sB <| nd @eC <| @zFo)
theorem vf:type_of% Px.down:=Px.down
def KK:=bp f139
def Py:=PLift.up (by have c:=bq KK f139;simp only [aI,f139,seval] at c;exact nd c <| nd @tf <| nd @qJ <| nd @oL <| nd @Kd <| nd @eC <| nd @qa <| @zFp)
theorem gZ:type_of% Py.down:=Py.down
def N88:=bp f88
def x88:=PLift.up (by have c:=bq N88 f88;simp only [aI,f88,seval] at c;exact nd c <| nd @lG <| nd @tf <| nd @qJ <| nd @wW <| nd @tY <| nd @qM <| nd @oL <| nd @Kd <| nd @jA <| nd @sB <| nd @eC <| nd @qa <| @Xp)
theorem sj:type_of% x88.down:=x88.down
def N85:=bp f85
def x85:=PLift.up (by have c:=bq N85 f85;simp only [aI,f85,seval] at c;exact nd c <| nd @sR <| nd @CY <| nd @w9 <| nd @lx <| nd @eC <| @Xm)
theorem c85:type_of% x85.down:=x85.down
def SQ:=bp f52
def x52:=PLift.up (by have c:=bq SQ f52;simp only [aI,f52,seval] at c;exact nd c <| nd @lG <| nd @tf <| nd @tY <| nd @qM <| nd @w9 <| nd @zD <| nd @pZ <| nd @lx <| nd @jA <| nd @bP <| nd @sB <| nd @eC <| @WU)
theorem my:type_of% x52.down:=x52.down
def N25:=bp f25
def x25:=PLift.up (by have c:=bq N25 f25;simp only [aI,f25,seval] at c;exact nd c <| nd @w9 <| nd @lx <| @Ww)
theorem c25:type_of% x25.down:=x25.down
def KL:=bp f140
def PA:=PLift.up (by have c:=bq KL f140;simp only [aI,f140,seval] at c;exact nd c <| nd @qM <| nd @CY <| nd @zD <| nd @pZ <| nd @bP <| nd @eC <| @zFq)
theorem kf:type_of% PA.down:=PA.down
def N89:=bp f89
def x89:=PLift.up (by have c:=bq N89 f89;simp only [aI,f89,seval] at c;exact nd c <| nd @sR <| nd @bP <| nd @eC <| @Xq)
theorem Iz:type_of% x89.down:=x89.down
def N53:=bp f53
def x53:=PLift.up (by have c:=bq N53 f53;simp only [aI,f53,seval] at c;exact nd c <| nd @bP <| @WV)
theorem Dm:type_of% x53.down:=x53.down
def N23:=bp f23
def x23:=PLift.up (by have c:=bq N23 f23;simp only [aI,f23,seval] at c;exact nd c <| nd @iF <| nd @bP <| nd @fS <| @Wu)
theorem zR:type_of% x23.down:=x23.down
def N61:=bp f61
def x61:=PLift.up (by have c:=bq N61 f61;simp only [aI,f61,seval] at c;exact nd c <| nd @iF <| nd @bP <| nd @fS <| @W2)
theorem zS:type_of% x61.down:=x61.down
end Go.Proofs.YtkgojconmeeegaaGreatDoor
namespace Go.Am
open Go.Lib
theorem zmS (n m:List UInt8) (ns:List (List UInt8)):join (n::m::ns) dB=n++(dB++join (m::ns) dB):=by
 simp [join,List.intercalate]
theorem zxv (n:List UInt8):join [n] dB=n:=by simp [join,List.intercalate]
theorem zph:∀ (l:List (List UInt8)) (x:List UInt8),l≠[]->join (l++[x]) dB=join l dB++dB++x
 | [],x,h=>absurd rfl h
 | [a],x,_=>by
  rw [wt,qu,zmS,zxv,zxv,jD]
 |a::b::l,x,_=>by
  rw [wt,wt,zmS,zmS,<- wt,zph (b::l) x (by simp)]
  simp only [jD]
def wm (ns:List (List UInt8)):List UInt8:=if ns=[] then [] else 40::join ns dB
theorem zyD (x:List UInt8):wm [x]=[40]++x:=by unfold wm;rw [az (by simp),zxv];rfl
theorem zvE {l:List (List UInt8)} (x:List UInt8) (h:l≠[]):wm (l++[x])=wm l++dB++x:=by
 unfold wm
 rw [az (by simp),az h,zph l x h]
 rfl
theorem zy1 (a:ak):cF a=a.says.data.toList++Kj++(a.pred.data.toList++wm (jJ a)++(if a.cU=0 then [] else [41])):=by
 have h1:(jJ a=[])↔a.args=[]:=by unfold jJ;rw [List.map_eq_nil_iff]
 have h2:a.args=[]↔a.cU=0:=by rw [<- zG,wU]
 unfold cF wm
 by_cases h:a.cU=0
 .rw [aE (h2.2 h),aE (h1.2 (h2.2 h)),aE h]
  simp only [jD,bu]
 .have h3:¬ a.args=[]:=λe=>h (h2.1 e)
  rw [az h3,az (λe=>h3 (h1.1 e)),az h]
  simp only [jD,wt,qu]
theorem zz0 {a:ak} {i:Nat} (h:i < a.cU):(jJ a).take (i+1)=(jJ a).take i++[(a.arg i).s.data.toList]:=by
 have hc:a.cU<=4:=EN _ _
 have e:a.args[i]? = some (a.arg i):=by
  unfold ak.args
  rw [lX,aE h]
  have:i=0\/i=1\/i=2\/i=3:=by omega
  rcases this with rfl|rfl|rfl|rfl <;> rfl
 rw [nT]
 congr 1
 unfold jJ
 rw [lB,e]
 rfl
theorem zpu (a:ak):(jJ a).length=a.cU:=by unfold jJ;rw [fV,wU]
theorem zmY:∀ a b:List UInt8,Op.bytesLess a b=decide (compareBytes a b < 0)
 | [],[]=>by simp [Op.bytesLess,compareBytes]
 | [],_::_=>by simp [Op.bytesLess,compareBytes]
 |_::_,[]=>by simp [Op.bytesLess,compareBytes]
 |a::xs,b::ys=>by
  rw [compareBytes]
  unfold Op.bytesLess
  rw [zmY xs ys]
  by_cases h1:a < b
  .simp [h1]
  .by_cases h2:b < a
   .have h3:a≠b:=λe=>by subst e;exact zfY a h2
    simp [h1,h2,h3]
   .have h3:=ztL h1 h2
    simp [h1,h2,h3]
theorem zzx (a b:List UInt8):(Op.bytesLess a b=true/\compareBytes a b = -1)\/(Op.bytesLess a b=false/\Op.bytesLess b a=true/\compareBytes a b=1)\/(Op.bytesLess a b=false/\Op.bytesLess b a=false/\compareBytes a b=0):=by
 have h1:=zmY a b
 have h2:=zmY b a
 have h3:=zmz a b
 rcases zoD a b with h|h|h
 .exact .inl ⟨by rw [h1,h];rfl,h⟩
 .refine .inr (.inr ⟨by rw [h1,h];rfl,?_,h⟩)
  rw [h2,decide_eq_false_iff_not]
  omega
 .refine .inr (.inl ⟨by rw [h1,h];rfl,?_,h⟩)
  rw [h2,decide_eq_true_iff]
  omega
end Go.Am
namespace Go.Proofs.YtkgojconmeeegaaGreatDoor
open Go.Am Tryz
theorem zmt {P:Program} {T:bL} {t:TypeId} {a b:aB}:bY P T .lss t (.string a) (.string b)=some (.bool (Op.bytesLess a.data.toList b.data.toList)):=by
 refine HM rfl ?_ rfl
 unfold Op.stringOp
 simp only [As]
 rfl
theorem zsV {P:Program} {T:bL} {t:TypeId} {a b:aB}:bY P T .gtr t (.string a) (.string b)=some (.bool (!(Op.bytesLess a.data.toList b.data.toList || a.data.toList == b.data.toList))):=by
 refine HM rfl ?_ rfl
 unfold Op.stringOp
 simp only [As]
 rfl
theorem zCc (a:ak):a.cells[2]? = some (.int .i64 a.n):=rfl
theorem HF (a:ak) (h:Heap) (K:aG) (hk:∀ h',Ext h h'->K (.int .i64 (a.cU:Nat)) h'):Ok prog aA ov 25 [a.val] h K:=by
 rw [ao h]
 have z:=Ext.refl h
 have e:((a.cU:Nat):Int)=if 4 < (if a.n < 0 then 0 else a.n) then 4 else if a.n < 0 then 0 else a.n:=by
  unfold ak.cU
  split <;> split <;> (skip) <;> omega
 rw [e] at hk
 refine Ok.aq 6 (bm N25) ?_
 repeat' (first|simp only [aa,seval,c25,fA,zCc]|((with_reducible apply zxJ);(· rfl);(· rfl))|((with_reducible apply zxF);(· rfl);(· rfl)))
 exact hk _ z.au
theorem zzA (a:ak) (k:Nat) (hk:k < 4):a.cells[3+k*2+1]? = some (.string (a.arg k).s):=by
 have:k=0\/k=1\/k=2\/k=3:=by omega
 rcases this with rfl|rfl|rfl|rfl <;> rfl
theorem zC3 (a:ak) (ha:a.aV=true) (h:Heap) (K:aG)
 (hk:∀ h' (S:aB),Ext h h'->S.data.toList=a.pred.data.toList++wm (jJ a)++(if a.cU=0 then [] else [41])->S.size<=2000->K (.string S) h'):Ok prog aA ov 140 [a.val] h K:=by
 rw [ao h]
 have z:=Ext.refl h
 obtain ⟨ka,gr⟩:=zhO ha
 have hc4:a.cU<=4:=EN _ _
 refine Ok.aq 31 (bm KL) ?_
 simp only [aa,seval,kf,fA,zwM]
 refine lg (λh' x hq=>?_)
 have q0:=hq 0 _ rfl
 clear hq
 (replace z:=z.aj x;rw [ao h'])
 obtain ⟨I1,aO⟩:∃ I:Nat->Env->Heap->Prop,I=(λn e h'=>∃ (i:Nat) (S:aB) (h1:Heap),h'=h1.lay [] h1.low/\Ext h h1/\(n=a.cU - i/\i<=a.cU/\S.data.toList=a.pred.data.toList++wm ((jJ a).take i)/\S.size<=300+i*310/\Holds h1 (h.size+0) (.row a.cells 34 false))/\∃ J:Nat->ae,e=(J 0::.pointer (some ⟨h.size+0,0,none⟩)::J 2::.string S::.int .i64 i::jr J 5 27 ([]))):=⟨_,rfl⟩
 refine cK I1 _ (by rw [aO];exact ⟨0,a.pred,_,rfl,z,⟨rfl,by omega,by simp [wm],by omega,q0⟩,bc⟩) ?_
 intro n e h' aK
 rw [aO] at aK
 obtain ⟨i,S,bD,rfl,z,hinv,J,rfl⟩:=aK
 clear q0
 obtain ⟨rfl,hi,hS,hSz,q0⟩:=hinv
 have fb:=dE i (by omega)
 repeat' (simp only [aa,seval,kf,q0.lay,↓dW,dO,da])
 refine HF a _ _ (λh' x=>?_)
 (replace z:=z.aj x;replace q0:=q0.over x;rw [ao h'])
 simp only [aa,seval,kf]
 refine bg (λaP=>?_) (λaP=>?_)
 .have lN:(0:Int)<=(i:Int)/\(i:Int) < 4:=by omega
  have eV:=zzA a i (by omega)
  have yE:=zz0 (a:=a) (i:=i) (by omega)
  have IJ:=Rl ha i
  simp only [aa,seval,kf]
  refine lz (λh0=>?_) (λh0=>?_)
  .have h0:i=0:=by omega
   simp only [aa,seval,kf]
   refine wR ?_ (λS1 zW sA=>?_)
   .show S.size+1<=_
    omega
   repeat' (simp only [aa,seval,kf,q0.lay,lN,eV])
   refine wR ?_ (λS2 zX lu=>?_)
   .rw [sA]
    show S.size+1+_<=_
    omega
   have Cf:S2.size<=300+(i+1)*310:=by
    rw [lu,sA]
    show S.size+1+_<=_
    omega
   have F0:S2.data.toList=a.pred.data.toList++wm ((jJ a).take (i+1)):=by
    rw [zX,w7,zW,w7,hS,yE,h0,zP,qu,zyD]
    simp [wm]
   repeat' (simp only [aa,seval,kf])
   rw [fb]
   (rw [aO];with_reducible refine bS (m:=_) ?_ ⟨i+1,S2,_,rfl,z,⟨rfl,by omega,F0,Cf,q0⟩,bc⟩;omega)
  .have h0:i≠0:=by omega
   simp only [aa,seval,kf]
   refine wR ?_ (λS1 zW sA=>?_)
   .show S.size+2<=_
    omega
   repeat' (simp only [aa,seval,kf,q0.lay,lN,eV])
   refine wR ?_ (λS2 zX lu=>?_)
   .rw [sA]
    show S.size+2+_<=_
    omega
   have Cf:S2.size<=300+(i+1)*310:=by
    rw [lu,sA]
    show S.size+2+_<=_
    omega
   have F0:S2.data.toList=a.pred.data.toList++wm ((jJ a).take (i+1)):=by
    have ba:(jJ a).take i≠[]:=λe=>by
     have:=congrArg List.length e
     rw [fj,zpu,dr] at this
     omega
    rw [zX,w7,zW,w7,hS,yE,zvE _ ba]
    simp only [jD]
    rfl
   repeat' (simp only [aa,seval,kf])
   rw [fb]
   (rw [aO];with_reducible refine bS (m:=_) ?_ ⟨i+1,S2,_,rfl,z,⟨rfl,by omega,F0,Cf,q0⟩,bc⟩;omega)
 have aK:i=a.cU:=by omega
 rw [fX (by rw [zpu];omega)] at hS
 repeat' (simp only [aa,seval,kf,q0.lay,↓dW,dO,da])
 refine HF a _ _ (λh' x=>?_)
 (replace z:=z.aj x;replace q0:=q0.over x;rw [ao h'])
 simp only [aa,seval,kf]
 refine bg (λjS=>?_) (λjS=>?_)
 .repeat' ( simp only [aa,seval,kf])
  refine wR ?_ (λS1 zW sA=>?_)
  .show S.size+1<=_
   omega
  repeat' (simp only [aa,seval,kf])
  refine hk _ S1 z.au ?_ (by rw [sA];show S.size+1<=_;omega)
  rw [zW,w7,hS,az (by omega)]
 .repeat' ( simp only [aa,seval,kf])
  refine hk _ S z.au ?_ (by omega)
  rw [hS,aE (by omega),bu]
theorem ztr (a:ak) (ha:a.aV=true) (h:Heap) (K:aG)
 (hk:∀ h',Ext h h'->K (.string ⟨(cF a).toArray⟩) h'):Ok prog aA ov 89 [a.val] h K:=by
 rw [ao h]
 have z:=Ext.refl h
 obtain ⟨ka,gr⟩:=zhO ha
 refine Ok.aq 8 (bm N89) ?_
 repeat' (simp only [aa,seval,Iz,fA])
 refine (cZ (by simp only [Iz])) z.au ?_
 simp only [aa,seval,Iz,zwL]
 refine wR ?_ (λS1 zW sA=>?_)
 .show a.says.size+6<=_
  omega
 simp only [aa,seval,Iz,↓dW,dO,da]
 refine zC3 a ha _ _ (λh' S x hS hSz=>?_)
 (((with_reducible refine di ?_ ?_ ?_);(· exact (by (simp only [dp]);have:=z.size;omega));(· exact x));replace z:=z.aj x;rw [ao h'])
 simp only [aa,seval,Iz]
 refine wR ?_ (λS2 zX lu=>?_)
 .rw [sA]
  show a.says.size+6+_<=_
  omega
 have F0:S2=⟨(cF a).toArray⟩:=zBX (by rw [zX,w7,zW,w7,hS,zy1];rfl)
 repeat' (first|simp only [aa,seval,Iz]|((with_reducible refine ⟨z.bZ.lay _ _,?_⟩);(intro _ h' zz x _);(simp only [bG,bu] at x);(replace z:=zz);(clear zz);rw [ao h']))
 rw [F0]
 exact hk _ z.au
theorem zrR (a b:ak) (ha:a.aV=true) (hb:b.aV=true) (h:Heap) (K:aG)
 (hk:∀ h',Ext h h'->K (.int .i64 (aT a b)) h'):Ok prog aA ov 53 [a.val,b.val] h K:=by
 rw [ao h]
 have z:=Ext.refl h
 refine Ok.aq 17 (bm N53) ?_
 repeat' (simp only [aa,seval,Dm,fA])
 refine (cZ (by simp only [Dm])) z.au ?_
 simp only [aa,seval,Dm,↓dW,dO,da]
 refine ztr a ha _ _ (λh' x=>?_)
 have q1:=Holds.top (i:=1) x rfl
 (((with_reducible refine di ?_ ?_ ?_);(· exact (by (simp only [dp]);have:=z.size;omega));(· exact x));replace z:=z.aj x;rw [ao h'])
 repeat' (simp only [aa,seval,Dm,q1.lay,↓dW,dO,da])
 refine ztr b hb _ _ (λh' x=>?_)
 (((with_reducible refine di ?_ ?_ ?_);(· exact (by (simp only [dp]);have:=z.size;omega));(· exact x));replace z:=z.aj x;rw [ao h'])
 repeat' (first|simp only [aa,seval,Dm]|((with_reducible refine ⟨z.bZ.lay _ _,?_⟩);(intro _ h' zz x _);(simp only [bG,bu] at x);(replace z:=zz);(clear zz);rw [ao h']))
 have hc:aT a b=Lib.compareBytes (cF a) (cF b):=rfl
 rw [hc] at hk
 rcases zzx (cF a) (cF b) with ⟨h1,h2⟩|⟨h1,h3,h2⟩|⟨h1,h3,h2⟩
 .rw [h2] at hk
  repeat' (simp only [aa,seval,Dm,zmt,h1])
  exact hk _ z.au
 .rw [h2] at hk
  have h4:(cF a == cF b)=false:=by
   cases e:cF a == cF b
   .rfl
   .have e2:cF a=cF b:=by simpa using e
    rw [e2,RA] at h2
    cases h2
  repeat' (simp only [aa,seval,Dm,zmt,zsV,h1,h4])
  exact hk _ z.au
 .rw [h2] at hk
  have h4:(cF a == cF b)=true:=by
   rw [Jt h2]
   simp
  repeat' (simp only [aa,seval,Dm,zmt,zsV,h1,h4,Bool.or_true])
  exact hk _ z.au
end Go.Proofs.YtkgojconmeeegaaGreatDoor

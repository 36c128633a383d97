/- The code of some functions, node by node, for simp. Written by a program (mkcode.py). No condition. -/
import Derived.Test.YtmamldleclamjaaGreatDoorG24
set_option linter.unusedSimpArgs false
set_option linter.unusedVariables false
set_option maxRecDepth 100000
set_option maxHeartbeats 0
noncomputable section
namespace Go.Proofs.YtmamldleclamjaaGreatDoor
open Go.Am Tryz
def JV:=bB f103
def NZ:=PLift.up (by have c:=bD JV f103;simp only [aL,f103,seval] at c;exact nd c <| nd @DK <| nd @nj <| @zDZ)
theorem UG:type_of% NZ.down:=NZ.down
def KC:=bB f151
def O0:=PLift.up (by have c:=bD KC f151;simp only [aL,f151,seval] at c;exact nd c <| nd @Hr <| nd @Hs <| nd @B6 <| nd @tj <| nd @b8 <| nd @gH <| @zEH)
theorem kg:type_of% O0.down:=O0.down
def Km:=bB f131
def OG:=PLift.up (by have c:=bD Km f131;simp only [aL,f131,seval] at c;exact nd c <| nd @vV <| nd @b8 <| nd @gH <| @zEp)
theorem uO:type_of% OG.down:=OG.down
def JS:=bB f100
def NW:=PLift.up (by have c:=bD JS f100;simp only [aL,f100,seval] at c;exact nd c <| nd @b8 <| @zDW)
theorem qI:type_of% NW.down:=NW.down
def N66:=bB f66
def x66:=PLift.up (by have c:=bD N66 f66;simp only [aL,f66,seval] at c;exact nd c <| nd @iM <| nd @b8 <| nd @gl <| @V1)
theorem zp:type_of% x66.down:=x66.down
end Go.Proofs.YtmamldleclamjaaGreatDoor
namespace Go.Am
open Go.Lib
theorem zmV (n m:List UInt8) (ns:List (List UInt8)):join (n::m::ns) dv=n++(dv++join (m::ns) dv):=by
 simp [join,List.intercalate]
theorem zwF (n:List UInt8):join [n] dv=n:=by simp [join,List.intercalate]
theorem zoZ:∀ (l:List (List UInt8)) (x:List UInt8),l≠[]->join (l++[x]) dv=join l dv++dv++x
 | [],x,h=>absurd rfl h
 | [a],x,_=>by
  rw [w8,pk,zmV,zwF,zwF,ka]
 |a::b::l,x,_=>by
  rw [w8,w8,zmV,zmV,<- w8,zoZ (b::l) x (by simp)]
  simp only [ka]
def vX (ns:List (List UInt8)):List UInt8:=if ns=[] then [] else 40::join ns dv
theorem zxJ (x:List UInt8):vX [x]=[40]++x:=by unfold vX;rw [aA (by simp),zwF];rfl
theorem zuO {l:List (List UInt8)} (x:List UInt8) (h:l≠[]):vX (l++[x])=vX l++dv++x:=by
 unfold vX
 rw [aA (by simp),aA h,zoZ l x h]
 rfl
theorem zx6 (a:aj):cM a=a.says.data.toList++JP++(a.pred.data.toList++vX (jK a)++(if a.bQ=0 then [] else [41])):=by
 have h1:(jK a=[])↔a.args=[]:=by unfold jK;rw [List.map_eq_nil_iff]
 have h2:a.args=[]↔a.bQ=0:=by rw [<- Ai,wO]
 unfold cM vX
 by_cases h:a.bQ=0
 .rw [aB (h2.2 h),aB (h1.2 (h2.2 h)),aB h]
  simp only [ka,bG]
 .have h3:¬ a.args=[]:=λe=>h (h2.1 e)
  rw [aA h3,aA (λe=>h3 (h1.1 e)),aA h]
  simp only [ka,w8,pk]
theorem zzb {a:aj} {i:Nat} (h:i < a.bQ):(jK a).take (i+1)=(jK a).take i++[(a.arg i).s.data.toList]:=by
 have hc:a.bQ<=4:=DQ _ _
 have e:a.args[i]? = some (a.arg i):=by
  unfold aj.args
  rw [mc,aB h]
  have:i=0\/i=1\/i=2\/i=3:=by omega
  rcases this with rfl|rfl|rfl|rfl <;> rfl
 rw [nS]
 congr 1
 unfold jK
 rw [lS,e]
 rfl
theorem zo8 (a:aj):(jK a).length=a.bQ:=by unfold jK;rw [nA,wO]
theorem zm0:∀ a b:List UInt8,Op.bytesLess a b=decide (compareBytes a b < 0)
 | [],[]=>by simp [Op.bytesLess,compareBytes]
 | [],_::_=>by simp [Op.bytesLess,compareBytes]
 |_::_,[]=>by simp [Op.bytesLess,compareBytes]
 |a::xs,b::ys=>by
  rw [compareBytes]
  unfold Op.bytesLess
  rw [zm0 xs ys]
  by_cases h1:a < b
  .simp [h1]
  .by_cases h2:b < a
   .have h3:a≠b:=λe=>by subst e;exact Z7 a h2
    simp [h1,h2,h3]
   .have h3:=zs5 h1 h2
    simp [h1,h2,h3]
theorem zyE (a b:List UInt8):(Op.bytesLess a b=true/\compareBytes a b = -1)\/(Op.bytesLess a b=false/\Op.bytesLess b a=true/\compareBytes a b=1)\/(Op.bytesLess a b=false/\Op.bytesLess b a=false/\compareBytes a b=0):=by
 have h1:=zm0 a b
 have h2:=zm0 b a
 have h3:=zmK a b
 rcases zoo a b with h|h|h
 .exact .inl ⟨by rw [h1,h];rfl,h⟩
 .refine .inr (.inr ⟨by rw [h1,h];rfl,?_,h⟩)
  rw [h2,decide_eq_false_iff_not]
  omega
 .refine .inr (.inl ⟨by rw [h1,h];rfl,?_,h⟩)
  rw [h2,decide_eq_true_iff]
  omega
end Go.Am
namespace Go.Proofs.YtmamldleclamjaaGreatDoor
open Go.Am Tryz
theorem zmD {P:Program} {T:bO} {t:TypeId} {a b:au}:cm P T .lss t (.string a) (.string b)=some (.bool (Op.bytesLess a.data.toList b.data.toList)):=by
 refine Jd rfl ?_ rfl
 unfold Op.stringOp
 simp only [GS]
 rfl
theorem zr3 {P:Program} {T:bO} {t:TypeId} {a b:au}:cm P T .gtr t (.string a) (.string b)=some (.bool (!(Op.bytesLess a.data.toList b.data.toList || a.data.toList == b.data.toList))):=by
 refine Jd rfl ?_ rfl
 unfold Op.stringOp
 simp only [GS]
 rfl
theorem zBd (a:aj):a.cells[2]? = some (.int .i64 a.n):=rfl
theorem Te (a:aj) (h:Heap) (K:aI) (hk:∀ h',Ext h h'->K (.int .i64 (a.bQ:Nat)) h'):Ok prog aG ov 103 [a.val] h K:=by
 rw [ao h]
 have z:=Ext.refl h
 have e:((a.bQ:Nat):Int)=if 4 < (if a.n < 0 then 0 else a.n) then 4 else if a.n < 0 then 0 else a.n:=by
  unfold aj.bQ
  split <;> split <;> (skip) <;> omega
 rw [e] at hk
 refine Ok.aw 6 (bu JV) ?_
 repeat' (first|simp only [aa,seval,UG,gI,zBd]|((with_reducible apply zwR);(· rfl);(· rfl))|((with_reducible apply zwO);(· rfl);(· rfl)))
 exact hk _ z.aC
theorem zyG (a:aj) (k:Nat) (hk:k < 4):a.cells[3+k*2+1]? = some (.string (a.arg k).s):=by
 have:k=0\/k=1\/k=2\/k=3:=by omega
 rcases this with rfl|rfl|rfl|rfl <;> rfl
theorem zB6 (a:aj) (ha:a.aY=true) (h:Heap) (K:aI)
 (hk:∀ h' (S:au),Ext h h'->S.data.toList=a.pred.data.toList++vX (jK a)++(if a.bQ=0 then [] else [41])->S.size<=2000->K (.string S) h'):Ok prog aG ov 151 [a.val] h K:=by
 rw [ao h]
 have z:=Ext.refl h
 obtain ⟨jV,gG⟩:=zhu ha
 have hc4:a.bQ<=4:=DQ _ _
 refine Ok.aw 31 (bu KC) ?_
 simp only [aa,seval,kg,gI,zvU]
 refine lZ (λh' x hq=>?_)
 have q0:=hq 0 _ rfl
 clear hq
 (replace z:=z.an x;rw [ao h'])
 obtain ⟨I1,aX⟩:∃ I:Nat->Env->Heap->Prop,I=(λn e h'=>∃ (i:Nat) (S:au) (h1:Heap),h'=h1.lay [] h1.low/\Ext h h1/\(n=a.bQ - i/\i<=a.bQ/\S.data.toList=a.pred.data.toList++vX ((jK a).take i)/\S.size<=300+i*310/\Holds h1 (h.size+0) (.row a.cells 47 false))/\∃ J:Nat->ah,e=(J 0::.pointer (some ⟨h.size+0,0,none⟩)::J 2::.string S::.int .i64 i::jr J 5 27 ([]))):=⟨_,rfl⟩
 refine du I1 _ (by rw [aX];exact ⟨0,a.pred,_,rfl,z,⟨rfl,by omega,by simp [vX],by omega,q0⟩,bm⟩) ?_
 intro n e h' aP
 rw [aX] at aP
 obtain ⟨i,S,bx,rfl,z,hinv,J,rfl⟩:=aP
 clear q0
 obtain ⟨rfl,hi,hS,hSz,q0⟩:=hinv
 have gk:=ei i (by omega)
 repeat' (simp only [aa,seval,kg,q0.lay,↓eP,ef,dy])
 refine Te a _ _ (λh' x=>?_)
 (replace z:=z.an x;replace q0:=q0.over x;rw [ao h'])
 simp only [aa,seval,kg]
 refine bq (λaW=>?_) (λaW=>?_)
 .have sW:(0:Int)<=(i:Int)/\(i:Int) < 4:=by omega
  have eY:=zyG a i (by omega)
  have yh:=zzb (a:=a) (i:=i) (by omega)
  have Ih:=PO ha i
  simp only [aa,seval,kg]
  refine qh (λh0=>?_) (λh0=>?_)
  .have h0:i=0:=by omega
   simp only [aa,seval,kg]
   refine wI ?_ (λS1 zx qu=>?_)
   .show S.size+1<=_
    omega
   repeat' (simp only [aa,seval,kg,q0.lay,sW,eY])
   refine wI ?_ (λS2 zy mN=>?_)
   .rw [qu]
    show S.size+1+_<=_
    omega
   have zO:S2.size<=300+(i+1)*310:=by
    rw [mN,qu]
    show S.size+1+_<=_
    omega
   have zA:S2.data.toList=a.pred.data.toList++vX ((jK a).take (i+1)):=by
    rw [zy,wU,zx,wU,hS,yh,h0,Cg,pk,zxJ]
    simp [vX]
   repeat' (simp only [aa,seval,kg])
   rw [gk]
   (rw [aX];with_reducible refine cy (m:=_) ?_ ⟨i+1,S2,_,rfl,z,⟨rfl,by omega,zA,zO,q0⟩,bm⟩;omega)
  .have h0:i≠0:=by omega
   simp only [aa,seval,kg]
   refine wI ?_ (λS1 zx qu=>?_)
   .show S.size+2<=_
    omega
   repeat' (simp only [aa,seval,kg,q0.lay,sW,eY])
   refine wI ?_ (λS2 zy mN=>?_)
   .rw [qu]
    show S.size+2+_<=_
    omega
   have zO:S2.size<=300+(i+1)*310:=by
    rw [mN,qu]
    show S.size+2+_<=_
    omega
   have zA:S2.data.toList=a.pred.data.toList++vX ((jK a).take (i+1)):=by
    have aS:(jK a).take i≠[]:=λe=>by
     have:=congrArg List.length e
     rw [fw,zo8,dK] at this
     omega
    rw [zy,wU,zx,wU,hS,yh,zuO _ aS]
    simp only [ka]
    rfl
   repeat' (simp only [aa,seval,kg])
   rw [gk]
   (rw [aX];with_reducible refine cy (m:=_) ?_ ⟨i+1,S2,_,rfl,z,⟨rfl,by omega,zA,zO,q0⟩,bm⟩;omega)
 have aP:i=a.bQ:=by omega
 rw [gA (by rw [zo8];omega)] at hS
 repeat' (simp only [aa,seval,kg,q0.lay,↓eP,ef,dy])
 refine Te a _ _ (λh' x=>?_)
 (replace z:=z.an x;replace q0:=q0.over x;rw [ao h'])
 simp only [aa,seval,kg]
 refine bq (λk6=>?_) (λk6=>?_)
 .repeat' ( simp only [aa,seval,kg])
  refine wI ?_ (λS1 zx qu=>?_)
  .show S.size+1<=_
   omega
  repeat' (simp only [aa,seval,kg])
  refine hk _ S1 z.aC ?_ (by rw [qu];show S.size+1<=_;omega)
  rw [zx,wU,hS,aA (by omega)]
 .repeat' ( simp only [aa,seval,kg])
  refine hk _ S z.aC ?_ (by omega)
  rw [hS,aB (by omega),bG]
theorem zsI (a:aj) (ha:a.aY=true) (h:Heap) (K:aI)
 (hk:∀ h',Ext h h'->K (.string ⟨(cM a).toArray⟩) h'):Ok prog aG ov 131 [a.val] h K:=by
 rw [ao h]
 have z:=Ext.refl h
 obtain ⟨jV,gG⟩:=zhu ha
 refine Ok.aw 8 (bu Km) ?_
 repeat' (simp only [aa,seval,uO,gI])
 refine (dL (by simp only [uO])) z.aC ?_
 simp only [aa,seval,uO,zvT]
 refine wI ?_ (λS1 zx qu=>?_)
 .show a.says.size+6<=_
  omega
 simp only [aa,seval,uO,↓eP,ef,dy]
 refine zB6 a ha _ _ (λh' S x hS hSz=>?_)
 (((with_reducible refine cW ?_ ?_ ?_);(· exact (by (simp only [cV]);have:=z.size;omega));(· exact x));replace z:=z.an x;rw [ao h'])
 simp only [aa,seval,uO]
 refine wI ?_ (λS2 zy mN=>?_)
 .rw [qu]
  show a.says.size+6+_<=_
  omega
 have zA:S2=⟨(cM a).toArray⟩:=ZH (by rw [zy,wU,zx,wU,hS,zx6];rfl)
 repeat' (first|simp only [aa,seval,uO]|((with_reducible refine ⟨z.cK.lay _ _,?_⟩);(intro _ h' zz x _);(simp only [b9,bG] at x);(replace z:=zz);(clear zz);rw [ao h']))
 rw [zA]
 exact hk _ z.aC
theorem zw2 (a b:aj) (ha:a.aY=true) (hb:b.aY=true) (h:Heap) (K:aI)
 (hk:∀ h',Ext h h'->K (.int .i64 (aU a b)) h'):Ok prog aG ov 100 [a.val,b.val] h K:=by
 rw [ao h]
 have z:=Ext.refl h
 refine Ok.aw 17 (bu JS) ?_
 repeat' (simp only [aa,seval,qI,gI])
 refine (dL (by simp only [qI])) z.aC ?_
 simp only [aa,seval,qI,↓eP,ef,dy]
 refine zsI a ha _ _ (λh' x=>?_)
 have q1:=Holds.top (i:=1) x rfl
 (((with_reducible refine cW ?_ ?_ ?_);(· exact (by (simp only [cV]);have:=z.size;omega));(· exact x));replace z:=z.an x;rw [ao h'])
 repeat' (simp only [aa,seval,qI,q1.lay,↓eP,ef,dy])
 refine zsI b hb _ _ (λh' x=>?_)
 (((with_reducible refine cW ?_ ?_ ?_);(· exact (by (simp only [cV]);have:=z.size;omega));(· exact x));replace z:=z.an x;rw [ao h'])
 repeat' (first|simp only [aa,seval,qI]|((with_reducible refine ⟨z.cK.lay _ _,?_⟩);(intro _ h' zz x _);(simp only [b9,bG] at x);(replace z:=zz);(clear zz);rw [ao h']))
 have hc:aU a b=Lib.compareBytes (cM a) (cM b):=rfl
 rw [hc] at hk
 rcases zyE (cM a) (cM b) with ⟨h1,h2⟩|⟨h1,h3,h2⟩|⟨h1,h3,h2⟩
 .rw [h2] at hk
  repeat' (simp only [aa,seval,qI,zmD,h1])
  exact hk _ z.aC
 .rw [h2] at hk
  have h4:(cM a == cM b)=false:=by
   cases e:cM a == cM b
   .rfl
   .have e2:cM a=cM b:=by simpa using e
    rw [e2,P9] at h2
    cases h2
  repeat' (simp only [aa,seval,qI,zmD,zr3,h1,h4])
  exact hk _ z.aC
 .rw [h2] at hk
  have h4:(cM a == cM b)=true:=by
   rw [I0 h2]
   simp
  repeat' (simp only [aa,seval,qI,zmD,zr3,h1,h4,Bool.or_true])
  exact hk _ z.aC
end Go.Proofs.YtmamldleclamjaaGreatDoor

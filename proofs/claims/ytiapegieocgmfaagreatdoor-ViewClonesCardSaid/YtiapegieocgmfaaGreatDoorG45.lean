/- The code of some functions, node by node, for simp. Written by a program (mkcode.py). No condition. -/
import Derived.Test.YtiapegieocgmfaaGreatDoorG44
set_option linter.unusedSimpArgs false
set_option linter.unusedVariables false
set_option maxRecDepth 100000
set_option maxHeartbeats 0
noncomputable section
namespace Go.Proofs.YtiapegieocgmfaaGreatDoor
open Go.Am Tryz
def N23:=bA f23
def x23:=PLift.up (by have c:=bB N23 f23;simp only [aN,f23,seval] at c;exact nd c <| nd @zDk <| nd @TP <| nd @HJ <| nd @kF <| nd @Ue <| nd @mH <| nd @dZ <| nd @gA <| nd @kG <| @Vw)
theorem tR:type_of% x23.down:=x23.down
def N24:=bA f24
def x24:=PLift.up (by have c:=bB N24 f24;simp only [aN,f24,seval] at c;exact nd c <| nd @zvZ <| nd @TP <| nd @zv0 <| nd @zv1 <| nd @Rb <| nd @ZQ <| nd @Ue <| nd @dZ <| nd @mZ <| nd @mI <| nd @cq <| nd @za <| nd @je <| @Vx)
theorem lF:type_of% x24.down:=x24.down
def N25:=bA f25
def x25:=PLift.up (by have c:=bB N25 f25;simp only [aN,f25,seval] at c;exact nd c <| nd @zvZ <| nd @TP <| nd @zv0 <| nd @zv1 <| nd @ZQ <| nd @Ue <| nd @dZ <| nd @mI <| nd @cq <| nd @za <| @Vy)
theorem mT:type_of% x25.down:=x25.down
def N48:=bA f48
def x48:=PLift.up (by have c:=bB N48 f48;simp only [aN,f48,seval] at c;exact nd c <| nd @TP <| nd @zAZ <| nd @ZQ <| nd @Ue <| nd @gA <| nd @zEO <| @VT)
theorem Im:type_of% x48.down:=x48.down
def N47:=bA f47
def x47:=PLift.up (by have c:=bB N47 f47;simp only [aN,f47,seval] at c;exact nd c <| nd @zB <| nd @dZ <| nd @cq <| nd @gA <| @VS)
theorem C1:type_of% x47.down:=x47.down
def N6:=bA f6
def x6:=PLift.up (by have c:=bB N6 f6;simp only [aN,f6,seval] at c;exact nd c <| nd @zC <| nd @zD <| nd @GU <| nd @cq <| nd @gA <| nd @GZ <| nd @Ca <| @fi6)
theorem c6:type_of% x6.down:=x6.down
def N7:=bA f7
def x7:=PLift.up (by have c:=bB N7 f7;simp only [aN,f7,seval] at c;exact nd c <| nd @JP <| nd @zC <| nd @zD <| nd @GU <| nd @dZ <| nd @mZ <| nd @cq <| nd @gA <| nd @GZ <| @fi7)
theorem c7:type_of% x7.down:=x7.down
structure ni where
 who:au
 v:ab
 n:Nat
def ni.cells (x:ni):List ab:=[.string x.who,x.v,.int .u64 x.n]
theorem QM (x:ni):x.cells.length=3:=rfl
def Cx (p0 p1 p2 p5 p6:ab) (q b:Int) (nv:ab):List ab:=[p0,p1,p2,.int .i64 q,.int .i64 b,p5,p6,nv]
def lP (N:Nat) (h:Heap) (S2 NB:Nat) (d:aq) (k:Nat):Prop :=
 ∃ p0 p1 p2 p5 p6 q b nv rows,Holds h S2 (.row (Cx p0 p1 p2 p5 p6 q b nv) 108 false)/\dR (aG [NB] h) p0 p1 p2 p5 p6 d/\cC 3 ni.cells h 110 NB nv rows/\rows.map ni.who=d.ah /\
   (∀ x∈rows,x.n<=k/\∃ l:aS,Sl aM.atom (aG [NB] h) x.v l/\l.length<=k/\∀ y∈l,y.aW=true)/\S2≠NB/\N<=S2/\N<=NB/\NB < h.size
theorem cC.vK {Z:Type} {k:Nat} {cell:Z->List ab} {h h1:Heap} {u:TypeId} {A:Nat} {v:ab} {l:List Z} (f:cC k cell h u A v l) (i:bL h h1):cC k cell h1 u A v l:=by
 rcases f with f|⟨q,row,e1,e2,e3⟩
 .exact .inl f
 .exact .inr ⟨q,row,e1,e2.mono i,e3⟩
theorem zlw {a b:Heap} {A:Nat} (i:bL a b):bL (aG [A] a) (aG [A] b):=Qr i
theorem lP.inc {N S2 NB k:Nat} {h h2:Heap} {d:aq} (f:lP N h S2 NB d k) (i:bL h h2):lP N h2 S2 NB d k:=by
 obtain ⟨p0,p1,p2,p5,p6,q,b,nv,rows,e1,e2,e3,e4,e5,e6,e7,e8,e9⟩:=f
 exact ⟨p0,p1,p2,p5,p6,q,b,nv,rows,e1.mono i,e2.mono (zlw i),cC.vK e3 i,e4,λx hx=>⟨(e5 x hx).1,(e5 x hx).2.imp λ_ hl=>⟨hl.1.mono (zlw i),hl.2⟩⟩,e6,e7,e8,dB e9 i.size⟩
theorem JI (p0 p1 p2 p5 p6 nv:ab) (q b:Int):(Cx p0 p1 p2 p5 p6 q b nv)[7]? = some nv:=rfl
theorem zCm (p0 p1 p2 p5 p6 nv:ab) (q b:Int):(Cx p0 p1 p2 p5 p6 q b nv)[3]? = some (.int .i64 q):=rfl
theorem LQ (p0 p1 p2 p5 p6 nv:ab) (q b:Int):cut (Cx p0 p1 p2 p5 p6 q b nv) 0 7=some (du p0 p1 p2 p5 p6 q b):=rfl
theorem Q9:aD.desc 106=some (.slice 110):=by kernel_rfl
theorem zxC:dg aD 110=some 3:=by kernel_rfl
theorem zAa (rows:List ni) (who:au) (p0 p1 p2 p5 p6 nv:ab) (q b:Int) (S2 NB:Nat) (h:Heap) (q0:Holds h S2 (.row (Cx p0 p1 p2 p5 p6 q b nv) 108 false)) (f:cC 3 ni.cells h 110 NB nv rows) (K:aF)
 (o9:∀ (i:Nat) x,rows[i]? = some x->x.who=who->∀ h',Ext h h'->K (.int .i64 i) h') (iV:(∀ x∈rows,¬ x.who=who)->∀ h',Ext h h'->K (.int .i64 (-1)) h'):Ok prog aD ov 48 [.pointer (some ⟨S2,0,none⟩),.string who] h K:=by
 have z:=Ext.refl h
 have hZ:∀ (h:Heap) (K:aF),aC (some nv) h K=K nv h:=λ_ _=>rfl
 have df:=λ(hh:Heap)=>f.bo Q9 hh
 have hle:=f.nM
 rw [ao h]
 refine Ok.aw 24 (bq N48) ?_
 simp only [aa,seval,Im]
 obtain ⟨I1,aU⟩:∃ I:Nat->Env->Heap->Prop,I=(λn e h'=>∃ (i:Nat) (h1:Heap),h'=h1.lay [] h1.low/\Ext h h1/\(n=rows.length - i/\i<=rows.length/\(∀ x∈rows.take i,¬ x.who=who))/\∃ J:Nat->ab,e=(.pointer (some ⟨S2,0,none⟩)::.string who::jr J 2 3 (.int .i64 i::jr J 6 20 ([])))):=⟨_,rfl⟩
 refine dA I1 _ (by rw [aU];exact ⟨0,_,rfl,z,⟨rfl,by omega,by simp⟩,bl⟩) ?_
 intro n e h' aO
 rw [aU] at aO
 obtain ⟨i,bC,rfl,z,hinv,J,rfl⟩:=aO
 obtain ⟨rfl,hi,aH⟩:=hinv
 have fH:=ei i (by omega)
 have q1:=q0.mono z.inc
 have f1:=cC.vK f z.inc
 simp only [aa,seval,Im,cd,q1.lay,JI,hZ,df]
 refine bn (λaT=>?_) (λka=>?_)
 .obtain ⟨r,hr⟩:∃ r,rows[i]? = some r:=⟨_,gF (by omega)⟩
  have ij:=f1.ix (kd:=.i64) (i:=i) Q9 zxC (by omega)
  have c0:=f1.gH (j:=0) hr (by omega) rfl
  simp only [aa,seval,Im,cd,q1.lay,JI,hZ,ij,c0,dm]
  refine bn (λhe=>?_) (λaQ=>?_)
  .simp only [aa,seval,Im]
   exact o9 i r hr he _ z.aA
  .simp only [aa,seval,Im]
   rw [fH]
   (rw [aU];with_reducible refine cy (m:=_) ?_ ⟨i+1,_,rfl,z,⟨rfl,by omega,qH (i:=i) (P:=λx:ni=>¬ x.who=who) hr aH aQ⟩,bl⟩;omega)
 .rw [gE (by omega)] at aH
  simp only [aa,seval,Im]
  exact iV aH _ z.aA
theorem ztt (a:ak) (i:Nat) (hi:i < 4):a.cells[3+i*2+0]? = some (.bool (a.arg i).v):=by
 have:i=0\/i=1\/i=2\/i=3:=by omega
 rcases this with rfl|rfl|rfl|rfl <;> rfl
theorem zuf (a:ak) (h:Heap) (K:aF) (hk:∀ h',Ext h h'->K (.bool a.ground) h'):Ok prog aD ov 83 [a.val] h K:=by
 rw [ao h]
 have z:=Ext.refl h
 have Ab:a.cO<=4:=by unfold ak.cO;omega
 refine Ok.aw 14 (bq N83) ?_
 repeat' (simp only [aa,seval,Iq,eE])
 refine na (λh' x hq=>?_)
 have q0:=hq 0 _ rfl
 clear hq
 (replace z:=z.an x;rw [ao h'])
 obtain ⟨A0,el⟩:∃ A0,A0=h.size+0:=⟨_,rfl⟩
 rw [<- el] at q0
 rw [<- el]
 obtain ⟨I1,aU⟩:∃ I:Nat->Env->Heap->Prop,I=(λn e h'=>∃ (i:Nat) (h1:Heap),h'=h1.lay [] h1.low/\Ext h h1/\(n=a.cO - i/\i<=a.cO/\(∀ j,j < i->(a.arg j).v=false)/\Holds h1 A0 (.row a.cells 47 false))/\∃ J:Nat->ab,e=(J 0::.pointer (some ⟨A0,0,none⟩)::J 2::.int .i64 i::jr J 4 11 ([]))):=⟨_,rfl⟩
 refine dA I1 _ (by rw [aU];exact ⟨0,_,rfl,z,⟨rfl,by omega,λj hj=>by omega,q0⟩,bl⟩) ?_
 intro n e h' aO
 rw [aU] at aO
 obtain ⟨i,bC,rfl,z,hinv,J,rfl⟩:=aO
 clear q0
 obtain ⟨rfl,hi,aH,q0⟩:=hinv
 have hw:=ei i (by omega)
 simp only [aa,seval,Iq,q0.lay,↓eY,eJ,dX]
 refine TK a _ _ (λh' x=>?_)
 (replace z:=z.an x;replace q0:=q0.over x;rw [ao h'])
 simp only [aa,seval,Iq]
 refine bn (λaT=>?_) (λaT=>?_)
 rotate_left
 .have hg:a.ground=true:=kx.2 (λj hj=>aH j (by omega))
  rw [hg] at hk
  repeat' (simp only [aa,seval,Iq])
  exact hk _ z.aA
 have IE:(0:Int)<=(i:Int)/\(i:Int) < 4:=by omega
 have ID:=ztt a i (by omega)
 obtain ⟨vb,r7⟩:∃ vb,(a.arg i).v=vb:=⟨_,rfl⟩
 rw [r7] at ID
 cases vb
 .repeat' ( simp only [aa,seval,Iq,q0.lay,IE,and_self,if_true,ID])
  rw [hw]
  have yJ:∀ j,j < i+1->(a.arg j).v=false:=by
   intro j hj
   by_cases kQ:j < i
   .exact aH j kQ
   .have:j=i:=by omega
    subst this
    exact r7
  (rw [aU];with_reducible refine cy (m:=_) ?_ ⟨i+1,_,rfl,z,⟨rfl,by omega,yJ,q0⟩,bl⟩;omega)
 .have hg:a.ground=false:=by
   cases hgg:a.ground
   .rfl
   .rw [kx.1 hgg i (by omega)] at r7
    cases r7
  rw [hg] at hk
  repeat' (simp only [aa,seval,Iq,q0.lay,IE,and_self,if_true,ID])
  exact hk _ z.aA
theorem zsy (d:aq) (s:au) (a:ak) (p0 p1 p2 p5 p6:ab) (q b:Int) (h:Heap) (bf:(du p0 p1 p2 p5 p6 q b).all Am.one=true) (hd:dR h p0 p1 p2 p5 p6 d) (K:aF) (hk:∀ e h',Ext h h'->(e=0->s∈d.ah)->K (.int .i64 e) h'):Ok prog aD ov 47 [fI p0 p1 p2 p5 p6 q b,.string s,a.val] h K:=by
 rw [ao h]
 have z:=Ext.refl h
 refine Ok.aw 25 (bq N47) ?_
 simp only [aa,seval,C1,gZ,eE,↓fA,eV,eI,dm]
 refine HF d.ah s _ _ _ _ _ _ _ _ (hd.s0.lay _ _) _ (λh' x=>?_)
 have q0:=Holds.top (i:=0) x rfl
 have e0:=Holds.top (i:=1) x rfl
 (replace z:=z.an x;rw [ao h'])
 cases hh:iM d.ah s
 .repeat' (first|simp only [aa,seval,C1,kW]|((with_reducible apply bX);(· rfl)))
  exact hk _ _ z.aA (λe=>absurd e (by decide))
 have hm:=nz.1 hh
 repeat' (first|simp only [aa,seval,C1,fQ,q0.lay,e0.lay,↓fA,eV,eI,eE,↓eY,eJ,dX]|((with_reducible apply bX);(· rfl)))
 refine zmY d a _ _ _ _ _ _ _ _ bf ((hd.mono z.inc).lay _ _) _ (λ_ h' x=>?_) (λc h' hc x=>?_)
 rotate_left
 ·(replace z:=z.an x;( replace q0:=q0.over x );( replace e0:=e0.over x );rw [ao h'])
  simp only [aa,seval,C1,bO]
  refine gg (λ_=>?_) (λh0=>absurd h0 hc)
  simp only [aa,seval,C1,bO]
  exact hk _ _ z.aA (λ_=>hm)
 (replace z:=z.an x;replace q0:=q0.over x;replace e0:=e0.over x;rw [ao h'])
 simp only [aa,seval,C1,bO,e0.lay,eE,↓eY,eJ,dX]
 refine zuf a _ _ (λh' x=>?_)
 (replace z:=z.an x;replace q0:=q0.over x;replace e0:=e0.over x;rw [ao h'])
 cases a.ground
 .repeat' (first|simp only [aa,seval,C1,kW]|((with_reducible apply bX);(· rfl)))
  exact hk _ _ z.aA (λ_=>hm)
 repeat' (first|simp only [aa,seval,C1,fQ,e0.lay,Jx,dm]|((with_reducible apply bn) <;> intro _)|((with_reducible apply bX);(· rfl)))
 all_goals exact hk _ _ z.aA (λ_=>hm)
end Go.Proofs.YtiapegieocgmfaaGreatDoor

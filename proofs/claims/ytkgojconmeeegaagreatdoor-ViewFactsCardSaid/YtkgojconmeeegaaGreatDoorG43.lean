/- The code of some functions, node by node, for simp. Written by a program (mkcode.py). No condition. -/
import Derived.Test.YtkgojconmeeegaaGreatDoorG42
set_option linter.unusedSimpArgs false
set_option linter.unusedVariables false
set_option maxRecDepth 100000
set_option maxHeartbeats 0
noncomputable section
namespace Go.Proofs.YtkgojconmeeegaaGreatDoor
open Go.Am Tryz
def N31:=bp f31
def x31:=PLift.up (by have c:=bq N31 f31;simp only [aI,f31,seval] at c;exact nd c <| nd @zER <| nd @UQ <| nd @HX <| nd @kx <| nd @Vh <| nd @mG <| nd @el <| nd @eC <| nd @ky <| @WA)
theorem uq:type_of% x31.down:=x31.down
def N32:=bp f32
def x32:=PLift.up (by have c:=bq N32 f32;simp only [aI,f32,seval] at c;exact nd c <| nd @zw8 <| nd @UQ <| nd @zw9 <| nd @zxa <| nd @Sg <| nd @zCC <| nd @Vh <| nd @el <| nd @lx <| nd @bP <| nd @lR <| nd @Cm <| nd @fS <| @WB)
theorem ln:type_of% x32.down:=x32.down
def N33:=bp f33
def x33:=PLift.up (by have c:=bq N33 f33;simp only [aI,f33,seval] at c;exact nd c <| nd @zw8 <| nd @UQ <| nd @zw9 <| nd @zxa <| nd @zCC <| nd @Vh <| nd @el <| nd @bP <| nd @lR <| nd @Cm <| @WC)
theorem mQ:type_of% x33.down:=x33.down
def N60:=bp f60
def x60:=PLift.up (by have c:=bq N60 f60;simp only [aI,f60,seval] at c;exact nd c <| nd @UQ <| nd @zCt <| nd @zCC <| nd @Vh <| nd @eC <| nd @zG5 <| @W1)
theorem Iv:type_of% x60.down:=x60.down
def N59:=bp f59
def x59:=PLift.up (by have c:=bq N59 f59;simp only [aI,f59,seval] at c;exact nd c <| nd @sR <| nd @el <| nd @bP <| nd @eC <| @W0)
theorem Dn:type_of% x59.down:=x59.down
def N7:=bp f7
def x7:=PLift.up (by have c:=bq N7 f7;simp only [aI,f7,seval] at c;exact nd c <| nd @EI <| nd @EJ <| nd @Ox <| nd @bP <| nd @eC <| nd @OD <| nd @Al <| @fi7)
theorem c7:type_of% x7.down:=x7.down
def N8:=bp f8
def x8:=PLift.up (by have c:=bq N8 f8;simp only [aI,f8,seval] at c;exact nd c <| nd @zxc <| nd @EI <| nd @EJ <| nd @Ox <| nd @el <| nd @lx <| nd @bP <| nd @eC <| nd @OD <| @fi8)
theorem c8:type_of% x8.down:=x8.down
structure m9 where
 who:aB
 v:ae
 n:Nat
def m9.cells (x:m9):List ae:=[.string x.who,x.v,.int .u64 x.n]
theorem RN (x:m9):x.cells.length=3:=rfl
def CW (p0 p1 p2 p5 p6:ae) (q b:Int) (nv:ae):List ae:=[p0,p1,p2,.int .i64 q,.int .i64 b,p5,p6,nv]
def lF (N:Nat) (h:Heap) (S2 NB:Nat) (d:aw) (k:Nat):Prop :=
 ∃ p0 p1 p2 p5 p6 q b nv rows,Holds h S2 (.row (CW p0 p1 p2 p5 p6 q b nv) 122 false)/\ej (aM [NB] h) p0 p1 p2 p5 p6 d/\cJ 3 m9.cells h 124 NB nv rows/\rows.map m9.who=d.ah /\
   (∀ x∈rows,x.n<=k/\∃ l:aW,Sl aJ.atom (aM [NB] h) x.v l/\l.length<=k/\∀ y∈l,y.aV=true)/\S2≠NB/\N<=S2/\N<=NB/\NB < h.size
theorem cJ.Ch {Z:Type} {k:Nat} {cell:Z->List ae} {h h1:Heap} {u:TypeId} {A:Nat} {v:ae} {l:List Z} (f:cJ k cell h u A v l) (i:b8 h h1):cJ k cell h1 u A v l:=by
 rcases f with f|⟨q,row,e1,e2,e3⟩
 .exact .inl f
 .exact .inr ⟨q,row,e1,e2.mono i,e3⟩
theorem zlD {a b:Heap} {A:Nat} (i:b8 a b):b8 (aM [A] a) (aM [A] b):=zzN i
theorem lF.inc {N S2 NB k:Nat} {h h2:Heap} {d:aw} (f:lF N h S2 NB d k) (i:b8 h h2):lF N h2 S2 NB d k:=by
 obtain ⟨p0,p1,p2,p5,p6,q,b,nv,rows,e1,e2,e3,e4,e5,e6,e7,e8,e9⟩:=f
 exact ⟨p0,p1,p2,p5,p6,q,b,nv,rows,e1.mono i,e2.mono (zlD i),cJ.Ch e3 i,e4,λx hx=>⟨(e5 x hx).1,(e5 x hx).2.imp λ_ hl=>⟨hl.1.mono (zlD i),hl.2⟩⟩,e6,e7,e8,eW e9 i.size⟩
theorem Sc (p0 p1 p2 p5 p6 nv:ae) (q b:Int):(CW p0 p1 p2 p5 p6 q b nv)[7]? = some nv:=rfl
theorem zDQ (p0 p1 p2 p5 p6 nv:ae) (q b:Int):(CW p0 p1 p2 p5 p6 q b nv)[3]? = some (.int .i64 q):=rfl
theorem MA (p0 p1 p2 p5 p6 nv:ae) (q b:Int):cut (CW p0 p1 p2 p5 p6 q b nv) 0 7=some (dw p0 p1 p2 p5 p6 q b):=rfl
theorem Se:aA.desc 120=some (.slice 124):=by kernel_rfl
theorem zyR:cN aA 124=some 3:=by kernel_rfl
theorem zBz (rows:List m9) (who:aB) (p0 p1 p2 p5 p6 nv:ae) (q b:Int) (S2 NB:Nat) (h:Heap) (q0:Holds h S2 (.row (CW p0 p1 p2 p5 p6 q b nv) 122 false)) (f:cJ 3 m9.cells h 124 NB nv rows) (K:aG)
 (oZ:∀ (i:Nat) x,rows[i]? = some x->x.who=who->∀ h',Ext h h'->K (.int .i64 i) h') (iJ:(∀ x∈rows,¬ x.who=who)->∀ h',Ext h h'->K (.int .i64 (-1)) h'):Ok prog aA ov 60 [.pointer (some ⟨S2,0,none⟩),.string who] h K:=by
 have z:=Ext.refl h
 have jy:∀ (h:Heap) (K:aG),aD (some nv) h K=K nv h:=λ_ _=>rfl
 have cO:=λ(hh:Heap)=>f.bt Se hh
 have hle:=f.nF
 rw [ao h]
 refine Ok.aq 24 (bm N60) ?_
 simp only [aa,seval,Iv]
 obtain ⟨I1,aO⟩:∃ I:Nat->Env->Heap->Prop,I=(λn e h'=>∃ (i:Nat) (h1:Heap),h'=h1.lay [] h1.low/\Ext h h1/\(n=rows.length - i/\i<=rows.length/\(∀ x∈rows.take i,¬ x.who=who))/\∃ J:Nat->ae,e=(.pointer (some ⟨S2,0,none⟩)::.string who::jr J 2 3 (.int .i64 i::jr J 6 20 ([])))):=⟨_,rfl⟩
 refine cK I1 _ (by rw [aO];exact ⟨0,_,rfl,z,⟨rfl,by omega,by simp⟩,bc⟩) ?_
 intro n e h' aK
 rw [aO] at aK
 obtain ⟨i,bD,rfl,z,hinv,J,rfl⟩:=aK
 obtain ⟨rfl,hi,aC⟩:=hinv
 have fb:=dE i (by omega)
 have q1:=q0.mono z.inc
 have f1:=cJ.Ch f z.inc
 simp only [aa,seval,Iv,q1.lay,Sc,jy,cO]
 refine bg (λaP=>?_) (λlq=>?_)
 .obtain ⟨r,hr⟩:∃ r,rows[i]? = some r:=⟨_,gI (by omega)⟩
  have iD:=f1.ix (kd:=.i64) (i:=i) Se zyR (by omega)
  have c0:=f1.gE (j:=0) hr (by omega) rfl
  simp only [aa,seval,Iv,q1.lay,Sc,jy,iD,c0]
  refine bg (λhe=>?_) (λba=>?_)
  .simp only [aa,seval,Iv]
   exact oZ i r hr he _ z.au
  .simp only [aa,seval,Iv]
   rw [fb]
   (rw [aO];with_reducible refine bS (m:=_) ?_ ⟨i+1,_,rfl,z,⟨rfl,by omega,mL (i:=i) (P:=λx:m9=>¬ x.who=who) hr aC ba⟩,bc⟩;omega)
 .rw [fX (by omega)] at aC
  simp only [aa,seval,Iv]
  exact iJ aC _ z.au
theorem zui (a:ak) (i:Nat) (hi:i < 4):a.cells[3+i*2+0]? = some (.bool (a.arg i).v):=by
 have:i=0\/i=1\/i=2\/i=3:=by omega
 rcases this with rfl|rfl|rfl|rfl <;> rfl
theorem zvd (a:ak) (h:Heap) (K:aG) (hk:∀ h',Ext h h'->K (.bool a.ground) h'):Ok prog aA ov 86 [a.val] h K:=by
 rw [ao h]
 have z:=Ext.refl h
 have yg:a.cU<=4:=by unfold ak.cU;omega
 refine Ok.aq 14 (bm Vp) ?_
 repeat' (simp only [aa,seval,wB,fA])
 refine lg (λh' x hq=>?_)
 have q0:=hq 0 _ rfl
 clear hq
 (replace z:=z.aj x;rw [ao h'])
 obtain ⟨A0,dK⟩:∃ A0,A0=h.size+0:=⟨_,rfl⟩
 rw [<- dK] at q0
 rw [<- dK]
 obtain ⟨I1,aO⟩:∃ I:Nat->Env->Heap->Prop,I=(λn e h'=>∃ (i:Nat) (h1:Heap),h'=h1.lay [] h1.low/\Ext h h1/\(n=a.cU - i/\i<=a.cU/\(∀ j,j < i->(a.arg j).v=false)/\Holds h1 A0 (.row a.cells 34 false))/\∃ J:Nat->ae,e=(J 0::.pointer (some ⟨A0,0,none⟩)::J 2::.int .i64 i::jr J 4 11 ([]))):=⟨_,rfl⟩
 refine cK I1 _ (by rw [aO];exact ⟨0,_,rfl,z,⟨rfl,by omega,λj hj=>by omega,q0⟩,bc⟩) ?_
 intro n e h' aK
 rw [aO] at aK
 obtain ⟨i,bD,rfl,z,hinv,J,rfl⟩:=aK
 clear q0
 obtain ⟨rfl,hi,aC,q0⟩:=hinv
 have hw:=dE i (by omega)
 simp only [aa,seval,wB,q0.lay,↓dW,dO,da]
 refine HF a _ _ (λh' x=>?_)
 (replace z:=z.aj x;replace q0:=q0.over x;rw [ao h'])
 simp only [aa,seval,wB]
 refine bg (λaP=>?_) (λaP=>?_)
 rotate_left
 .have hg:a.ground=true:=iC.2 (λj hj=>aC j (by omega))
  rw [hg] at hk
  repeat' (simp only [aa,seval,wB])
  exact hk _ z.au
 have DK:(0:Int)<=(i:Int)/\(i:Int) < 4:=by omega
 have zZ:=zui a i (by omega)
 obtain ⟨vb,pX⟩:∃ vb,(a.arg i).v=vb:=⟨_,rfl⟩
 rw [pX] at zZ
 cases vb
 .repeat' ( simp only [aa,seval,wB,q0.lay,DK,zZ])
  rw [hw]
  have oF:∀ j,j < i+1->(a.arg j).v=false:=by
   intro j hj
   by_cases j6:j < i
   .exact aC j j6
   .have:j=i:=by omega
    subst this
    exact pX
  (rw [aO];with_reducible refine bS (m:=_) ?_ ⟨i+1,_,rfl,z,⟨rfl,by omega,oF,q0⟩,bc⟩;omega)
 .have hg:a.ground=false:=by
   cases YD:a.ground
   .rfl
   .rw [iC.1 YD i (by omega)] at pX
    cases pX
  rw [hg] at hk
  repeat' (simp only [aa,seval,wB,q0.lay,DK,zZ])
  exact hk _ z.au
theorem ztl (d:aw) (s:aB) (a:ak) (p0 p1 p2 p5 p6:ae) (q b:Int) (h:Heap) (bn:(dw p0 p1 p2 p5 p6 q b).all Am.one=true) (hd:ej h p0 p1 p2 p5 p6 d) (K:aG) (hk:∀ e h',Ext h h'->(e=0->s∈d.ah)->K (.int .i64 e) h'):Ok prog aA ov 59 [gC p0 p1 p2 p5 p6 q b,.string s,a.val] h K:=by
 rw [ao h]
 have z:=Ext.refl h
 refine Ok.aq 25 (bm N59) ?_
 simp only [aa,seval,Dn,jG,fA,↓fN,fw,eU]
 refine CM d.ah s _ _ _ _ _ _ _ _ (hd.s0.lay _ _) _ (λh' x=>?_)
 have q0:=Holds.top (i:=0) x rfl
 have e0:=Holds.top (i:=1) x rfl
 (replace z:=z.aj x;rw [ao h'])
 cases hh:fR d.ah s
 .repeat' (first|simp only [aa,seval,Dn]|((with_reducible_and_instances apply bI);(· rfl)))
  exact hk _ _ z.au (λe=>absurd e (by decide))
 have hm:=jo.1 hh
 repeat' (first|simp only [aa,seval,Dn,q0.lay,e0.lay,↓fN,fw,eU,↓dW,dO,da]|((with_reducible_and_instances apply bI);(· rfl)))
 refine zm3 d a _ _ _ _ _ _ _ _ bn ((hd.mono z.inc).lay _ _) _ (λ_ h' x=>?_) (λc h' hc x=>?_)
 rotate_left
 ·(replace z:=z.aj x;( replace q0:=q0.over x );( replace e0:=e0.over x );rw [ao h'])
  simp only [aa,seval,Dn]
  refine im (λ_=>?_) (λh0=>absurd h0 hc)
  simp only [aa,seval,Dn]
  exact hk _ _ z.au (λ_=>hm)
 (replace z:=z.aj x;replace q0:=q0.over x;replace e0:=e0.over x;rw [ao h'])
 simp only [aa,seval,Dn,e0.lay,↓dW,dO,da]
 refine zvd a _ _ (λh' x=>?_)
 (replace z:=z.aj x;replace q0:=q0.over x;replace e0:=e0.over x;rw [ao h'])
 cases a.ground
 .repeat' (first|simp only [aa,seval,Dn]|((with_reducible_and_instances apply bI);(· rfl)))
  exact hk _ _ z.au (λ_=>hm)
 repeat' (first|simp only [aa,seval,Dn,e0.lay,zq9]|((with_reducible apply bg) <;> intro _)|((with_reducible_and_instances apply bI);(· rfl)))
 all_goals exact hk _ _ z.au (λ_=>hm)
end Go.Proofs.YtkgojconmeeegaaGreatDoor

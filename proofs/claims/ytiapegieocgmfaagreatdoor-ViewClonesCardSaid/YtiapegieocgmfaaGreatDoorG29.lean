/- Walks: atoms that may be, their variables, by the program. Written out by fill2.py. No condition. -/
import Derived.Test.YtiapegieocgmfaaGreatDoorG28
import Derived.Test.YtiapegieocgmfaaGreatDoorG24
set_option linter.unusedSimpArgs false
set_option linter.unusedVariables false
set_option maxRecDepth 100000
set_option maxHeartbeats 0
noncomputable section
namespace Go.Proofs.YtiapegieocgmfaaGreatDoor
open Go.Am Tryz
theorem zAc (A o:Nat) (k:Int) (h0:0<=k) (h4:k<=4):kV aD 45 (.pointer (some ⟨A,o,none⟩)) (some (.int .i64 k)) none none=some (.slice (some ⟨A,if 4=k.toNat then o else o+k.toNat*2,none⟩) (4 - k.toNat) (4 - k.toNat)):=by
 have hG:4 < G:=by decide
 simp only [kV,Fp,rF,xm,aE hG,dM]
 rw [aE ⟨h0,by omega⟩]
 simp [kL]
theorem P6 (a:ak) (k:Nat):(a.all.drop k).length=4 - k:=by rw [kP];rfl
theorem zzT (a:ak) {k i:Nat} (h:k+i < 4):(a.all.drop k)[i]? = some (a.arg (k+i)):=by
 rw [lL]
 have:k+i=0\/k+i=1\/k+i=2\/k+i=3:=by omega
 rcases this with e|e|e|e <;> rw [e] <;> rfl
theorem zBA {H:Heap} {A:Nat} {a:ak} {u:TypeId} {ro:Bool} (q:Holds H A (.row a.cells u ro)) (k:Nat) (hk:k<=4):Sl aM.term H (.slice (some ⟨A,if 4=k then 3 else 3+k*2,none⟩) (4 - k) (4 - k)) (a.all.drop k):=by
 refine .inr ⟨A,_,4 - k,a.cells,u,ro,by rw [P6],by rw [P6];unfold maxLen;omega,.inl ⟨by unfold G;omega,by rw [P6];exact bj _⟩,q.lt,q.get,λi x hx=>?_⟩
 have hi:i < 4 - k:=by have:=(dP.1 hx).1;rw [P6] at this;exact this
 rw [zzT a (by omega)] at hx
 cases hx
 have hc:=zAO a (k+i) (by omega)
 rw [az (by omega)]
 refine ⟨_,?_,rfl⟩
 show cut a.cells (3+k*2+i*2) 2=_
 rw [<- hc]
 congr 1
 omega
theorem zvF (a:ak):a.cells[0]? = some (.string a.says):=rfl
theorem zzW (a:ak):a.cells[1]? = some (.string a.pred):=rfl
theorem zvG (a:ak):a.cells[2]? = some (.int .i64 a.n):=rfl
theorem zwQ (a:ak) (bv:Bool) (h:Heap) (K:aF) (hk:∀ w l h',Ext h h'->Sl aM.str h' w l->l.length<=4->(∀ x,x∈l↔∃ i:Nat,i < a.cO/\(a.arg i).v=bv/\(a.arg i).s=x)->K w h'):Ok prog aD ov 87 [a.val,.bool bv] h K:=by
 rw [ao h]
 have z:=Ext.refl h
 have Ab:=zmx a
 refine Ok.aw 31 (bq Ux) ?_
 repeat' (simp only [aa,seval,qy,eE,↓eY,eJ,dX])
 refine QN a _ _ (λw h' x sw=>?_)
 (replace z:=z.an x;rw [ao h'])
 have ta:=λ(hh:Heap)=>sw.bo zF hh
 have Xg:=w9 a
 have rn:=z.size
 simp only [aa,seval,qy,ta]
 obtain ⟨Hb,rfl⟩:∃ Hb,Hb=h':=⟨_,rfl⟩
 obtain ⟨I1,aU⟩:∃ I:Nat->Env->Heap->Prop,I=(λn e h'=>∃ (i:Nat) (wv:ab) (A:Nat) (l:List au) (h1:Heap),h'=h1.lay [] h1.low/\Ext h h1/\(n=a.cO - i/\i<=a.cO/\l.length<=i/\(∀ x,x∈l↔∃ j:Nat,j < i/\(a.arg j).v=bv/\(a.arg j).s=x)/\Ow aM.str h h1 9 A wv l/\bL Hb h1/\Hb.size<=A)/\∃ J:Nat->ab,e=(J 0::.bool bv::jr J 2 3 (wv::jr J 6 3 (w::.int .i64 a.args.length::.int .i64 i::jr J 12 21 ([]))))):=⟨_,rfl⟩
 refine dA I1 _ (by rw [aU];exact ⟨0,.slice none 0 0,Hb.size,[],_,rfl,z,⟨rfl,by omega,by simp,by simp,Ow.nil (by omega),bL.refl _,bj _⟩,bl⟩) ?_
 intro n e h' aO
 rw [aU] at aO
 obtain ⟨i,wv,A,l,bC,rfl,z,hinv,J,rfl⟩:=aO
 obtain ⟨rfl,hi,Dq,b8,ow,ib,Aa⟩:=hinv
 have fH:=ei i (by omega)
 simp only [aa,seval,qy]
 refine bn (λaT=>?_) (λaT=>?_)
 rotate_left
 .have he:i=a.cO:=by omega
  rw [he] at b8
  repeat' (simp only [aa,seval,qy])
  exact hk _ _ _ z.aA ((ow.sl (by decide)).lay _ _) (by omega) b8
 have q8:=Go.Am.args_at (a:=a) (i:=i) (by omega)
 rcases wP:a.arg i with ⟨rv,rs⟩
 rw [wP] at q8
 have hr:a.args[(i:Int).toNat]? = some ⟨rv,rs⟩:=by rw [Q0];exact q8
 have wQ:∀ x,(∃ j:Nat,j < i+1/\(a.arg j).v=bv/\(a.arg j).s=x)↔(∃ j:Nat,j < i/\(a.arg j).v=bv/\(a.arg j).s=x)\/(rv=bv/\rs=x):=by
  intro x
  constructor
  .rintro ⟨j,hj,e⟩
   by_cases MW:j=i
   .subst MW
    rw [wP] at e
    exact .inr e
   .exact .inl ⟨j,by omega,e⟩
  .rintro (⟨j,hj,e⟩|e)
   .exact ⟨j,by omega,e⟩
   .exact ⟨i,by omega,by rw [wP];exact e⟩
 repeat' (first|simp only [aa,seval,qy,sg,nU,oX,Am.one,sC,oV,vO,aZ.val,aZ.cells]|with_reducible refine Q6 (sw.mono ib) zF kL (by omega) hr (λp hp=>?_)|with_reducible refine IV hp sJ kL ?_)
 have ri:(¬ rv=bv\/rs∈l)->∀ x,x∈l↔∃ j:Nat,j < i+1/\(a.arg j).v=bv/\(a.arg j).s=x:=by
  intro hs x
  rw [wQ,<- b8]
  refine ⟨.inl,λe=>e.elim id (λe=>?_)⟩
  rcases hs with hs|hs
  .exact absurd e.1 hs
  .rw [<- e.2];exact hs
 have yW:rv=bv->∀ x,x∈l++[rs]↔∃ j:Nat,j < i+1/\(a.arg j).v=bv/\(a.arg j).s=x:=by
  intro hs x
  rw [wQ,<- b8,mj,hU]
  exact ⟨λe=>e.imp id (λe=>⟨hs,e.symm⟩),λe=>e.imp id (λe=>e.2.symm)⟩
 have b1:(true == false)=false:=rfl
 have b2:(false == true)=false:=rfl
 have b3:(true == true)=true:=rfl
 have b4:(false == false)=true:=rfl
 have uq:=z.size
 cases rv
 all_goals
  cases bv
  all_goals
   repeat' (simp only [aa,seval,qy,zr7,b1,b2])
 all_goals first
  |(rw [fH]
    have BO:=ri (.inl (by decide))
    refine Tf z.aA (λH z hO hI=>?_)
    (rw [aU];with_reducible refine cy (m:=_) ?_ ⟨i+1,wv,A,l,_,rfl,z,⟨rfl,by omega,by omega,BO,ow.mono hI,ib.trans hI,Aa⟩,bl⟩;omega))
  |skip
 all_goals
  refine I9 l wv rs _ ((ow.sl (by decide)).lay _ _) (by omega) _ (λh' x=>?_)
  have q0:=Holds.top (i:=0) x rfl
  (replace z:=z.an x;replace ow:=ow.over x;replace ib:=ib.over x;rw [ao h'])
  cases aO:l.any λx=>decide (rs=x)
  rotate_left
  .have BO:=ri (.inr (by obtain ⟨y,hy,e⟩:=xy.1 aO;rw [of_decide_eq_true e];exact hy))
   repeat' (first|simp only [aa,seval,qy]|((with_reducible apply bX);(· rfl)))
   rw [fH]
   (rw [aU];with_reducible refine cy (m:=_) ?_ ⟨i+1,wv,A,l,_,rfl,z,⟨rfl,by omega,by omega,BO,ow,ib,Aa⟩,bl⟩;omega)
  have mX:=yW rfl
  repeat' (first|simp only [aa,seval,qy,q0.lay]|((with_reducible apply bX);(· rfl)))
  simp only [lx,seval,mr,Up]
 all_goals
  refine zzU (i:=0) (cs:=[.string rs]) (x:=rs) dr D9 rfl (by decide) (by rfl) z.size ow rfl (by omega) (by omega) (λw3 h3 A3 Zn qV wG=>?_)
  have Bz:=ow.fresh
  have YU:=bL.iL (ib.trans (bL.lay _ _ _)) qV Aa
  have MD:=ib.size
  replace z:=z.aA.step qV (by omega)
  rw [ao h3]
  repeat' (simp only [aa,seval,qy])
  rw [fH]
  clear ow q0
  (rw [aU];with_reducible refine cy (m:=_) ?_ ⟨i+1,w3,A3,l++[rs],_,rfl,z,⟨rfl,by omega,by rw [dy,zK];omega,mX,Zn,YU,by omega⟩,bl⟩;omega)
theorem zsG (a:ak) (h:Heap) (K:aF) (hk:∀ w l h',Ext h h'->Sl aM.str h' w l->l.length<=4->(∀ x,x∈l↔CN a x)->K w h'):Ok prog aD ov 159 [a.val] h K:=by
 rw [ao h]
 have z:=Ext.refl h
 refine Ok.aw 4 (bq KJ) ?_
 repeat' (simp only [aa,seval,Lz,eE,↓eY,eJ,dX])
 refine zwQ a true _ _ (λw l h' x s hl hm=>?_)
 (replace z:=z.an x;rw [ao h'])
 repeat' (simp only [aa,seval,Lz])
 exact hk _ _ _ z.aA (s.lay _ _) hl (λx=>(hm x).trans vQ.symm)
def N20:=bA f20
def PH:=PLift.up (by have c:=bB N20 f20;simp only [aN,f20,seval] at c;exact nd c <| nd @HK <| nd @zB <| nd @HL <| nd @CA <| nd @th <| nd @gA <| nd @Ca <| @Vt)
theorem c20:type_of% PH.down:=PH.down
def N21:=bA f21
def PI:=PLift.up (by have c:=bB N21 f21;simp only [aN,f21,seval] at c;exact nd c <| nd @j4 <| nd @cq <| nd @je <| @Vu)
theorem RD:type_of% PI.down:=PI.down
def N13:=bA f13
def ON:=PLift.up (by have c:=bB N13 f13;simp only [aN,f13,seval] at c;exact nd c <| @Vn)
theorem Ih:type_of% ON.down:=ON.down
theorem Tx (a:ak) (h:Heap) (K:aF) (h1:a.aW=true->∀ h',Ext h h'->K (.bool true) h') (h2:a.aW=false->∀ h',Ext h h'->K (.bool false) h'):Ok prog aD ov 20 [a.val] h K:=by
 rw [ao h]
 have z:=Ext.refl h
 unfold ak.val ak.cells
 refine Ok.aw 29 (bq N20) ?_
 simp only [aa,seval,c20]
 repeat' ((first|((with_reducible apply bn) <;> intro _)|with_reducible refine Qv ?_) <;> simp only [aa,seval,c20])
 all_goals first
  |with_reducible exact h2 (by simp [ak.aW];omega) _ z.aA
  |with_reducible exact h1 (by simp [ak.aW];omega) _ z.aA
theorem zo9 (l:aS) (v:ab) (m:Int) (h:Heap) (hl:Sl aM.atom h v l) (K:aF) (h1:(l.length:Int)<=m->(∀ a∈l,a.aW=true)->∀ h',Ext h h'->K (.bool true) h') (h2:∀ h',Ext h h'->K (.bool false) h'):Ok prog aD ov 21 [v,.int .i64 m] h K:=by
 rw [ao h]
 have z:=Ext.refl h
 have hle:=hl.le
 refine Ok.aw 20 (bq N21) ?_
 simp only [aa,seval,RD]
 repeat' ((first|((with_reducible apply bn) <;> intro _)|with_reducible refine HE hl bJ ?_) <;> simp only [aa,seval,RD])
 .exact h2 _ z.aA
 refine zB6 (λe h'=>∃ (i:Nat) (h1:Heap) (x1 x2 x3 x4 x6 x7 x8 x9 On Ox OB ON OX O4 x16 Pm ZO Pz PH PI:ab),h'=h1.lay [] h1.low/\Ext h h1/\i<=l.length/\(∀ a∈l.take i,a.aW=true)/\e=[v,x1,x2,x3,x4,.int .i64 i,x6,x7,x8,x9,On,Ox,OB,ON,OX,O4,x16,Pm,ZO,Pz,PH,PI]) (λe _=>match e.get 5 with | .int _ i=>l.length - i.toNat|_=>0) ?_ ?_
 .exact ⟨0,h,_,_,_,_,_,_,_,_,_,_,_,_,_,_,_,_,_,_,_,_,rfl,z,by omega,by simp,rfl⟩
 rintro e h' ⟨i,bC,x1,x2,x3,x4,x6,x7,x8,x9,On,Ox,OB,ON,OX,O4,x16,Pm,ZO,Pz,PH,PI,rfl,z,hi,aH,rfl⟩
 have hw:i < l.length->IntKind.i64.wrap ((i:Int)+1)=((i+1:Nat):Int):=λhh=>by unfold maxLen at hle;rw [wrap_i64 (by omega) (by omega)];omega
 simp only [aa,seval,RD]
 repeat' ((first|((with_reducible apply bn) <;> intro _)|with_reducible refine HE hl bJ ?_|with_reducible refine Y1 (hl.mono z.inc) bJ bH (by omega) (by omega) (λa p ha hp=>?_)|with_reducible refine ma hp eP bH ?_|((with_reducible refine Tx _ _ _ (λAg h' x=>?_) (λAg h' x=>?_)) <;> (replace z:=z.an x;rw [ao h']))|((with_reducible apply bX);(· rfl))) <;> simp only [aa,seval,RD])
 all_goals first
  |with_reducible exact h2 _ z.aA
  |with_reducible exact h1 (by omega) (by rw [gE (by omega)] at aH;exact aH) _ z.aA
  |(rw [hw (by omega)]
    with_reducible refine zoW ?_ ?_
    .exact ⟨i+1,h',_,_,_,_,_,_,_,_,_,_,_,_,_,_,_,_,_,_,_,_,rfl,z,by omega,qH ha aH Ag,rfl⟩
    .show l.length - ((i+1:Nat):Int).toNat < l.length - (i:Int).toNat
     omega)
def N19:=bA f19
def Pz:=PLift.up (by have c:=bB N19 f19;simp only [aN,f19,seval] at c;exact nd c <| nd @kF <| nd @gA <| nd @kG <| nd @Ca <| @Vs)
theorem RC:type_of% Pz.down:=Pz.down
def N5:=bA f5
def x5:=PLift.up (by have c:=bB N5 f5;simp only [aN,f5,seval] at c;exact nd c <| nd @HJ <| nd @JN <| nd @T6 <| nd @T7 <| nd @T8 <| nd @HM <| nd @CB <| nd @JQ <| nd @HN <| nd @HO <| nd @T9 <| nd @Q2 <| nd @Ua <| nd @y8 <| nd @y9 <| nd @GR <| nd @GS <| nd @mH <| nd @vN <| nd @B3 <| nd @B4 <| nd @B5 <| nd @mI <| nd @cq <| nd @gA <| nd @zc <| nd @B7 <| nd @B8 <| nd @B9 <| nd @Ca <| @fi5)
theorem c5:type_of% x5.down:=x5.down
def N81:=bA f81
def x81:=PLift.up (by have c:=bB N81 f81;simp only [aN,f81,seval] at c;exact nd c <| nd @HJ <| nd @kF <| nd @mH <| nd @gA <| nd @kG <| @Wm)
theorem RI:type_of% x81.down:=x81.down
theorem zgU (l:List au) (v:ab) (n0 m:Int) (h:Heap) (hl:Sl aM.str h v l) (K:aF) (o9:(l.length:Int)<=n0->∀ h',Ext h h'->K (.bool true) h') (iV:∀ h',Ext h h'->K (.bool false) h'):Ok prog aD ov 19 [v,.int .i64 n0,.int .i64 m] h K:=by
 rw [ao h]
 have z:=Ext.refl h
 have hle:=hl.le
 have df:=λ(hh:Heap)=>hl.bo dr hh
 refine Ok.aw 26 (bq N19) ?_
 repeat' (first|simp only [aa,seval,RC,df]|((with_reducible apply bn) <;> intro _))
 .exact iV _ z.aA
 obtain ⟨I1,aU⟩:∃ I:Nat->Env->Heap->Prop,I=(λn e h'=>∃ (i:Nat) (s:Int) (h1:Heap),h'=h1.lay [] h1.low/\Ext h h1/\(n=l.length - i/\i<=l.length)/\∃ J:Nat->ab,e=(v::.int .i64 n0::.int .i64 m::jr J 3 4 (.int .i64 s::.int .i64 i::jr J 9 20 ([])))):=⟨_,rfl⟩
 refine dA I1 _ (by rw [aU];exact ⟨0,0,_,rfl,z,⟨rfl,by omega⟩,bl⟩) ?_
 intro n e h' aO
 rw [aU] at aO
 obtain ⟨i,s,bC,rfl,z,hinv,J,rfl⟩:=aO
 obtain ⟨rfl,hi⟩:=hinv
 have hw:i < l.length->IntKind.i64.wrap ((i:Int)+1)=((i+1:Nat):Int):=λhh=>by unfold maxLen at hle;rw [wrap_i64 (by omega) (by omega)];omega
 simp only [aa,seval,RC,df]
 refine bn (λaT=>?_) (λaT=>?_)
 rotate_left
 .repeat' ( simp only [aa,seval,RC])
  exact o9 (by omega) _ z.aA
 obtain ⟨r,hr,cw⟩:=eW (l:=l) (i:=i) (by omega)
 repeat' (first|simp only [aa,seval,RC]|((with_reducible apply bn) <;> intro _)|with_reducible refine rK (hl.mono z.inc) dr px (by omega) hr (λp hp=>?_)|with_reducible refine gj hp j9 ?_)
 .exact iV _ z.aA
 .rw [hw (by omega)]
  (rw [aU];with_reducible refine cy (m:=_) ?_ ⟨i+1,IntKind.i64.wrap (s+r.size),_,rfl,z,⟨rfl,by omega⟩,bl⟩;omega)
def iM (l:List au) (x:au):Bool:=l.any (λy=>decide (y=x))
theorem nz {l:List au} {x:au}:iM l x=true↔x∈l:=by
 unfold iM
 rw [xy]
 exact ⟨λ⟨y,h1,h2⟩=>of_decide_eq_true h2 ▸ h1,λh=>⟨x,h,uN rfl⟩⟩
theorem HF (l:List au) (who:au) (p0 p1 p2 p5 p6:ab) (q b:Int) (h:Heap) (hl:Sl aM.str h p0 l) (K:aF) (hk:∀ h',Ext h h'->K (.bool (iM l who)) h'):Ok prog aD ov 81 [fI p0 p1 p2 p5 p6 q b,.string who] h K:=by
 rw [ao h]
 have z:=Ext.refl h
 have hle:=hl.le
 have bR:∀ (h:Heap) (K:aF),aC (some p0) h K=K p0 h:=λ_ _=>rfl
 have df:=λ(hh:Heap)=>hl.bo dr hh
 refine Ok.aw 18 (bq N81) ?_
 repeat' (simp only [aa,seval,RI,gZ])
 refine na (λh' x hq=>?_)
 have q0:=hq 0 _ rfl
 clear hq
 (replace z:=z.an x;rw [ao h'])
 obtain ⟨A0,el⟩:∃ A0,A0=h.size+0:=⟨_,rfl⟩
 rw [<- el] at q0
 rw [<- el]
 obtain ⟨I1,aU⟩:∃ I:Nat->Env->Heap->Prop,I=(λn e h'=>∃ (i:Nat) (h1:Heap),h'=h1.lay [] h1.low/\Ext h h1/\(n=l.length - i/\i<=l.length/\(∀ x∈l.take i,decide (x=who)=false)/\Holds h1 A0 (.row (du p0 p1 p2 p5 p6 q b) 28 false))/\∃ J:Nat->ab,e=(J 0::.string who::.pointer (some ⟨A0,0,none⟩)::jr J 3 2 (.int .i64 i::jr J 6 14 ([])))):=⟨_,rfl⟩
 refine dA I1 _ (by rw [aU];exact ⟨0,_,rfl,z,⟨rfl,by omega,by simp,q0⟩,bl⟩) ?_
 intro n e h' aO
 rw [aU] at aO
 obtain ⟨i,bC,rfl,z,hinv,J,rfl⟩:=aO
 clear q0
 obtain ⟨rfl,hi,aH,q0⟩:=hinv
 have hw:i < l.length->IntKind.i64.wrap ((i:Int)+1)=((i+1:Nat):Int):=λhh=>by unfold maxLen at hle;rw [wrap_i64 (by omega) (by omega)];omega
 simp only [aa,seval,RI,q0.lay,eM,bR,df]
 refine bn (λaT=>?_) (λaT=>?_)
 rotate_left
 .rw [gE (by omega)] at aH
  have hf:iM l who=false:=by unfold iM;rw [H2];intro x hx;rw [aH x hx];decide
  rw [hf] at hk
  repeat' (simp only [aa,seval,RI])
  exact hk _ z.aA
 obtain ⟨r,hr,cw⟩:=eW (l:=l) (i:=i) (by omega)
 repeat' (first|simp only [aa,seval,RI,q0.lay,eM,bR]|((with_reducible apply bn) <;> intro _)|with_reducible refine rK (hl.mono z.inc) dr px (by omega) hr (λp hp=>?_)|with_reducible refine gj hp j9 ?_)
 .have he:r=who:=by assumption
  rw [show iM l who=true from nz.2 (he ▸ ic cw)] at hk
  exact hk _ z.aA
 .have aQ:¬ r=who:=by assumption
  rw [hw (by omega)]
  (rw [aU];with_reducible refine cy (m:=_) ?_ ⟨i+1,_,rfl,z,⟨rfl,by omega,qH (i:=i) (P:=λx:au=>decide (x=who)=false) cw aH (tM aQ),q0⟩,bl⟩;omega)
def N94:=bA f94
def x94:=PLift.up (by have c:=bB N94 f94;simp only [aN,f94,seval] at c;exact nd c <| nd @zEK <| nd @zEN <| nd @zEQ <| @Wz)
theorem C6:type_of% x94.down:=x94.down
def N95:=bA f95
def x95:=PLift.up (by have c:=bB N95 f95;simp only [aN,f95,seval] at c;exact nd c <| @WA)
theorem c95:type_of% x95.down:=x95.down
def Kw:=bA f139
def OW:=PLift.up (by have c:=bB Kw f139;simp only [aN,f139,seval] at c;exact nd c <| nd @GV <| nd @Y7 <| @zDQ)
theorem Lu:type_of% OW.down:=OW.down
def Uu:=bA f38
def x38:=PLift.up (by have c:=bB Uu f38;simp only [aN,f38,seval] at c;exact nd c <| nd @HJ <| nd @mH <| @VL)
theorem RE:type_of% x38.down:=x38.down
def Kx:=bA f140
def OY:=PLift.up (by have c:=bB Kx f140;simp only [aN,f140,seval] at c;exact nd c <| nd @EY <| nd @JN <| nd @HM <| nd @Rc <| nd @y8 <| nd @vN <| nd @mZ <| nd @GW <| nd @gA <| nd @zc <| @zDR)
theorem xJ:type_of% OY.down:=OY.down
def N97:=bA f97
def x97:=PLift.up (by have c:=bB N97 f97;simp only [aN,f97,seval] at c;exact nd c <| nd @Es <| nd @zB <| nd @HL <| nd @En <| nd @dZ <| nd @mZ <| nd @gA <| @WC)
theorem sQ:type_of% x97.down:=x97.down
def Ky:=bA f141
def OZ:=PLift.up (by have c:=bB Ky f141;simp only [aN,f141,seval] at c;exact nd c <| nd @cq <| @zDS)
theorem Lv:type_of% OZ.down:=OZ.down
def N58:=bA f58
def x58:=PLift.up (by have c:=bB N58 f58;simp only [aN,f58,seval] at c;exact nd c <| nd @Es <| nd @zB <| nd @dZ <| nd @cq <| nd @gA <| @V3)
theorem tT:type_of% x58.down:=x58.down
def N96:=bA f96
def x96:=PLift.up (by have c:=bB N96 f96;simp only [aN,f96,seval] at c;exact nd c <| nd @dZ <| nd @cq <| @WB)
theorem c96:type_of% x96.down:=x96.down
def N53:=bA f53
def x53:=PLift.up (by have c:=bB N53 f53;simp only [aN,f53,seval] at c;exact nd c <| nd @cq <| @VY)
theorem c53:type_of% x53.down:=x53.down
end Go.Proofs.YtiapegieocgmfaaGreatDoor

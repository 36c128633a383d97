/- The code of some functions, node by node, for simp. Written by a program (mkcode.py). No condition. -/
import Derived.Test.YtjildadoepadeaaGreatDoorG42
import Derived.Test.YtjildadoepadeaaGreatDoorG34
set_option linter.unusedSimpArgs false
set_option linter.unusedVariables false
set_option maxRecDepth 100000
set_option maxHeartbeats 0
noncomputable section
namespace Go.Proofs.YtjildadoepadeaaGreatDoor
open Go.Am Tryz
variable {v:ai} {h:Heap} {Z:Type} {e:Int} {i:Nat} {x:bb}
def Pg:=bq f55
def Q7:=PLift.up (by have c:=bw Pg f55;simp only [aJ,f55,seval] at c;exact nd c <| nd @Gp <| nd @kc <| nd @lp <| nd @eO <| nd @kg <| @Kk)
theorem tx:type_of% Q7.down:=Q7.down
def Br:=bq f103
def Ez:=PLift.up (by have c:=bw Br f103;simp only [aJ,f103,seval] at c;exact nd c <| nd @Gq <| nd @ze <| nd @Gt <| nd @rL <| nd @rM <| nd @jy <| nd @eO <| nd @rO <| @zxO)
theorem tk:type_of% Ez.down:=Ez.down
def Ph:=bq f56
def Q8:=PLift.up (by have c:=bw Ph f56;simp only [aJ,f56,seval] at c;exact nd c <| nd @wT <| nd @Gq <| nd @ze <| nd @Gt <| nd @rL <| nd @rM <| nd @jy <| nd @yz <| nd @eO <| nd @rO <| @Kl)
theorem sB:type_of% Q8.down:=Q8.down
def Bt:=bq f104
def EA:=PLift.up (by have c:=bw Bt f104;simp only [aJ,f104,seval] at c;exact nd c <| nd @wo <| nd @IK <| nd @kc <| nd @lp <| nd @dM <| nd @eO <| nd @kg <| @zxP)
theorem jZ:type_of% EA.down:=EA.down
def Pj:=bq f57
def Q9:=PLift.up (by have c:=bw Pj f57;simp only [aJ,f57,seval] at c;exact nd c <| nd @Ol <| nd @wo <| nd @yv <| nd @yy <| nd @dM <| nd @yA <| nd @eO <| nd @yB <| @Km)
theorem mM:type_of% Q9.down:=Q9.down
def Pm:=bq f60
def Rc:=PLift.up (by have c:=bw Pm f60;simp only [aJ,f60,seval] at c;exact nd c <| nd @sb <| nd @zd <| nd @s9 <| nd @dM <| nd @jy <| nd @cP <| nd @eO <| @Kq)
theorem uY:type_of% Rc.down:=Rc.down
def Pk:=bq f58
def Ra:=PLift.up (by have c:=bw Pk f58;simp only [aJ,f58,seval] at c;exact nd c <| nd @pj <| nd @dM <| nd @cP <| nd @nH <| @Ko)
theorem n9:type_of% Ra.down:=Ra.down
def Pl:=bq f59
def Rb:=PLift.up (by have c:=bw Pl f59;simp only [aJ,f59,seval] at c;exact nd c <| nd @s9 <| nd @ta <| nd @kc <| nd @mw <| nd @pj <| nd @jy <| nd @nF <| nd @cP <| nd @eO <| nd @kg <| nd @nH <| @Kp)
theorem nf:type_of% Rb.down:=Rb.down
def OY:=bq f23
def QP:=PLift.up (by have c:=bw OY f23;simp only [aJ,f23,seval] at c;exact nd c <| nd @Cv <| nd @Us <| nd @Ut <| nd @II <| nd @IJ <| nd @sb <| nd @zf <| nd @zg <| nd @IL <| nd @Gu <| nd @IM <| nd @yw <| nd @yx <| nd @ue <| nd @uh <| nd @dM <| nd @jy <| nd @cP <| nd @nG <| nd @Ed <| nd @eO <| nd @uj <| nd @uk <| @J2)
theorem gr:type_of% QP.down:=QP.down
theorem uJ (l:List aA) (s:aA):lZ l s=aM l s:=by
 cases h:aM l s
 .cases g:lZ l s
  .rfl
  .rw [cG.2 (jk.1 g)] at h;cases h
 .exact jk.2 (cG.1 h)
theorem zuF {a:ae} {i:Nat} (h1:gh a.says) (h2:gh a.pred) (h3:¬ (a.n < 0\/4 < a.n)) (hi:(i:Int) < a.n) (ht:¬ cC (a.arg i)):gn a=3 :=
 S2 h1 h2 h3 (oI.2 ⟨a.arg i,ig (Am.args_at (eT.2 ⟨by omega,hi⟩)),by unfold zq;simp [ht]⟩)
theorem zs5 {a:ae} (h1:gh a.says) (h2:gh a.pred) (h3:¬ (a.n < 0\/4 < a.n)) (aq:∀ j:Nat,(j:Int) < a.n->cC (a.arg j)):gn a=if (a.all.drop a.bR).any (λt => !decide (t=aZ)) then 15 else 0:=by
 refine S1 h1 h2 h3 (uN.2 λt ht=>?_)
 obtain ⟨j,hj,rfl⟩:=gN.1 ht
 unfold zq
 simp [aq j (eT.1 hj).2]
theorem Uk (a:ae) {k:Nat} (h:k < 4):a.all[k]? = some (a.arg k):=by
 have:k=0\/k=1\/k=2\/k=3:=by omega
 rcases this with rfl|rfl|rfl|rfl <;> rfl
theorem zut {a:ae} {k:Nat} (h1:a.bR<=k) (h2:k < 4) (h:¬ a.arg k=aZ):(a.all.drop a.bR).any (λt => !decide (t=aZ))=true :=
 oI.2 ⟨a.arg k,ig (i:=k - a.bR) (by rw [ja,show a.bR+(k - a.bR)=k by omega];exact Uk a h2),by simp [h]⟩
theorem zsS {a:ae} (h:∀ k,a.bR<=k->k < 4->a.arg k=aZ):(a.all.drop a.bR).any (λt => !decide (t=aZ))=false:=by
 refine uN.2 λt ht=>?_
 obtain ⟨i,hi⟩:=zn ht
 rw [ja] at hi
 have h4:a.bR+i < 4:=(fB.1 hi).1
 rw [Uk a h4] at hi
 cases hi
 simp [h _ (Nat.le_add_right _ _) h4]
theorem zsw (a:ae) (h:Heap) (K:aF) (hk:∀ h',Ext h h'->K (.int .i64 (gn a)) h'):Ok prog az ov 89 [a.val] h K:=by
 rw [ak h]
 have z:=Ext.refl h
 refine Ok.au 46 (br Jc) ?_
 repeat' (simp only [aa,seval,gE,e9,Iu])
 refine Ij _ _ _ (λhs h' x=>?_) (λhs h' x=>?_)
 rotate_left
 ·(replace z:=z.aj x;rw [ak h'])
  repeat' (first|simp only [aa,seval,gE]|((with_reducible apply bK);(· rfl)))
  rw [HT (.inl hs)] at hk
  exact hk _ z.ao
 have q0:=Holds.top (i:=0) x rfl
 (replace z:=z.aj x;rw [ak h'])
 repeat' (first|simp only [aa,seval,gE,q0.lay,N7]|((with_reducible apply bK);(· rfl)))
 refine NN _ _ _ (λhp h' x=>?_) (λhp h' x=>?_)
 rotate_left
 ·(replace z:=z.aj x;( replace q0:=q0.over x );rw [ak h'])
  repeat' (first|simp only [aa,seval,gE]|((with_reducible apply bK);(· rfl)))
  rw [HT (.inr hp)] at hk
  exact hk _ z.ao
 (replace z:=z.aj x;replace q0:=q0.over x;rw [ak h'])
 repeat' (first|simp only [aa,seval,gE,q0.lay,y5]|((with_reducible apply bp) <;> intro _)|((with_reducible apply bK);(· rfl)))
 all_goals try (rw [Tw hs hp (by omega)] at hk;exact hk _ z.ao)
 have h3:¬ (a.n < 0\/4 < a.n):=by omega
 have pU:0<=a.n:=by omega
 have pV:a.n<=4:=by omega
 obtain ⟨I1,aU⟩:∃ I:Nat->Env->Heap->Prop,I=(λn e h'=>∃ (i:Nat) (h1:Heap),h'=h1.lay [] h1.low/\Ext h h1/\(n=4 - i/\(i:Int)<=a.n/\(∀ j,j < i->cC (a.arg j))/\Holds h1 (h.size+0) (.row a.cells 41 false))/\∃ J:Nat->ai,e=(J 0::.pointer (some ⟨h.size+0,0,none⟩)::J 2::.int .i64 i::jr J 4 43 ([]))):=⟨_,rfl⟩
 refine dK I1 _ (by rw [aU];exact ⟨0,_,rfl,z,⟨rfl,by omega,λj hj=>by omega,q0⟩,bx⟩) ?_
 intro n e h' aR
 rw [aU] at aR
 obtain ⟨i,b8,rfl,z,hinv,J,rfl⟩:=aR
 clear q0
 obtain ⟨rfl,hi,aq,q0⟩:=hinv
 have j9:=ec i (by omega)
 simp only [aa,seval,gE,q0.lay,y5]
 refine bp (λaS=>?_) (λaS=>?_)
 .have lg:(0:Int)<=(i:Int)/\(i:Int) < 4:=by omega
  have kF:=AF a i (by omega)
  repeat' (simp only [aa,seval,gE,q0.lay,lg,↓kF,FW,Az])
  refine TO _ _ _ (λht h' x=>?_) (λht h' x=>?_)
  ·(replace z:=z.aj x;( replace q0:=q0.over x );rw [ak h'])
   have nB:∀ j,j < i+1->cC (a.arg j):=by
    intro j hj
    by_cases lh:j < i
    .exact aq j lh
    .have:j=i:=by omega
     subst this
     exact ht
   repeat' (first|simp only [aa,seval,gE]|((with_reducible apply bK);(· rfl)))
   rw [j9]
   (rw [aU];with_reducible refine db (m:=_) ?_ ⟨i+1,_,rfl,z,⟨rfl,by omega,nB,q0⟩,bx⟩;omega)
  ·(replace z:=z.aj x;( replace q0:=q0.over x );rw [ak h'])
   repeat' (first|simp only [aa,seval,gE]|((with_reducible apply bK);(· rfl)))
   rw [zuF hs hp h3 (i:=i) (by omega) ht] at hk
   exact hk _ z.ao
 have aR:a.n=(i:Int):=by omega
 have oS:a.bR=i:=by unfold ae.bR;omega
 rw [zs5 hs hp h3 (λj hj=>aq j (by omega))] at hk
 repeat' (simp only [aa,seval,gE,q0.lay,y5])
 rw [aR]
 obtain ⟨I2,fV⟩:∃ I:Nat->Env->Heap->Prop,I=(λn e h'=>∃ (k:Nat) (h1:Heap),h'=h1.lay [] h1.low/\Ext h h1/\(n=4 - k/\i<=k/\k<=4/\(∀ j,i<=j->j < k->a.arg j=aZ)/\Holds h1 (h.size+0) (.row a.cells 41 false))/\∃ J:Nat->ai,e=(J 0::.pointer (some ⟨h.size+0,0,none⟩)::jr J 2 2 (.int .i64 k::jr J 5 42 ([])))):=⟨_,rfl⟩
 refine dK I2 _ (by rw [fV];exact ⟨i,_,rfl,z,⟨rfl,by omega,by omega,λj h1 h2=>by omega,q0⟩,bx⟩) ?_
 intro n e h' aR
 rw [fV] at aR
 obtain ⟨k,fU,rfl,z,hinv,J,rfl⟩:=aR
 clear q0
 obtain ⟨rfl,q8,tM,cq,q0⟩:=hinv
 have pd:=ec k (by omega)
 simp only [aa,seval,gE]
 refine bp (λaS=>?_) (λaS=>?_)
 rotate_left
 .repeat' ( simp only [aa,seval,gE])
  rw [zsS (λj g1 g2=>cq j (by omega) (by omega))] at hk
  exact hk _ z.ao
 have lg:(0:Int)<=(k:Int)/\(k:Int) < 4:=by omega
 have kF:=AF a k (by omega)
 simp only [aa,seval,gE,q0.lay,lg,↓kF,FW,Az,Ug,Nb]
 refine IQ (λaV=>?_) (λheq=>?_)
 .repeat' ( simp only [aa,seval,gE])
  rw [zut (k:=k) (by omega) (by omega) aV] at hk
  exact hk _ z.ao
 .have nB:∀ j,i<=j->j < k+1->a.arg j=aZ:=by
   intro j h1 h2
   by_cases lh:j < k
   .exact cq j h1 lh
   .have:j=k:=by omega
    subst this
    exact heq
  repeat' (simp only [aa,seval,gE])
  rw [pd]
  (rw [fV];with_reducible refine db (m:=_) ?_ ⟨k+1,_,rfl,z,⟨rfl,by omega,by omega,nB,q0⟩,bx⟩;omega)
theorem T9 {r:aQ Z} {l:List Z} (f:Sl r h v l):∃ a n c,v=.slice a n c:=by
 rcases f with ⟨rfl,_⟩|⟨A,o,c,row,u,ro,rfl,_⟩ <;> exact ⟨_,_,_,rfl⟩
theorem TX (a:Option Addr) (n c:Nat):mJ az 29 [(0,.slice a n c)]=some (fS (.slice a n c) (.slice none 0 0) (.slice none 0 0) (.slice none 0 0) (.slice none 0 0) 0 0):=by kernel_rfl
theorem ztv (a:Option Addr) (n c:Nat):mJ az 29 [(1,.slice a n c)]=some (fS (.slice none 0 0) (.slice a n c) (.slice none 0 0) (.slice none 0 0) (.slice none 0 0) 0 0):=by kernel_rfl
theorem Ul {l:List aA} (f:Sl aQ.str h v l) (i:Nat) (hi:i<=l.length):∃ a n c,kn az 23 v none (some (.int .i64 i)) none=some (.slice a n c)/\Sl aQ.str h (.slice a n c) (l.take i):=by
 obtain ⟨u1,g1,g2⟩:=f.sub (a:=0) (b:=i) (by decide) dp mD (.inl ⟨rfl,rfl⟩) (.inr ⟨.i64,rfl⟩) (by omega) hi
 obtain ⟨a,n,c,rfl⟩:=T9 g2
 exact ⟨a,n,c,g1,by simpa using g2⟩
theorem zuB {l:List bb} (f:Sl aQ.pred h v l) (i:Nat) (hi:i<=l.length):∃ a n c,kn az 24 v none (some (.int .i64 i)) none=some (.slice a n c)/\Sl aQ.pred h (.slice a n c) (l.take i):=by
 obtain ⟨u1,g1,g2⟩:=f.sub (a:=0) (b:=i) (by decide) iu iX (.inl ⟨rfl,rfl⟩) (.inr ⟨.i64,rfl⟩) (by omega) hi
 obtain ⟨a,n,c,rfl⟩:=T9 g2
 exact ⟨a,n,c,g1,by simpa using g2⟩
theorem SO (l:List bb) (bW:aA) (p0 p1 p2 p5 p6:ai) (q b:Int) (h:Heap) (hl:Sl aQ.pred h p1 l) (K:aF) (hk:∀ h',Ext h h'->K (.tuple #[.int .i64 (jS l bW).1,.bool (jS l bW).2]) h'):Ok prog az ov 103 [fS p0 p1 p2 p5 p6 q b,.string bW] h K:=by
 rw [ak h]
 have z:=Ext.refl h
 have hle:=hl.le
 have b9:∀ (h:Heap) (K:aF),aE (some p1) h K=K p1 h:=λ_ _=>rfl
 have cO:=λ(hh:Heap)=>hl.bE iu hh
 refine Ok.au 26 (br Br) ?_
 repeat' (simp only [aa,seval,tk,iE])
 refine ko (λh' x hq=>?_)
 have q0:=hq 0 _ rfl
 clear hq
 (replace z:=z.aj x;rw [ak h'])
 obtain ⟨A0,dA⟩:∃ A0,A0=h.size+0:=⟨_,rfl⟩
 rw [<- dA] at q0
 rw [<- dA]
 obtain ⟨I1,aU⟩:∃ I:Nat->Env->Heap->Prop,I=(λn e h'=>∃ (i:Nat) (h1:Heap),h'=h1.lay [] h1.low/\Ext h h1/\(n=l.length - i/\i<=l.length/\(∀ y∈l.take i,¬ y.name=bW)/\Holds h1 A0 (.row (cN p0 p1 p2 p5 p6 q b) 29 false))/\∃ J:Nat->ai,e=(J 0::.string bW::.pointer (some ⟨A0,0,none⟩)::jr J 3 3 (.int .i64 i::jr J 7 21 ([])))):=⟨_,rfl⟩
 refine dK I1 _ (by rw [aU];exact ⟨0,_,rfl,z,⟨rfl,by omega,by simp,q0⟩,bx⟩) ?_
 intro n e h' aR
 rw [aU] at aR
 obtain ⟨i,b8,rfl,z,hinv,J,rfl⟩:=aR
 clear q0
 obtain ⟨rfl,hi,aq,q0⟩:=hinv
 have hw:i < l.length->IntKind.i64.wrap ((i:Int)+1)=((i+1:Nat):Int):=λhh=>by unfold maxLen at hle;rw [wrap_i64 (by omega) (by omega)];omega
 simp only [aa,seval,tk,q0.lay,iW,b9,cO]
 refine bp (λaS=>?_) (λaS=>?_)
 rotate_left
 .repeat' ( simp only [aa,seval,tk])
  rw [i9 (by omega)] at aq
  rw [R4 aq] at hk
  exact hk _ z.ao
 obtain ⟨r,hr,bz⟩:=fx (l:=l) (i:=i) (by omega)
 repeat' (first|simp only [aa,seval,tk,q0.lay,iW,b9]|((with_reducible apply bp) <;> intro _)|with_reducible refine Gv (hl.mono z.inc) iu iX (by omega) hr (λp hp=>?_)|with_reducible refine qz hp ze (λq hq=>?_)|with_reducible refine CX hp Gt (λq hq=>?_)|with_reducible refine iF hq lG ?_|with_reducible refine iF hq Jn ?_)
 .rw [Ti aq bz (by assumption)] at hk
  exact hk _ z.ao
 .have aV:¬ r.name=bW:=by assumption
  rw [hw (by omega)]
  (rw [aU];with_reducible refine db (m:=_) ?_ ⟨i+1,_,rfl,z,⟨rfl,by omega,mS (i:=i) (P:=λy:bb=>¬ y.name=bW) bz aq aV,q0⟩,bx⟩;omega)
section
variable {d:aD} {a:ae}
theorem zvx (h:¬ gn a=0):ek d a=gn a:=by unfold ek;rw [dN,ay h]
theorem zvv (h:gn a=0) (h1:aM d.ah a.says=false):ek d a=6:=by unfold ek;rw [dN,aC h,dN,h1];rfl
theorem zvw (h:gn a=0) (h1:aM d.ah a.says=true) (h2:(jS d.bo a.pred).2=false):ek d a=7:=by unfold ek;rw [dN,aC h,dN,h1,h2];rfl
theorem zvu (h:gn a=0) (h1:aM d.ah a.says=true) (h2:(jS d.bo a.pred).2=true) (h3:¬ (jS d.bo a.pred).1=a.n):ek d a=8:=by unfold ek;rw [dN,aC h,dN,h1,h2,pK h3];rfl
theorem zvt (h:gn a=0) (h1:aM d.ah a.says=true) (h2:(jS d.bo a.pred).2=true) (h3:(jS d.bo a.pred).1=a.n):ek d a=0:=by unfold ek;rw [dN,aC h,dN,h1,h2,wE h3];rfl
end
theorem H0 (d:aD) (a:ae) (p0 p1 p2 p5 p6:ai) (q b:Int) (h:Heap) (aY:(cN p0 p1 p2 p5 p6 q b).all Am.one=true) (hd:dP h p0 p1 p2 p5 p6 d) (K:aF) (hk:∀ h',Ext h h'->K (.int .i64 (ek d a)) h'):Ok prog az ov 60 [fS p0 p1 p2 p5 p6 q b,a.val] h K:=by
 rw [ak h]
 have z:=Ext.refl h
 have ua:∀ (n:Int) (h:Heap) (K:aF),aE (some (.int .i64 n)) h K=K (.int .i64 n) h:=λ_ _ _=>rfl
 refine Ok.au 31 (br Pm) ?_
 simp only [aa,seval,uY,iE,e9,↓eZ,dO,dx]
 refine zsw a _ _ (λh' x=>?_)
 have q0:=Holds.top (i:=0) x rfl
 have e0:=Holds.top (i:=1) x rfl
 (replace z:=z.aj x;rw [ak h'])
 simp only [aa,seval,uY]
 refine gD (λhc=>?_) (λh0=>?_)
 .rw [zvx hc] at hk
  simp only [aa,seval,uY]
  exact hk _ z.ao
 simp only [aa,seval,uY,q0.lay,e0.lay,↓eI,eH,ef,Iu]
 refine uF d.ah a.says _ _ _ _ _ _ _ _ ((hd.s0.mono z.inc).lay _ _) _ (λh' x=>?_)
 (replace z:=z.aj x;replace q0:=q0.over x;replace e0:=e0.over x;rw [ak h'])
 rw [uJ]
 cases hh:aM d.ah a.says
 .rw [zvv h0 hh] at hk
  repeat' (first|simp only [aa,seval,uY]|((with_reducible apply bK);(· rfl)))
  exact hk _ z.ao
 repeat' (first|simp only [aa,seval,uY,q0.lay,e0.lay,↓eI,eH,ef,N7]|((with_reducible apply bK);(· rfl)))
 refine SO d.bo a.pred _ _ _ _ _ _ _ _ ((hd.s1.mono z.inc).lay _ _) _ (λh' x=>?_)
 (replace z:=z.aj x;replace q0:=q0.over x;replace e0:=e0.over x;rw [ak h'])
 cases h2:(jS d.bo a.pred).2
 .rw [zvw h0 hh h2] at hk
  repeat' (first|simp only [aa,seval,uY]|((with_reducible apply bK);(· rfl)))
  exact hk _ z.ao
 repeat' (first|simp only [aa,seval,uY,e0.lay,y5,ua]|((with_reducible apply gD) <;> intro _)|((with_reducible apply bK);(· rfl)))
 .rw [zvu h0 hh h2 (by assumption)] at hk
  exact hk _ z.ao
 .rw [zvt h0 hh h2 (by assumption)] at hk
  exact hk _ z.ao
def fP (pre:List aA) (w:aA):Int:=eN [aO (!kr w) 3,aO (aM pre w) 5]
theorem JN {pre:List aA} {w:aA} (h:¬ gh w):fP pre w=3:=by unfold fP;rw [H4 h];rfl
theorem JO {pre:List aA} {w:aA} (h:gh w) (h2:aM pre w=true):fP pre w=5:=by unfold fP;rw [bl.2 h,h2];rfl
theorem JM {pre:List aA} {w:aA} (h:gh w) (h2:aM pre w=false):fP pre w=0:=by unfold fP;rw [bl.2 h,h2];rfl
theorem lN {f:List Z->Z->Int} {l:List Z} {x:Z} {c:Int} (hx:l[i]? = some x) (he:e=dw f (l.take i) (l.drop i)) (hc:f (l.take i) x=c) (h0:c≠0):e=c:=by
 rw [he,mP hx,hc,ay h0]
theorem y6 {f:List Z->Z->Int} {l:List Z} {x:Z} (hx:l[i]? = some x) (he:e=dw f (l.take i) (l.drop i)) (hc:f (l.take i) x=0):e=dw f (l.take (i+1)) (l.drop (i+1)):=by
 rw [he,mP hx,aC hc]
theorem yX {f:List Z->Z->Int} {l:List Z} (he:e=dw f (l.take i) (l.drop i)) (hi:l.length<=i):e=0:=by rw [he,vT hi]
theorem XG (l:List aA) (p0 p1 p2 p5 p6:ai) (q b:Int) (h:Heap) (hl:Sl aQ.str h p0 l) (K:aF) (hk:∀ h',Ext h h'->K (.int .i64 (nN l)) h'):Ok prog az ov 55 [fS p0 p1 p2 p5 p6 q b] h K:=by
 rw [ak h]
 have z:=Ext.refl h
 have b9:∀ (h:Heap) (K:aF),aE (some p0) h K=K p0 h:=λ_ _=>rfl
 have cO:=λ(hh:Heap)=>hl.bE dp hh
 refine Ok.au 38 (br Pg) ?_
 repeat' (first|simp only [aa,seval,tx,iE,kh,b9,cO]|((with_reducible apply bp) <;> intro _))
 iterate 2
  .rw [show nN l=4 from aC (by omega)] at hk
   exact hk _ z.ao
 have la:nN l=dw fP (l.take 0) (l.drop 0):=ay (by omega)
 refine ko (λh' x hq=>?_)
 have q0:=hq 0 _ rfl
 clear hq
 (replace z:=z.aj x;rw [ak h'])
 obtain ⟨A0,dA⟩:∃ A0,A0=h.size+0:=⟨_,rfl⟩
 rw [<- dA] at q0
 rw [<- dA]
 obtain ⟨I1,aU⟩:∃ I:Nat->Env->Heap->Prop,I=(λn e h'=>∃ (i:Nat) (h1:Heap),h'=h1.lay [] h1.low/\Ext h h1/\(n=l.length - i/\i<=l.length/\nN l=dw fP (l.take i) (l.drop i)/\Holds h1 A0 (.row (cN p0 p1 p2 p5 p6 q b) 29 false))/\∃ J:Nat->ai,e=(J 0::.pointer (some ⟨A0,0,none⟩)::J 2::.int .i64 i::jr J 4 35 ([]))):=⟨_,rfl⟩
 refine dK I1 _ (by rw [aU];exact ⟨0,_,rfl,z,⟨rfl,by omega,la,q0⟩,bx⟩) ?_
 intro n e h' aR
 rw [aU] at aR
 obtain ⟨i,b8,rfl,z,hinv,J,rfl⟩:=aR
 clear q0
 obtain ⟨rfl,hi,cH,q0⟩:=hinv
 have hw:=ec i (by omega)
 simp only [aa,seval,tx,q0.lay,kh,b9,cO]
 refine bp (λaS=>?_) (λaS=>?_)
 rotate_left
 .rw [yX cH (by omega)] at hk
  repeat' (simp only [aa,seval,tx])
  exact hk _ z.ao
 obtain ⟨r,hr,bz⟩:=fx (l:=l) (i:=i) (by omega)
 obtain ⟨a,m,c,g1,g2⟩:=Ul hl i hi
 have eo:∀ (h:Heap) (K:aF),aE (some (.slice a m c)) h K=K (.slice a m c) h:=λ_ _=>rfl
 repeat' (first|simp only [aa,seval,tx,q0.lay,kh,b9]|with_reducible refine sd (hl.mono z.inc) dp mD (by omega) hr (λp hp=>?_)|with_reducible refine iF hp lG ?_)
 refine Ij _ _ _ (λhs h' x=>?_) (λhs h' x=>?_)
 rotate_left
 .rw [lN bz cH (JN hs) (by decide)] at hk
  (replace z:=z.aj x;replace q0:=q0.over x;rw [ak h'])
  repeat' (first|simp only [aa,seval,tx]|((with_reducible apply bK);(· rfl)))
  exact hk _ z.ao
 (replace z:=z.aj x;replace q0:=q0.over x;rw [ak h'])
 repeat' (first|simp only [aa,seval,tx,q0.lay,kh,b9,g1,eo,TX,ef]|with_reducible refine hH (by simp only [tx]) z.ao ?_|with_reducible refine sd (hl.mono z.inc) dp mD (by omega) hr (λp hp=>?_)|with_reducible refine iF hp lG ?_|((with_reducible apply bK);(· rfl)))
 refine uF (l.take i) r _ _ _ _ _ _ _ _ ((g2.mono z.inc).lay _ _) _ (λh' x=>?_)
 (((with_reducible refine eu ?_ ?_ ?_);(· exact (by (simp only [ep]);have:=z.size;omega));(· exact x));replace z:=z.aj x;replace q0:=q0.over x;rw [ak h'])
 rw [uJ]
 cases hh:aM (l.take i) r
 .repeat' (first|simp only [aa,seval,tx]|((with_reducible refine ⟨z.eD.lay _ _,?_⟩);(intro _ h' zz x _);( simp only [dy,cU] at x );( replace q0:=q0.over x );(replace z:=zz);(clear zz);rw [ak h']))
  rw [hw]
  (rw [aU];with_reducible refine db (m:=_) ?_ ⟨i+1,_,rfl,z,⟨rfl,by omega,y6 bz cH (JM hs hh),q0⟩,bx⟩;omega)
 .rw [lN bz cH (JO hs hh) (by decide)] at hk
  repeat' (first|simp only [aa,seval,tx]|((with_reducible refine ⟨z.eD.lay _ _,?_⟩);(intro _ h' zz x _);(simp only [dy,cU] at x);replace q0:=q0.over x;(replace z:=zz);(clear zz);rw [ak h']))
  exact hk _ z.ao
def fR (pre:List bb) (x:bb):Int:=eN [aO (!kr x.name) 3,aO (aM (pre.map bb.name) x.name) 5,aO (decide (x.arity < 0\/4 < x.arity)) 4]
theorem JQ {pre:List bb} (h:¬ gh x.name):fR pre x=3:=by unfold fR;rw [H4 h];rfl
theorem JR {pre:List bb} (h:gh x.name) (h2:aM (pre.map bb.name) x.name=true):fR pre x=5:=by unfold fR;rw [bl.2 h,h2];rfl
theorem CW {pre:List bb} (h:gh x.name) (h2:aM (pre.map bb.name) x.name=false) (h3:x.arity < 0\/4 < x.arity):fR pre x=4:=by unfold fR;rw [bl.2 h,h2,wE h3];rfl
theorem JP {pre:List bb} (h:gh x.name) (h2:aM (pre.map bb.name) x.name=false) (h3:¬ (x.arity < 0\/4 < x.arity)):fR pre x=0:=by unfold fR;rw [bl.2 h,h2,pK h3];rfl
theorem zrx (l:List bb) (s:aA):(jS l s).2=aM (l.map bb.name) s:=by
 unfold jS
 cases h:l.find? (λx=>decide (x.name=s)) with
 |none =>
  have h1:=List.find?_eq_none.1 h
  cases g:aM (l.map bb.name) s
  .rfl
  .obtain ⟨x,hx,e⟩:=zC.1 (cG.1 g)
   exact absurd (h1 x hx) (by simp [e])
 |some x =>
  have h1:=List.find?_some h
  have h2:=List.mem_of_find?_eq_some h
  symm
  exact cG.2 (zC.2 ⟨x,h2,of_decide_eq_true h1⟩)
theorem zy1 (h:Heap) (l:List bd) (w i o:Nat) (v:ai) (hi:i < l.length):gm az 67 (.pointer (some ⟨h.size+i,o,none⟩)) v (h.lay l w)=if v.cells.size=2 then oF l[i]? i o v.cells.toList h l w else none:=si iX h l w i o v hi
theorem zqx (l:List bb) (p0 p1 p2 p5 p6:ai) (q b:Int) (h:Heap) (hl:Sl aQ.pred h p1 l) (K:aF) (hk:∀ h',Ext h h'->K (.int .i64 (oE l)) h'):Ok prog az ov 56 [fS p0 p1 p2 p5 p6 q b] h K:=by
 rw [ak h]
 have z:=Ext.refl h
 have b9:∀ (h:Heap) (K:aF),aE (some p1) h K=K p1 h:=λ_ _=>rfl
 have cO:=λ(hh:Heap)=>hl.bE iu hh
 refine Ok.au 46 (br Ph) ?_
 repeat' (first|simp only [aa,seval,sB,iE,iW,b9,cO]|((with_reducible apply bp) <;> intro _))
 .rw [show oE l=4 from aC (by omega)] at hk
  exact hk _ z.ao
 have la:oE l=dw fR (l.take 0) (l.drop 0):=ay (by omega)
 refine ko (λh' x hq=>?_)
 have q0:=hq 0 _ rfl
 clear hq
 (replace z:=z.aj x;rw [ak h'])
 obtain ⟨A0,dA⟩:∃ A0,A0=h.size+0:=⟨_,rfl⟩
 rw [<- dA] at q0
 rw [<- dA]
 obtain ⟨I1,aU⟩:∃ I:Nat->Env->Heap->Prop,I=(λn e h'=>∃ (i:Nat) (h1:Heap),h'=h1.lay [] h1.low/\Ext h h1/\(n=l.length - i/\i<=l.length/\oE l=dw fR (l.take i) (l.drop i)/\Holds h1 A0 (.row (cN p0 p1 p2 p5 p6 q b) 29 false))/\∃ J:Nat->ai,e=(J 0::.pointer (some ⟨A0,0,none⟩)::J 2::.int .i64 i::jr J 4 43 ([]))):=⟨_,rfl⟩
 refine dK I1 _ (by rw [aU];exact ⟨0,_,rfl,z,⟨rfl,by omega,la,q0⟩,bx⟩) ?_
 intro n e h' aR
 rw [aU] at aR
 obtain ⟨i,b8,rfl,z,hinv,J,rfl⟩:=aR
 clear q0
 obtain ⟨rfl,hi,cH,q0⟩:=hinv
 have hw:=ec i (by omega)
 simp only [aa,seval,sB,q0.lay,iW,b9,cO]
 refine bp (λaS=>?_) (λaS=>?_)
 rotate_left
 .rw [yX cH (by omega)] at hk
  repeat' (simp only [aa,seval,sB])
  exact hk _ z.ao
 obtain ⟨r,hr,bz⟩:=fx (l:=l) (i:=i) (by omega)
 obtain ⟨a,m,c,g1,g2⟩:=zuB hl i hi
 have eo:∀ (h:Heap) (K:aF),aE (some (.slice a m c)) h K=K (.slice a m c) h:=λ_ _=>rfl
 repeat' (first|simp only [aa,seval,sB,q0.lay,iW,b9]|with_reducible refine Gv (hl.mono z.inc) iu iX (by omega) hr (λp hp=>?_)|with_reducible refine Ee hp th iX ?_)
 repeat' (simp only [aa,seval,sB,i7,kS,mL,Am.one,jM,iZ,zy1])
 refine NN _ _ _ (λhs h' x=>?_) (λhs h' x=>?_)
 rotate_left
 .rw [lN bz cH (JQ hs) (by decide)] at hk
  (replace z:=z.aj x;replace q0:=q0.over x;rw [ak h'])
  repeat' (first|simp only [aa,seval,sB]|((with_reducible apply bK);(· rfl)))
  exact hk _ z.ao
 have e0:=Holds.top (i:=0) x rfl
 (replace z:=z.aj x;replace q0:=q0.over x;rw [ak h'])
 obtain ⟨E0,lI⟩:∃ E0,E0=b8.size+0:=⟨_,rfl⟩
 rw [<- lI] at e0
 rw [<- lI]
 have xD:([.string r.name,.int .i64 r.arity]:List ai)[0]? = some (.string r.name):=rfl
 have oR:([.string r.name,.int .i64 r.arity]:List ai)[1]? = some (.int .i64 r.arity):=rfl
 repeat' (first|simp only [aa,seval,sB,q0.lay,e0.lay,iW,b9,g1,eo,ztv,ef,xD]|with_reducible refine hH (by simp only [sB]) z.ao ?_|((with_reducible apply bK);(· rfl)))
 refine SO (l.take i) r.name _ _ _ _ _ _ _ _ ((g2.mono z.inc).lay _ _) _ (λh' x=>?_)
 (((with_reducible refine eu ?_ ?_ ?_);(· exact (by (simp only [ep]);have:=z.size;omega));(· exact x));replace z:=z.aj x;replace q0:=q0.over x;replace e0:=e0.over x;rw [ak h'])
 rw [zrx]
 cases hh:aM ((l.take i).map bb.name) r.name
 .repeat' (first|simp only [aa,seval,sB,e0.lay,oR]|((with_reducible  apply bp ) <;> intro _)|((with_reducible refine ⟨z.eD.lay _ _,?_⟩);(intro _ h' zz x _);( simp only [dy,cU] at x );( replace q0:=q0.over x );( replace e0:=e0.over x );(replace z:=zz);(clear zz);rw [ak h']))
  .rw [lN bz cH (CW hs hh (by omega)) (by decide)] at hk
   exact hk _ z.ao
  .rw [lN bz cH (CW hs hh (by omega)) (by decide)] at hk
   exact hk _ z.ao
  rw [hw]
  (rw [aU];with_reducible refine db (m:=_) ?_ ⟨i+1,_,rfl,z,⟨rfl,by omega,y6 bz cH (JP hs hh (by omega)),q0⟩,bx⟩;omega)
 .rw [lN bz cH (JR hs hh) (by decide)] at hk
  repeat' (first|simp only [aa,seval,sB]|((with_reducible refine ⟨z.eD.lay _ _,?_⟩);(intro _ h' zz x _);(simp only [dy,cU] at x);replace q0:=q0.over x;replace e0:=e0.over x;(replace z:=zz);(clear zz);rw [ak h']))
  exact hk _ z.ao
def fA (ps:List aA) (c:ba) (pre:List aA) (w:aA):Int:=eN [aO (!aM ps w) 6,aO (decide (w=c.bW)) 11,aO (aM pre w) 5]
section
variable {ps pre:List aA} {c:ba} {w:aA}
theorem JH (h:aM ps w=false):fA ps c pre w=6:=by unfold fA;rw [h];rfl
theorem zxK (h:aM ps w=true) (h2:w=c.bW):fA ps c pre w=11:=by unfold fA;rw [h,wE h2];rfl
theorem JG (h:aM ps w=true) (h2:¬ w=c.bW) (h3:aM pre w=true):fA ps c pre w=5:=by unfold fA;rw [h,pK h2,h3];rfl
theorem JF (h:aM ps w=true) (h2:¬ w=c.bW) (h3:aM pre w=false):fA ps c pre w=0:=by unfold fA;rw [h,pK h2,h3];rfl
end
theorem zqn (ps:List aA) (x0:ba) (v:ai) (p0 p1 p2 p5 p6:ai) (q b:Int) (h:Heap) (aY:(cN p0 p1 p2 p5 p6 q b).all Am.one=true) (hl:Sl aQ.str h p0 ps) (hv:Sl aQ.str h v x0.reads) (K:aF) (hk:∀ h',Ext h h'->K (.int .i64 (lP ps x0)) h'):Ok prog az ov 104 [fS p0 p1 p2 p5 p6 q b,.agg ⟨[.string x0.bW,v]⟩] h K:=by
 rw [ak h]
 have z:=Ext.refl h
 have b9:∀ (h:Heap) (K:aF),aE (some v) h K=K v h:=λ_ _=>rfl
 have cO:=λ(hh:Heap)=>hv.bE dp hh
 have xD:([.string x0.bW,v]:List ai)[0]? = some (.string x0.bW):=rfl
 have oR:([.string x0.bW,v]:List ai)[1]? = some v:=rfl
 refine Ok.au 48 (br Bt) ?_
 repeat' (first|simp only [aa,seval,jZ,iE,oR,b9,cO]|((with_reducible apply bp) <;> intro _))
 iterate 2
  .rw [show lP ps x0=4 from aC (by omega)] at hk
   exact hk _ z.ao
 have la:lP ps x0=dw (fA ps x0) (x0.reads.take 0) (x0.reads.drop 0):=ay (by omega)
 refine ko (λh' x hq=>?_)
 have q0:=hq 0 _ rfl
 have e0:=hq 1 _ rfl
 clear hq
 (replace z:=z.aj x;rw [ak h'])
 obtain ⟨A0,dA⟩:∃ A0,A0=h.size+0:=⟨_,rfl⟩
 rw [<- dA] at q0
 rw [<- dA]
 obtain ⟨E0,lI⟩:∃ E0,E0=h.size+1:=⟨_,rfl⟩
 rw [<- lI] at e0
 rw [<- lI]
 obtain ⟨I1,aU⟩:∃ I:Nat->Env->Heap->Prop,I=(λn e h'=>∃ (i:Nat) (h1:Heap),h'=h1.lay [] h1.low/\Ext h h1/\(n=x0.reads.length - i/\i<=x0.reads.length/\lP ps x0=dw (fA ps x0) (x0.reads.take i) (x0.reads.drop i)/\Holds h1 A0 (.row (cN p0 p1 p2 p5 p6 q b) 29 false)/\Holds h1 E0 (.row [.string x0.bW,v] 69 false))/\∃ J:Nat->ai,e=(jr J 0 2 (.pointer (some ⟨A0,0,none⟩)::.pointer (some ⟨E0,0,none⟩)::J 4::.int .i64 i::jr J 6 44 ([])))):=⟨_,rfl⟩
 refine dK I1 _ (by rw [aU];exact ⟨0,_,rfl,z,⟨rfl,by omega,la,q0,e0⟩,bx⟩) ?_
 intro n e h' aR
 rw [aU] at aR
 obtain ⟨i,b8,rfl,z,hinv,J,rfl⟩:=aR
 clear q0 e0
 obtain ⟨rfl,hi,cH,q0,e0⟩:=hinv
 have hw:=ec i (by omega)
 simp only [aa,seval,jZ,e0.lay,oR,b9,cO]
 refine bp (λaS=>?_) (λaS=>?_)
 rotate_left
 .rw [yX cH (by omega)] at hk
  repeat' (simp only [aa,seval,jZ])
  exact hk _ z.ao
 obtain ⟨r,hr,bz⟩:=fx (l:=x0.reads) (i:=i) (by omega)
 obtain ⟨a,m,c,g1,g2⟩:=Ul hv i hi
 have eo:∀ (h:Heap) (K:aF),aE (some (.slice a m c)) h K=K (.slice a m c) h:=λ_ _=>rfl
 repeat' (first|simp only [aa,seval,jZ,q0.lay,e0.lay,↓eI,eH,ef,oR,b9]|with_reducible refine hH (by simp only [jZ]) z.ao ?_|with_reducible refine sd (hv.mono z.inc) dp mD (by omega) hr (λp hp=>?_)|with_reducible refine iF hp lG ?_)
 refine uF ps r _ _ _ _ _ _ _ _ ((hl.mono z.inc).lay _ _) _ (λh' x=>?_)
 (((with_reducible refine eu ?_ ?_ ?_);(· exact (by (simp only [ep]);have:=z.size;omega));(· exact x));replace z:=z.aj x;replace q0:=q0.over x;replace e0:=e0.over x;rw [ak h'])
 rw [uJ]
 cases hh:aM ps r
 .rw [lN bz cH (JH hh) (by decide)] at hk
  repeat' (first|simp only [aa,seval,jZ]|((with_reducible apply bK);(· rfl))|((with_reducible refine ⟨z.eD.lay _ _,?_⟩);(intro _ h' zz x _);(simp only [dy,cU] at x);replace q0:=q0.over x;replace e0:=e0.over x;(replace z:=zz);(clear zz);rw [ak h']))
  exact hk _ z.ao
 repeat' (first|simp only [aa,seval,jZ,e0.lay,ef,xD,oR,b9,g1,eo,TX]|with_reducible refine hH (by simp only [jZ]) z.ao ?_|((with_reducible apply bp) <;> intro _)|with_reducible refine sd (hv.mono z.inc) dp mD (by omega) hr (λp hp=>?_)|with_reducible refine iF hp lG ?_|((with_reducible apply bK);(· rfl))|((with_reducible refine ⟨z.eD.lay _ _,?_⟩);(intro _ h' zz x _);(simp only [dy,cU] at x);replace q0:=q0.over x;replace e0:=e0.over x;(replace z:=zz);(clear zz);rw [ak h']))
 .rw [lN bz cH (zxK hh (by assumption)) (by decide)] at hk
  exact hk _ z.ao
 have aV:¬ r=x0.bW:=by assumption
 refine uF (x0.reads.take i) r _ _ _ _ _ _ _ _ ((g2.mono z.inc).lay _ _) _ (λh' x=>?_)
 (((with_reducible refine eu ?_ ?_ ?_);(· exact (by (simp only [ep]);have:=z.size;omega));(· exact x));replace z:=z.aj x;replace q0:=q0.over x;replace e0:=e0.over x;rw [ak h'])
 rw [uJ]
 cases Qe:aM (x0.reads.take i) r
 .repeat' (first|simp only [aa,seval,jZ]|((with_reducible refine ⟨z.eD.lay _ _,?_⟩);(intro _ h' zz x _);( simp only [dy,cU] at x );( replace q0:=q0.over x );( replace e0:=e0.over x );(replace z:=zz);(clear zz);rw [ak h']))
  rw [hw]
  (rw [aU];with_reducible refine db (m:=_) ?_ ⟨i+1,_,rfl,z,⟨rfl,by omega,y6 bz cH (JF hh aV Qe),q0,e0⟩,bx⟩;omega)
 .rw [lN bz cH (JG hh aV Qe) (by decide)] at hk
  repeat' (first|simp only [aa,seval,jZ]|((with_reducible refine ⟨z.eD.lay _ _,?_⟩);(intro _ h' zz x _);(simp only [dy,cU] at x);replace q0:=q0.over x;replace e0:=e0.over x;(replace z:=zz);(clear zz);rw [ak h']))
  exact hk _ z.ao
def fC (ps:List aA) (pre:List ba) (c:ba):Int:=eN [aO (!aM ps c.bW) 6,aO (aM (pre.map ba.bW) c.bW) 5,lP ps c]
section
variable {ps:List aA} {pre:List ba} {c:ba}
theorem JK (h:aM ps c.bW=false):fC ps pre c=6:=by unfold fC;rw [h];rfl
theorem JI (h:aM ps c.bW=true) (h2:aM (pre.map ba.bW) c.bW=true):fC ps pre c=5:=by unfold fC;rw [h,h2];rfl
theorem JL (h:aM ps c.bW=true) (h2:aM (pre.map ba.bW) c.bW=false):fC ps pre c=lP ps c:=by
 unfold fC
 rw [h,h2]
 show (if lP ps c=0 then (0:Int) else lP ps c)=lP ps c
 split
 .rename_i e;exact e.symm
 .rfl
end
theorem ZP (d:aD) (p0 p1 p2 p5 p6:ai) (q b:Int) (h:Heap) (aY:(cN p0 p1 p2 p5 p6 q b).all Am.one=true) (hd:dP h p0 p1 p2 p5 p6 d) (hn:d.aN.length<=70) (K:aF) (hk:∀ h',Ext h h'->K (.int .i64 (r6 d.ah d.aN)) h'):Ok prog az ov 57 [fS p0 p1 p2 p5 p6 q b] h K:=by
 rw [ak h]
 have z:=Ext.refl h
 have b9:∀ (h:Heap) (K:aF),aE (some p2) h K=K p2 h:=λ_ _=>rfl
 have cO:=λ(hh:Heap)=>hd.s2.bE jg hh
 have la:r6 d.ah d.aN=dw (fC d.ah) (d.aN.take 0) (d.aN.drop 0):=rfl
 refine Ok.au 49 (br Pj) ?_
 repeat' (simp only [aa,seval,mM,iE])
 refine ko (λh' x hq=>?_)
 have q0:=hq 0 _ rfl
 clear hq
 (replace z:=z.aj x;rw [ak h'])
 obtain ⟨A0,dA⟩:∃ A0,A0=h.size+0:=⟨_,rfl⟩
 rw [<- dA] at q0
 rw [<- dA]
 obtain ⟨I1,aU⟩:∃ I:Nat->Env->Heap->Prop,I=(λn e h'=>∃ (i:Nat) (h1:Heap),h'=h1.lay [] h1.low/\Ext h h1/\(n=d.aN.length - i/\i<=d.aN.length/\r6 d.ah d.aN=dw (fC d.ah) (d.aN.take i) (d.aN.drop i)/\Holds h1 A0 (.row (cN p0 p1 p2 p5 p6 q b) 29 false))/\∃ J:Nat->ai,e=(J 0::.pointer (some ⟨A0,0,none⟩)::J 2::.int .i64 i::jr J 4 46 ([]))):=⟨_,rfl⟩
 refine dK I1 _ (by rw [aU];exact ⟨0,_,rfl,z,⟨rfl,by omega,la,q0⟩,bx⟩) ?_
 intro n e h' aR
 rw [aU] at aR
 obtain ⟨i,b8,rfl,z,hinv,J,rfl⟩:=aR
 clear q0
 obtain ⟨rfl,hi,cH,q0⟩:=hinv
 have hw:=ec i (by omega)
 simp only [aa,seval,mM,q0.lay,mz,b9,cO]
 refine bp (λaS=>?_) (λaS=>?_)
 rotate_left
 .rw [yX cH (by omega)] at hk
  repeat' (simp only [aa,seval,mM])
  exact hk _ z.ao
 obtain ⟨r,hr,bz⟩:=fx (l:=d.aN) (i:=i) (by omega)
 repeat' (first|simp only [aa,seval,mM,q0.lay,↓eI,eH,ef,mz,b9]|with_reducible refine hH (by simp only [mM]) z.ao ?_|with_reducible refine AZ (hd.s2.mono z.inc) jg km (by omega) hr (λp bv hb hp=>?_)|with_reducible refine qz hp wo (λqq hq=>?_)|with_reducible refine iF hq lG ?_)
 refine uF d.ah r.bW _ _ _ _ _ _ _ _ ((hd.s0.mono z.inc).lay _ _) _ (λh' x=>?_)
 (((with_reducible refine eu ?_ ?_ ?_);(· exact (by (simp only [ep]);have:=z.size;omega));(· exact x));replace z:=z.aj x;replace q0:=q0.over x;rw [ak h'])
 rw [uJ]
 cases hh:aM d.ah r.bW
 .rw [lN bz cH (JK hh) (by decide)] at hk
  repeat' (first|simp only [aa,seval,mM]|((with_reducible apply bK);(· rfl))|((with_reducible refine ⟨z.eD.lay _ _,?_⟩);(intro _ h' zz x _);(simp only [dy,cU] at x);replace q0:=q0.over x;(replace z:=zz);(clear zz);rw [ak h']))
  exact hk _ z.ao
 repeat' (first|simp only [aa,seval,mM]|((with_reducible apply bK);(· rfl))|((with_reducible refine ⟨z.eD.lay _ _,?_⟩);(intro _ h' zz x _);(simp only [dy,cU] at x);replace q0:=q0.over x;(replace z:=zz);(clear zz);rw [ak h']))
 obtain ⟨I2,fV⟩:∃ I:Nat->Env->Heap->Prop,I=(λn e h'=>∃ (k:Nat) (h1:Heap),h'=h1.lay [] h1.low/\Ext h h1/\(n=i - k/\k<=i/\(∀ e∈d.aN.take k,e.bW≠r.bW)/\Holds h1 A0 (.row (cN p0 p1 p2 p5 p6 q b) 29 false))/\∃ J:Nat->ai,e=(J 0::.pointer (some ⟨A0,0,none⟩)::J 2::.int .i64 i::.int .i64 k::jr J 5 45 ([]))):=⟨_,rfl⟩
 refine dK I2 _ (by rw [fV];exact ⟨0,_,rfl,z,⟨rfl,by omega,by simp,q0⟩,bx⟩) ?_
 intro n e h' aR
 rw [fV] at aR
 obtain ⟨k,b8,rfl,z,hinv,J,rfl⟩:=aR
 clear q0
 obtain ⟨rfl,Qf,nj,q0⟩:=hinv
 have pd:=ec k (by omega)
 simp only [aa,seval,mM]
 refine bp (λrq=>?_) (λrq=>?_)
 .obtain ⟨e,he,mN⟩:=fx (l:=d.aN) (i:=k) (by omega)
  repeat' (first|simp only [aa,seval,mM,q0.lay,mz,b9]|with_reducible refine hH (by simp only [mM]) z.ao ?_|((with_reducible apply bp) <;> intro _)|with_reducible refine AZ (hd.s2.mono z.inc) jg km (by omega) hr (λp bv hb hp=>?_)|with_reducible refine AZ (hd.s2.mono z.inc) jg km (by omega) he (λp bv hb hp=>?_)|with_reducible refine qz hp wo (λqq hq=>?_)|with_reducible refine iF hq lG ?_|((with_reducible refine ⟨z.eD.lay _ _,?_⟩);(intro _ h' zz x _);(simp only [dy,cU] at x);replace q0:=q0.over x;(replace z:=zz);(clear zz);rw [ak h']))
  .have K5:e.bW=r.bW:=by assumption
   rw [lN bz cH (JI hh (cG.2 (zC.2 ⟨e,ig (i:=k) (by rw [nV,aC (by omega)];exact mN),K5⟩))) (by decide)] at hk
   exact hk _ z.ao
  .have aV:¬ e.bW=r.bW:=by assumption
   rw [pd]
   (rw [fV];with_reducible refine db (m:=_) ?_ ⟨k+1,_,rfl,z,⟨rfl,by omega,mS (i:=k) (P:=λe:ba=>e.bW≠r.bW) mN nj aV,q0⟩,bx⟩;omega)
 have tN:k=i:=by omega
 subst tN
 have iy:aM ((d.aN.take k).map ba.bW) r.bW=false:=by
  cases g:aM ((d.aN.take k).map ba.bW) r.bW
  .rfl
  .obtain ⟨e,he,ee⟩:=zC.1 (cG.1 g)
   exact absurd ee (nj e he)
 repeat' (first|simp only [aa,seval,mM,q0.lay,↓eI,eH,ef,mz,b9]|with_reducible refine hH (by simp only [mM]) z.ao ?_|with_reducible refine AZ (hd.s2.mono z.inc) jg km (by omega) hr (λp bv hb hp=>?_)|with_reducible refine Ee hp wP km ?_)
 have qN:Sl aQ.str b8 bv r.reads:=by assumption
 refine zqn d.ah r bv _ _ _ _ _ _ _ _ aY ((hd.s0.mono z.inc).lay _ _) (qN.lay _ _) _ (λh' x=>?_)
 have ua:∀ (n:Int) (h:Heap) (K:aF),aE (some (.int .i64 n)) h K=K (.int .i64 n) h:=λ_ _ _=>rfl
 (((with_reducible refine eu ?_ ?_ ?_);(· exact (by (simp only [ep]);have:=z.size;omega));(· exact x));replace z:=z.aj x;replace q0:=q0.over x;rw [ak h'])
 have cy:=JL (pre:=d.aN.take k) hh iy
 simp only [aa,seval,mM]
 ((with_reducible refine ⟨z.eD.lay _ _,?_⟩);(intro _ h' zz x _);(simp only [dy,cU] at x);replace q0:=q0.over x;(replace z:=zz);(clear zz);rw [ak h'])
 simp only [aa,seval,mM]
 refine gD (λhc=>?_) (λh0=>?_)
 .rw [lN bz cH cy hc] at hk
  simp only [aa,seval,mM]
  exact hk _ z.ao
 .simp only [aa,seval,mM,ua]
  rw [hw]
  (rw [aU];with_reducible refine db (m:=_) ?_ ⟨k+1,_,rfl,z,⟨rfl,by omega,y6 bz cH (cy.trans h0),q0⟩,bx⟩;omega)
end Go.Proofs.YtjildadoepadeaaGreatDoor

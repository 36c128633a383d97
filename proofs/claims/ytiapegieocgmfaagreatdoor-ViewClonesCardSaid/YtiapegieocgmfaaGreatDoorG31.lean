/- Walks: an atom's constants, each once. Written out by fill2.py. No condition. -/
import Derived.Test.YtiapegieocgmfaaGreatDoorZQ0
import Derived.Test.YtiapegieocgmfaaGreatDoorG26
set_option linter.unusedSimpArgs false
set_option linter.unusedVariables false
set_option maxRecDepth 100000
set_option maxHeartbeats 0
noncomputable section
namespace Go.Proofs.YtiapegieocgmfaaGreatDoor
open Go.Am Tryz
variable {us:au->Nat} {kv kw:List (au × ab)} {f f2:List Int} {c t:au} {N T0 b i:Nat} {D:List Nat} {h:Heap} {l:List au}
theorem zwP (a:ak) (bv:Bool) (h:Heap) (K:aF) (hk:∀ w l h',Ext h h'->(∀ D:List Nat,(∀ B∈D,B < h.size)->Sl aM.str (aG D h') w l)->l.length<=4->l.Nodup->(∀ x,x∈l↔∃ i:Nat,i < a.cO/\(a.arg i).v=bv/\(a.arg i).s=x)->K w h'):Ok prog aD ov 87 [a.val,.bool bv] h K:=by
 rw [ao h]
 have z:=Ext.refl h
 have Ab:=zmx a
 refine Ok.aw 31 (bq Ux) ?_
 repeat' (simp only [aa,seval,qy,eE,↓eY,eJ,dX])
 refine QN a _ _ (λw h' x sw=>?_)
 (replace z:=z.an x;rw [ao h'])
 have ta:=λ(hh:Heap)=>sw.bo zF hh
 have Xg:=w9 a
 have rn:=z.size
 simp only [aa,seval,qy,ta]
 obtain ⟨Hb,rfl⟩:∃ Hb,Hb=h':=⟨_,rfl⟩
 obtain ⟨I1,aU⟩:∃ I:Nat->Env->Heap->Prop,I=(λn e h'=>∃ (i:Nat) (wv:ab) (A:Nat) (l:List au) (h1:Heap),h'=h1.lay [] h1.low/\Ext h h1/\(n=a.cO - i/\i<=a.cO/\l.length<=i/\(∀ x,x∈l↔∃ j:Nat,j < i/\(a.arg j).v=bv/\(a.arg j).s=x)/\Ow aM.str h h1 9 A wv l/\bL Hb h1/\Hb.size<=A/\l.Nodup)/\∃ J:Nat->ab,e=(J 0::.bool bv::jr J 2 3 (wv::jr J 6 3 (w::.int .i64 a.args.length::.int .i64 i::jr J 12 21 ([]))))):=⟨_,rfl⟩
 refine dA I1 _ (by rw [aU];exact ⟨0,.slice none 0 0,Hb.size,[],_,rfl,z,⟨rfl,by omega,by simp,by simp,Ow.nil (by omega),bL.refl _,bj _,List.nodup_nil⟩,bl⟩) ?_
 intro n e h' aO
 rw [aU] at aO
 obtain ⟨i,wv,A,l,bC,rfl,z,hinv,J,rfl⟩:=aO
 obtain ⟨rfl,hi,Dq,b8,ow,ib,Aa,iG⟩:=hinv
 have fH:=ei i (by omega)
 simp only [aa,seval,qy]
 refine bn (λaT=>?_) (λaT=>?_)
 rotate_left
 .have he:i=a.cO:=by omega
  rw [he] at b8
  repeat' (simp only [aa,seval,qy])
  exact hk _ _ _ z.aA (λD hD=>(ow.mono (bL.lay _ _ _)).aG (λ_ _ _ _ q=>q) (by decide) hD) (by omega) iG b8
 have q8:=Go.Am.args_at (a:=a) (i:=i) (by omega)
 rcases wP:a.arg i with ⟨rv,rs⟩
 rw [wP] at q8
 have hr:a.args[(i:Int).toNat]? = some ⟨rv,rs⟩:=by rw [Q0];exact q8
 have wQ:∀ x,(∃ j:Nat,j < i+1/\(a.arg j).v=bv/\(a.arg j).s=x)↔(∃ j:Nat,j < i/\(a.arg j).v=bv/\(a.arg j).s=x)\/(rv=bv/\rs=x):=by
  intro x
  constructor
  .rintro ⟨j,hj,e⟩
   by_cases MW:j=i
   .subst MW
    rw [wP] at e
    exact .inr e
   .exact .inl ⟨j,by omega,e⟩
  .rintro (⟨j,hj,e⟩|e)
   .exact ⟨j,by omega,e⟩
   .exact ⟨i,by omega,by rw [wP];exact e⟩
 repeat' (first|simp only [aa,seval,qy,sg,nU,oX,Am.one,sC,oV,vO,aZ.val,aZ.cells]|with_reducible refine Q6 (sw.mono ib) zF kL (by omega) hr (λp hp=>?_)|with_reducible refine IV hp sJ kL ?_)
 have ri:(¬ rv=bv\/rs∈l)->∀ x,x∈l↔∃ j:Nat,j < i+1/\(a.arg j).v=bv/\(a.arg j).s=x:=by
  intro hs x
  rw [wQ,<- b8]
  refine ⟨.inl,λe=>e.elim id (λe=>?_)⟩
  rcases hs with hs|hs
  .exact absurd e.1 hs
  .rw [<- e.2];exact hs
 have yW:rv=bv->∀ x,x∈l++[rs]↔∃ j:Nat,j < i+1/\(a.arg j).v=bv/\(a.arg j).s=x:=by
  intro hs x
  rw [wQ,<- b8,mj,hU]
  exact ⟨λe=>e.imp id (λe=>⟨hs,e.symm⟩),λe=>e.imp id (λe=>e.2.symm)⟩
 have b1:(true == false)=false:=rfl
 have b2:(false == true)=false:=rfl
 have b3:(true == true)=true:=rfl
 have b4:(false == false)=true:=rfl
 have uq:=z.size
 cases rv
 all_goals
  cases bv
  all_goals
   repeat' (simp only [aa,seval,qy,zr7,b1,b2])
 all_goals first
  |(rw [fH]
    have BO:=ri (.inl (by decide))
    refine Tf z.aA (λH z hO hI=>?_)
    (rw [aU];with_reducible refine cy (m:=_) ?_ ⟨i+1,wv,A,l,_,rfl,z,⟨rfl,by omega,by omega,BO,ow.mono hI,ib.trans hI,Aa,iG⟩,bl⟩;omega))
  |skip
 all_goals
  refine I9 l wv rs _ ((ow.sl (by decide)).lay _ _) (by omega) _ (λh' x=>?_)
  have q0:=Holds.top (i:=0) x rfl
  (replace z:=z.an x;replace ow:=ow.over x;replace ib:=ib.over x;rw [ao h'])
  cases aO:l.any λx=>decide (rs=x)
  rotate_left
  .have BO:=ri (.inr (by obtain ⟨y,hy,e⟩:=xy.1 aO;rw [of_decide_eq_true e];exact hy))
   repeat' (first|simp only [aa,seval,qy]|((with_reducible apply bX);(· rfl)))
   rw [fH]
   (rw [aU];with_reducible refine cy (m:=_) ?_ ⟨i+1,wv,A,l,_,rfl,z,⟨rfl,by omega,by omega,BO,ow,ib,Aa,iG⟩,bl⟩;omega)
  have mX:=yW rfl
  have Gn:(l++[rs]).Nodup:=by
   rw [Q1]
   refine ⟨iG,by simp,λx hx y hy e=>?_⟩
   rw [hU] at hy
   rw [hy] at e
   have hf:=H2.1 aO x hx
   rw [e] at hf
   simp at hf
  repeat' (first|simp only [aa,seval,qy,q0.lay]|((with_reducible apply bX);(· rfl)))
  simp only [lx,seval,mr,Up]
 all_goals
  refine zzU (i:=0) (cs:=[.string rs]) (x:=rs) dr D9 rfl (by decide) (by rfl) z.size ow rfl (by omega) (by omega) (λw3 h3 A3 Zn qV wG=>?_)
  have Bz:=ow.fresh
  have YU:=bL.iL (ib.trans (bL.lay _ _ _)) qV Aa
  have MD:=ib.size
  replace z:=z.aA.step qV (by omega)
  rw [ao h3]
  repeat' (simp only [aa,seval,qy])
  rw [fH]
  clear ow q0
  (rw [aU];with_reducible refine cy (m:=_) ?_ ⟨i+1,w3,A3,l++[rs],_,rfl,z,⟨rfl,by omega,by rw [dy,zK];omega,mX,Zn,YU,by omega,Gn⟩,bl⟩;omega)
def xg (a:ak) (x:au):Prop:=∃ i:Nat,i < a.cO/\(a.arg i).v=false/\(a.arg i).s=x
theorem zlD (a:ak) (h:Heap) (K:aF) (hk:∀ w l h',Ext h h'->(∀ D:List Nat,(∀ B∈D,B < h.size)->Sl aM.str (aG D h') w l)->l.length<=4->l.Nodup->(∀ x,x∈l↔xg a x)->K w h'):Ok prog aD ov 53 [a.val] h K:=by
 rw [ao h]
 have z:=Ext.refl h
 refine Ok.aw 4 (bq N53) ?_
 repeat' (simp only [aa,seval,c53,eE,↓eY,eJ,dX])
 refine zwP a false _ _ (λw l h' x s hl hn hm=>?_)
 (replace z:=z.an x;rw [ao h'])
 repeat' (simp only [aa,seval,c53])
 exact hk _ _ _ z.aA (λD hD=>(s D (λB hB=>by rw [bc];have:=hD B hB;omega)).mono ((aL.lay h' [] h'.low D).inc (λB hB=>.inl hB))) hl hn hm
def N28:=bA f28
def x28:=PLift.up (by have c:=bB N28 f28;simp only [aN,f28,seval] at c;exact nd c <| nd @zz1 <| nd @kF <| nd @cq <| nd @NP <| nd @gA <| nd @kG <| nd @VB <| @WG)
theorem Ij:type_of% x28.down:=x28.down
def N37:=bA f37
def x37:=PLift.up (by have c:=bB N37 f37;simp only [aN,f37,seval] at c;exact nd c <| nd @zz1 <| nd @kF <| nd @cq <| nd @NP <| nd @gA <| nd @kG <| nd @VK <| @WH)
theorem Fg:type_of% x37.down:=x37.down
def N45:=bA f45
def x45:=PLift.up (by have c:=bB N45 f45;simp only [aN,f45,seval] at c;exact nd c <| nd @Li <| nd @HJ <| nd @JN <| nd @Rb <| nd @mH <| nd @vN <| nd @mZ <| nd @VP <| @dZ)
theorem Fh:type_of% x45.down:=x45.down
def Us:=bA f26
def x26:=PLift.up (by have c:=bB Us f26;simp only [aN,f26,seval] at c;exact nd c <| nd @dZ <| @Vz)
theorem tS:type_of% x26.down:=x26.down
def N22:=bA f22
def x22:=PLift.up (by have c:=bB N22 f22;simp only [aN,f22,seval] at c;exact nd c <| nd @dZ <| @Vv)
theorem Ii:type_of% x22.down:=x22.down
def N34:=bA f34
def x34:=PLift.up (by have c:=bB N34 f34;simp only [aN,f34,seval] at c;exact nd c <| nd @Lk <| nd @zv4 <| nd @Ub <| nd @zz2 <| nd @zz3 <| nd @dZ <| nd @mI <| nd @cq <| nd @za <| nd @zb <| nd @je <| @VH)
theorem pM:type_of% x34.down:=x34.down
def N14:=bA f14
def OX:=PLift.up (by have c:=bB N14 f14;simp only [aN,f14,seval] at c;exact nd c <| nd @Rb <| nd @zv3 <| nd @zv4 <| nd @mZ <| nd @cq <| nd @GX <| @Vo)
theorem Bb:type_of% OX.down:=OX.down
def N15:=bA f15
def O4:=PLift.up (by have c:=bB N15 f15;simp only [aN,f15,seval] at c;exact nd c <| nd @zv3 <| nd @cq <| nd @GX <| @Vp)
theorem CY:type_of% O4.down:=O4.down
def N30:=bA f30
def x30:=PLift.up (by have c:=bB N30 f30;simp only [aN,f30,seval] at c;exact nd c <| nd @Ub <| nd @zCr <| nd @zb <| nd @Zp <| @VD)
theorem U7:type_of% x30.down:=x30.down
def N33:=bA f33
def x33:=PLift.up (by have c:=bB N33 f33;simp only [aN,f33,seval] at c;exact nd c <| nd @Ub <| nd @zCs <| nd @zb <| nd @Zq <| @VG)
theorem c33:type_of% x33.down:=x33.down
def N75:=bA f75
def x75:=PLift.up (by have c:=bB N75 f75;simp only [aN,f75,seval] at c;exact nd c <| nd @Ln <| @Wg)
theorem RH:type_of% x75.down:=x75.down
def N74:=bA f74
def x74:=PLift.up (by have c:=bB N74 f74;simp only [aN,f74,seval] at c;exact nd c <| nd @sL <| @Wf)
theorem RG:type_of% x74.down:=x74.down
theorem Lm (M:Nat):qp aD 147 [(2,.map (some M))]=some (.agg #[.slice none 0 0,.slice none 0 0,.map (some M)]):=by kernel_rfl
theorem zBp (N:Nat) (h:Heap) (FI FE:Nat) (hI:N<=FI/\FI < h.size) (hE:N<=FE/\FE < h.size) (aQ:FI≠FE) (K:aF) (hk:∀ h' T0 FM,Ext h h'->eH N h' T0 FI FE FM [] [] []->h.size<=T0->h.size<=FM->K (.pointer (some ⟨T0,0,none⟩)) h'):Ok prog aD ov 52 [] h K:=by
 have z:=Ext.refl h
 rw [ao h]
 refine Ok.aw 4 (bq Uv) ?_
 simp only [aa,seval,c52,Lm,Hv]
 refine hk _ (h.size+1) (h.size+0) z.aA ?_ (by omega) (by omega)
 have hs:(h.lay [ba.map [] 0,ba.row [Value.slice none 0 0,Value.slice none 0 0,Value.map (some (h.size+0))] 147 false] h.low).size=h.size+2:=by rw [bc];rfl
 refine ⟨⟨_,_,⟨by omega,by rw [iB];rfl⟩,.nil,.nil⟩,dq.new ⟨by omega,by rw [iB];rfl⟩,⟨by omega,by omega,by omega,by omega,by omega,by omega⟩,⟨by omega,by omega,by omega,by omega⟩,⟨by omega,by omega,by omega,by omega⟩⟩
theorem zBe {e e2:List fo} {vs:au->Nat} (p:db f e kv us) (q:db f2 e2 kw vs) (h:∀ x,0 < us x↔0 < vs x):kv.length=kw.length:=zwo p.kn q.kn λt=>by rw [p.has,q.has];exact h t
theorem zEL {e e2:List fo} (p:db f e kv us) (q:db f2 e2 kw (fP us t (us t+1))):kw.length<=kv.length+1:=by
 have h1:kw.length=(fZ kv t undef).length:=zwo q.kn (Ti p.kn t _) λx=>by
  rw [q.has,Hu]
  by_cases hx:x=t
  .rw [aE hx,hx,wW];simp
  .rw [az hx,tF hx,p.has]
 have h2:=congrArg List.length (zpA kv t undef)
 rw [gi] at h2
 rw [h1,h2]
 split
 .rw [gi];omega
 .rw [dy,gi];simp
theorem zBd {e e2:List fo} {n:Nat} (p:db f e kv us) (q:db f2 e2 kw (fP us t n)) (ht:0 < us t):kw.length<=kv.length:=by
 by_cases hn:n=0
 .have h1:kw.length=(nt kv t).length:=zwo q.kn (zho p.kn t) λx=>by
   rw [q.has,zjk]
   by_cases hx:x=t
   .rw [aE hx,hx,wW,hn];simp
   .rw [az hx,tF hx,p.has]
  rw [h1]
  exact CI _ _
 .refine Nat.le_of_eq (zBe q p λx=>?_)
  by_cases hx:x=t
  .rw [hx,wW];omega
  .rw [tF hx]
def dY (N b:Nat) (h:Heap) (D:List Nat) (T0:Nat) (us:au->Nat):Prop:=∃ FI FE FM free aY kv,D=[T0,FI,FE,FM]/\eH N h T0 FI FE FM free aY kv/\db free aY kv us/\aY.length<=b/\kv.length<=b
theorem dY.lay {N b:Nat} {h:Heap} {D:List Nat} {T0:Nat} {us:au->Nat} (t:dY N b h D T0 us) (bs:List ba) (w:Nat):dY N b (h.lay bs w) D T0 us:=by
 obtain ⟨FI,FE,FM,free,aY,kv,rfl,st,p⟩:=t
 exact ⟨FI,FE,FM,free,aY,kv,rfl,st.lay _ _,p⟩
theorem dY.over {N b w:Nat} {h h2:Heap} {bs:List ba} {D:List Nat} {T0:Nat} {us:au->Nat} (t:dY N b h D T0 us) (x:Ext (h.lay bs w) h2):dY N b h2 D T0 us:=by
 obtain ⟨FI,FE,FM,free,aY,kv,rfl,st,p⟩:=t
 exact ⟨FI,FE,FM,free,aY,kv,rfl,st.over x,p⟩
theorem dY.bN {N b:Nat} {h h2:Heap} {D D2:List Nat} {T0:Nat} {us:au->Nat} (t:dY N b h D T0 us) (f:aL D2 h h2) (hd:∀ B∈D,B ∉ D2):dY N b h2 D T0 us:=by
 obtain ⟨FI,FE,FM,free,aY,kv,rfl,st,p⟩:=t
 exact ⟨FI,FE,FM,free,aY,kv,rfl,st.bN f ⟨hd _ (by simp),hd _ (by simp),hd _ (by simp),hd _ (by simp)⟩,p⟩
theorem dY.lo {N b:Nat} {h:Heap} {D:List Nat} {T0:Nat} {us:au->Nat} (t:dY N b h D T0 us):∀ B∈D,N<=B/\B < h.size:=by
 obtain ⟨FI,FE,FM,free,aY,kv,rfl,st,p⟩:=t
 obtain ⟨_,_,_,lo,hi⟩:=st
 intro B hB
 simp only [dh,tL,or_false] at hB
 rcases hB with rfl|rfl|rfl|rfl
 .exact ⟨lo.1,hi.1⟩
 .exact ⟨lo.2.1,hi.2.1⟩
 .exact ⟨lo.2.2.1,hi.2.2.1⟩
 .exact ⟨lo.2.2.2,hi.2.2.2⟩
theorem dY.le {b2:Nat} (t:dY N b h D T0 us) (hb:b<=b2):dY N b2 h D T0 us:=by
 obtain ⟨FI,FE,FM,free,aY,kv,rfl,st,p,he,hv⟩:=t
 exact ⟨FI,FE,FM,free,aY,kv,rfl,st,p,by omega,by omega⟩
theorem dY.mem (t:dY N b h D T0 us):T0∈D:=by
 obtain ⟨FI,FE,FM,free,aY,kv,rfl,st,p⟩:=t
 simp
theorem zy2 (h hc:Heap) (z:Ext h hc) (D:List Nat) (T0 b:Nat) (us:au->Nat) (t:au) (st:dY h.size b hc D T0 us) (hb:b < 65536) (ht:t.size≠0) (ht2:t.size<=255) (kD:us t < 1000000000000) (K:aF)
 (hk:∀ h' n D2,Ext h h'->aL D hc h'->dY h.size (b+1) h' D2 T0 (fP us t (us t+1))->(∀ B∈D2,B∈D\/hc.size<=B)->K (.tuple #[.int .i64 n,.int .i64 0]) h'):Ok prog aD ov 54 [.pointer (some ⟨T0,0,none⟩),.string t] hc K:=by
 obtain ⟨FI,FE,FM,free,aY,kv,rfl,s,p,he,hv⟩:=st
 refine zy3 h hc z T0 FI FE FM free aY kv us t s p ht ht2 (by omega) (by omega) kD K (λh' n I2 E2 f2 e2 B2 z' fr' s' p' hI hE wK=>hk h' n [T0,I2,E2,FM] z' fr' ⟨I2,E2,FM,f2,e2,B2,rfl,s',p',by omega,by have:=zEL p p';omega⟩ (λB hB=>?_))
 simp only [dh,tL,or_false] at hB
 rcases hB with rfl|rfl|rfl|rfl
 .exact .inl (by simp)
 .exact hI.imp (λe=>by rw [e];simp) id
 .exact hE.imp (λe=>by rw [e];simp) id
 .exact .inl (by simp)
theorem dY.num (d:dY N b h D T0 us) (ht:0 < us t):∃ FI FE FM free aY kv,∃ i:Nat,D=[T0,FI,FE,FM]/\eH N h T0 FI FE FM free aY kv/\db free aY kv us/\aY.length<=b/\kv.length<=b/\dE kv t=some (.int .i64 (i:Int)):=by
 obtain ⟨FI,FE,FM,free,aY,kv,rfl,s,p,he,hv⟩:=d
 have h1:=(p.has t).2 ht
 cases hl:dE kv t with
 |none=>rw [hl] at h1;cases h1
 |some v =>
  obtain ⟨i,rfl,_⟩:=p.val t v hl
  exact ⟨FI,FE,FM,free,aY,kv,i,rfl,s,p,he,hv,hl⟩
theorem cd (a) (h:Heap) (K:aF):aC (some (.pointer (some a))) h K=K (.pointer (some a)) h:=rfl
theorem zlX (hn:l.Nodup) (hc:l[i]? = some c):c ∉ l.take i:=λhm=>by
 have h1:=qv i l
 rw [<- h1,Q1] at hn
 obtain ⟨hi,lH⟩:=dP.1 hc
 exact hn.2.2 c hm c (by rw [Eg hi,lH];exact jm) rfl
open Classical in
def jc (us:au->Nat) (l:List au):au->Nat:=λx=>if x∈l then us x+1 else us x
open Classical in
def j5 (us:au->Nat) (l:List au):au->Nat:=λx=>if x∈l then us x - 1 else us x
theorem zx7 (hn:l.Nodup) (hc:l[i]? = some c):fP (jc us (l.take i)) c (jc us (l.take i) c+1)=jc us (l.take (i+1))/\jc us (l.take i) c=us c:=by
 have h0:jc us (l.take i) c=us c:=az (zlX hn hc)
 refine ⟨funext λx=>?_,h0⟩
 have ht:l.take (i+1)=l.take i++[c]:=by rw [oW,hc];rfl
 rw [ht]
 by_cases hx:x=c
 .subst hx
  rw [wW,h0]
  unfold jc
  rw [aE (by simp)]
 .rw [tF hx]
  unfold jc
  by_cases hm:x∈l.take i
  .rw [aE hm,aE (by simp [hm])]
  .rw [az hm,az (by simp [hm,hx])]
theorem zzt (hn:l.Nodup) (hc:l[i]? = some c):fP (j5 us (l.take i)) c (j5 us (l.take i) c - 1)=j5 us (l.take (i+1))/\j5 us (l.take i) c=us c:=by
 have h0:j5 us (l.take i) c=us c:=az (zlX hn hc)
 refine ⟨funext λx=>?_,h0⟩
 have ht:l.take (i+1)=l.take i++[c]:=by rw [oW,hc];rfl
 rw [ht]
 by_cases hx:x=c
 .subst hx
  rw [wW,h0]
  unfold j5
  rw [aE (by simp)]
 .rw [tF hx]
  unfold j5
  by_cases hm:x∈l.take i
  .rw [aE hm,aE (by simp [hm])]
  .rw [az hm,az (by simp [hm,hx])]
theorem zAp (us:au->Nat):jc us []=us:=funext λx=>az (by simp)
theorem zBF (us:au->Nat):j5 us []=us:=funext λx=>az (by simp)
theorem zsE (a:ak) (h hc:Heap) (z:Ext h hc) (D:List Nat) (T0 b:Nat) (us:au->Nat) (st:dY h.size b hc D T0 us) (hb:b < 60000) (dx:∀ x,xg a x->x.size≠0/\x.size<=255) (kD:∀ x,us x < 1000000000) (K:aF)
 (hk:∀ h' cs D2,Ext h h'->aL D hc h'->cs.length<=4->cs.Nodup->(∀ x,x∈cs↔xg a x)->dY h.size (b+4) h' D2 T0 (jc us cs)->(∀ B∈D2,B∈D\/hc.size<=B)->K undef h'):Ok prog aD ov 28 [.agg #[.pointer (some ⟨T0,0,none⟩)],a.val] hc K:=by
 rw [ao hc]
 refine Ok.aw 16 (bq N28) ?_
 simp only [aa,seval,Ij,eE,↓eY,eJ,dX]
 have Mc:∀ B∈D,B < hc.size:=λB hB=>(st.lo B hB).2
 refine zlD a _ _ (λw cs h' x s yA iG b8=>?_)
 have q0:=Holds.top (i:=0) x rfl
 have fr:aL D hc h':=(aL.refl D hc).over x
 (replace z:=z.an x;replace st:=st.over x;rw [ao h'])
 replace s:=s D (λB hB=>by rw [bc];have:=Mc B hB;omega)
 obtain ⟨A0,el⟩:∃ A0,A0=hc.size+0:=⟨_,rfl⟩
 rw [<- el] at q0
 rw [<- el]
 have xU:A0 ∉ D:=λhm=>by have:=Mc _ hm;omega
 rw [<- zAp us] at st
 have ta:=λ(hh:Heap)=>s.bo dr hh
 simp only [aa,seval,Ij,ta]
 obtain ⟨I1,aU⟩:∃ I:Nat->Env->Heap->Prop,I=(λn e h'=>∃ (i:Nat) (D1:List Nat) (h1:Heap),h'=h1.lay [] h1.low/\Ext h h1/\(n=cs.length - i/\i<=cs.length/\dY h.size (b+i) h1 D1 T0 (jc us (cs.take i))/\Holds h1 A0 (.row [.pointer (some ⟨T0,0,none⟩)] 78 false)/\A0 ∉ D1/\Sl aM.str (aG D1 h1) w cs/\aL D hc h1/\(∀ B∈D1,B∈D\/hc.size<=B))/\∃ J:Nat->ab,e=(jr J 0 2 (.pointer (some ⟨A0,0,none⟩)::jr J 3 4 (w::.int .i64 cs.length::.int .i64 i::jr J 10 8 ([]))))):=⟨_,rfl⟩
 refine dA I1 _ (by rw [aU];exact ⟨0,D,_,rfl,z,⟨rfl,by omega,st,q0,xU,s,fr,λB hB=>.inl hB⟩,bl⟩) ?_
 intro n e h' aO
 rw [aU] at aO
 obtain ⟨i,D1,bC,rfl,z,hinv,J,rfl⟩:=aO
 clear st q0 s fr xU
 obtain ⟨rfl,hi,st,q0,xU,s,fr,FD⟩:=hinv
 have hs:=s.mono (rH D1 bC)
 have fH:=ei i (by omega)
 have oH:=fr.size
 simp only [aa,seval,Ij]
 refine bn (λaT=>?_) (λka=>?_)
 rotate_left
 .have he:i=cs.length:=by omega
  rw [he,gE (bj _)] at st
  simp only [aa,seval,Ij]
  exact hk _ cs D1 z.aA (fr.trans (aL.lay _ _ _ []) (λ_ h=>nomatch h)) yA iG b8 ((st.lay _ _).le (by omega)) FD
 obtain ⟨c,hr,cw⟩:=eW (l:=cs) (i:=i) (by omega)
 have lS:=dx c ((b8 c).1 (ic cw))
 obtain ⟨wQ,yY⟩:=zx7 (us:=us) iG cw
 have YB:=kD c
 repeat' (first|simp only [aa,seval,Ij,q0.lay]|with_reducible refine rK hs dr px (by omega) hr (λp hp=>?_)|with_reducible refine gj hp j9 ?_)
 refine zy2 h _ z.aA D1 T0 (b+i) _ c (st.lay _ _) (by omega) lS.1 lS.2 (by rw [yY];omega) _ (λh3 nn D2 z3 fL kK uY=>?_)
 rw [wQ] at kK
 have jU:aL D1 bC h3:=(aL.lay bC [] bC.low D1).trans fL (λB hB=>.inl hB)
 have s3:=s.mono (jU.inc (D':=D2) (λB hB=>(uY B hB).imp id (λe=>by rw [bc] at e;omega)))
 have q3:=q0.bN jU xU
 have FB:A0 ∉ D2:=λhm=>by
  rcases uY _ hm with e|e
  .exact xU e
  .have:=q0.lt;rw [bc] at e;omega
 have mz:aL D hc h3:=fr.trans jU (λB hB=>FD B hB)
 have rW:∀ B∈D2,B∈D\/hc.size<=B:=λB hB=>(uY B hB).elim (FD B) (λe=>.inr (by rw [bc] at e;omega))
 clear z
 have z:=z3
 rw [ao h3]
 simp only [aa,seval,Ij]
 rw [fH]
 (rw [aU];with_reducible refine cy (m:=_) ?_ ⟨i+1,D2,_,rfl,z,⟨rfl,by omega,kK.le (by omega),q3,FB,s3,mz,rW⟩,bl⟩;omega)
theorem zyP (a:ak) (h hc:Heap) (z:Ext h hc) (D:List Nat) (T0 b:Nat) (us:au->Nat) (st:dY h.size b hc D T0 us) (hb:b < 60000) (lj:∀ x,xg a x->0 < us x) (kD:∀ x,us x < 1000000000) (K:aF)
 (hk:∀ h' cs D2,Ext h h'->aL D hc h'->cs.length<=4->cs.Nodup->(∀ x,x∈cs↔xg a x)->dY h.size b h' D2 T0 (j5 us cs)->(∀ B∈D2,B∈D\/hc.size<=B)->K undef h'):Ok prog aD ov 37 [.agg #[.pointer (some ⟨T0,0,none⟩)],a.val] hc K:=by
 rw [ao hc]
 refine Ok.aw 26 (bq N37) ?_
 simp only [aa,seval,Fg,eE,↓eY,eJ,dX]
 have Mc:∀ B∈D,B < hc.size:=λB hB=>(st.lo B hB).2
 refine zlD a _ _ (λw cs h' x s yA iG b8=>?_)
 have q0:=Holds.top (i:=0) x rfl
 have fr:aL D hc h':=(aL.refl D hc).over x
 (replace z:=z.an x;replace st:=st.over x;rw [ao h'])
 replace s:=s D (λB hB=>by rw [bc];have:=Mc B hB;omega)
 obtain ⟨A0,el⟩:∃ A0,A0=hc.size+0:=⟨_,rfl⟩
 rw [<- el] at q0
 rw [<- el]
 have xU:A0 ∉ D:=λhm=>by have:=Mc _ hm;omega
 rw [<- zBF us] at st
 have ta:=λ(hh:Heap)=>s.bo dr hh
 simp only [aa,seval,Fg,ta]
 obtain ⟨I1,aU⟩:∃ I:Nat->Env->Heap->Prop,I=(λn e h'=>∃ (i:Nat) (D1:List Nat) (h1:Heap),h'=h1.lay [] h1.low/\Ext h h1/\(n=cs.length - i/\i<=cs.length/\dY h.size b h1 D1 T0 (j5 us (cs.take i))/\Holds h1 A0 (.row [.pointer (some ⟨T0,0,none⟩)] 78 false)/\A0 ∉ D1/\Sl aM.str (aG D1 h1) w cs/\aL D hc h1/\(∀ B∈D1,B∈D\/hc.size<=B))/\∃ J:Nat->ab,e=(jr J 0 2 (.pointer (some ⟨A0,0,none⟩)::jr J 3 6 (w::.int .i64 cs.length::.int .i64 i::jr J 12 16 ([]))))):=⟨_,rfl⟩
 refine dA I1 _ (by rw [aU];exact ⟨0,D,_,rfl,z,⟨rfl,by omega,st,q0,xU,s,fr,λB hB=>.inl hB⟩,bl⟩) ?_
 intro n e h' aO
 rw [aU] at aO
 obtain ⟨i,D1,bC,rfl,z,hinv,J,rfl⟩:=aO
 clear st q0 s fr xU
 obtain ⟨rfl,hi,st,q0,xU,s,fr,FD⟩:=hinv
 have hs:=s.mono (rH D1 bC)
 have fH:=ei i (by omega)
 have oH:=fr.size
 simp only [aa,seval,Fg]
 refine bn (λaT=>?_) (λka=>?_)
 rotate_left
 .have he:i=cs.length:=by omega
  rw [he,gE (bj _)] at st
  simp only [aa,seval,Fg]
  exact hk _ cs D1 z.aA (fr.trans (aL.lay _ _ _ []) (λ_ h=>nomatch h)) yA iG b8 ((st.lay _ _).le (by omega)) FD
 obtain ⟨c,hr,cw⟩:=eW (l:=cs) (i:=i) (by omega)
 have lS:=lj c ((b8 c).1 (ic cw))
 obtain ⟨wQ,yY⟩:=zzt (us:=us) iG cw
 have YB:=kD c
 repeat' (first|simp only [aa,seval,Fg,q0.lay]|with_reducible refine rK hs dr px (by omega) hr (λp hp=>?_)|with_reducible refine gj hp j9 ?_)
 obtain ⟨FI,FE,FM,free,aY,kv,m,hDe,ts,tp,Ad,rY,hlk⟩:=st.num (t:=c) (by rw [yY];exact lS)
 refine zyV c (some m) _ T0 FI FE FM h.size free aY kv (ts.lay _ _) hlk _ (λh' x=>?_)
 replace ts:=ts.over x
 have o7:aL D1 bC h':=(aL.refl D1 bC).over x
 (replace z:=z.an x;replace st:=st.over x;replace q0:=q0.over x;rw [ao h'])
 simp only [JX,JV]
 repeat' (simp only [aa,seval,Fg,q0.lay])
 refine zyQ h _ z.aA T0 FI FE FM free aY kv _ c m (ts.lay _ _) tp hlk (by omega) (by rw [yY];omega) _ (λh3 I2 f2 e2 B2 z3 fL kK tp3 hI wK=>?_)
 obtain ⟨D2,Mb⟩:∃ D2,D2=[T0,I2,FE,FM]:=⟨_,rfl⟩
 replace kK:dY h.size b h3 D2 T0 (fP (j5 us (cs.take i)) c (j5 us (cs.take i) c - 1)):=⟨I2,FE,FM,f2,e2,B2,Mb,kK,tp3,by omega,by have:=zBd tp tp3 (by rw [yY];exact lS);omega⟩
 rw [<- hDe] at fL
 have uY:∀ B∈D2,B∈D1\/(h'.lay [] h'.low).size<=B:=λB hB=>by
  rw [Mb] at hB
  rw [hDe]
  simp only [dh,tL,or_false] at hB
  rcases hB with rfl|rfl|rfl|rfl
  .exact .inl (by simp)
  .exact hI.imp (λe=>by rw [e];simp) id
  .exact .inl (by simp)
  .exact .inl (by simp)
 rw [wQ] at kK
 have jU:aL D1 bC h3:=(o7.trans (aL.lay h' [] h'.low D1) (λB hB=>.inl hB)).trans fL (λB hB=>.inl hB)
 have mE:=o7.size
 have s3:=s.mono (jU.inc (D':=D2) (λB hB=>(uY B hB).imp id (λe=>by rw [bc] at e;omega)))
 have q3:=q0.bN ((aL.lay h' [] h'.low D1).trans fL (λB hB=>.inl hB)) xU
 have FB:A0 ∉ D2:=λhm=>by
  rcases uY _ hm with e|e
  .exact xU e
  .have:=q0.lt;rw [bc] at e;omega
 have mz:aL D hc h3:=fr.trans jU (λB hB=>FD B hB)
 have rW:∀ B∈D2,B∈D\/hc.size<=B:=λB hB=>(uY B hB).elim (FD B) (λe=>.inr (by rw [bc] at e;omega))
 clear z
 have z:=z3
 rw [ao h3]
 simp only [aa,seval,Fg]
 rw [fH]
 (rw [aU];with_reducible refine cy (m:=_) ?_ ⟨i+1,D2,_,rfl,z,⟨rfl,by omega,kK.le (by omega),q3,FB,s3,mz,rW⟩,bl⟩;omega)
end Go.Proofs.YtiapegieocgmfaaGreatDoor

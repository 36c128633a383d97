/- Walks: an atom's constants, each once. Written out by fill2.py. No condition. -/
import Derived.Test.YtkgojconmeeegaaGreatDoorZQ0
import Derived.Test.YtkgojconmeeegaaGreatDoorG28
set_option linter.unusedSimpArgs false
set_option linter.unusedVariables false
set_option maxRecDepth 100000
set_option maxHeartbeats 0
noncomputable section
namespace Go.Proofs.YtkgojconmeeegaaGreatDoor
open Go.Am Tryz
variable {us:aB->Nat} {kv kw:List (aB × ae)} {f f2:List Int} {c t:aB} {i:Nat} {l:List aB}
theorem zx2 (a:ak) (bv:Bool) (h:Heap) (K:aG) (hk:∀ w l h',Ext h h'->(∀ D:List Nat,(∀ B∈D,B < h.size)->Sl aJ.str (aM D h') w l)->l.length<=4->l.Nodup->(∀ x,x∈l↔∃ i:Nat,i < a.cU/\(a.arg i).v=bv/\(a.arg i).s=x)->K w h'):Ok prog aA ov 120 [a.val,.bool bv] h K:=by
 rw [ao h]
 have z:=Ext.refl h
 have yg:=zmA a
 refine Ok.aq 31 (bm E5) ?_
 repeat' (simp only [aa,seval,iV,fA,↓dW,dO,da])
 refine RO a _ _ (λw h' x sw=>?_)
 (replace z:=z.aj x;rw [ao h'])
 have qC:=λ(hh:Heap)=>sw.bt zJ hh
 have tx:=wU a
 have rH:=z.size
 simp only [aa,seval,iV,qC]
 obtain ⟨Hb,rfl⟩:∃ Hb,Hb=h':=⟨_,rfl⟩
 obtain ⟨I1,aO⟩:∃ I:Nat->Env->Heap->Prop,I=(λn e h'=>∃ (i:Nat) (wv:ae) (A:Nat) (l:List aB) (h1:Heap),h'=h1.lay [] h1.low/\Ext h h1/\(n=a.cU - i/\i<=a.cU/\l.length<=i/\(∀ x,x∈l↔∃ j:Nat,j < i/\(a.arg j).v=bv/\(a.arg j).s=x)/\Ow aJ.str h h1 9 A wv l/\b8 Hb h1/\Hb.size<=A/\l.Nodup)/\∃ J:Nat->ae,e=(J 0::.bool bv::jr J 2 3 (wv::jr J 6 3 (w::.int .i64 a.args.length::.int .i64 i::jr J 12 21 ([]))))):=⟨_,rfl⟩
 refine cK I1 _ (by rw [aO];exact ⟨0,.slice none 0 0,Hb.size,[],_,rfl,z,⟨rfl,by omega,by simp,by simp,Ow.nil (by omega),b8.refl _,bo _,List.nodup_nil⟩,bc⟩) ?_
 intro n e h' aK
 rw [aO] at aK
 obtain ⟨i,wv,A,l,bD,rfl,z,hinv,J,rfl⟩:=aK
 obtain ⟨rfl,hi,DM,b9,ow,ib,wF,i6⟩:=hinv
 have fb:=dE i (by omega)
 simp only [aa,seval,iV]
 refine bg (λaP=>?_) (λaP=>?_)
 rotate_left
 .have he:i=a.cU:=by omega
  rw [he] at b9
  repeat' (simp only [aa,seval,iV])
  exact hk _ _ _ z.au (λD hD=>(ow.mono (b8.lay _ _ _)).aM (λ_ _ _ _ q=>q) (by decide) hD) (by omega) i6 b9
 have mf:=Go.Am.args_at (a:=a) (i:=i) (by omega)
 rcases sy:a.arg i with ⟨rv,rs⟩
 rw [sy] at mf
 have hr:a.args[(i:Int).toNat]? = some ⟨rv,rs⟩:=by rw [R3];exact mf
 have tJ:∀ x,(∃ j:Nat,j < i+1/\(a.arg j).v=bv/\(a.arg j).s=x)↔(∃ j:Nat,j < i/\(a.arg j).v=bv/\(a.arg j).s=x)\/(rv=bv/\rs=x):=by
  intro x
  constructor
  .rintro ⟨j,hj,e⟩
   by_cases Ny:j=i
   .subst Ny
    rw [sy] at e
    exact .inr e
   .exact .inl ⟨j,by omega,e⟩
  .rintro (⟨j,hj,e⟩|e)
   .exact ⟨j,by omega,e⟩
   .exact ⟨i,by omega,by rw [sy];exact e⟩
 repeat' (first|simp only [aa,seval,iV,iR,gL,ij,Am.one,iT,gX,gA,aH.val,aH.cells]|with_reducible refine Sx (sw.mono ib) zJ fK (by omega) hr (λp hp=>?_)|with_reducible refine Cq hp oo fK ?_)
 have rC:(¬ rv=bv\/rs∈l)->∀ x,x∈l↔∃ j:Nat,j < i+1/\(a.arg j).v=bv/\(a.arg j).s=x:=by
  intro hs x
  rw [tJ,<- b9]
  refine ⟨.inl,λe=>e.elim id (λe=>?_)⟩
  rcases hs with hs|hs
  .exact absurd e.1 hs
  .rw [<- e.2];exact hs
 have yQ:rv=bv->∀ x,x∈l++[rs]↔∃ j:Nat,j < i+1/\(a.arg j).v=bv/\(a.arg j).s=x:=by
  intro hs x
  rw [tJ,<- b9,oV,iq]
  exact ⟨λe=>e.imp id (λe=>⟨hs,e.symm⟩),λe=>e.imp id (λe=>e.2.symm)⟩
 have b1:(true == false)=false:=rfl
 have b2:(false == true)=false:=rfl
 have b3:(true == true)=true:=rfl
 have b4:(false == false)=true:=rfl
 have uJ:=z.size
 cases rv
 all_goals
  cases bv
  all_goals
   repeat' (simp only [aa,seval,iV,zsZ,b1,b2])
 all_goals first
  |(rw [fb]
    have B8:=rC (.inl (by decide))
    refine Ep z.au (λH z hO hI=>?_)
    (rw [aO];with_reducible refine bS (m:=_) ?_ ⟨i+1,wv,A,l,_,rfl,z,⟨rfl,by omega,by omega,B8,ow.mono hI,ib.trans hI,wF,i6⟩,bc⟩;omega))
  |skip
 all_goals
  refine Je l wv rs _ ((ow.sl (by decide)).lay _ _) (by omega) _ (λh' x=>?_)
  have q0:=Holds.top (i:=0) x rfl
  (replace z:=z.aj x;replace ow:=ow.over x;replace ib:=ib.over x;rw [ao h'])
  cases aK:l.any λx=>decide (rs=x)
  rotate_left
  .have B8:=rC (.inr (by obtain ⟨y,hy,e⟩:=wq.1 aK;rw [of_decide_eq_true e];exact hy))
   repeat' (first|simp only [aa,seval,iV]|((with_reducible apply bI);(· rfl)))
   rw [fb]
   (rw [aO];with_reducible refine bS (m:=_) ?_ ⟨i+1,wv,A,l,_,rfl,z,⟨rfl,by omega,by omega,B8,ow,ib,wF,i6⟩,bc⟩;omega)
  have nZ:=yQ rfl
  have GB:(l++[rs]).Nodup:=by
   rw [R4]
   refine ⟨i6,by simp,λx hx y hy e=>?_⟩
   rw [iq] at hy
   rw [hy] at e
   have hf:=EP.1 aK x hx
   rw [e] at hf
   simp at hf
  repeat' (first|simp only [aa,seval,iV,q0.lay]|((with_reducible apply bI);(· rfl)))
  simp only [cR,seval,ja,TU]
 all_goals
  refine HP (i:=0) (cs:=[.string rs]) (x:=rs) cQ Ew rfl (by decide) (by rfl) z.size ow rfl (by omega) (by omega) (λw3 h3 A3 wN mb re=>?_)
  have rq:=ow.fresh
  have ZN:=b8.iW (ib.trans (b8.lay _ _ _)) mb wF
  have ye:=ib.size
  replace z:=z.au.step mb (by omega)
  rw [ao h3]
  repeat' (simp only [aa,seval,iV])
  rw [fb]
  clear ow q0
  (rw [aO];with_reducible refine bS (m:=_) ?_ ⟨i+1,w3,A3,l++[rs],_,rfl,z,⟨rfl,by omega,by rw [cW,sW];omega,nZ,wN,ZN,by omega,GB⟩,bc⟩;omega)
def zw (a:ak) (x:aB):Prop:=∃ i:Nat,i < a.cU/\(a.arg i).v=false/\(a.arg i).s=x
theorem zlL (a:ak) (h:Heap) (K:aG) (hk:∀ w l h',Ext h h'->(∀ D:List Nat,(∀ B∈D,B < h.size)->Sl aJ.str (aM D h') w l)->l.length<=4->l.Nodup->(∀ x,x∈l↔zw a x)->K w h'):Ok prog aA ov 72 [a.val] h K:=by
 rw [ao h]
 have z:=Ext.refl h
 refine Ok.aq 4 (bm N72) ?_
 repeat' (simp only [aa,seval,c72,fA,↓dW,dO,da])
 refine zx2 a false _ _ (λw l h' x s hl hn hm=>?_)
 (replace z:=z.aj x;rw [ao h'])
 repeat' (simp only [aa,seval,c72])
 exact hk _ _ _ z.au (λD hD=>(s D (λB hB=>by rw [bf];have:=hD B hB;omega)).mono ((aQ.lay h' [] h'.low D).inc (λB hB=>.inl hB))) hl hn hm
def N41:=bp f41
def x41:=PLift.up (by have c:=bq N41 f41;simp only [aI,f41,seval] at c;exact nd c <| nd @zBt <| nd @kx <| nd @bP <| nd @eC <| nd @OA <| nd @ky <| nd @WJ <| @XA)
theorem Is:type_of% x41.down:=x41.down
def N43:=bp f43
def x43:=PLift.up (by have c:=bq N43 f43;simp only [aI,f43,seval] at c;exact nd c <| nd @zBt <| nd @kx <| nd @bP <| nd @eC <| nd @OA <| nd @ky <| nd @WL <| @XB)
theorem Fv:type_of% x43.down:=x43.down
def N57:=bp f57
def x57:=PLift.up (by have c:=bq N57 f57;simp only [aI,f57,seval] at c;exact nd c <| nd @VK <| nd @HX <| nd @JX <| nd @Sg <| nd @mG <| nd @vP <| nd @lx <| nd @WY <| @el)
theorem Fx:type_of% x57.down:=x57.down
def N56:=bp f56
def x56:=PLift.up (by have c:=bq N56 f56;simp only [aI,f56,seval] at c;exact nd c <| nd @el <| @WX)
theorem Fw:type_of% x56.down:=x56.down
def N30:=bp f30
def x30:=PLift.up (by have c:=bq N30 f30;simp only [aI,f30,seval] at c;exact nd c <| nd @el <| @Wz)
theorem Iq:type_of% x30.down:=x30.down
def N39:=bp f39
def x39:=PLift.up (by have c:=bq N39 f39;simp only [aI,f39,seval] at c;exact nd c <| nd @zEG <| nd @zw7 <| nd @UP <| nd @zCr <| nd @zCs <| nd @el <| nd @bP <| nd @lR <| nd @Cm <| nd @Cp <| nd @fS <| @WH)
theorem pF:type_of% x39.down:=x39.down
def N12:=bp f12
def Po:=PLift.up (by have c:=bq N12 f12;simp only [aI,f12,seval] at c;exact nd c <| nd @zw6 <| nd @zw7 <| nd @Sg <| nd @lx <| nd @bP <| nd @OB <| @Wk)
theorem Bc:type_of% Po.down:=Po.down
def N13:=bp f13
def Pu:=PLift.up (by have c:=bq N13 f13;simp only [aI,f13,seval] at c;exact nd c <| nd @zw6 <| nd @bP <| nd @OB <| @Wl)
theorem Dk:type_of% Pu.down:=Pu.down
def N35:=bp f35
def x35:=PLift.up (by have c:=bq N35 f35;simp only [aI,f35,seval] at c;exact nd c <| nd @UP <| nd @zrw <| nd @Cp <| nd @Hd <| @WE)
theorem V5:type_of% x35.down:=x35.down
def N20:=bp f20
def Qu:=PLift.up (by have c:=bq N20 f20;simp only [aI,f20,seval] at c;exact nd c <| nd @UP <| nd @sR <| nd @zrw <| nd @bP <| nd @eC <| nd @Cp <| nd @Hd <| @Ws)
theorem Ip:type_of% Qu.down:=Qu.down
def N19:=bp f19
def Ql:=PLift.up (by have c:=bq N19 f19;simp only [aI,f19,seval] at c;exact nd c <| nd @UP <| nd @zrw <| nd @Cp <| nd @fS <| nd @Hd <| @Wr)
theorem c19:type_of% Ql.down:=Ql.down
def N98:=bp f98
def x98:=PLift.up (by have c:=bq N98 f98;simp only [aI,f98,seval] at c;exact nd c <| nd @VW <| @Xy)
theorem S8:type_of% x98.down:=x98.down
def N97:=bp f97
def x97:=PLift.up (by have c:=bq N97 f97;simp only [aI,f97,seval] at c;exact nd c <| nd @u9 <| @Xx)
theorem S7:type_of% x97.down:=x97.down
theorem VU (M:Nat):od aA 176 [(2,.map (some M))]=some (.agg #[.slice none 0 0,.slice none 0 0,.map (some M)]):=by kernel_rfl
theorem zCX (N:Nat) (h:Heap) (FI FE:Nat) (hI:N<=FI/\FI < h.size) (hE:N<=FE/\FE < h.size) (ba:FI≠FE) (K:aG) (hk:∀ h' T0 FM,Ext h h'->eQ N h' T0 FI FE FM [] [] []->h.size<=T0->h.size<=FM->K (.pointer (some ⟨T0,0,none⟩)) h'):Ok prog aA ov 96 [] h K:=by
 have z:=Ext.refl h
 rw [ao h]
 refine Ok.aq 4 (bm N96) ?_
 simp only [aa,seval,c96,VU,Rj]
 refine hk _ (h.size+1) (h.size+0) z.au ?_ (by omega) (by omega)
 have hs:(h.lay [bh.map [] 0,bh.row [Value.slice none 0 0,Value.slice none 0 0,Value.map (some (h.size+0))] 176 false] h.low).size=h.size+2:=by rw [bf];rfl
 refine ⟨⟨_,_,⟨by omega,by rw [gH];rfl⟩,.nil,.nil⟩,dI.new ⟨by omega,by rw [gH];rfl⟩,⟨by omega,by omega,by omega,by omega,by omega,by omega⟩,⟨by omega,by omega,by omega,by omega⟩,⟨by omega,by omega,by omega,by omega⟩⟩
theorem zCL {e e2:List fp} {vs:aB->Nat} (p:dg f e kv us) (q:dg f2 e2 kw vs) (h:∀ x,0 < us x↔0 < vs x):kv.length=kw.length:=zxA p.kn q.kn λt=>by rw [p.has,q.has];exact h t
theorem zG1 {e e2:List fp} (p:dg f e kv us) (q:dg f2 e2 kw (ia us t (us t+1))):kw.length<=kv.length+1:=by
 have h1:kw.length=(gz kv t undef).length:=zxA q.kn (Us p.kn t _) λx=>by
  rw [q.has,Rm]
  by_cases hx:x=t
  .rw [aE hx,hx,zp];simp
  .rw [az hx,vX hx,p.has]
 have h2:=congrArg List.length (zp9 kv t undef)
 rw [fV] at h2
 rw [h1,h2]
 split
 .rw [fV];omega
 .rw [cW,fV];simp
theorem zCK {e e2:List fp} {n:Nat} (p:dg f e kv us) (q:dg f2 e2 kw (ia us t n)) (ht:0 < us t):kw.length<=kv.length:=by
 by_cases hn:n=0
 .have h1:kw.length=(nh kv t).length:=zxA q.kn (zhG p.kn t) λx=>by
   rw [q.has,zjB]
   by_cases hx:x=t
   .rw [aE hx,hx,zp,hn];simp
   .rw [az hx,vX hx,p.has]
  rw [h1]
  exact AO _ _
 .refine Nat.le_of_eq (zCL q p λx=>?_)
  by_cases hx:x=t
  .rw [hx,zp];omega
  .rw [vX hx]
def eD (N b:Nat) (h:Heap) (D:List Nat) (T0:Nat) (us:aB->Nat):Prop:=∃ FI FE FM free aY kv,D=[T0,FI,FE,FM]/\eQ N h T0 FI FE FM free aY kv/\dg free aY kv us/\aY.length<=b/\kv.length<=b
theorem eD.lay {N b:Nat} {h:Heap} {D:List Nat} {T0:Nat} {us:aB->Nat} (t:eD N b h D T0 us) (bs:List bh) (w:Nat):eD N b (h.lay bs w) D T0 us:=by
 obtain ⟨FI,FE,FM,free,aY,kv,rfl,st,p⟩:=t
 exact ⟨FI,FE,FM,free,aY,kv,rfl,st.lay _ _,p⟩
theorem eD.over {N b w:Nat} {h h2:Heap} {bs:List bh} {D:List Nat} {T0:Nat} {us:aB->Nat} (t:eD N b h D T0 us) (x:Ext (h.lay bs w) h2):eD N b h2 D T0 us:=by
 obtain ⟨FI,FE,FM,free,aY,kv,rfl,st,p⟩:=t
 exact ⟨FI,FE,FM,free,aY,kv,rfl,st.over x,p⟩
theorem eD.ck {N b:Nat} {h h2:Heap} {D D2:List Nat} {T0:Nat} {us:aB->Nat} (t:eD N b h D T0 us) (f:aQ D2 h h2) (hd:∀ B∈D,B ∉ D2):eD N b h2 D T0 us:=by
 obtain ⟨FI,FE,FM,free,aY,kv,rfl,st,p⟩:=t
 exact ⟨FI,FE,FM,free,aY,kv,rfl,st.ck f ⟨hd _ (by simp),hd _ (by simp),hd _ (by simp),hd _ (by simp)⟩,p⟩
theorem eD.lo {N b:Nat} {h:Heap} {D:List Nat} {T0:Nat} {us:aB->Nat} (t:eD N b h D T0 us):∀ B∈D,N<=B/\B < h.size:=by
 obtain ⟨FI,FE,FM,free,aY,kv,rfl,st,p⟩:=t
 obtain ⟨_,_,_,lo,hi⟩:=st
 intro B hB
 simp only [dG,xk,or_false] at hB
 rcases hB with rfl|rfl|rfl|rfl
 .exact ⟨lo.1,hi.1⟩
 .exact ⟨lo.2.1,hi.2.1⟩
 .exact ⟨lo.2.2.1,hi.2.2.1⟩
 .exact ⟨lo.2.2.2,hi.2.2.2⟩
theorem eD.le {N b b2:Nat} {h:Heap} {D:List Nat} {T0:Nat} (t:eD N b h D T0 us) (hb:b<=b2):eD N b2 h D T0 us:=by
 obtain ⟨FI,FE,FM,free,aY,kv,rfl,st,p,he,hv⟩:=t
 exact ⟨FI,FE,FM,free,aY,kv,rfl,st,p,by omega,by omega⟩
theorem zAl (h hc:Heap) (z:Ext h hc) (D:List Nat) (T0 b:Nat) (us:aB->Nat) (t:aB) (st:eD h.size b hc D T0 us) (hb:b < 65536) (ht:t.size≠0) (ht2:t.size<=255) (kV:us t < 1000000000000) (K:aG)
 (hk:∀ h' n D2,Ext h h'->aQ D hc h'->eD h.size (b+1) h' D2 T0 (ia us t (us t+1))->(∀ B∈D2,B∈D\/hc.size<=B)->K (.tuple #[.int .i64 n,.int .i64 0]) h'):Ok prog aA ov 73 [.pointer (some ⟨T0,0,none⟩),.string t] hc K:=by
 obtain ⟨FI,FE,FM,free,aY,kv,rfl,s,p,he,hv⟩:=st
 refine zAm h hc z T0 FI FE FM free aY kv us t s p ht ht2 (by omega) (by omega) kV K (λh' n I2 E2 f2 e2 Ci z' fr' s' p' hI hE uA=>hk h' n [T0,I2,E2,FM] z' fr' ⟨I2,E2,FM,f2,e2,Ci,rfl,s',p',by omega,by have:=zG1 p p';omega⟩ (λB hB=>?_))
 simp only [dG,xk,or_false] at hB
 rcases hB with rfl|rfl|rfl|rfl
 .exact .inl (by simp)
 .exact hI.imp (λe=>by rw [e];simp) id
 .exact hE.imp (λe=>by rw [e];simp) id
 .exact .inl (by simp)
theorem eD.num {N b:Nat} {h:Heap} {D:List Nat} {T0:Nat} (d:eD N b h D T0 us) (ht:0 < us t):∃ FI FE FM free aY kv,∃ i:Nat,D=[T0,FI,FE,FM]/\eQ N h T0 FI FE FM free aY kv/\dg free aY kv us/\aY.length<=b/\kv.length<=b/\dV kv t=some (.int .i64 (i:Int)):=by
 obtain ⟨FI,FE,FM,free,aY,kv,rfl,s,p,he,hv⟩:=d
 have h1:=(p.has t).2 ht
 cases hl:dV kv t with
 |none=>rw [hl] at h1;cases h1
 |some v =>
  obtain ⟨i,rfl,_⟩:=p.val t v hl
  exact ⟨FI,FE,FM,free,aY,kv,i,rfl,s,p,he,hv,hl⟩
theorem aaL (a) (h:Heap) (K:aG):aD (some (.pointer (some a))) h K=K (.pointer (some a)) h:=rfl
theorem zlY (hn:l.Nodup) (hc:l[i]? = some c):c ∉ l.take i:=λhm=>by
 have h1:=qo i l
 rw [<- h1,R4] at hn
 obtain ⟨hi,qx⟩:=dz.1 hc
 exact hn.2.2 c hm c (by rw [C0 hi,qx];exact lj) rfl
open Classical in
def kN (us:aB->Nat) (l:List aB):aB->Nat:=λx=>if x∈l then us x+1 else us x
open Classical in
def jX (us:aB->Nat) (l:List aB):aB->Nat:=λx=>if x∈l then us x - 1 else us x
theorem zzp (hn:l.Nodup) (hc:l[i]? = some c):ia (kN us (l.take i)) c (kN us (l.take i) c+1)=kN us (l.take (i+1))/\kN us (l.take i) c=us c:=by
 have h0:kN us (l.take i) c=us c:=az (zlY hn hc)
 refine ⟨funext λx=>?_,h0⟩
 have ht:l.take (i+1)=l.take i++[c]:=by rw [nT,hc];rfl
 rw [ht]
 by_cases hx:x=c
 .subst hx
  rw [zp,h0]
  unfold kN
  rw [aE (by simp)]
 .rw [vX hx]
  unfold kN
  by_cases hm:x∈l.take i
  .rw [aE hm,aE (by simp [hm])]
  .rw [az hm,az (by simp [hm,hx])]
theorem zAU (hn:l.Nodup) (hc:l[i]? = some c):ia (jX us (l.take i)) c (jX us (l.take i) c - 1)=jX us (l.take (i+1))/\jX us (l.take i) c=us c:=by
 have h0:jX us (l.take i) c=us c:=az (zlY hn hc)
 refine ⟨funext λx=>?_,h0⟩
 have ht:l.take (i+1)=l.take i++[c]:=by rw [nT,hc];rfl
 rw [ht]
 by_cases hx:x=c
 .subst hx
  rw [zp,h0]
  unfold jX
  rw [aE (by simp)]
 .rw [vX hx]
  unfold jX
  by_cases hm:x∈l.take i
  .rw [aE hm,aE (by simp [hm])]
  .rw [az hm,az (by simp [hm,hx])]
theorem zBP (us:aB->Nat):kN us []=us:=funext λx=>az (by simp)
theorem zDf (us:aB->Nat):jX us []=us:=funext λx=>az (by simp)
theorem zAk (a:ak) (h hc:Heap) (z:Ext h hc) (D:List Nat) (T0 b:Nat) (us:aB->Nat) (st:eD h.size b hc D T0 us) (hb:b < 60000) (dS:∀ x,zw a x->x.size≠0/\x.size<=255) (kV:∀ x,us x < 1000000000) (K:aG)
 (hk:∀ h' cs D2,Ext h h'->aQ D hc h'->cs.length<=4->cs.Nodup->(∀ x,x∈cs↔zw a x)->eD h.size (b+4) h' D2 T0 (kN us cs)->(∀ B∈D2,B∈D\/hc.size<=B)->K undef h'):Ok prog aA ov 41 [.agg #[.pointer (some ⟨T0,0,none⟩)],a.val] hc K:=by
 rw [ao hc]
 refine Ok.aq 16 (bm N41) ?_
 simp only [aa,seval,Is,fA,↓dW,dO,da]
 have MR:∀ B∈D,B < hc.size:=λB hB=>(st.lo B hB).2
 refine zlL a _ _ (λw cs h' x s yv i6 b9=>?_)
 have q0:=Holds.top (i:=0) x rfl
 have fr:aQ D hc h':=(aQ.refl D hc).over x
 (replace z:=z.aj x;replace st:=st.over x;rw [ao h'])
 replace s:=s D (λB hB=>by rw [bf];have:=MR B hB;omega)
 obtain ⟨A0,dK⟩:∃ A0,A0=hc.size+0:=⟨_,rfl⟩
 rw [<- dK] at q0
 rw [<- dK]
 have xS:A0 ∉ D:=λhm=>by have:=MR _ hm;omega
 rw [<- zBP us] at st
 have qC:=λ(hh:Heap)=>s.bt cQ hh
 simp only [aa,seval,Is,qC]
 obtain ⟨I1,aO⟩:∃ I:Nat->Env->Heap->Prop,I=(λn e h'=>∃ (i:Nat) (D1:List Nat) (h1:Heap),h'=h1.lay [] h1.low/\Ext h h1/\(n=cs.length - i/\i<=cs.length/\eD h.size (b+i) h1 D1 T0 (kN us (cs.take i))/\Holds h1 A0 (.row [.pointer (some ⟨T0,0,none⟩)] 97 false)/\A0 ∉ D1/\Sl aJ.str (aM D1 h1) w cs/\aQ D hc h1/\(∀ B∈D1,B∈D\/hc.size<=B))/\∃ J:Nat->ae,e=(jr J 0 2 (.pointer (some ⟨A0,0,none⟩)::jr J 3 4 (w::.int .i64 cs.length::.int .i64 i::jr J 10 8 ([]))))):=⟨_,rfl⟩
 refine cK I1 _ (by rw [aO];exact ⟨0,D,_,rfl,z,⟨rfl,by omega,st,q0,xS,s,fr,λB hB=>.inl hB⟩,bc⟩) ?_
 intro n e h' aK
 rw [aO] at aK
 obtain ⟨i,D1,bD,rfl,z,hinv,J,rfl⟩:=aK
 clear st q0 s fr xS
 obtain ⟨rfl,hi,st,q0,xS,s,fr,FT⟩:=hinv
 have hs:=s.mono (tT D1 bD)
 have fb:=dE i (by omega)
 have oI:=fr.size
 simp only [aa,seval,Is]
 refine bg (λaP=>?_) (λlq=>?_)
 rotate_left
 .have he:i=cs.length:=by omega
  rw [he,fX (bo _)] at st
  simp only [aa,seval,Is]
  exact hk _ cs D1 z.au (fr.trans (aQ.lay _ _ _ []) (λ_ h=>nomatch h)) yv i6 b9 ((st.lay _ _).le (by omega)) FT
 obtain ⟨c,hr,bM⟩:=eb (l:=cs) (i:=i) (by omega)
 have lL:=dS c ((b9 c).1 (ig bM))
 obtain ⟨tJ,yR⟩:=zzp (us:=us) i6 bM
 have Zt:=kV c
 repeat' (first|simp only [aa,seval,Is,q0.lay]|with_reducible refine oT hs cQ mU (by omega) hr (λp hp=>?_)|with_reducible refine fo hp gU ?_)
 refine zAl h _ z.au D1 T0 (b+i) _ c (st.lay _ _) (by omega) lL.1 lL.2 (by rw [yR];omega) _ (λh3 nn D2 z3 fI kA xT=>?_)
 rw [tJ] at kA
 have jm:aQ D1 bD h3:=(aQ.lay bD [] bD.low D1).trans fI (λB hB=>.inl hB)
 have s3:=s.mono (jm.inc (D':=D2) (λB hB=>(xT B hB).imp id (λe=>by rw [bf] at e;omega)))
 have q3:=q0.ck jm xS
 have FR:A0 ∉ D2:=λhm=>by
  rcases xT _ hm with e|e
  .exact xS e
  .have:=q0.lt;rw [bf] at e;omega
 have nV:aQ D hc h3:=fr.trans jm (λB hB=>FT B hB)
 have tu:∀ B∈D2,B∈D\/hc.size<=B:=λB hB=>(xT B hB).elim (FT B) (λe=>.inr (by rw [bf] at e;omega))
 clear z
 have z:=z3
 rw [ao h3]
 simp only [aa,seval,Is]
 rw [fb]
 (rw [aO];with_reducible refine bS (m:=_) ?_ ⟨i+1,D2,_,rfl,z,⟨rfl,by omega,kA.le (by omega),q3,FR,s3,nV,tu⟩,bc⟩;omega)
theorem zz9 (a:ak) (h hc:Heap) (z:Ext h hc) (D:List Nat) (T0 b:Nat) (us:aB->Nat) (st:eD h.size b hc D T0 us) (hb:b < 60000) (jS:∀ x,zw a x->0 < us x) (kV:∀ x,us x < 1000000000) (K:aG)
 (hk:∀ h' cs D2,Ext h h'->aQ D hc h'->cs.length<=4->cs.Nodup->(∀ x,x∈cs↔zw a x)->eD h.size b h' D2 T0 (jX us cs)->(∀ B∈D2,B∈D\/hc.size<=B)->K undef h'):Ok prog aA ov 43 [.agg #[.pointer (some ⟨T0,0,none⟩)],a.val] hc K:=by
 rw [ao hc]
 refine Ok.aq 26 (bm N43) ?_
 simp only [aa,seval,Fv,fA,↓dW,dO,da]
 have MR:∀ B∈D,B < hc.size:=λB hB=>(st.lo B hB).2
 refine zlL a _ _ (λw cs h' x s yv i6 b9=>?_)
 have q0:=Holds.top (i:=0) x rfl
 have fr:aQ D hc h':=(aQ.refl D hc).over x
 (replace z:=z.aj x;replace st:=st.over x;rw [ao h'])
 replace s:=s D (λB hB=>by rw [bf];have:=MR B hB;omega)
 obtain ⟨A0,dK⟩:∃ A0,A0=hc.size+0:=⟨_,rfl⟩
 rw [<- dK] at q0
 rw [<- dK]
 have xS:A0 ∉ D:=λhm=>by have:=MR _ hm;omega
 rw [<- zDf us] at st
 have qC:=λ(hh:Heap)=>s.bt cQ hh
 simp only [aa,seval,Fv,qC]
 obtain ⟨I1,aO⟩:∃ I:Nat->Env->Heap->Prop,I=(λn e h'=>∃ (i:Nat) (D1:List Nat) (h1:Heap),h'=h1.lay [] h1.low/\Ext h h1/\(n=cs.length - i/\i<=cs.length/\eD h.size b h1 D1 T0 (jX us (cs.take i))/\Holds h1 A0 (.row [.pointer (some ⟨T0,0,none⟩)] 97 false)/\A0 ∉ D1/\Sl aJ.str (aM D1 h1) w cs/\aQ D hc h1/\(∀ B∈D1,B∈D\/hc.size<=B))/\∃ J:Nat->ae,e=(jr J 0 2 (.pointer (some ⟨A0,0,none⟩)::jr J 3 6 (w::.int .i64 cs.length::.int .i64 i::jr J 12 16 ([]))))):=⟨_,rfl⟩
 refine cK I1 _ (by rw [aO];exact ⟨0,D,_,rfl,z,⟨rfl,by omega,st,q0,xS,s,fr,λB hB=>.inl hB⟩,bc⟩) ?_
 intro n e h' aK
 rw [aO] at aK
 obtain ⟨i,D1,bD,rfl,z,hinv,J,rfl⟩:=aK
 clear st q0 s fr xS
 obtain ⟨rfl,hi,st,q0,xS,s,fr,FT⟩:=hinv
 have hs:=s.mono (tT D1 bD)
 have fb:=dE i (by omega)
 have oI:=fr.size
 simp only [aa,seval,Fv]
 refine bg (λaP=>?_) (λlq=>?_)
 rotate_left
 .have he:i=cs.length:=by omega
  rw [he,fX (bo _)] at st
  simp only [aa,seval,Fv]
  exact hk _ cs D1 z.au (fr.trans (aQ.lay _ _ _ []) (λ_ h=>nomatch h)) yv i6 b9 ((st.lay _ _).le (by omega)) FT
 obtain ⟨c,hr,bM⟩:=eb (l:=cs) (i:=i) (by omega)
 have lL:=jS c ((b9 c).1 (ig bM))
 obtain ⟨tJ,yR⟩:=zAU (us:=us) i6 bM
 have Zt:=kV c
 repeat' (first|simp only [aa,seval,Fv,q0.lay]|with_reducible refine oT hs cQ mU (by omega) hr (λp hp=>?_)|with_reducible refine fo hp gU ?_)
 obtain ⟨FI,FE,FM,free,aY,kv,m,hDe,ts,tp,Aa,ny,hlk⟩:=st.num (t:=c) (by rw [yR];exact lL)
 refine zAe c (some m) _ T0 FI FE FM h.size free aY kv (ts.lay _ _) hlk _ (λh' x=>?_)
 replace ts:=ts.over x
 have pK:aQ D1 bD h':=(aQ.refl D1 bD).over x
 (replace z:=z.aj x;replace st:=st.over x;replace q0:=q0.over x;rw [ao h'])
 simp only [J3,J0]
 repeat' (simp only [aa,seval,Fv,q0.lay])
 refine zAa h _ z.au T0 FI FE FM free aY kv _ c m (ts.lay _ _) tp hlk (by omega) (by rw [yR];omega) _ (λh3 I2 f2 e2 Ci z3 fI kA tp3 hI uA=>?_)
 obtain ⟨D2,MQ⟩:∃ D2,D2=[T0,I2,FE,FM]:=⟨_,rfl⟩
 replace kA:eD h.size b h3 D2 T0 (ia (jX us (cs.take i)) c (jX us (cs.take i) c - 1)):=⟨I2,FE,FM,f2,e2,Ci,MQ,kA,tp3,by omega,by have:=zCK tp tp3 (by rw [yR];exact lL);omega⟩
 rw [<- hDe] at fI
 have xT:∀ B∈D2,B∈D1\/(h'.lay [] h'.low).size<=B:=λB hB=>by
  rw [MQ] at hB
  rw [hDe]
  simp only [dG,xk,or_false] at hB
  rcases hB with rfl|rfl|rfl|rfl
  .exact .inl (by simp)
  .exact hI.imp (λe=>by rw [e];simp) id
  .exact .inl (by simp)
  .exact .inl (by simp)
 rw [tJ] at kA
 have jm:aQ D1 bD h3:=(pK.trans (aQ.lay h' [] h'.low D1) (λB hB=>.inl hB)).trans fI (λB hB=>.inl hB)
 have ka:=pK.size
 have s3:=s.mono (jm.inc (D':=D2) (λB hB=>(xT B hB).imp id (λe=>by rw [bf] at e;omega)))
 have q3:=q0.ck ((aQ.lay h' [] h'.low D1).trans fI (λB hB=>.inl hB)) xS
 have FR:A0 ∉ D2:=λhm=>by
  rcases xT _ hm with e|e
  .exact xS e
  .have:=q0.lt;rw [bf] at e;omega
 have nV:aQ D hc h3:=fr.trans jm (λB hB=>FT B hB)
 have tu:∀ B∈D2,B∈D\/hc.size<=B:=λB hB=>(xT B hB).elim (FT B) (λe=>.inr (by rw [bf] at e;omega))
 clear z
 have z:=z3
 rw [ao h3]
 simp only [aa,seval,Fv]
 rw [fb]
 (rw [aO];with_reducible refine bS (m:=_) ?_ ⟨i+1,D2,_,rfl,z,⟨rfl,by omega,kA.le (by omega),q3,FR,s3,nV,tu⟩,bc⟩;omega)
end Go.Proofs.YtkgojconmeeegaaGreatDoor

/- Walks: an atom's constants, each once. Written out by fill2.py. No condition. -/
import Derived.Test.YtmamldleclamjaaGreatDoorZQ0
import Derived.Test.YtmamldleclamjaaGreatDoorG34
set_option linter.unusedSimpArgs false
set_option linter.unusedVariables false
set_option maxRecDepth 100000
set_option maxHeartbeats 0
noncomputable section
namespace Go.Proofs.YtmamldleclamjaaGreatDoor
open Go.Am Tryz
variable {us:au->Nat} {kv kw:List (au × ah)} {f f2:List Int} {c t:au} {N T0 b i:Nat} {D:List Nat} {h:Heap} {l:List au}
theorem zw9 (a:aj) (bv:Bool) (h:Heap) (K:aI) (hk:∀ w l h',Ext h h'->(∀ D:List Nat,(∀ B∈D,B < h.size)->Sl aK.str (aD D h') w l)->l.length<=4->l.Nodup->(∀ x,x∈l↔∃ i:Nat,i < a.bQ/\(a.arg i).v=bv/\(a.arg i).s=x)->K w h'):Ok prog aG ov 96 [a.val,.bool bv] h K:=by
 rw [ao h]
 have z:=Ext.refl h
 have CI:=Tp a
 refine Ok.aw 31 (bu Ud) ?_
 repeat' (simp only [aa,seval,ql,gI,↓eP,ef,dy])
 refine Qf a _ _ (λw h' x sw=>?_)
 (replace z:=z.an x;rw [ao h'])
 have qo:=λ(hh:Heap)=>sw.bn zf hh
 have W5:=wO a
 have rU:=z.size
 simp only [aa,seval,ql,qo]
 obtain ⟨Hb,rfl⟩:∃ Hb,Hb=h':=⟨_,rfl⟩
 obtain ⟨I1,aX⟩:∃ I:Nat->Env->Heap->Prop,I=(λn e h'=>∃ (i:Nat) (wv:ah) (A:Nat) (l:List au) (h1:Heap),h'=h1.lay [] h1.low/\Ext h h1/\(n=a.bQ - i/\i<=a.bQ/\l.length<=i/\(∀ x,x∈l↔∃ j:Nat,j < i/\(a.arg j).v=bv/\(a.arg j).s=x)/\Ow aK.str h h1 9 A wv l/\bH Hb h1/\Hb.size<=A/\l.Nodup)/\∃ J:Nat->ah,e=(J 0::.bool bv::jr J 2 3 (wv::jr J 6 3 (w::.int .i64 a.args.length::.int .i64 i::jr J 12 21 ([]))))):=⟨_,rfl⟩
 refine du I1 _ (by rw [aX];exact ⟨0,.slice none 0 0,Hb.size,[],_,rfl,z,⟨rfl,by omega,by simp,by simp,Ow.nil (by omega),bH.refl _,bo _,List.nodup_nil⟩,bm⟩) ?_
 intro n e h' aP
 rw [aX] at aP
 obtain ⟨i,wv,A,l,bx,rfl,z,hinv,J,rfl⟩:=aP
 obtain ⟨rfl,hi,s7,bY,ow,ib,zB,gw⟩:=hinv
 have gk:=ei i (by omega)
 simp only [aa,seval,ql]
 refine bq (λaW=>?_) (λaW=>?_)
 rotate_left
 .have he:i=a.bQ:=by omega
  rw [he] at bY
  repeat' (simp only [aa,seval,ql])
  exact hk _ _ _ z.aC (λD hD=>(ow.mono (bH.lay _ _ _)).aD (λ_ _ _ _ q=>q) (by decide) hD) (by omega) gw bY
 have qS:=Go.Am.args_at (a:=a) (i:=i) (by omega)
 rcases wB:a.arg i with ⟨rv,rs⟩
 rw [wB] at qS
 have hr:a.args[(i:Int).toNat]? = some ⟨rv,rs⟩:=by rw [Qz];exact qS
 have mJ:∀ x,(∃ j:Nat,j < i+1/\(a.arg j).v=bv/\(a.arg j).s=x)↔(∃ j:Nat,j < i/\(a.arg j).v=bv/\(a.arg j).s=x)\/(rv=bv/\rs=x):=by
  intro x
  constructor
  .rintro ⟨j,hj,e⟩
   by_cases Bd:j=i
   .subst Bd
    rw [wB] at e
    exact .inr e
   .exact .inl ⟨j,by omega,e⟩
  .rintro (⟨j,hj,e⟩|e)
   .exact ⟨j,by omega,e⟩
   .exact ⟨i,by omega,by rw [wB];exact e⟩
 repeat' (first|simp only [aa,seval,ql,r5,nC,po,Am.one,tG,nR,BK,aZ.val,aZ.cells]|with_reducible refine QJ (sw.mono ib) zf kC (by omega) hr (λp hp=>?_)|with_reducible refine Ix hp sC kC ?_)
 have lV:(¬ rv=bv\/rs∈l)->∀ x,x∈l↔∃ j:Nat,j < i+1/\(a.arg j).v=bv/\(a.arg j).s=x:=by
  intro hs x
  rw [mJ,<- bY]
  refine ⟨.inl,λe=>e.elim id (λe=>?_)⟩
  rcases hs with hs|hs
  .exact absurd e.1 hs
  .rw [<- e.2];exact hs
 have oY:rv=bv->∀ x,x∈l++[rs]↔∃ j:Nat,j < i+1/\(a.arg j).v=bv/\(a.arg j).s=x:=by
  intro hs x
  rw [mJ,<- bY,iA,fH]
  exact ⟨λe=>e.imp id (λe=>⟨hs,e.symm⟩),λe=>e.imp id (λe=>e.2.symm)⟩
 have b1:(true == false)=false:=rfl
 have b2:(false == true)=false:=rfl
 have b3:(true == true)=true:=rfl
 have b4:(false == false)=true:=rfl
 have uj:=z.size
 cases rv
 all_goals
  cases bv
  all_goals
   repeat' (simp only [aa,seval,ql,zr7,b1,b2])
 all_goals first
  |(rw [gk]
    have yr:=lV (.inl (by decide))
    refine SN z.aC (λH z hO hI=>?_)
    (rw [aX];with_reducible refine cy (m:=_) ?_ ⟨i+1,wv,A,l,_,rfl,z,⟨rfl,by omega,by omega,yr,ow.mono hI,ib.trans hI,zB,gw⟩,bm⟩;omega))
  |skip
 all_goals
  refine IG l wv rs _ ((ow.sl (by decide)).lay _ _) (by omega) _ (λh' x=>?_)
  have q0:=Holds.top (i:=0) x rfl
  (replace z:=z.an x;replace ow:=ow.over x;replace ib:=ib.over x;rw [ao h'])
  cases aP:l.any λx=>decide (rs=x)
  rotate_left
  .have yr:=lV (.inr (by obtain ⟨y,hy,e⟩:=tF.1 aP;rw [of_decide_eq_true e];exact hy))
   repeat' (first|simp only [aa,seval,ql]|((with_reducible apply ct);(· rfl)))
   rw [gk]
   (rw [aX];with_reducible refine cy (m:=_) ?_ ⟨i+1,wv,A,l,_,rfl,z,⟨rfl,by omega,by omega,yr,ow,ib,zB,gw⟩,bm⟩;omega)
  have lW:=oY rfl
  have FN:(l++[rs]).Nodup:=by
   rw [QA]
   refine ⟨gw,by simp,λx hx y hy e=>?_⟩
   rw [fH] at hy
   rw [hy] at e
   have hf:=Aq.1 aP x hx
   rw [e] at hf
   simp at hf
  repeat' (first|simp only [aa,seval,ql,q0.lay]|((with_reducible apply ct);(· rfl)))
  simp only [dx,seval,ly,T8]
 all_goals
  refine zvB (i:=0) (cs:=[.string rs]) (x:=rs) cG zV rfl (by decide) (by rfl) z.size ow rfl (by omega) (by omega) (λw3 h3 A3 Zf pD Cz=>?_)
  have Bb:=ow.fresh
  have YP:=bH.ji (ib.trans (bH.lay _ _ _)) pD zB
  have H8:=ib.size
  replace z:=z.aC.step pD (by omega)
  rw [ao h3]
  repeat' (simp only [aa,seval,ql])
  rw [gk]
  clear ow q0
  (rw [aX];with_reducible refine cy (m:=_) ?_ ⟨i+1,w3,A3,l++[rs],_,rfl,z,⟨rfl,by omega,by rw [dI,v8];omega,lW,Zf,YP,by omega,FN⟩,bm⟩;omega)
def wQ (a:aj) (x:au):Prop:=∃ i:Nat,i < a.bQ/\(a.arg i).v=false/\(a.arg i).s=x
theorem zlT (a:aj) (h:Heap) (K:aI) (hk:∀ w l h',Ext h h'->(∀ D:List Nat,(∀ B∈D,B < h.size)->Sl aK.str (aD D h') w l)->l.length<=4->l.Nodup->(∀ x,x∈l↔wQ a x)->K w h'):Ok prog aG ov 63 [a.val] h K:=by
 rw [ao h]
 have z:=Ext.refl h
 refine Ok.aw 4 (bu N63) ?_
 repeat' (simp only [aa,seval,c63,gI,↓eP,ef,dy])
 refine zw9 a false _ _ (λw l h' x s hl hn hm=>?_)
 (replace z:=z.an x;rw [ao h'])
 repeat' (simp only [aa,seval,c63])
 exact hk _ _ _ z.aC (λD hD=>(s D (λB hB=>by rw [bd];have:=hD B hB;omega)).mono ((aM.lay h' [] h'.low D).inc (λB hB=>.inl hB))) hl hn hm
def N35:=bB f35
def x35:=PLift.up (by have c:=bD N35 f35;simp only [aL,f35,seval] at c;exact nd c <| nd @zwj <| nd @kx <| nd @b8 <| nd @Gr <| nd @gH <| nd @ky <| nd @Vw <| @Wy)
theorem HQ:type_of% x35.down:=x35.down
def N48:=bB f48
def x48:=PLift.up (by have c:=bD N48 f48;simp only [aL,f48,seval] at c;exact nd c <| nd @zwj <| nd @kx <| nd @b8 <| nd @Gr <| nd @gH <| nd @ky <| nd @VI <| @Wz)
theorem EB:type_of% x48.down:=x48.down
def N32:=bB f32
def x32:=PLift.up (by have c:=bD N32 f32;simp only [aL,f32,seval] at c;exact nd c <| nd @Us <| nd @Hq <| nd @Jr <| nd @QB <| nd @ni <| nd @vB <| nd @nj <| nd @Vt <| @eV)
theorem EA:type_of% x32.down:=x32.down
def Ua:=bB f31
def x31:=PLift.up (by have c:=bD Ua f31;simp only [aL,f31,seval] at c;exact nd c <| nd @eV <| @Vs)
theorem tL:type_of% x31.down:=x31.down
def N7:=bB f7
def x7:=PLift.up (by have c:=bD N7 f7;simp only [aL,f7,seval] at c;exact nd c <| nd @eV <| @fi7)
theorem c7:type_of% x7.down:=x7.down
def N45:=bB f45
def x45:=PLift.up (by have c:=bD N45 f45;simp only [aL,f45,seval] at c;exact nd c <| nd @K5 <| nd @zwk <| nd @Ju <| nd @zAo <| nd @zAp <| nd @eV <| nd @b8 <| nd @k8 <| nd @yE <| nd @tm <| nd @gl <| @VF)
theorem pA:type_of% x45.down:=x45.down
def N25:=bB f25
def x25:=PLift.up (by have c:=bD N25 f25;simp only [aL,f25,seval] at c;exact nd c <| nd @QB <| nd @TU <| nd @zwk <| nd @nj <| nd @b8 <| nd @Gs <| @Vm)
theorem AN:type_of% x25.down:=x25.down
def N26:=bB f26
def x26:=PLift.up (by have c:=bD N26 f26;simp only [aL,f26,seval] at c;exact nd c <| nd @TU <| nd @b8 <| nd @Gs <| @Vn)
theorem Cp:type_of% x26.down:=x26.down
def N13:=bB f13
def OD:=PLift.up (by have c:=bD N13 f13;simp only [aL,f13,seval] at c;exact nd c <| nd @Ju <| nd @zwn <| nd @tm <| nd @GA <| @Vc)
theorem UH:type_of% OD.down:=OD.down
def N19:=bB f19
def Pm:=PLift.up (by have c:=bD N19 f19;simp only [aL,f19,seval] at c;exact nd c <| nd @vV <| nd @Ju <| nd @zwn <| nd @b8 <| nd @tm <| nd @gH <| nd @GA <| @Vi)
theorem HP:type_of% Pm.down:=Pm.down
def N15:=bB f15
def OY:=PLift.up (by have c:=bD N15 f15;simp only [aL,f15,seval] at c;exact nd c <| nd @Ju <| nd @zC8 <| nd @tm <| nd @Zh <| @Ve)
theorem c15:type_of% OY.down:=OY.down
def N17:=bB f17
def Pd:=PLift.up (by have c:=bD N17 f17;simp only [aL,f17,seval] at c;exact nd c <| nd @Ju <| nd @zwn <| nd @tm <| nd @gl <| nd @GA <| @Vg)
theorem c17:type_of% Pd.down:=Pd.down
def N21:=bB f21
def Ps:=PLift.up (by have c:=bD N21 f21;simp only [aL,f21,seval] at c;exact nd c <| nd @zwj <| nd @TU <| nd @Gr <| @Vk)
theorem c21:type_of% Ps.down:=Ps.down
def N56:=bB f56
def x56:=PLift.up (by have c:=bD N56 f56;simp only [aL,f56,seval] at c;exact nd c <| nd @UD <| @VQ)
theorem Ra:type_of% x56.down:=x56.down
def N55:=bB f55
def x55:=PLift.up (by have c:=bD N55 f55;simp only [aL,f55,seval] at c;exact nd c <| nd @uK <| @VP)
theorem Q9:type_of% x55.down:=x55.down
theorem K7 (M:Nat):qg aG 118 [(2,.map (some M))]=some (.agg #[.slice none 0 0,.slice none 0 0,.map (some M)]):=by kernel_rfl
theorem zB1 (N:Nat) (h:Heap) (FI FE:Nat) (hI:N<=FI/\FI < h.size) (hE:N<=FE/\FE < h.size) (aS:FI≠FE) (K:aI) (hk:∀ h' T0 FM,Ext h h'->eu N h' T0 FI FE FM [] [] []->h.size<=T0->h.size<=FM->K (.pointer (some ⟨T0,0,none⟩)) h'):Ok prog aG ov 54 [] h K:=by
 have z:=Ext.refl h
 rw [ao h]
 refine Ok.aw 4 (bu Uc) ?_
 simp only [aa,seval,c54,K7,G4]
 refine hk _ (h.size+1) (h.size+0) z.aC ?_ (by omega) (by omega)
 have hs:(h.lay [ba.map [] 0,ba.row [Value.slice none 0 0,Value.slice none 0 0,Value.map (some (h.size+0))] 118 false] h.low).size=h.size+2:=by rw [bd];rfl
 refine ⟨⟨_,_,⟨by omega,by rw [iB];rfl⟩,.nil,.nil⟩,dn.new ⟨by omega,by rw [iB];rfl⟩,⟨by omega,by omega,by omega,by omega,by omega,by omega⟩,⟨by omega,by omega,by omega,by omega⟩,⟨by omega,by omega,by omega,by omega⟩⟩
theorem zBN {e e2:List fe} {vs:au->Nat} (p:df f e kv us) (q:df f2 e2 kw vs) (h:∀ x,0 < us x↔0 < vs x):kv.length=kw.length:=zwI p.kn q.kn λt=>by rw [p.has,q.has];exact h t
theorem zFe {e e2:List fe} (p:df f e kv us) (q:df f2 e2 kw (fU us t (us t+1))):kw.length<=kv.length+1:=by
 have h1:kw.length=(gp kv t undef).length:=zwI q.kn (SQ p.kn t _) λx=>by
  rw [q.has,G3]
  by_cases hx:x=t
  .rw [aB hx,hx,wM];simp
  .rw [aA hx,tC hx,p.has]
 have h2:=congrArg List.length (zpF kv t undef)
 rw [nA] at h2
 rw [h1,h2]
 split
 .rw [nA];omega
 .rw [dI,nA];simp
theorem zBM {e e2:List fe} {n:Nat} (p:df f e kv us) (q:df f2 e2 kw (fU us t n)) (ht:0 < us t):kw.length<=kv.length:=by
 by_cases hn:n=0
 .have h1:kw.length=(mX kv t).length:=zwI q.kn (zhm p.kn t) λx=>by
   rw [q.has,zjP]
   by_cases hx:x=t
   .rw [aB hx,hx,wM,hn];simp
   .rw [aA hx,tC hx,p.has]
  rw [h1]
  exact Hv _ _
 .refine Nat.le_of_eq (zBN q p λx=>?_)
  by_cases hx:x=t
  .rw [hx,wM];omega
  .rw [tC hx]
def dZ (N b:Nat) (h:Heap) (D:List Nat) (T0:Nat) (us:au->Nat):Prop:=∃ FI FE FM free aV kv,D=[T0,FI,FE,FM]/\eu N h T0 FI FE FM free aV kv/\df free aV kv us/\aV.length<=b/\kv.length<=b
theorem dZ.lay {N b:Nat} {h:Heap} {D:List Nat} {T0:Nat} {us:au->Nat} (t:dZ N b h D T0 us) (bs:List ba) (w:Nat):dZ N b (h.lay bs w) D T0 us:=by
 obtain ⟨FI,FE,FM,free,aV,kv,rfl,st,p⟩:=t
 exact ⟨FI,FE,FM,free,aV,kv,rfl,st.lay _ _,p⟩
theorem dZ.over {N b w:Nat} {h h2:Heap} {bs:List ba} {D:List Nat} {T0:Nat} {us:au->Nat} (t:dZ N b h D T0 us) (x:Ext (h.lay bs w) h2):dZ N b h2 D T0 us:=by
 obtain ⟨FI,FE,FM,free,aV,kv,rfl,st,p⟩:=t
 exact ⟨FI,FE,FM,free,aV,kv,rfl,st.over x,p⟩
theorem dZ.cT {N b:Nat} {h h2:Heap} {D D2:List Nat} {T0:Nat} {us:au->Nat} (t:dZ N b h D T0 us) (f:aM D2 h h2) (hd:∀ B∈D,B ∉ D2):dZ N b h2 D T0 us:=by
 obtain ⟨FI,FE,FM,free,aV,kv,rfl,st,p⟩:=t
 exact ⟨FI,FE,FM,free,aV,kv,rfl,st.cT f ⟨hd _ (by simp),hd _ (by simp),hd _ (by simp),hd _ (by simp)⟩,p⟩
theorem dZ.lo {N b:Nat} {h:Heap} {D:List Nat} {T0:Nat} {us:au->Nat} (t:dZ N b h D T0 us):∀ B∈D,N<=B/\B < h.size:=by
 obtain ⟨FI,FE,FM,free,aV,kv,rfl,st,p⟩:=t
 obtain ⟨_,_,_,lo,hi⟩:=st
 intro B hB
 simp only [cJ,we,or_false] at hB
 rcases hB with rfl|rfl|rfl|rfl
 .exact ⟨lo.1,hi.1⟩
 .exact ⟨lo.2.1,hi.2.1⟩
 .exact ⟨lo.2.2.1,hi.2.2.1⟩
 .exact ⟨lo.2.2.2,hi.2.2.2⟩
theorem dZ.le {b2:Nat} (t:dZ N b h D T0 us) (hb:b<=b2):dZ N b2 h D T0 us:=by
 obtain ⟨FI,FE,FM,free,aV,kv,rfl,st,p,he,hv⟩:=t
 exact ⟨FI,FE,FM,free,aV,kv,rfl,st,p,by omega,by omega⟩
theorem dZ.mem (t:dZ N b h D T0 us):T0∈D:=by
 obtain ⟨FI,FE,FM,free,aV,kv,rfl,st,p⟩:=t
 simp
theorem zzr (h hc:Heap) (z:Ext h hc) (D:List Nat) (T0 b:Nat) (us:au->Nat) (t:au) (st:dZ h.size b hc D T0 us) (hb:b < 65536) (ht:t.size≠0) (ht2:t.size<=255) (ku:us t < 1000000000000) (K:aI)
 (hk:∀ h' n D2,Ext h h'->aM D hc h'->dZ h.size (b+1) h' D2 T0 (fU us t (us t+1))->(∀ B∈D2,B∈D\/hc.size<=B)->K (.tuple #[.int .i64 n,.int .i64 0]) h'):Ok prog aG ov 64 [.pointer (some ⟨T0,0,none⟩),.string t] hc K:=by
 obtain ⟨FI,FE,FM,free,aV,kv,rfl,s,p,he,hv⟩:=st
 refine zzs h hc z T0 FI FE FM free aV kv us t s p ht ht2 (by omega) (by omega) ku K (λh' n I2 E2 f2 e2 BB z' fr' s' p' hI hE wu=>hk h' n [T0,I2,E2,FM] z' fr' ⟨I2,E2,FM,f2,e2,BB,rfl,s',p',by omega,by have:=zFe p p';omega⟩ (λB hB=>?_))
 simp only [cJ,we,or_false] at hB
 rcases hB with rfl|rfl|rfl|rfl
 .exact .inl (by simp)
 .exact hI.imp (λe=>by rw [e];simp) id
 .exact hE.imp (λe=>by rw [e];simp) id
 .exact .inl (by simp)
theorem dZ.num (d:dZ N b h D T0 us) (ht:0 < us t):∃ FI FE FM free aV kv,∃ i:Nat,D=[T0,FI,FE,FM]/\eu N h T0 FI FE FM free aV kv/\df free aV kv us/\aV.length<=b/\kv.length<=b/\dq kv t=some (.int .i64 (i:Int)):=by
 obtain ⟨FI,FE,FM,free,aV,kv,rfl,s,p,he,hv⟩:=d
 have h1:=(p.has t).2 ht
 cases hl:dq kv t with
 |none=>rw [hl] at h1;cases h1
 |some v =>
  obtain ⟨i,rfl,_⟩:=p.val t v hl
  exact ⟨FI,FE,FM,free,aV,kv,i,rfl,s,p,he,hv,hl⟩
theorem NT (a) (h:Heap) (K:aI):aH (some (.pointer (some a))) h K=K (.pointer (some a)) h:=rfl
theorem zl5 (hn:l.Nodup) (hc:l[i]? = some c):c ∉ l.take i:=λhm=>by
 have h1:=pj i l
 rw [<- h1,QA] at hn
 obtain ⟨hi,lu⟩:=dH.1 hc
 exact hn.2.2 c hm c (by rw [DE hi,lu];exact fZ) rfl
open Classical in
def ja (us:au->Nat) (l:List au):au->Nat:=λx=>if x∈l then us x+1 else us x
open Classical in
def jY (us:au->Nat) (l:List au):au->Nat:=λx=>if x∈l then us x - 1 else us x
theorem zyw (hn:l.Nodup) (hc:l[i]? = some c):fU (ja us (l.take i)) c (ja us (l.take i) c+1)=ja us (l.take (i+1))/\ja us (l.take i) c=us c:=by
 have h0:ja us (l.take i) c=us c:=aA (zl5 hn hc)
 refine ⟨funext λx=>?_,h0⟩
 have ht:l.take (i+1)=l.take i++[c]:=by rw [nS,hc];rfl
 rw [ht]
 by_cases hx:x=c
 .subst hx
  rw [wM,h0]
  unfold ja
  rw [aB (by simp)]
 .rw [tC hx]
  unfold ja
  by_cases hm:x∈l.take i
  .rw [aB hm,aB (by simp [hm])]
  .rw [aA hm,aA (by simp [hm,hx])]
theorem zzT (hn:l.Nodup) (hc:l[i]? = some c):fU (jY us (l.take i)) c (jY us (l.take i) c - 1)=jY us (l.take (i+1))/\jY us (l.take i) c=us c:=by
 have h0:jY us (l.take i) c=us c:=aA (zl5 hn hc)
 refine ⟨funext λx=>?_,h0⟩
 have ht:l.take (i+1)=l.take i++[c]:=by rw [nS,hc];rfl
 rw [ht]
 by_cases hx:x=c
 .subst hx
  rw [wM,h0]
  unfold jY
  rw [aB (by simp)]
 .rw [tC hx]
  unfold jY
  by_cases hm:x∈l.take i
  .rw [aB hm,aB (by simp [hm])]
  .rw [aA hm,aA (by simp [hm,hx])]
theorem zAM (us:au->Nat):ja us []=us:=funext λx=>aA (by simp)
theorem zCo (us:au->Nat):jY us []=us:=funext λx=>aA (by simp)
theorem zsH (a:aj) (h hc:Heap) (z:Ext h hc) (D:List Nat) (T0 b:Nat) (us:au->Nat) (st:dZ h.size b hc D T0 us) (hb:b < 60000) (dF:∀ x,wQ a x->x.size≠0/\x.size<=255) (ku:∀ x,us x < 1000000000) (K:aI)
 (hk:∀ h' cs D2,Ext h h'->aM D hc h'->cs.length<=4->cs.Nodup->(∀ x,x∈cs↔wQ a x)->dZ h.size (b+4) h' D2 T0 (ja us cs)->(∀ B∈D2,B∈D\/hc.size<=B)->K undef h'):Ok prog aG ov 35 [.agg #[.pointer (some ⟨T0,0,none⟩)],a.val] hc K:=by
 rw [ao hc]
 refine Ok.aw 16 (bu N35) ?_
 simp only [aa,seval,HQ,gI,↓eP,ef,dy]
 have LR:∀ B∈D,B < hc.size:=λB hB=>(st.lo B hB).2
 refine zlT a _ _ (λw cs h' x s wy gw bY=>?_)
 have q0:=Holds.top (i:=0) x rfl
 have fr:aM D hc h':=(aM.refl D hc).over x
 (replace z:=z.an x;replace st:=st.over x;rw [ao h'])
 replace s:=s D (λB hB=>by rw [bd];have:=LR B hB;omega)
 obtain ⟨A0,ep⟩:∃ A0,A0=hc.size+0:=⟨_,rfl⟩
 rw [<- ep] at q0
 rw [<- ep]
 have xw:A0 ∉ D:=λhm=>by have:=LR _ hm;omega
 rw [<- zAM us] at st
 have qo:=λ(hh:Heap)=>s.bn cG hh
 simp only [aa,seval,HQ,qo]
 obtain ⟨I1,aX⟩:∃ I:Nat->Env->Heap->Prop,I=(λn e h'=>∃ (i:Nat) (D1:List Nat) (h1:Heap),h'=h1.lay [] h1.low/\Ext h h1/\(n=cs.length - i/\i<=cs.length/\dZ h.size (b+i) h1 D1 T0 (ja us (cs.take i))/\Holds h1 A0 (.row [.pointer (some ⟨T0,0,none⟩)] 83 false)/\A0 ∉ D1/\Sl aK.str (aD D1 h1) w cs/\aM D hc h1/\(∀ B∈D1,B∈D\/hc.size<=B))/\∃ J:Nat->ah,e=(jr J 0 2 (.pointer (some ⟨A0,0,none⟩)::jr J 3 4 (w::.int .i64 cs.length::.int .i64 i::jr J 10 8 ([]))))):=⟨_,rfl⟩
 refine du I1 _ (by rw [aX];exact ⟨0,D,_,rfl,z,⟨rfl,by omega,st,q0,xw,s,fr,λB hB=>.inl hB⟩,bm⟩) ?_
 intro n e h' aP
 rw [aX] at aP
 obtain ⟨i,D1,bx,rfl,z,hinv,J,rfl⟩:=aP
 clear st q0 s fr xw
 obtain ⟨rfl,hi,st,q0,xw,s,fr,EW⟩:=hinv
 have hs:=s.mono (nu D1 bx)
 have gk:=ei i (by omega)
 have oo:=fr.size
 simp only [aa,seval,HQ]
 refine bq (λaW=>?_) (λkW=>?_)
 rotate_left
 .have he:i=cs.length:=by omega
  rw [he,gA (bo _)] at st
  simp only [aa,seval,HQ]
  exact hk _ cs D1 z.aC (fr.trans (aM.lay _ _ _ []) (λ_ h=>nomatch h)) wy gw bY ((st.lay _ _).le (by omega)) EW
 obtain ⟨c,hr,bT⟩:=fo (l:=cs) (i:=i) (by omega)
 have mj:=dF c ((bY c).1 (fW bT))
 obtain ⟨mJ,yw⟩:=zyw (us:=us) gw bT
 have Yt:=ku c
 repeat' (first|simp only [aa,seval,HQ,q0.lay]|with_reducible refine qz hs cG nK (by omega) hr (λp hp=>?_)|with_reducible refine iY hp kJ ?_)
 refine zzr h _ z.aC D1 T0 (b+i) _ c (st.lay _ _) (by omega) mj.1 mj.2 (by rw [yw];omega) _ (λh3 nn D2 z3 fO lj uT=>?_)
 rw [mJ] at lj
 have jk:aM D1 bx h3:=(aM.lay bx [] bx.low D1).trans fO (λB hB=>.inl hB)
 have s3:=s.mono (jk.inc (D':=D2) (λB hB=>(uT B hB).imp id (λe=>by rw [bd] at e;omega)))
 have q3:=q0.cT jk xw
 have EU:A0 ∉ D2:=λhm=>by
  rcases uT _ hm with e|e
  .exact xw e
  .have:=q0.lt;rw [bd] at e;omega
 have kR:aM D hc h3:=fr.trans jk (λB hB=>EW B hB)
 have tR:∀ B∈D2,B∈D\/hc.size<=B:=λB hB=>(uT B hB).elim (EW B) (λe=>.inr (by rw [bd] at e;omega))
 clear z
 have z:=z3
 rw [ao h3]
 simp only [aa,seval,HQ]
 rw [gk]
 (rw [aX];with_reducible refine cy (m:=_) ?_ ⟨i+1,D2,_,rfl,z,⟨rfl,by omega,lj.le (by omega),q3,EU,s3,kR,tR⟩,bm⟩;omega)
theorem zzi (a:aj) (h hc:Heap) (z:Ext h hc) (D:List Nat) (T0 b:Nat) (us:au->Nat) (st:dZ h.size b hc D T0 us) (hb:b < 60000) (k6:∀ x,wQ a x->0 < us x) (ku:∀ x,us x < 1000000000) (K:aI)
 (hk:∀ h' cs D2,Ext h h'->aM D hc h'->cs.length<=4->cs.Nodup->(∀ x,x∈cs↔wQ a x)->dZ h.size b h' D2 T0 (jY us cs)->(∀ B∈D2,B∈D\/hc.size<=B)->K undef h'):Ok prog aG ov 48 [.agg #[.pointer (some ⟨T0,0,none⟩)],a.val] hc K:=by
 rw [ao hc]
 refine Ok.aw 26 (bu N48) ?_
 simp only [aa,seval,EB,gI,↓eP,ef,dy]
 have LR:∀ B∈D,B < hc.size:=λB hB=>(st.lo B hB).2
 refine zlT a _ _ (λw cs h' x s wy gw bY=>?_)
 have q0:=Holds.top (i:=0) x rfl
 have fr:aM D hc h':=(aM.refl D hc).over x
 (replace z:=z.an x;replace st:=st.over x;rw [ao h'])
 replace s:=s D (λB hB=>by rw [bd];have:=LR B hB;omega)
 obtain ⟨A0,ep⟩:∃ A0,A0=hc.size+0:=⟨_,rfl⟩
 rw [<- ep] at q0
 rw [<- ep]
 have xw:A0 ∉ D:=λhm=>by have:=LR _ hm;omega
 rw [<- zCo us] at st
 have qo:=λ(hh:Heap)=>s.bn cG hh
 simp only [aa,seval,EB,qo]
 obtain ⟨I1,aX⟩:∃ I:Nat->Env->Heap->Prop,I=(λn e h'=>∃ (i:Nat) (D1:List Nat) (h1:Heap),h'=h1.lay [] h1.low/\Ext h h1/\(n=cs.length - i/\i<=cs.length/\dZ h.size b h1 D1 T0 (jY us (cs.take i))/\Holds h1 A0 (.row [.pointer (some ⟨T0,0,none⟩)] 83 false)/\A0 ∉ D1/\Sl aK.str (aD D1 h1) w cs/\aM D hc h1/\(∀ B∈D1,B∈D\/hc.size<=B))/\∃ J:Nat->ah,e=(jr J 0 2 (.pointer (some ⟨A0,0,none⟩)::jr J 3 6 (w::.int .i64 cs.length::.int .i64 i::jr J 12 16 ([]))))):=⟨_,rfl⟩
 refine du I1 _ (by rw [aX];exact ⟨0,D,_,rfl,z,⟨rfl,by omega,st,q0,xw,s,fr,λB hB=>.inl hB⟩,bm⟩) ?_
 intro n e h' aP
 rw [aX] at aP
 obtain ⟨i,D1,bx,rfl,z,hinv,J,rfl⟩:=aP
 clear st q0 s fr xw
 obtain ⟨rfl,hi,st,q0,xw,s,fr,EW⟩:=hinv
 have hs:=s.mono (nu D1 bx)
 have gk:=ei i (by omega)
 have oo:=fr.size
 simp only [aa,seval,EB]
 refine bq (λaW=>?_) (λkW=>?_)
 rotate_left
 .have he:i=cs.length:=by omega
  rw [he,gA (bo _)] at st
  simp only [aa,seval,EB]
  exact hk _ cs D1 z.aC (fr.trans (aM.lay _ _ _ []) (λ_ h=>nomatch h)) wy gw bY ((st.lay _ _).le (by omega)) EW
 obtain ⟨c,hr,bT⟩:=fo (l:=cs) (i:=i) (by omega)
 have mj:=k6 c ((bY c).1 (fW bT))
 obtain ⟨mJ,yw⟩:=zzT (us:=us) gw bT
 have Yt:=ku c
 repeat' (first|simp only [aa,seval,EB,q0.lay]|with_reducible refine qz hs cG nK (by omega) hr (λp hp=>?_)|with_reducible refine iY hp kJ ?_)
 obtain ⟨FI,FE,FM,free,aV,kv,m,hDe,ts,tp,xM,rO,hlk⟩:=st.num (t:=c) (by rw [yw];exact mj)
 refine zzm c (some m) _ T0 FI FE FM h.size free aV kv (ts.lay _ _) hlk _ (λh' x=>?_)
 replace ts:=ts.over x
 have EN:aM D1 bx h':=(aM.refl D1 bx).over x
 (replace z:=z.an x;replace st:=st.over x;replace q0:=q0.over x;rw [ao h'])
 simp only [JL,Hz]
 repeat' (simp only [aa,seval,EB,q0.lay])
 refine zzj h _ z.aC T0 FI FE FM free aV kv _ c m (ts.lay _ _) tp hlk (by omega) (by rw [yw];omega) _ (λh3 I2 f2 e2 BB z3 fO lj tp3 hI wu=>?_)
 obtain ⟨D2,LQ⟩:∃ D2,D2=[T0,I2,FE,FM]:=⟨_,rfl⟩
 replace lj:dZ h.size b h3 D2 T0 (fU (jY us (cs.take i)) c (jY us (cs.take i) c - 1)):=⟨I2,FE,FM,f2,e2,BB,LQ,lj,tp3,by omega,by have:=zBM tp tp3 (by rw [yw];exact mj);omega⟩
 rw [<- hDe] at fO
 have uT:∀ B∈D2,B∈D1\/(h'.lay [] h'.low).size<=B:=λB hB=>by
  rw [LQ] at hB
  rw [hDe]
  simp only [cJ,we,or_false] at hB
  rcases hB with rfl|rfl|rfl|rfl
  .exact .inl (by simp)
  .exact hI.imp (λe=>by rw [e];simp) id
  .exact .inl (by simp)
  .exact .inl (by simp)
 rw [mJ] at lj
 have jk:aM D1 bx h3:=(EN.trans (aM.lay h' [] h'.low D1) (λB hB=>.inl hB)).trans fO (λB hB=>.inl hB)
 have jV:=EN.size
 have s3:=s.mono (jk.inc (D':=D2) (λB hB=>(uT B hB).imp id (λe=>by rw [bd] at e;omega)))
 have q3:=q0.cT ((aM.lay h' [] h'.low D1).trans fO (λB hB=>.inl hB)) xw
 have EU:A0 ∉ D2:=λhm=>by
  rcases uT _ hm with e|e
  .exact xw e
  .have:=q0.lt;rw [bd] at e;omega
 have kR:aM D hc h3:=fr.trans jk (λB hB=>EW B hB)
 have tR:∀ B∈D2,B∈D\/hc.size<=B:=λB hB=>(uT B hB).elim (EW B) (λe=>.inr (by rw [bd] at e;omega))
 clear z
 have z:=z3
 rw [ao h3]
 simp only [aa,seval,EB]
 rw [gk]
 (rw [aX];with_reducible refine cy (m:=_) ?_ ⟨i+1,D2,_,rfl,z,⟨rfl,by omega,lj.le (by omega),q3,EU,s3,kR,tR⟩,bm⟩;omega)
end Go.Proofs.YtmamldleclamjaaGreatDoor

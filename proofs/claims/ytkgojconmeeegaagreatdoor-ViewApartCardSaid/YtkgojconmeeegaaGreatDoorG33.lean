/- Walks: an atom's constants, each once. Written out by fill2.py. No condition. -/
import Derived.Test.YtkgojconmeeegaaGreatDoorG32
import Derived.Test.YtkgojconmeeegaaGreatDoorG28
set_option linter.unusedSimpArgs false
set_option linter.unusedVariables false
set_option maxRecDepth 100000
set_option maxHeartbeats 0
namespace Go.Proofs.YtkgojconmeeegaaGreatDoor
open Go.Am
theorem zvS (a:ab) (bv:Bool) (h:Heap) (K:Value→Heap→Prop) (hk:∀ w l h',Ext h h'→(∀ D:List Nat,(∀ B∈D,B < h.size)→Sl aJ.str (aI D h') w l)→l.length≤4→l.Nodup→(∀ x,x∈l↔∃ i:Nat,i < a.cL∧(a.arg i).v=bv∧(a.arg i).s=x)→K w h'):Ok Tryz.prog ae ov 120 [a.val,.bool bv] h K:=by
 rw [ao h]
 have z:=Ext.refl h
 have wI:=Ud a
 refine Ok.aH rfl zo6 (br EZ) rfl (m:=31) rfl ?_
 repeat' (simp only [syms,aa,seval,gS,ec,↓eM,eh,dC])
 refine R3 a _ _ (fun w h' x sw=>?_)
 (replace z:=z.an x (by omega);rw [ao h'])
 have eR:=bY w
 have qv:=fun (hh:Heap)=>sw.bc ye hh
 have IH:=vB a
 have uq:=z.size
 simp only [syms,aa,seval,gS,eR,qv]
 obtain ⟨Hb,rfl⟩:∃ Hb,Hb=h':=⟨_,rfl⟩
 obtain ⟨I1,aS⟩:∃ I:Nat→Env→Heap→Prop,I=(fun n e h'=>∃ (i:Nat) (wv:Value) (A:Nat) (l:List ByteArray) (h1:Heap),h'=h1.lay [] h1.low∧Ext h h1∧(n=a.cL - i∧i≤a.cL∧l.length≤i∧(∀ x,x∈l↔∃ j:Nat,j < i∧(a.arg j).v=bv∧(a.arg j).s=x)∧Ow aJ.str h h1 9 A wv l∧cn Hb h1∧Hb.size≤A∧l.Nodup)∧∃ J:Nat→Value,e=(J 0::.bool bv::jr J 2 3 (wv::jr J 6 3 (w::.int .i64 a.args.length::.int .i64 i::jr J 12 21 ([]))))):=⟨_,rfl⟩
 refine dj I1 _ (by rw [aS];exact ⟨0,.slice none 0 0,Hb.size,[],_,rfl,z,⟨rfl,by omega,by simp,by simp,Ow.nil (by omega),cn.refl _,Nat.le_refl _,List.nodup_nil⟩,aE (by kernel_rfl)⟩) ?_
 intro n e h' aL
 rw [aS] at aL
 obtain ⟨i,wv,A,l,bH,rfl,z,hinv,J,rfl⟩:=aL
 obtain ⟨rfl,hi,DM,cd,ow,ib,yo,fU⟩:=hinv
 have gl:=eb i (by omega)
 have ej:=bY wv
 simp only [syms,aa,seval,gS]
 refine bt (fun aR=>?_) (fun aR=>?_)
 rotate_left
 ·have he:i=a.cL:=by omega
  rw [he] at cd
  repeat' (simp only [syms,aa,seval,gS,ej])
  exact hk _ _ _ (z.aw _ _ (by omega)) (fun D hD=>(ow.mono (cn.lay _ _ _)).aI (fun _ _ _ _ q=>q) (by decide) hD) (by omega) fU cd
 have oW:=Go.Am.args_at (a:=a) (i:=i) (by omega)
 rcases vo:a.arg i with ⟨rv,rs⟩
 rw [vo] at oW
 have hr:a.args[(i:Int).toNat]? = some ⟨rv,rs⟩:=by rw [Int.toNat_natCast];exact oW
 have mh:∀ x,(∃ j:Nat,j < i+1∧(a.arg j).v=bv∧(a.arg j).s=x)↔(∃ j:Nat,j < i∧(a.arg j).v=bv∧(a.arg j).s=x)∨(rv=bv∧rs=x):=by
  intro x
  constructor
  ·rintro ⟨j,hj,e⟩
   by_cases Af:j=i
   ·subst Af
    rw [vo] at e
    exact .inr e
   ·exact .inl ⟨j,by omega,e⟩
  ·rintro (⟨j,hj,e⟩|e)
   ·exact ⟨j,by omega,e⟩
   ·exact ⟨i,by omega,by rw [vo];exact e⟩
 repeat' (first|simp only [syms,aa,seval,gS,nT,pA,List.all_cons,List.all_nil,Am.one,Bool.and_true,Bool.true_and,Bool.and_self,List.set_cons_zero,List.set_cons_succ,lW,fV,pt,iA,iB,pF,aX.val,aX.cells,ej]|with_reducible_and_instances refine Sj (sw.mono ib) ye jC (by omega) hr (fun p hp=>?_)|with_reducible_and_instances refine I8 hp pY jC ?_)
 have lD:(¬ rv=bv∨rs∈l)→∀ x,x∈l↔∃ j:Nat,j < i+1∧(a.arg j).v=bv∧(a.arg j).s=x:=by
  intro hs x
  rw [mh,← cd]
  refine ⟨.inl,fun e=>e.elim id (fun e=>?_)⟩
  rcases hs with hs|hs
  ·exact absurd e.1 hs
  ·rw [← e.2];exact hs
 have oh:rv=bv→∀ x,x∈l++[rs]↔∃ j:Nat,j < i+1∧(a.arg j).v=bv∧(a.arg j).s=x:=by
  intro hs x
  rw [mh,← cd,List.mem_append,List.mem_singleton]
  exact ⟨fun e=>e.imp id (fun e=>⟨hs,e.symm⟩),fun e=>e.imp id (fun e=>e.2.symm)⟩
 have b1:(true == false)=false:=rfl
 have b2:(false == true)=false:=rfl
 have b3:(true == true)=true:=rfl
 have b4:(false == false)=true:=rfl
 have sR:=z.size
 cases rv
 all_goals
  cases bv
  all_goals
   repeat' (simp only [syms,aa,seval,gS,zrj,b1,b2,b3,b4,ej])
 all_goals first
  |(rw [gl]
    have xk:=lD (.inl (by decide))
    refine W6 (z.aw _ _ (by omega)) (fun H z hO hI=>?_)
    (rw [aS];with_reducible refine cB (m:=_) ?_ ⟨i+1,wv,A,l,_,rfl,z,⟨rfl,by omega,by omega,xk,ow.mono hI,ib.trans hI,yo,fU⟩,aE (by kernel_rfl)⟩;omega))
  |skip
 all_goals
  refine Jx l wv rs _ ((ow.sl (by decide)).lay _ _) (by omega) _ (fun h' x=>?_)
  have q0:=Holds.top (i:=0) x rfl
  (replace z:=z.an x (by omega);(replace ow:=ow.over x);(replace ib:=ib.over x);rw [ao h'])
  cases aL:l.any fun x=>decide (rs=x)
  rotate_left
  ·have xk:=lD (.inr (by obtain ⟨y,hy,e⟩:=List.any_eq_true.1 aL;rw [of_decide_eq_true e];exact hy))
   repeat' (first|simp only [syms,aa,seval,gS,Bool.not_true]|((with_reducible_and_instances apply b8);(· rfl)))
   rw [gl]
   (rw [aS];with_reducible refine cB (m:=_) ?_ ⟨i+1,wv,A,l,_,rfl,z,⟨rfl,by omega,by omega,xk,ow,ib,yo,fU⟩,aE (by kernel_rfl)⟩;omega)
  have kS:=oh rfl
  have Gy:(l++[rs]).Nodup:=by
   rw [List.nodup_append]
   refine ⟨fU,by simp,fun x hx y hy e=>?_⟩
   rw [List.mem_singleton] at hy
   rw [hy] at e
   have hf:=List.any_eq_false.1 aL x hx
   rw [e] at hf
   simp at hf
  repeat' (first|simp only [syms,aa,seval,gS,Bool.not_false,q0.lay,ej]|((with_reducible_and_instances apply b8);(· rfl)))
  simp only [syms,aa,seval,gS,lG,VU]
 all_goals
  refine Jd (i:=0) (cs:=[.string rs]) (x:=rs) cY Eo rfl (by decide) (by rfl) z.size ow rfl (by omega) (by omega) (fun w3 h3 A3 BW qd uZ=>?_)
  have Ab:=ow.fresh
  have BM:=cn.iJ (ib.trans (cn.lay _ _ _)) qd yo
  have Nr:=ib.size
  replace z:=(z.aw _ _ (by omega)).step qd (by omega)
  rw [ao h3]
  have GZ:=bY w3
  repeat' (simp only [syms,aa,seval,gS,GZ])
  rw [gl]
  clear ow q0
  (rw [aS];with_reducible refine cB (m:=_) ?_ ⟨i+1,w3,A3,l++[rs],_,rfl,z,⟨rfl,by omega,by rw [List.length_append,List.length_singleton];omega,kS,BW,BM,by omega,Gy⟩,aE (by kernel_rfl)⟩;omega)
def xW (a:ab) (x:ByteArray):Prop:=∃ i:Nat,i < a.cL∧(a.arg i).v=false∧(a.arg i).s=x
theorem zlm (a:ab) (h:Heap) (K:Value→Heap→Prop) (hk:∀ w l h',Ext h h'→(∀ D:List Nat,(∀ B∈D,B < h.size)→Sl aJ.str (aI D h') w l)→l.length≤4→l.Nodup→(∀ x,x∈l↔xW a x)→K w h'):Ok Tryz.prog ae ov 72 [a.val] h K:=by
 rw [ao h]
 have z:=Ext.refl h
 refine Ok.aH rfl zDU (br V2) rfl (m:=4) rfl ?_
 repeat' (simp only [syms,aa,seval,Wm,ec,↓eM,eh,dC])
 refine zvS a false _ _ (fun w l h' x s hl hn hm=>?_)
 (replace z:=z.an x (by omega);rw [ao h'])
 have eR:=bY w
 repeat' (simp only [syms,aa,seval,Wm,eR])
 exact hk _ _ _ (z.aw _ _ (by omega)) (fun D hD=>(s D (fun B hB=>by rw [bm];have:=hD B hB;omega)).mono ((aM.lay h' [] h'.low D).inc (fun B hB=>.inl hB))) hl hn hm
noncomputable def VD:=bA Tryz.f41
noncomputable def Zt:=PLift.up (by have c:=bB VD Tryz.f41;simp only [aK,Tryz.f41,seval] at c;exact nd c <| nd @CN <| nd @j5 <| nd @ct <| nd @gn <| nd @O8 <| nd @j7 <| nd @aaB <| @abg)
theorem Ir:type_of% Zt.down:=Zt.down
noncomputable def VF:=bA Tryz.f43
noncomputable def ZU:=PLift.up (by have c:=bB VF Tryz.f43;simp only [aK,Tryz.f43,seval] at c;exact nd c <| nd @CN <| nd @j5 <| nd @ct <| nd @gn <| nd @O8 <| nd @j7 <| nd @aaD <| @abh)
theorem Ft:type_of% ZU.down:=ZU.down
noncomputable def VL:=bA Tryz.f57
noncomputable def Z2:=PLift.up (by have c:=bB VL Tryz.f57;simp only [aK,Tryz.f57,seval] at c;exact nd c <| nd @Zw <| nd @HV <| nd @Kf <| nd @Sq <| nd @lV <| nd @uz <| nd @mi <| nd @aaL <| @dW)
theorem Fv:type_of% Z2.down:=Z2.down
noncomputable def VK:=bA Tryz.f56
noncomputable def Z1:=PLift.up (by have c:=bB VK Tryz.f56;simp only [aK,Tryz.f56,seval] at c;exact nd c <| nd @dW <| @aaK)
theorem Fu:type_of% Z1.down:=Z1.down
noncomputable def Vs:=bA Tryz.f30
noncomputable def Zi:=PLift.up (by have c:=bB Vs Tryz.f30;simp only [aK,Tryz.f30,seval] at c;exact nd c <| nd @dW <| @aaq)
theorem Ip:type_of% Zi.down:=Zi.down
noncomputable def VB:=bA Tryz.f39
noncomputable def Zr:=PLift.up (by have c:=bB VB Tryz.f39;simp only [aK,Tryz.f39,seval] at c;exact nd c <| nd @zLr <| nd @zu2 <| nd @Sb <| nd @Se <| nd @zjA <| nd @dW <| nd @ct <| nd @mV <| nd @AL <| nd @xA <| nd @iu <| @aaz)
theorem oN:type_of% Zr.down:=Zr.down
noncomputable def Vh:=bA Tryz.f12
noncomputable def PS:=PLift.up (by have c:=bB Vh Tryz.f12;simp only [aK,Tryz.f12,seval] at c;exact nd c <| nd @zu1 <| nd @zu2 <| nd @Sq <| nd @mi <| nd @ct <| nd @O9 <| @aad)
theorem zu:type_of% PS.down:=PS.down
noncomputable def Vi:=bA Tryz.f13
noncomputable def PY:=PLift.up (by have c:=bB Vi Tryz.f13;simp only [aK,Tryz.f13,seval] at c;exact nd c <| nd @zu1 <| nd @ct <| nd @O9 <| @aae)
theorem Dm:type_of% PY.down:=PY.down
noncomputable def Vx:=bA Tryz.f35
noncomputable def Zn:=PLift.up (by have c:=bB Vx Tryz.f35;simp only [aK,Tryz.f35,seval] at c;exact nd c <| nd @Sb <| nd @UI <| nd @xA <| nd @BD <| @aav)
theorem ZN:type_of% Zn.down:=Zn.down
noncomputable def N20:=bA Tryz.f20
noncomputable def B8:=PLift.up (by have c:=bB N20 Tryz.f20;simp only [aK,Tryz.f20,seval] at c;exact nd c <| nd @Sb <| nd @vI <| nd @UI <| nd @ct <| nd @gn <| nd @xA <| nd @BD <| @aal)
noncomputable def VA:=bA Tryz.f38
noncomputable def Zq:=PLift.up (by have c:=bB VA Tryz.f38;simp only [aK,Tryz.f38,seval] at c;exact nd c <| nd @Sb <| nd @zjH <| nd @xA <| nd @BN <| @aay)
theorem Wk:type_of% Zq.down:=Zq.down
noncomputable def N19:=bA Tryz.f19
noncomputable def B7:=PLift.up (by have c:=bB N19 Tryz.f19;simp only [aK,Tryz.f19,seval] at c;exact nd c <| nd @Sb <| nd @UI <| nd @xA <| nd @iu <| nd @BD <| @aak)
noncomputable def Wg:=bA Tryz.f98
noncomputable def yQ:=PLift.up (by have c:=bB Wg Tryz.f98;simp only [aK,Tryz.f98,seval] at c;exact nd c <| nd @ZF <| @abe)
theorem SV:type_of% yQ.down:=yQ.down
noncomputable def Wf:=bA Tryz.f97
noncomputable def yP:=PLift.up (by have c:=bB Wf Tryz.f97;simp only [aK,Tryz.f97,seval] at c;exact nd c <| nd @tA <| @abd)
theorem SU:type_of% yP.down:=yP.down
theorem ZC (M:Nat):nV ae 176 [(2,.map (some M))]=some (.agg #[.slice none 0 0,.slice none 0 0,.map (some M)]):=by kernel_rfl
theorem zGy (N:Nat) (h:Heap) (FI FE:Nat) (hI:N≤FI∧FI < h.size) (hE:N≤FE∧FE < h.size) (aP:FI≠FE) (K:Value→Heap→Prop) (hk:∀ h' T0 FM,Ext h h'→eH N h' T0 FI FE FM [] [] []→h.size≤T0→h.size≤FM→K (.pointer (some ⟨T0,0,none⟩)) h'):Ok Tryz.prog ae ov 96 [] h K:=by
 have z:=Ext.refl h
 rw [ao h]
 refine Ok.aH rfl zD6 (br We) rfl (m:=4) rfl ?_
 simp only [syms,aa,seval,c96,gh,ZC,j9,Rw]
 refine hk _ (h.size+1) (h.size+0) (z.aw _ _ (by omega)) ?_ (by omega) (by omega)
 have hs:(h.lay [bh.map [] 0,bh.row [Value.slice none 0 0,Value.slice none 0 0,Value.map (some (h.size+0))] 176 false] h.low).size=h.size+2:=by rw [bm];rfl
 refine ⟨⟨_,_,⟨by omega,by rw [iR];rfl⟩,.nil,.nil⟩,dp.new ⟨by omega,by rw [iR];rfl⟩,⟨by omega,by omega,by omega,by omega,by omega,by omega⟩,⟨by omega,by omega,by omega,by omega⟩,⟨by omega,by omega,by omega,by omega⟩⟩
theorem zGo {f f2:List Int} {e e2:List ff} {kv kw:List (ByteArray × Value)} {us vs:ByteArray→Nat} (p:cS f e kv us) (q:cS f2 e2 kw vs) (h:∀ x,0 < us x↔0 < vs x):kv.length=kw.length:=U9 p.kn q.kn fun t=>by rw [p.has,q.has];exact h t
theorem zNt {f f2:List Int} {e e2:List ff} {kv kw:List (ByteArray × Value)} {us:ByteArray→Nat} {t:ByteArray} (p:cS f e kv us) (q:cS f2 e2 kw (gV us t (us t+1))):kw.length≤kv.length+1:=by
 have h1:kw.length=(gC kv t undef).length:=U9 q.kn (W9 p.kn t _) fun x=>by
  rw [q.has,RA]
  by_cases hx:x=t
  ·rw [if_pos hx,hx,xU];simp
  ·rw [if_neg hx,uM hx,p.has]
 have h2:=congrArg List.length (zoR kv t undef)
 rw [List.length_map] at h2
 rw [h1,h2]
 split
 ·rw [List.length_map];omega
 ·rw [List.length_append,List.length_map];simp
theorem zGn {f f2:List Int} {e e2:List ff} {kv kw:List (ByteArray × Value)} {us:ByteArray→Nat} {t:ByteArray} {n:Nat} (p:cS f e kv us) (q:cS f2 e2 kw (gV us t n)) (ht:0 < us t):kw.length≤kv.length:=by
 by_cases hn:n=0
 ·have h1:kw.length=(mx kv t).length:=U9 q.kn (TC p.kn t) fun x=>by
   rw [q.has,T7]
   by_cases hx:x=t
   ·rw [if_pos hx,hx,xU,hn];simp
   ·rw [if_neg hx,uM hx,p.has]
  rw [h1]
  exact List.length_filter_le _ _
 ·refine Nat.le_of_eq (zGo q p fun x=>?_)
  by_cases hx:x=t
  ·rw [hx,xU];omega
  ·rw [uM hx]
def ef (N b:Nat) (h:Heap) (D:List Nat) (T0:Nat) (us:ByteArray→Nat):Prop:=∃ FI FE FM free aU kv,D=[T0,FI,FE,FM]∧eH N h T0 FI FE FM free aU kv∧cS free aU kv us∧aU.length≤b∧kv.length≤b
theorem ef.lay {N b:Nat} {h:Heap} {D:List Nat} {T0:Nat} {us:ByteArray→Nat} (t:ef N b h D T0 us) (bs:List bh) (w:Nat):ef N b (h.lay bs w) D T0 us:=by
 obtain ⟨FI,FE,FM,free,aU,kv,rfl,st,p⟩:=t
 exact ⟨FI,FE,FM,free,aU,kv,rfl,st.lay _ _,p⟩
theorem ef.over {N b w:Nat} {h h2:Heap} {bs:List bh} {D:List Nat} {T0:Nat} {us:ByteArray→Nat} (t:ef N b h D T0 us) (x:Ext (h.lay bs w) h2):ef N b h2 D T0 us:=by
 obtain ⟨FI,FE,FM,free,aU,kv,rfl,st,p⟩:=t
 exact ⟨FI,FE,FM,free,aU,kv,rfl,st.over x,p⟩
theorem ef.bX {N b:Nat} {h h2:Heap} {D D2:List Nat} {T0:Nat} {us:ByteArray→Nat} (t:ef N b h D T0 us) (f:aM D2 h h2) (hd:∀ B∈D,B ∉ D2):ef N b h2 D T0 us:=by
 obtain ⟨FI,FE,FM,free,aU,kv,rfl,st,p⟩:=t
 exact ⟨FI,FE,FM,free,aU,kv,rfl,st.bX f ⟨hd _ (by simp),hd _ (by simp),hd _ (by simp),hd _ (by simp)⟩,p⟩
theorem ef.lo {N b:Nat} {h:Heap} {D:List Nat} {T0:Nat} {us:ByteArray→Nat} (t:ef N b h D T0 us):∀ B∈D,N≤B∧B < h.size:=by
 obtain ⟨FI,FE,FM,free,aU,kv,rfl,st,p⟩:=t
 obtain ⟨_,_,_,lo,hi⟩:=st
 intro B hB
 simp only [List.mem_cons,List.not_mem_nil,or_false] at hB
 rcases hB with rfl|rfl|rfl|rfl
 ·exact ⟨lo.1,hi.1⟩
 ·exact ⟨lo.2.1,hi.2.1⟩
 ·exact ⟨lo.2.2.1,hi.2.2.1⟩
 ·exact ⟨lo.2.2.2,hi.2.2.2⟩
theorem ef.le {N b b2:Nat} {h:Heap} {D:List Nat} {T0:Nat} {us:ByteArray→Nat} (t:ef N b h D T0 us) (hb:b≤b2):ef N b2 h D T0 us:=by
 obtain ⟨FI,FE,FM,free,aU,kv,rfl,st,p,he,hv⟩:=t
 exact ⟨FI,FE,FM,free,aU,kv,rfl,st,p,by omega,by omega⟩
theorem zzB (h hc:Heap) (z:Ext h hc) (D:List Nat) (T0 b:Nat) (us:ByteArray→Nat) (t:ByteArray) (st:ef h.size b hc D T0 us) (hb:b < 65536) (ht:t.size≠0) (YM:t.size≤255) (kF:us t < 1000000000000) (K:Value→Heap→Prop)
 (hk:∀ h' n D2,Ext h h'→aM D hc h'→ef h.size (b+1) h' D2 T0 (gV us t (us t+1))→(∀ B∈D2,B∈D∨hc.size≤B)→K (.tuple #[.int .i64 n,.int .i64 0]) h'):Ok Tryz.prog ae ov 73 [.pointer (some ⟨T0,0,none⟩),.string t] hc K:=by
 obtain ⟨FI,FE,FM,free,aU,kv,rfl,s,p,he,hv⟩:=st
 refine zzC h hc z T0 FI FE FM free aU kv us t s p ht YM (by omega) (by omega) kF K (fun h' n I2 E2 f2 e2 AF z' fr' s' p' hI hE vh=>hk h' n [T0,I2,E2,FM] z' fr' ⟨I2,E2,FM,f2,e2,AF,rfl,s',p',by omega,by have:=zNt p p';omega⟩ (fun B hB=>?_))
 simp only [List.mem_cons,List.not_mem_nil,or_false] at hB
 rcases hB with rfl|rfl|rfl|rfl
 ·exact .inl (by simp)
 ·exact hI.imp (fun e=>by rw [e];simp) id
 ·exact hE.imp (fun e=>by rw [e];simp) id
 ·exact .inl (by simp)
theorem ef.num {N b:Nat} {h:Heap} {D:List Nat} {T0:Nat} {us:ByteArray→Nat} {t:ByteArray} (d:ef N b h D T0 us) (ht:0 < us t):∃ FI FE FM free aU kv,∃ i:Nat,D=[T0,FI,FE,FM]∧eH N h T0 FI FE FM free aU kv∧cS free aU kv us∧aU.length≤b∧kv.length≤b∧dG kv t=some (.int .i64 (i:Int)):=by
 obtain ⟨FI,FE,FM,free,aU,kv,rfl,s,p,he,hv⟩:=d
 have h1:=(p.has t).2 ht
 cases hl:dG kv t with
 |none=>rw [hl] at h1;cases h1
 |some v =>
  obtain ⟨i,rfl,_⟩:=p.val t v hl
  exact ⟨FI,FE,FM,free,aU,kv,i,rfl,s,p,he,hv,hl⟩
theorem Cl (a:Value):([a]:List Value)[0]? = some a:=rfl
theorem cy (a) (h:Heap) (K:Value→Heap→Prop):aW (some (.pointer (some a))) h K=K (.pointer (some a)) h:=rfl
theorem zlD {l:List ByteArray} {i:Nat} {c:ByteArray} (hn:l.Nodup) (hc:l[i]? = some c):c ∉ l.take i:=fun hm=>by
 have h1:=List.take_append_drop i l
 rw [← h1,List.nodup_append] at hn
 obtain ⟨hi,pK⟩:=List.getElem?_eq_some_iff.1 hc
 exact hn.2.2 c hm c (by rw [List.drop_eq_getElem_cons hi,pK];exact List.mem_cons_self) rfl
open Classical in
noncomputable def ko (us:ByteArray→Nat) (l:List ByteArray):ByteArray→Nat:=fun x=>if x∈l then us x+1 else us x
open Classical in
noncomputable def jB (us:ByteArray→Nat) (l:List ByteArray):ByteArray→Nat:=fun x=>if x∈l then us x - 1 else us x
theorem zyz {us:ByteArray→Nat} {l:List ByteArray} {i:Nat} {c:ByteArray} (hn:l.Nodup) (hc:l[i]? = some c):gV (ko us (l.take i)) c (ko us (l.take i) c+1)=ko us (l.take (i+1))∧ko us (l.take i) c=us c:=by
 have h0:ko us (l.take i) c=us c:=if_neg (zlD hn hc)
 refine ⟨funext fun x=>?_,h0⟩
 have ht:l.take (i+1)=l.take i++[c]:=by rw [List.take_add_one,hc];rfl
 rw [ht]
 by_cases hx:x=c
 ·subst hx
  rw [xU,h0]
  unfold ko
  rw [if_pos (by simp)]
 ·rw [uM hx]
  unfold ko
  by_cases hm:x∈l.take i
  ·rw [if_pos hm,if_pos (by simp [hm])]
  ·rw [if_neg hm,if_neg (by simp [hm,hx])]
theorem zC4 {us:ByteArray→Nat} {l:List ByteArray} {i:Nat} {c:ByteArray} (hn:l.Nodup) (hc:l[i]? = some c):gV (jB us (l.take i)) c (jB us (l.take i) c - 1)=jB us (l.take (i+1))∧jB us (l.take i) c=us c:=by
 have h0:jB us (l.take i) c=us c:=if_neg (zlD hn hc)
 refine ⟨funext fun x=>?_,h0⟩
 have ht:l.take (i+1)=l.take i++[c]:=by rw [List.take_add_one,hc];rfl
 rw [ht]
 by_cases hx:x=c
 ·subst hx
  rw [xU,h0]
  unfold jB
  rw [if_pos (by simp)]
 ·rw [uM hx]
  unfold jB
  by_cases hm:x∈l.take i
  ·rw [if_pos hm,if_pos (by simp [hm])]
  ·rw [if_neg hm,if_neg (by simp [hm,hx])]
theorem zEW (us:ByteArray→Nat):ko us []=us:=funext fun x=>if_neg (by simp)
theorem zGO (us:ByteArray→Nat):jB us []=us:=funext fun x=>if_neg (by simp)
theorem zzA (a:ab) (h hc:Heap) (z:Ext h hc) (D:List Nat) (T0 b:Nat) (us:ByteArray→Nat) (st:ef h.size b hc D T0 us) (hb:b < 60000) (dz:∀ x,xW a x→x.size≠0∧x.size≤255) (kF:∀ x,us x < 1000000000) (K:Value→Heap→Prop)
 (hk:∀ h' cs D2,Ext h h'→aM D hc h'→cs.length≤4→cs.Nodup→(∀ x,x∈cs↔xW a x)→ef h.size (b+4) h' D2 T0 (ko us cs)→(∀ B∈D2,B∈D∨hc.size≤B)→K undef h'):Ok Tryz.prog ae ov 41 [.agg #[.pointer (some ⟨T0,0,none⟩)],a.val] hc K:=by
 rw [ao hc]
 refine Ok.aH rfl zDw (br VD) rfl (m:=16) rfl ?_
 simp only [syms,aa,seval,Ir,ec,↓eM,eh,dC]
 have M1:∀ B∈D,B < hc.size:=fun B hB=>(st.lo B hB).2
 refine zlm a _ _ (fun w cs h' x s yu fU cd=>?_)
 have q0:=Holds.top (i:=0) x rfl
 have fr:aM D hc h':=(aM.refl D hc).over x
 (replace z:=z.an x (by omega);(replace st:=st.over x);rw [ao h'])
 replace s:=s D (fun B hB=>by rw [bm];have:=M1 B hB;omega)
 obtain ⟨A0,dZ⟩:∃ A0,A0=hc.size+0:=⟨_,rfl⟩
 rw [← dZ] at q0
 rw [← dZ]
 have wq:A0 ∉ D:=fun hm=>by have:=M1 _ hm;omega
 rw [← zEW us] at st
 have eR:=bY w
 have qv:=fun (hh:Heap)=>s.bc cY hh
 simp only [syms,aa,seval,Ir,eR,qv]
 obtain ⟨I1,aS⟩:∃ I:Nat→Env→Heap→Prop,I=(fun n e h'=>∃ (i:Nat) (D1:List Nat) (h1:Heap),h'=h1.lay [] h1.low∧Ext h h1∧(n=cs.length - i∧i≤cs.length∧ef h.size (b+i) h1 D1 T0 (ko us (cs.take i))∧Holds h1 A0 (.row [.pointer (some ⟨T0,0,none⟩)] 97 false)∧A0 ∉ D1∧Sl aJ.str (aI D1 h1) w cs∧aM D hc h1∧(∀ B∈D1,B∈D∨hc.size≤B))∧∃ J:Nat→Value,e=(jr J 0 2 (.pointer (some ⟨A0,0,none⟩)::jr J 3 4 (w::.int .i64 cs.length::.int .i64 i::jr J 10 8 ([]))))):=⟨_,rfl⟩
 refine dj I1 _ (by rw [aS];exact ⟨0,D,_,rfl,z,⟨rfl,by omega,st,q0,wq,s,fr,fun B hB=>.inl hB⟩,aE (by kernel_rfl)⟩) ?_
 intro n e h' aL
 rw [aS] at aL
 obtain ⟨i,D1,bH,rfl,z,hinv,J,rfl⟩:=aL
 clear st q0 s fr wq
 obtain ⟨rfl,hi,st,q0,wq,s,fr,FW⟩:=hinv
 have hs:=s.mono (rn D1 bH)
 have gl:=eb i (by omega)
 have nK:=fr.size
 simp only [syms,aa,seval,Ir]
 refine bt (fun aR=>?_) (fun kQ=>?_)
 rotate_left
 ·have he:i=cs.length:=by omega
  rw [he,List.take_of_length_le (Nat.le_refl _)] at st
  simp only [syms,aa,seval,Ir]
  exact hk _ cs D1 (z.aw _ _ (by omega)) (fr.trans (aM.lay _ _ _ []) (fun _ h=>nomatch h)) yu fU cd ((st.lay _ _).le (by omega)) FW
 obtain ⟨c,hr,bz⟩:=eU (l:=cs) (i:=i) (by omega)
 have k8:=dz c ((cd c).1 (List.mem_of_getElem? bz))
 obtain ⟨mh,xp⟩:=zyz (us:=us) fU bz
 have ac5:=kF c
 repeat' (first|simp only [syms,aa,seval,Ir,cZ,q0.lay,Cl,cy]|with_reducible_and_instances refine qV hs cY oq (by omega) hr (fun p hp=>?_)|with_reducible_and_instances refine hY hp kc ?_)
 refine zzB h _ (z.aw _ _ (by omega)) D1 T0 (b+i) _ c (st.lay _ _) (by omega) k8.1 k8.2 (by rw [xp];omega) _ (fun h3 nn D2 z3 fL fV wt=>?_)
 rw [mh] at fV
 have ju:aM D1 bH h3:=(aM.lay bH [] bH.low D1).trans fL (fun B hB=>.inl hB)
 have s3:=s.mono (ju.inc (D':=D2) (fun B hB=>(wt B hB).imp id (fun e=>by rw [bm] at e;omega)))
 have q3:=q0.bX ju wq
 have FV:A0 ∉ D2:=fun hm=>by
  rcases wt _ hm with e|e
  ·exact wq e
  ·have:=q0.lt;rw [bm] at e;omega
 have ni:aM D hc h3:=fr.trans ju (fun B hB=>FW B hB)
 have tH:∀ B∈D2,B∈D∨hc.size≤B:=fun B hB=>(wt B hB).elim (FW B) (fun e=>.inr (by rw [bm] at e;omega))
 clear z
 have z:=z3
 rw [ao h3]
 simp only [syms,aa,seval,Ir]
 rw [gl]
 (rw [aS];with_reducible refine cB (m:=_) ?_ ⟨i+1,D2,_,rfl,z,⟨rfl,by omega,fV.le (by omega),q3,FV,s3,ni,tH⟩,aE (by kernel_rfl)⟩;omega)
theorem zzp (a:ab) (h hc:Heap) (z:Ext h hc) (D:List Nat) (T0 b:Nat) (us:ByteArray→Nat) (st:ef h.size b hc D T0 us) (hb:b < 60000) (kC:∀ x,xW a x→0 < us x) (kF:∀ x,us x < 1000000000) (K:Value→Heap→Prop)
 (hk:∀ h' cs D2,Ext h h'→aM D hc h'→cs.length≤4→cs.Nodup→(∀ x,x∈cs↔xW a x)→ef h.size b h' D2 T0 (jB us cs)→(∀ B∈D2,B∈D∨hc.size≤B)→K undef h'):Ok Tryz.prog ae ov 43 [.agg #[.pointer (some ⟨T0,0,none⟩)],a.val] hc K:=by
 rw [ao hc]
 refine Ok.aH rfl zDy (br VF) rfl (m:=26) rfl ?_
 simp only [syms,aa,seval,Ft,ec,↓eM,eh,dC]
 have M1:∀ B∈D,B < hc.size:=fun B hB=>(st.lo B hB).2
 refine zlm a _ _ (fun w cs h' x s yu fU cd=>?_)
 have q0:=Holds.top (i:=0) x rfl
 have fr:aM D hc h':=(aM.refl D hc).over x
 (replace z:=z.an x (by omega);(replace st:=st.over x);rw [ao h'])
 replace s:=s D (fun B hB=>by rw [bm];have:=M1 B hB;omega)
 obtain ⟨A0,dZ⟩:∃ A0,A0=hc.size+0:=⟨_,rfl⟩
 rw [← dZ] at q0
 rw [← dZ]
 have wq:A0 ∉ D:=fun hm=>by have:=M1 _ hm;omega
 rw [← zGO us] at st
 have eR:=bY w
 have qv:=fun (hh:Heap)=>s.bc cY hh
 simp only [syms,aa,seval,Ft,eR,qv]
 obtain ⟨I1,aS⟩:∃ I:Nat→Env→Heap→Prop,I=(fun n e h'=>∃ (i:Nat) (D1:List Nat) (h1:Heap),h'=h1.lay [] h1.low∧Ext h h1∧(n=cs.length - i∧i≤cs.length∧ef h.size b h1 D1 T0 (jB us (cs.take i))∧Holds h1 A0 (.row [.pointer (some ⟨T0,0,none⟩)] 97 false)∧A0 ∉ D1∧Sl aJ.str (aI D1 h1) w cs∧aM D hc h1∧(∀ B∈D1,B∈D∨hc.size≤B))∧∃ J:Nat→Value,e=(jr J 0 2 (.pointer (some ⟨A0,0,none⟩)::jr J 3 6 (w::.int .i64 cs.length::.int .i64 i::jr J 12 16 ([]))))):=⟨_,rfl⟩
 refine dj I1 _ (by rw [aS];exact ⟨0,D,_,rfl,z,⟨rfl,by omega,st,q0,wq,s,fr,fun B hB=>.inl hB⟩,aE (by kernel_rfl)⟩) ?_
 intro n e h' aL
 rw [aS] at aL
 obtain ⟨i,D1,bH,rfl,z,hinv,J,rfl⟩:=aL
 clear st q0 s fr wq
 obtain ⟨rfl,hi,st,q0,wq,s,fr,FW⟩:=hinv
 have hs:=s.mono (rn D1 bH)
 have gl:=eb i (by omega)
 have nK:=fr.size
 simp only [syms,aa,seval,Ft]
 refine bt (fun aR=>?_) (fun kQ=>?_)
 rotate_left
 ·have he:i=cs.length:=by omega
  rw [he,List.take_of_length_le (Nat.le_refl _)] at st
  simp only [syms,aa,seval,Ft]
  exact hk _ cs D1 (z.aw _ _ (by omega)) (fr.trans (aM.lay _ _ _ []) (fun _ h=>nomatch h)) yu fU cd ((st.lay _ _).le (by omega)) FW
 obtain ⟨c,hr,bz⟩:=eU (l:=cs) (i:=i) (by omega)
 have k8:=kC c ((cd c).1 (List.mem_of_getElem? bz))
 obtain ⟨mh,xp⟩:=zC4 (us:=us) fU bz
 have ac5:=kF c
 repeat' (first|simp only [syms,aa,seval,Ft,cZ,q0.lay,Cl,cy]|with_reducible_and_instances refine qV hs cY oq (by omega) hr (fun p hp=>?_)|with_reducible_and_instances refine hY hp kc ?_)
 obtain ⟨FI,FE,FM,free,aU,kv,m,Ws,ts,tp,yp,q8,YA⟩:=st.num (t:=c) (by rw [xp];exact k8)
 refine zzv c (some m) _ T0 FI FE FM h.size free aU kv (ts.lay _ _) YA _ (fun h' x=>?_)
 replace ts:=ts.over x
 have oR:aM D1 bH h':=(aM.refl D1 bH).over x
 (replace z:=z.an x (by omega);(replace st:=st.over x);(replace q0:=q0.over x);rw [ao h'])
 simp only [Option.getD_some,Option.isSome_some]
 repeat' (simp only [syms,aa,seval,Ft,bl,gP,q0.lay,Cl,cy])
 refine zzq h _ (z.aw _ _ (by omega)) T0 FI FE FM free aU kv _ c m (ts.lay _ _) tp YA (by omega) (by rw [xp];omega) _ (fun h3 I2 f2 e2 AF z3 fL fV Za hI vh=>?_)
 obtain ⟨D2,M0⟩:∃ D2,D2=[T0,I2,FE,FM]:=⟨_,rfl⟩
 replace fV:ef h.size b h3 D2 T0 (gV (jB us (cs.take i)) c (jB us (cs.take i) c - 1)):=⟨I2,FE,FM,f2,e2,AF,M0,fV,Za,by omega,by have:=zGn tp Za (by rw [xp];exact k8);omega⟩
 rw [← Ws] at fL
 have wt:∀ B∈D2,B∈D1∨(h'.lay [] h'.low).size≤B:=fun B hB=>by
  rw [M0] at hB
  rw [Ws]
  simp only [List.mem_cons,List.not_mem_nil,or_false] at hB
  rcases hB with rfl|rfl|rfl|rfl
  ·exact .inl (by simp)
  ·exact hI.imp (fun e=>by rw [e];simp) id
  ·exact .inl (by simp)
  ·exact .inl (by simp)
 rw [mh] at fV
 have ju:aM D1 bH h3:=(oR.trans (aM.lay h' [] h'.low D1) (fun B hB=>.inl hB)).trans fL (fun B hB=>.inl hB)
 have lS:=oR.size
 have s3:=s.mono (ju.inc (D':=D2) (fun B hB=>(wt B hB).imp id (fun e=>by rw [bm] at e;omega)))
 have q3:=q0.bX ((aM.lay h' [] h'.low D1).trans fL (fun B hB=>.inl hB)) wq
 have FV:A0 ∉ D2:=fun hm=>by
  rcases wt _ hm with e|e
  ·exact wq e
  ·have:=q0.lt;rw [bm] at e;omega
 have ni:aM D hc h3:=fr.trans ju (fun B hB=>FW B hB)
 have tH:∀ B∈D2,B∈D∨hc.size≤B:=fun B hB=>(wt B hB).elim (FW B) (fun e=>.inr (by rw [bm] at e;omega))
 clear z
 have z:=z3
 rw [ao h3]
 simp only [syms,aa,seval,Ft]
 rw [gl]
 (rw [aS];with_reducible refine cB (m:=_) ?_ ⟨i+1,D2,_,rfl,z,⟨rfl,by omega,fV.le (by omega),q3,FV,s3,ni,tH⟩,aE (by kernel_rfl)⟩;omega)
end Go.Proofs.YtkgojconmeeegaaGreatDoor

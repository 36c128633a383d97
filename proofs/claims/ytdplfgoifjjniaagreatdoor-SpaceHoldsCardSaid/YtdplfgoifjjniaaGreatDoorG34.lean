/- Walks: atoms that may be, their variables, by the program. Written out by fill2.py. No condition. -/
import Derived.Test.YtdplfgoifjjniaaGreatDoorG32
import Derived.Test.YtdplfgoifjjniaaGreatDoorG33
import Derived.Test.YtdplfgoifjjniaaGreatDoorG28
set_option linter.unusedSimpArgs false
set_option linter.unusedVariables false
set_option maxRecDepth 100000
set_option maxHeartbeats 0
namespace Go.Proofs.YtdplfgoifjjniaaGreatDoor
open Go.Am
theorem zBm (A o:Nat) (k:Int) (h0:0≤k) (h4:k≤4):kf ae 40 (.pointer (some ⟨A,o,none⟩)) (some (.int .i64 k)) none none=some (.slice (some ⟨A,if 4=k.toNat then o else o+k.toNat*2,none⟩) (4 - k.toNat) (4 - k.toNat)):=by
 have hG:4 < G:=by decide
 simp only [kf,Cv,pF,vA,if_pos hG,Option.bind_some]
 rw [if_pos ⟨h0,by omega⟩]
 simp [iJ]
theorem L4 (a:ab) (k:Nat):(a.all.drop k).length=4 - k:=by rw [List.length_drop];rfl
theorem zA4 (a:ab) {k i:Nat} (h:k+i < 4):(a.all.drop k)[i]? = some (a.arg (k+i)):=by
 rw [List.getElem?_drop]
 have:k+i=0∨k+i=1∨k+i=2∨k+i=3:=by omega
 rcases this with e|e|e|e <;> rw [e] <;> rfl
theorem zC5 {H:Heap} {A:Nat} {a:ab} {u:TypeId} {ro:Bool} (q:Holds H A (.row a.cells u ro)) (k:Nat) (hk:k≤4):Sl aK.term H (.slice (some ⟨A,if 4=k then 3 else 3+k*2,none⟩) (4 - k) (4 - k)) (a.all.drop k):=by
 refine .inr ⟨A,_,4 - k,a.cells,u,ro,by rw [L4],by rw [L4];unfold maxLen;omega,.inl ⟨by unfold G;omega,by rw [L4];exact Nat.le_refl _⟩,q.lt,q.get,fun i x hx=>?_⟩
 have hi:i < 4 - k:=by have:=(List.getElem?_eq_some_iff.1 hx).1;rw [L4] at this;exact this
 rw [zA4 a (by omega)] at hx
 cases hx
 have hc:=zB7 a (k+i) (by omega)
 rw [if_neg (by omega)]
 refine ⟨_,?_,rfl⟩
 show cut a.cells (3+k*2+i*2) 2=_
 rw [← hc]
 congr 1
 omega
theorem BJ (a:ab):a.cells[0]? = some (.string a.says):=rfl
theorem Pz (a:ab):a.cells[1]? = some (.string a.pred):=rfl
theorem GF (a:ab):a.cells[2]? = some (.int .i64 a.n):=rfl
theorem zt8 (a:ab) (bv:Bool) (h:Heap) (K:Value→Heap→Prop) (hk:∀ w l h',Ext h h'→Sl aK.str h' w l→l.length≤4→(∀ x,x∈l↔∃ i:Nat,i < a.cx∧(a.arg i).v=bv∧(a.arg i).s=x)→K w h'):Ok Tryz.prog ae ov 98 [a.val,.bool bv] h K:=by
 rw [ao h]
 have z:=Ext.refl h
 have Ay:=ZI a
 refine Ok.aD rfl zqD (br RM) rfl (m:=31) rfl ?_
 repeat' (simp -implicitDefEqProofs only [syms,aa,seval,mx,eW,↓ff,eR,dQ])
 refine MB a _ _ (fun w h' x sw=>?_)
 (replace z:=z.an x (by omega);rw [ao h'])
 have jm:=cJ w
 have rQ:=fun (hh:Heap)=>sw.bd vB hh
 have Vx:=sS a
 have Ke:=z.size
 simp -implicitDefEqProofs only [syms,aa,seval,mx,jm,rQ]
 obtain ⟨Hb,rfl⟩:∃ Hb,Hb=h':=⟨_,rfl⟩
 obtain ⟨I1,aR⟩:∃ I:Nat→Env→Heap→Prop,I=(fun n e h'=>∃ (i:Nat) (wv:Value) (A:Nat) (l:List ByteArray) (h1:Heap),h'=h1.lay [] h1.low∧Ext h h1∧(n=a.cx - i∧i≤a.cx∧l.length≤i∧(∀ x,x∈l↔∃ j:Nat,j < i∧(a.arg j).v=bv∧(a.arg j).s=x)∧Ow aK.str h h1 9 A wv l∧cP Hb h1∧Hb.size≤A)∧∃ J:Nat→Value,e=(J 0::.bool bv::jr J 2 3 (wv::jr J 6 3 (w::.int .i64 a.args.length::.int .i64 i::jr J 12 21 ([]))))):=⟨_,rfl⟩
 refine dg I1 _ (by rw [aR];exact ⟨0,.slice none 0 0,Hb.size,[],_,rfl,z,⟨rfl,by omega,by simp,by simp,Ow.nil (by omega),cP.refl _,Nat.le_refl _⟩,aB (by kernel_rfl)⟩) ?_
 intro n e h' aH
 rw [aR] at aH
 obtain ⟨i,wv,A,l,bE,rfl,z,hinv,J,rfl⟩:=aH
 obtain ⟨rfl,hi,FH,b8,ow,ib,vN⟩:=hinv
 have gO:=eg i (by omega)
 have gN:=cJ wv
 simp -implicitDefEqProofs only [syms,aa,seval,mx]
 refine bp (fun aS=>?_) (fun aS=>?_)
 rotate_left
 ·have he:i=a.cx:=by omega
  rw [he] at b8
  repeat' (simp -implicitDefEqProofs only [syms,aa,seval,mx,gN])
  exact hk _ _ _ (z.aw _ _ (by omega)) ((ow.sl (by decide)).lay _ _) (by omega) b8
 have nt:=Go.Am.args_at (a:=a) (i:=i) (by omega)
 rcases sJ:a.arg i with ⟨rv,rs⟩
 rw [sJ] at nt
 have hr:a.args[(i:Int).toNat]? = some ⟨rv,rs⟩:=by rw [Int.toNat_natCast];exact nt
 have j8:∀ x,(∃ j:Nat,j < i+1∧(a.arg j).v=bv∧(a.arg j).s=x)↔(∃ j:Nat,j < i∧(a.arg j).v=bv∧(a.arg j).s=x)∨(rv=bv∧rs=x):=by
  intro x
  constructor
  ·rintro ⟨j,hj,e⟩
   by_cases xj:j=i
   ·subst xj
    rw [sJ] at e
    exact .inr e
   ·exact .inl ⟨j,by omega,e⟩
  ·rintro (⟨j,hj,e⟩|e)
   ·exact ⟨j,by omega,e⟩
   ·exact ⟨i,by omega,by rw [sJ];exact e⟩
 repeat' (first|simp -implicitDefEqProofs only [syms,aa,seval,mx,mr,nO,List.all_cons,List.all_nil,Am.one,Bool.and_true,Bool.true_and,Bool.and_self,List.set_cons_zero,List.set_cons_succ,kM,fe,nJ,gy,gz,aQ.val,aQ.cells,gN]|with_reducible_and_instances refine MM (sw.mono ib) vB iJ (by omega) hr (fun p hp=>?_)|with_reducible_and_instances refine FW hp oh iJ ?_)
 have kl:(¬ rv=bv∨rs∈l)→∀ x,x∈l↔∃ j:Nat,j < i+1∧(a.arg j).v=bv∧(a.arg j).s=x:=by
  intro hs x
  rw [j8,← b8]
  refine ⟨.inl,fun e=>e.elim id (fun e=>?_)⟩
  rcases hs with hs|hs
  ·exact absurd e.1 hs
  ·rw [← e.2];exact hs
 have mJ:rv=bv→∀ x,x∈l++[rs]↔∃ j:Nat,j < i+1∧(a.arg j).v=bv∧(a.arg j).s=x:=by
  intro hs x
  rw [j8,← b8,List.mem_append,List.mem_singleton]
  exact ⟨fun e=>e.imp id (fun e=>⟨hs,e.symm⟩),fun e=>e.imp id (fun e=>e.2.symm)⟩
 have b1:(true == false)=false:=rfl
 have b2:(false == true)=false:=rfl
 have b3:(true == true)=true:=rfl
 have b4:(false == false)=true:=rfl
 have qU:=z.size
 cases rv
 all_goals
  cases bv
  all_goals
   repeat' (simp -implicitDefEqProofs only [syms,aa,seval,mx,zpX,b1,b2,b3,b4,gN])
 all_goals first
  |(rw [gO]
    have uL:=kl (.inl (by decide))
    refine OP (z.aw _ _ (by omega)) (fun H z hO hI=>?_)
    (rw [aR];with_reducible refine cz (m:=_) ?_ ⟨i+1,wv,A,l,_,rfl,z,⟨rfl,by omega,by omega,uL,ow.mono hI,ib.trans hI,vN⟩,aB (by kernel_rfl)⟩;omega))
  |skip
 all_goals
  refine FZ l wv rs _ ((ow.sl (by decide)).lay _ _) (by omega) _ (fun h' x=>?_)
  have q0:=Holds.top (i:=0) x rfl
  (replace z:=z.an x (by omega);(replace ow:=ow.over x);(replace ib:=ib.over x);rw [ao h'])
  cases aH:l.any fun x=>decide (rs=x)
  rotate_left
  ·have uL:=kl (.inr (by obtain ⟨y,hy,e⟩:=List.any_eq_true.1 aH;rw [of_decide_eq_true e];exact hy))
   repeat' (first|simp -implicitDefEqProofs only [syms,aa,seval,mx,Bool.not_true]|((with_reducible_and_instances apply cm);(· rfl)))
   rw [gO]
   (rw [aR];with_reducible refine cz (m:=_) ?_ ⟨i+1,wv,A,l,_,rfl,z,⟨rfl,by omega,by omega,uL,ow,ib,vN⟩,aB (by kernel_rfl)⟩;omega)
  have lz:=mJ rfl
  repeat' (first|simp -implicitDefEqProofs only [syms,aa,seval,mx,Bool.not_false,q0.lay,gN]|((with_reducible_and_instances apply cm);(· rfl)))
  simp -implicitDefEqProofs only [syms,aa,seval,mx,sX,RI]
 all_goals
  refine zA5 (i:=0) (cs:=[.string rs]) (x:=rs) cM Ev rfl (by decide) (by rfl) z.size ow rfl (by omega) (by omega) (fun w3 h3 A3 Xt ou IL=>?_)
  have VT:=ow.fresh
  have Xb:=cP.ku (ib.trans (cP.lay _ _ _)) ou vN
  have Ji:=ib.size
  replace z:=(z.aw _ _ (by omega)).step ou (by omega)
  rw [ao h3]
  have DN:=cJ w3
  repeat' (simp -implicitDefEqProofs only [syms,aa,seval,mx,DN])
  rw [gO]
  clear ow q0
  (rw [aR];with_reducible refine cz (m:=_) ?_ ⟨i+1,w3,A3,l++[rs],_,rfl,z,⟨rfl,by omega,by rw [List.length_append,List.length_singleton];omega,lz,Xt,Xb,by omega⟩,aB (by kernel_rfl)⟩;omega)
theorem zqp (a:ab) (h:Heap) (K:Value→Heap→Prop) (hk:∀ w l h',Ext h h'→Sl aK.str h' w l→l.length≤4→(∀ x,x∈l↔iM a x)→K w h'):Ok Tryz.prog ae ov 115 [a.val] h K:=by
 rw [ao h]
 have z:=Ext.refl h
 refine Ok.aD rfl zu6 (br Hg) rfl (m:=4) rfl ?_
 repeat' (simp -implicitDefEqProofs only [syms,aa,seval,Ii,eW,↓ff,eR,dQ])
 refine zt8 a true _ _ (fun w l h' x s hl hm=>?_)
 (replace z:=z.an x (by omega);rw [ao h'])
 have jm:=cJ w
 repeat' (simp -implicitDefEqProofs only [syms,aa,seval,Ii,jm])
 exact hk _ _ _ (z.aw _ _ (by omega)) (s.lay _ _) hl (fun x=>(hm x).trans mP.symm)
noncomputable def N19:=bq Tryz.f19
noncomputable def LH:=PLift.up (by have c:=bu N19 Tryz.f19;simp only [aE,Tryz.f19,seval] at c;exact nd c <| nd @EK <| nd @ri <| nd @EL <| nd @wq <| nd @oT <| nd @gf <| nd @xQ <| @TT)
theorem c19:type_of% LH.down:=LH.down
noncomputable def N40:=bq Tryz.f40
noncomputable def x40:=PLift.up (by have c:=bu N40 Tryz.f40;simp only [aE,Tryz.f40,seval] at c;exact nd c <| nd @jf <| nd @b9 <| nd @ia <| @Ue)
theorem Nf:type_of% x40.down:=x40.down
noncomputable def N9:=bq Tryz.f9
noncomputable def x9:=PLift.up (by have c:=bu N9 Tryz.f9;simp only [aE,Tryz.f9,seval] at c;exact nd c <| @fi9)
theorem c9:type_of% x9.down:=x9.down
/-! ### Light -/
theorem Pe (a:ab) (h:Heap) (K:Value→Heap→Prop) (h1:a.ba=true→∀ h',Ext h h'→K (.bool true) h') (h2:a.ba=false→∀ h',Ext h h'→K (.bool false) h'):Ok Tryz.prog ae ov 19 [a.val] h K:=by
 rw [ao h]
 have z:=Ext.refl h
 unfold ab.val ab.cells
 refine Ok.aD rfl zzB (br N19) rfl (m:=29) rfl ?_
 simp -implicitDefEqProofs only [syms,aa,seval,c19]
 repeat' ((first|((with_reducible apply bp) <;> intro _)|with_reducible_and_instances refine Mq ?_) <;> simp -implicitDefEqProofs only [syms,aa,seval,c19])
 all_goals first
  |with_reducible exact h2 (by simp [ab.ba];omega) _ (z.aw _ _ (by omega))
  |with_reducible exact h1 (by simp [ab.ba];omega) _ (z.aw _ _ (by omega))
theorem znr (l:List ab) (v:Value) (m:Int) (h:Heap) (hl:Sl aK.atom h v l) (K:Value→Heap→Prop) (h1:(l.length:Int)≤m→(∀ a∈l,a.ba=true)→∀ h',Ext h h'→K (.bool true) h') (h2:∀ h',Ext h h'→K (.bool false) h'):Ok Tryz.prog ae ov 40 [v,.int .i64 m] h K:=by
 rw [ao h]
 have z:=Ext.refl h
 have hle:=hl.le
 refine Ok.aD rfl zzU (br N40) rfl (m:=20) rfl ?_
 simp -implicitDefEqProofs only [syms,aa,seval,Nf]
 repeat' ((first|((with_reducible apply bp) <;> intro _)|with_reducible_and_instances refine Mz hl cf ?_) <;> simp -implicitDefEqProofs only [syms,aa,seval,Nf])
 ·exact h2 _ (z.aw _ _ (by omega))
 refine zDx (fun e h'=>∃ (i:Nat) (h1:Heap) (x1 x2 x3 x4 x6 x7 x8 x9 KE KP X2 X3 Lj Lq Lw LD LF LH LL LM:Value),h'=h1.lay [] h1.low∧Ext h h1∧i≤l.length∧(∀ a∈l.take i,a.ba=true)∧e=[v,x1,x2,x3,x4,.int .i64 i,x6,x7,x8,x9,KE,KP,X2,X3,Lj,Lq,Lw,LD,LF,LH,LL,LM]) (fun e _=>match e.get 5 with | .int _ i=>l.length - i.toNat|_=>0) ?_ ?_
 ·exact ⟨0,h,_,_,_,_,_,_,_,_,_,_,_,_,_,_,_,_,_,_,_,_,rfl,z,by omega,by simp,rfl⟩
 rintro e h' ⟨i,bE,x1,x2,x3,x4,x6,x7,x8,x9,KE,KP,X2,X3,Lj,Lq,Lw,LD,LF,LH,LL,LM,rfl,z,hi,az,rfl⟩
 have hw:i < l.length→IntKind.i64.wrap ((i:Int)+1)=((i+1:Nat):Int):=fun hh=>by unfold maxLen at hle;rw [wrap_i64 (by omega) (by omega)];omega
 simp -implicitDefEqProofs only [syms,aa,seval,Nf]
 repeat' ((first|((with_reducible apply bp) <;> intro _)|with_reducible_and_instances refine Mz hl cf ?_|with_reducible_and_instances refine ixa (hl.mono z.inc) cf bS (by omega) (by omega) (fun a p ha hp=>?_)|with_reducible_and_instances refine mM hp fw bS ?_|((with_reducible_and_instances refine Pe _ _ _ (fun sH h' x=>?_) (fun sH h' x=>?_)) <;> (replace z:=z.an x (by omega);rw [ao h']))|((with_reducible_and_instances apply cm);(· rfl))) <;> simp -implicitDefEqProofs only [syms,aa,seval,Nf])
 all_goals first
  |with_reducible exact h2 _ (z.aw _ _ (by omega))
  |with_reducible exact h1 (by omega) (by rw [List.take_of_length_le (by omega)] at az;exact az) _ (z.aw _ _ (by omega))
  |(rw [hw (by omega)]
    with_reducible refine zm9 ?_ ?_
    ·exact ⟨i+1,h',_,_,_,_,_,_,_,_,_,_,_,_,_,_,_,_,_,_,_,_,rfl,z,by omega,pf ha az sH,rfl⟩
    ·show l.length - ((i+1:Nat):Int).toNat < l.length - (i:Int).toNat
     omega)
noncomputable def N39:=bq Tryz.f39
noncomputable def x39:=PLift.up (by have c:=bu N39 Tryz.f39;simp only [aE,Tryz.f39,seval] at c;exact nd c <| nd @je <| nd @gf <| nd @jg <| nd @xQ <| @Ud)
theorem Nd:type_of% x39.down:=x39.down
noncomputable def N17:=bq Tryz.f17
noncomputable def LD:=PLift.up (by have c:=bu N17 Tryz.f17;simp only [aE,Tryz.f17,seval] at c;exact nd c <| nd @Bz <| nd @GJ <| nd @ztp <| nd @Ps <| nd @Pt <| nd @EM <| nd @BB <| nd @Pu <| nd @EN <| nd @EO <| nd @Pv <| nd @MR <| nd @PA <| nd @uS <| nd @DW <| nd @DX <| nd @DY <| nd @kL <| nd @rZ <| nd @DZ <| nd @xK <| nd @xL <| nd @b9 <| nd @oY <| nd @gf <| nd @uV <| nd @D7 <| nd @xN <| nd @xO <| nd @xQ <| @TR)
theorem kr:type_of% LD.down:=LD.down
noncomputable def N48:=bq Tryz.f48
noncomputable def x48:=PLift.up (by have c:=bu N48 Tryz.f48;simp only [aE,Tryz.f48,seval] at c;exact nd c <| nd @Bz <| nd @je <| nd @kL <| nd @gf <| nd @jg <| @Um)
theorem Nh:type_of% x48.down:=x48.down
theorem zgK (l:List ByteArray) (v:Value) (n0 m:Int) (h:Heap) (hl:Sl aK.str h v l) (K:Value→Heap→Prop) (tK:(l.length:Int)≤n0→∀ h',Ext h h'→K (.bool true) h') (kB:∀ h',Ext h h'→K (.bool false) h'):Ok Tryz.prog ae ov 39 [v,.int .i64 n0,.int .i64 m] h K:=by
 rw [ao h]
 have z:=Ext.refl h
 have hle:=hl.le
 have bC:=cJ v
 have cp:=fun (hh:Heap)=>hl.bd cM hh
 refine Ok.aD rfl zzT (br N39) rfl (m:=26) rfl ?_
 repeat' (first|simp -implicitDefEqProofs only [syms,aa,seval,Nd,bC,cp]|((with_reducible apply bp) <;> intro _))
 ·exact kB _ (z.aw _ _ (by omega))
 obtain ⟨I1,aR⟩:∃ I:Nat→Env→Heap→Prop,I=(fun n e h'=>∃ (i:Nat) (s:Int) (h1:Heap),h'=h1.lay [] h1.low∧Ext h h1∧(n=l.length - i∧i≤l.length)∧∃ J:Nat→Value,e=(v::.int .i64 n0::.int .i64 m::jr J 3 4 (.int .i64 s::.int .i64 i::jr J 9 20 ([])))):=⟨_,rfl⟩
 refine dg I1 _ (by rw [aR];exact ⟨0,0,_,rfl,z,⟨rfl,by omega⟩,aB (by kernel_rfl)⟩) ?_
 intro n e h' aH
 rw [aR] at aH
 obtain ⟨i,s,bE,rfl,z,hinv,J,rfl⟩:=aH
 obtain ⟨rfl,hi⟩:=hinv
 have hw:i < l.length→IntKind.i64.wrap ((i:Int)+1)=((i+1:Nat):Int):=fun hh=>by unfold maxLen at hle;rw [wrap_i64 (by omega) (by omega)];omega
 simp -implicitDefEqProofs only [syms,aa,seval,Nd,bC,cp]
 refine bp (fun aS=>?_) (fun aS=>?_)
 rotate_left
 ·repeat' ( simp -implicitDefEqProofs only [syms,aa,seval,Nd])
  exact tK (by omega) _ (z.aw _ _ (by omega))
 obtain ⟨r,hr,bo⟩:=eP (l:=l) (i:=i) (by omega)
 repeat' (first|simp -implicitDefEqProofs only [syms,aa,seval,Nd,bC]|((with_reducible apply bp) <;> intro _)|with_reducible_and_instances refine ph (hl.mono z.inc) cM mN (by omega) hr (fun p hp=>?_)|with_reducible_and_instances refine fX hp gU ?_)
 ·exact kB _ (z.aw _ _ (by omega))
 ·rw [hw (by omega)]
  (rw [aR];with_reducible refine cz (m:=_) ?_ ⟨i+1,IntKind.i64.wrap (s+r.size),_,rfl,z,⟨rfl,by omega⟩,aB (by kernel_rfl)⟩;omega)
def oC (l:List ByteArray) (x:ByteArray):Bool:=l.any (fun y=>decide (y=x))
theorem lf {l:List ByteArray} {x:ByteArray}:oC l x=true↔x∈l:=by
 unfold oC
 rw [List.any_eq_true]
 exact ⟨fun ⟨y,h1,h2⟩=>of_decide_eq_true h2 ▸ h1,fun h=>⟨x,h,decide_eq_true rfl⟩⟩
theorem Gx (l:List ByteArray) (bt:ByteArray) (p0 p1 p2 p5 p6:Value) (q b:Int) (h:Heap) (hl:Sl aK.str h p0 l) (K:Value→Heap→Prop) (hk:∀ h',Ext h h'→K (.bool (oC l bt)) h'):Ok Tryz.prog ae ov 48 [gQ p0 p1 p2 p5 p6 q b,.string bt] h K:=by
 rw [ao h]
 have z:=Ext.refl h
 have hle:=hl.le
 have bC:=cJ p0
 have cp:=fun (hh:Heap)=>hl.bd cM hh
 refine Ok.aD rfl zz1 (br N48) rfl (m:=18) rfl ?_
 repeat' (simp -implicitDefEqProofs only [syms,aa,seval,Nh,eQ,dy,bC,cp])
 refine lG (fun h' x hq=>?_)
 have q0:=hq 0 _ rfl
 clear hq
 (replace z:=z.an x (by omega);rw [ao h'])
 obtain ⟨A0,dS⟩:∃ A0,A0=h.size+0:=⟨_,rfl⟩
 rw [← dS] at q0
 rw [← dS]
 obtain ⟨I1,aR⟩:∃ I:Nat→Env→Heap→Prop,I=(fun n e h'=>∃ (i:Nat) (h1:Heap),h'=h1.lay [] h1.low∧Ext h h1∧(n=l.length - i∧i≤l.length∧(∀ x∈l.take i,decide (x=bt)=false)∧Holds h1 A0 (.row (dw p0 p1 p2 p5 p6 q b) 29 false))∧∃ J:Nat→Value,e=(J 0::.string bt::.pointer (some ⟨A0,0,none⟩)::jr J 3 2 (.int .i64 i::jr J 6 14 ([])))):=⟨_,rfl⟩
 refine dg I1 _ (by rw [aR];exact ⟨0,_,rfl,z,⟨rfl,by omega,by simp,q0⟩,aB (by kernel_rfl)⟩) ?_
 intro n e h' aH
 rw [aR] at aH
 obtain ⟨i,bE,rfl,z,hinv,J,rfl⟩:=aH
 clear q0
 obtain ⟨rfl,hi,az,q0⟩:=hinv
 have hw:i < l.length→IntKind.i64.wrap ((i:Int)+1)=((i+1:Nat):Int):=fun hh=>by unfold maxLen at hle;rw [wrap_i64 (by omega) (by omega)];omega
 simp -implicitDefEqProofs only [syms,aa,seval,Nh,q0.lay,dy,bC,cp]
 refine bp (fun aS=>?_) (fun aS=>?_)
 rotate_left
 ·rw [List.take_of_length_le (by omega)] at az
  have hf:oC l bt=false:=by unfold oC;rw [List.any_eq_false];intro x hx;rw [az x hx];decide
  rw [hf] at hk
  repeat' (simp -implicitDefEqProofs only [syms,aa,seval,Nh])
  exact hk _ (z.aw _ _ (by omega))
 obtain ⟨r,hr,bo⟩:=eP (l:=l) (i:=i) (by omega)
 repeat' (first|simp -implicitDefEqProofs only [syms,aa,seval,Nh,q0.lay,dy,bC]|((with_reducible apply bp) <;> intro _)|with_reducible_and_instances refine ph (hl.mono z.inc) cM mN (by omega) hr (fun p hp=>?_)|with_reducible_and_instances refine fX hp gU ?_)
 ·have he:r=bt:=by assumption
  rw [show oC l bt=true from lf.2 (he ▸ List.mem_of_getElem? bo)] at hk
  exact hk _ (z.aw _ _ (by omega))
 ·have aO:¬ r=bt:=by assumption
  rw [hw (by omega)]
  (rw [aR];with_reducible refine cz (m:=_) ?_ ⟨i+1,_,rfl,z,⟨rfl,by omega,pf (i:=i) (P:=fun x:ByteArray=>decide (x=bt)=false) bo az (decide_eq_false aO),q0⟩,aB (by kernel_rfl)⟩;omega)
end Go.Proofs.YtdplfgoifjjniaaGreatDoor

/- The code of some functions, node by node, for simp. Written by a program (mkcode.py). No condition. -/
import Derived.Test.YtdplfgoifjjniaaGreatDoorG44
import Derived.Test.YtdplfgoifjjniaaGreatDoorG35
set_option linter.unusedSimpArgs false
set_option linter.unusedVariables false
set_option maxRecDepth 100000
set_option maxHeartbeats 0
namespace Go.Proofs.YtdplfgoifjjniaaGreatDoor
open Go.Am
noncomputable def N43:=bq Tryz.f43
noncomputable def x43:=PLift.up (by have c:=bu N43 Tryz.f43;simp only [aE,Tryz.f43,seval] at c;exact nd c <| nd @Bz <| nd @je <| nd @kL <| nd @gf <| nd @jg <| @Uh)
theorem wR:type_of% x43.down:=x43.down
noncomputable def N72:=bq Tryz.f72
noncomputable def x72:=PLift.up (by have c:=bu N72 Tryz.f72;simp only [aE,Tryz.f72,seval] at c;exact nd c <| nd @GJ <| nd @EM <| nd @MQ <| nd @uS <| nd @rZ <| nd @kV <| nd @gf <| nd @uV <| @UJ)
theorem Nl:type_of% x72.down:=x72.down
noncomputable def N44:=bq Tryz.f44
noncomputable def x44:=PLift.up (by have c:=bu N44 Tryz.f44;simp only [aE,Tryz.f44,seval] at c;exact nd c <| nd @Ca <| nd @GJ <| nd @EM <| nd @MQ <| nd @uS <| nd @rZ <| nd @kV <| nd @D3 <| nd @gf <| nd @uV <| @Ui)
theorem vH:type_of% x44.down:=x44.down
noncomputable def N73:=bq Tryz.f73
noncomputable def x73:=PLift.up (by have c:=bu N73 Tryz.f73;simp only [aE,Tryz.f73,seval] at c;exact nd c <| nd @BB <| nd @Pu <| nd @je <| nd @kL <| nd @eO <| nd @gf <| nd @jg <| @UK)
theorem vI:type_of% x73.down:=x73.down
noncomputable def N45:=bq Tryz.f45
noncomputable def x45:=PLift.up (by have c:=bu N45 Tryz.f45;simp only [aE,Tryz.f45,seval] at c;exact nd c <| nd @ztp <| nd @BB <| nd @DW <| nd @DZ <| nd @eO <| nd @D4 <| nd @gf <| nd @D7 <| @Uj)
theorem pk:type_of% x45.down:=x45.down
noncomputable def N74:=bq Tryz.f74
noncomputable def x74:=PLift.up (by have c:=bu N74 Tryz.f74;simp only [aE,Tryz.f74,seval] at c;exact nd c <| nd @ri <| nd @EL <| nd @BA <| nd @eO <| nd @kV <| nd @b9 <| nd @gf <| @UL)
theorem Ai:type_of% x74.down:=x74.down
noncomputable def N46:=bq Tryz.f46
noncomputable def x46:=PLift.up (by have c:=bu N46 Tryz.f46;simp only [aE,Tryz.f46,seval] at c;exact nd c <| nd @jf <| nd @eO <| nd @b9 <| nd @ia <| @Uk)
theorem qF:type_of% x46.down:=x46.down
noncomputable def N47:=bq Tryz.f47
noncomputable def x47:=PLift.up (by have c:=bu N47 Tryz.f47;simp only [aE,Tryz.f47,seval] at c;exact nd c <| nd @BA <| nd @wq <| nd @je <| nd @oT <| nd @jf <| nd @kV <| nd @oX <| nd @b9 <| nd @gf <| nd @jg <| nd @ia <| @Ul)
theorem pT:type_of% x47.down:=x47.down
noncomputable def N25:=bq Tryz.f25
noncomputable def x25:=PLift.up (by have c:=bu N25 Tryz.f25;simp only [aE,Tryz.f25,seval] at c;exact nd c <| nd @H7 <| nd @GK <| nd @zBc <| nd @Ps <| nd @Pt <| nd @ri <| nd @EN <| nd @EO <| nd @Pv <| nd @MR <| nd @PA <| nd @DX <| nd @DY <| nd @xK <| nd @xL <| nd @eO <| nd @kV <| nd @b9 <| nd @oY <| nd @Kk <| nd @gf <| nd @xN <| nd @xO <| @TY)
theorem iW:type_of% x25.down:=x25.down
noncomputable def N27:=bq Tryz.f27
noncomputable def x27:=PLift.up (by have c:=bu N27 Tryz.f27;simp only [aE,Tryz.f27,seval] at c;exact nd c <| nd @b9 <| @T2)
theorem c27:type_of% x27.down:=x27.down
theorem GN (l:List ByteArray) (s:ByteArray):oC l s=bg l s:=by
 cases h:bg l s
 ·cases g:oC l s
  ·rfl
  ·rw [cI.2 (lf.1 g)] at h;cases h
 ·exact lf.2 (cI.1 h)
theorem zAP {a:ab} {i:Nat} (h1:iL a.says) (h2:iL a.pred) (h3:¬ (a.n < 0∨4 < a.n)) (hi:(i:Int) < a.n) (ht:¬ dv (a.arg i)):iQ a=3 :=
 zkU h1 h2 h3 (List.any_eq_true.2 ⟨a.arg i,List.mem_of_getElem? (Am.args_at (gV.2 ⟨by omega,hi⟩)),by unfold E9;simp [ht]⟩)
theorem zvM {a:ab} (h1:iL a.says) (h2:iL a.pred) (h3:¬ (a.n < 0∨4 < a.n)) (az:∀ j:Nat,(j:Int) < a.n→dv (a.arg j)):iQ a=if (a.all.drop a.cx).any (fun t => !decide (t=bT)) then 15 else 0:=by
 refine zkT h1 h2 h3 (List.any_eq_false.2 fun t ht=>?_)
 obtain ⟨j,hj,rfl⟩:=mZ.1 ht
 unfold E9
 simp [az j (gV.1 hj).2]
theorem zsL (a:ab) {k:Nat} (h:k < 4):a.all[k]? = some (a.arg k):=by
 have:k=0∨k=1∨k=2∨k=3:=by omega
 rcases this with rfl|rfl|rfl|rfl <;> rfl
theorem zzc {a:ab} {k:Nat} (h1:a.cx≤k) (h2:k < 4) (h:¬ a.arg k=bT):(a.all.drop a.cx).any (fun t => !decide (t=bT))=true :=
 List.any_eq_true.2 ⟨a.arg k,List.mem_of_getElem? (i:=k - a.cx) (by rw [List.getElem?_drop,show a.cx+(k - a.cx)=k by omega];exact zsL a h2),by simp [h]⟩
theorem zuC {a:ab} (h:∀ k,a.cx≤k→k < 4→a.arg k=bT):(a.all.drop a.cx).any (fun t => !decide (t=bT))=false:=by
 refine List.any_eq_false.2 fun t ht=>?_
 obtain ⟨i,hi⟩:=List.getElem?_of_mem ht
 rw [List.getElem?_drop] at hi
 have h4:a.cx+i < 4:=(List.getElem?_eq_some_iff.1 hi).1
 rw [zsL a h4] at hi
 cases hi
 simp [h _ (Nat.le_add_right _ _) h4]
theorem zt3 (a:ab) (h:Heap) (K:Value→Heap→Prop) (hk:∀ h',Ext h h'→K (.int .i64 (iQ a)) h'):Ok Tryz.prog ae ov 105 [a.val] h K:=by
 rw [ao h]
 have z:=Ext.refl h
 refine Ok.aD rfl zuW (br G5) rfl (m:=46) rfl ?_
 repeat' (simp -implicitDefEqProofs only [syms,aa,seval,iT,eW,MF,MG,Bv])
 refine ZA _ _ _ (fun hs h' x=>?_) (fun hs h' x=>?_)
 rotate_left
 ·(replace z:=z.an x (by omega);rw [ao h'])
  repeat' (first|simp -implicitDefEqProofs only [syms,aa,seval,iT]|((with_reducible_and_instances apply cm);(· rfl)))
  rw [OU (.inl hs)] at hk
  exact hk _ (z.aw _ _ (by omega))
 have q0:=Holds.top (i:=0) x rfl
 (replace z:=z.an x (by omega);rw [ao h'])
 repeat' (first|simp -implicitDefEqProofs only [syms,aa,seval,iT,q0.lay,MF,MG,Bv]|((with_reducible_and_instances apply cm);(· rfl)))
 refine zqn _ _ _ (fun hp h' x=>?_) (fun hp h' x=>?_)
 rotate_left
 ·(replace z:=z.an x (by omega);( replace q0:=q0.over x );rw [ao h'])
  repeat' (first|simp -implicitDefEqProofs only [syms,aa,seval,iT]|((with_reducible_and_instances apply cm);(· rfl)))
  rw [OU (.inr hp)] at hk
  exact hk _ (z.aw _ _ (by omega))
 (replace z:=z.an x (by omega);(replace q0:=q0.over x);rw [ao h'])
 repeat' (first|simp -implicitDefEqProofs only [syms,aa,seval,iT,q0.lay,MF,MG,Bv]|((with_reducible apply bp) <;> intro _)|((with_reducible_and_instances apply cm);(· rfl)))
 all_goals try (rw [zn5 hs hp (by omega)] at hk;exact hk _ (z.aw _ _ (by omega)))
 have h3:¬ (a.n < 0∨4 < a.n):=by omega
 have nX:0≤a.n:=by omega
 have FL:a.n≤4:=by omega
 obtain ⟨I1,aR⟩:∃ I:Nat→Env→Heap→Prop,I=(fun n e h'=>∃ (i:Nat) (h1:Heap),h'=h1.lay [] h1.low∧Ext h h1∧(n=4 - i∧(i:Int)≤a.n∧(∀ j,j < i→dv (a.arg j))∧Holds h1 (h.size+0) (.row a.cells 42 false))∧∃ J:Nat→Value,e=(J 0::.pointer (some ⟨h.size+0,0,none⟩)::J 2::.int .i64 i::jr J 4 43 ([]))):=⟨_,rfl⟩
 refine dg I1 _ (by rw [aR];exact ⟨0,_,rfl,z,⟨rfl,by omega,fun j hj=>by omega,q0⟩,aB (by kernel_rfl)⟩) ?_
 intro n e h' aH
 rw [aR] at aH
 obtain ⟨i,bE,rfl,z,hinv,J,rfl⟩:=aH
 clear q0
 obtain ⟨rfl,hi,az,q0⟩:=hinv
 have gO:=eg i (by omega)
 simp -implicitDefEqProofs only [syms,aa,seval,iT,q0.lay,Bv]
 refine bp (fun aS=>?_) (fun aS=>?_)
 ·have qg:(0:Int)≤(i:Int)∧(i:Int) < 4:=by omega
  have oE:=O8 a i (by omega)
  repeat' (simp -implicitDefEqProofs only [syms,aa,seval,iT,q0.lay,qg,↓oE,O4,Mj,and_self,if_true])
  refine zw9 _ _ _ (fun ht h' x=>?_) (fun ht h' x=>?_)
  ·(replace z:=z.an x (by omega);( replace q0:=q0.over x );rw [ao h'])
   have uD:∀ j,j < i+1→dv (a.arg j):=by
    intro j hj
    by_cases jN:j < i
    ·exact az j jN
    ·have:j=i:=by omega
     subst this
     exact ht
   repeat' (first|simp -implicitDefEqProofs only [syms,aa,seval,iT]|((with_reducible_and_instances apply cm);(· rfl)))
   rw [gO]
   (rw [aR];with_reducible refine cz (m:=_) ?_ ⟨i+1,_,rfl,z,⟨rfl,by omega,uD,q0⟩,aB (by kernel_rfl)⟩;omega)
  ·(replace z:=z.an x (by omega);( replace q0:=q0.over x );rw [ao h'])
   repeat' (first|simp -implicitDefEqProofs only [syms,aa,seval,iT]|((with_reducible_and_instances apply cm);(· rfl)))
   rw [zAP hs hp h3 (i:=i) (by omega) ht] at hk
   exact hk _ (z.aw _ _ (by omega))
 have aH:a.n=(i:Int):=by omega
 have Ay:a.cx=i:=by unfold ab.cx;omega
 rw [zvM hs hp h3 (fun j hj=>az j (by omega))] at hk
 repeat' (simp -implicitDefEqProofs only [syms,aa,seval,iT,q0.lay,Bv])
 rw [aH]
 obtain ⟨I2,eM⟩:∃ I:Nat→Env→Heap→Prop,I=(fun n e h'=>∃ (k:Nat) (h1:Heap),h'=h1.lay [] h1.low∧Ext h h1∧(n=4 - k∧i≤k∧k≤4∧(∀ j,i≤j→j < k→a.arg j=bT)∧Holds h1 (h.size+0) (.row a.cells 42 false))∧∃ J:Nat→Value,e=(J 0::.pointer (some ⟨h.size+0,0,none⟩)::jr J 2 2 (.int .i64 k::jr J 5 42 ([])))):=⟨_,rfl⟩
 refine dg I2 _ (by rw [eM];exact ⟨i,_,rfl,z,⟨rfl,by omega,by omega,fun j h1 h2=>by omega,q0⟩,aB (by kernel_rfl)⟩) ?_
 intro n e h' aH
 rw [eM] at aH
 obtain ⟨k,vJ,rfl,z,hinv,J,rfl⟩:=aH
 clear q0
 obtain ⟨rfl,rL,um,fm,q0⟩:=hinv
 have mK:=eg k (by omega)
 simp -implicitDefEqProofs only [syms,aa,seval,iT]
 refine bp (fun aS=>?_) (fun aS=>?_)
 rotate_left
 ·repeat' ( simp -implicitDefEqProofs only [syms,aa,seval,iT])
  rw [zuC (fun j g1 g2=>fm j (by omega) (by omega))] at hk
  exact hk _ (z.aw _ _ (by omega))
 have qg:(0:Int)≤(k:Int)∧(k:Int) < 4:=by omega
 have oE:=O8 a k (by omega)
 simp -implicitDefEqProofs only [syms,aa,seval,iT,q0.lay,qg,↓oE,O4,Mj,and_self,if_true,zBV,zmd]
 refine MT (fun aO=>?_) (fun heq=>?_)
 ·repeat' ( simp -implicitDefEqProofs only [syms,aa,seval,iT])
  rw [zzc (k:=k) (by omega) (by omega) aO] at hk
  exact hk _ (z.aw _ _ (by omega))
 ·have uD:∀ j,i≤j→j < k+1→a.arg j=bT:=by
   intro j h1 h2
   by_cases jN:j < k
   ·exact fm j h1 jN
   ·have:j=k:=by omega
    subst this
    exact heq
  repeat' (simp -implicitDefEqProofs only [syms,aa,seval,iT])
  rw [mK]
  (rw [eM];with_reducible refine cz (m:=_) ?_ ⟨k+1,_,rfl,z,⟨rfl,by omega,by omega,uD,q0⟩,aB (by kernel_rfl)⟩;omega)
theorem zqA {α:Type} {r:aK α} {h:Heap} {v:Value} {l:List α} (f:Sl r h v l):∃ a n c,v=.slice a n c:=by
 rcases f with ⟨rfl,_⟩|⟨A,o,c,row,u,ro,rfl,_⟩ <;> exact ⟨_,_,_,rfl⟩
theorem zpV (a:Option Addr) (n c:Nat):nR ae 29 [(0,.slice a n c)]=some (gQ (.slice a n c) (.slice none 0 0) (.slice none 0 0) (.slice none 0 0) (.slice none 0 0) 0 0):=by kernel_rfl
theorem zwj (a:Option Addr) (n c:Nat):nR ae 29 [(1,.slice a n c)]=some (gQ (.slice none 0 0) (.slice a n c) (.slice none 0 0) (.slice none 0 0) (.slice none 0 0) 0 0):=by kernel_rfl
theorem zuO {h:Heap} {v:Value} {l:List ByteArray} (f:Sl aK.str h v l) (i:Nat) (hi:i≤l.length):∃ a n c,kf ae 23 v none (some (.int .i64 i)) none=some (.slice a n c)∧Sl aK.str h (.slice a n c) (l.take i):=by
 obtain ⟨u1,g1,g2⟩:=f.sub (a:=0) (b:=i) (by decide) cM mN (.inl ⟨rfl,rfl⟩) (.inr ⟨.i64,rfl⟩) (by omega) hi
 obtain ⟨a,n,c,rfl⟩:=zqA g2
 exact ⟨a,n,c,g1,by simpa using g2⟩
theorem zzq {h:Heap} {v:Value} {l:List bx} (f:Sl aK.pred h v l) (i:Nat) (hi:i≤l.length):∃ a n c,kf ae 24 v none (some (.int .i64 i)) none=some (.slice a n c)∧Sl aK.pred h (.slice a n c) (l.take i):=by
 obtain ⟨u1,g1,g2⟩:=f.sub (a:=0) (b:=i) (by decide) iY kb (.inl ⟨rfl,rfl⟩) (.inr ⟨.i64,rfl⟩) (by omega) hi
 obtain ⟨a,n,c,rfl⟩:=zqA g2
 exact ⟨a,n,c,g1,by simpa using g2⟩
theorem zkB (l:List bx) (bt:ByteArray) (p0 p1 p2 p5 p6:Value) (q b:Int) (h:Heap) (hl:Sl aK.pred h p1 l) (K:Value→Heap→Prop) (hk:∀ h',Ext h h'→K (.tuple #[.int .i64 (lT l bt).1,.bool (lT l bt).2]) h'):Ok Tryz.prog ae ov 72 [gQ p0 p1 p2 p5 p6 q b,.string bt] h K:=by
 rw [ao h]
 have z:=Ext.refl h
 have hle:=hl.le
 have bC:=cJ p1
 have cp:=fun (hh:Heap)=>hl.bd iY hh
 refine Ok.aD rfl zAp (br N72) rfl (m:=26) rfl ?_
 repeat' (simp -implicitDefEqProofs only [syms,aa,seval,Nl,eQ,eo,bC,cp])
 refine lG (fun h' x hq=>?_)
 have q0:=hq 0 _ rfl
 clear hq
 (replace z:=z.an x (by omega);rw [ao h'])
 obtain ⟨A0,dS⟩:∃ A0,A0=h.size+0:=⟨_,rfl⟩
 rw [← dS] at q0
 rw [← dS]
 obtain ⟨I1,aR⟩:∃ I:Nat→Env→Heap→Prop,I=(fun n e h'=>∃ (i:Nat) (h1:Heap),h'=h1.lay [] h1.low∧Ext h h1∧(n=l.length - i∧i≤l.length∧(∀ y∈l.take i,¬ y.name=bt)∧Holds h1 A0 (.row (dw p0 p1 p2 p5 p6 q b) 29 false))∧∃ J:Nat→Value,e=(J 0::.string bt::.pointer (some ⟨A0,0,none⟩)::jr J 3 3 (.int .i64 i::jr J 7 21 ([])))):=⟨_,rfl⟩
 refine dg I1 _ (by rw [aR];exact ⟨0,_,rfl,z,⟨rfl,by omega,by simp,q0⟩,aB (by kernel_rfl)⟩) ?_
 intro n e h' aH
 rw [aR] at aH
 obtain ⟨i,bE,rfl,z,hinv,J,rfl⟩:=aH
 clear q0
 obtain ⟨rfl,hi,az,q0⟩:=hinv
 have hw:i < l.length→IntKind.i64.wrap ((i:Int)+1)=((i+1:Nat):Int):=fun hh=>by unfold maxLen at hle;rw [wrap_i64 (by omega) (by omega)];omega
 simp -implicitDefEqProofs only [syms,aa,seval,Nl,q0.lay,eo,bC,cp]
 refine bp (fun aS=>?_) (fun aS=>?_)
 rotate_left
 ·repeat' ( simp -implicitDefEqProofs only [syms,aa,seval,Nl])
  rw [List.take_of_length_le (by omega)] at az
  rw [zif az] at hk
  exact hk _ (z.aw _ _ (by omega))
 obtain ⟨r,hr,bo⟩:=eP (l:=l) (i:=i) (by omega)
 repeat' (first|simp -implicitDefEqProofs only [syms,aa,seval,Nl,q0.lay,eo,bC]|((with_reducible apply bp) <;> intro _)|with_reducible_and_instances refine MU (hl.mono z.inc) iY kb (by omega) hr (fun p hp=>?_)|with_reducible_and_instances refine tI hp EM (fun q hq=>?_)|with_reducible_and_instances refine IF hp MQ (fun q hq=>?_)|with_reducible_and_instances refine fX hq gU ?_|with_reducible_and_instances refine fX hq HX ?_)
 ·rw [zl9 az bo (by assumption)] at hk
  exact hk _ (z.aw _ _ (by omega))
 ·have aO:¬ r.name=bt:=by assumption
  rw [hw (by omega)]
  (rw [aR];with_reducible refine cz (m:=_) ?_ ⟨i+1,_,rfl,z,⟨rfl,by omega,pf (i:=i) (P:=fun y:bx=>¬ y.name=bt) bo az aO,q0⟩,aB (by kernel_rfl)⟩;omega)
section
variable {d:au} {a:ab}
theorem zBG (h:¬ iQ a=0):iu d a=iQ a:=by unfold iu;rw [iq,if_neg h]
theorem zBE (h:iQ a=0) (h1:bg d.aj a.says=false):iu d a=6:=by unfold iu;rw [iq,if_pos h,iq,h1];rfl
theorem zBF (h:iQ a=0) (h1:bg d.aj a.says=true) (h2:(lT d.bA a.pred).2=false):iu d a=7:=by unfold iu;rw [iq,if_pos h,iq,h1,h2];rfl
theorem zBD (h:iQ a=0) (h1:bg d.aj a.says=true) (h2:(lT d.bA a.pred).2=true) (h3:¬ (lT d.bA a.pred).1=a.n):iu d a=8:=by unfold iu;rw [iq,if_pos h,iq,h1,h2,decide_eq_false h3];rfl
theorem zBC (h:iQ a=0) (h1:bg d.aj a.says=true) (h2:(lT d.bA a.pred).2=true) (h3:(lT d.bA a.pred).1=a.n):iu d a=0:=by unfold iu;rw [iq,if_pos h,iq,h1,h2,decide_eq_true h3];rfl
end
theorem znf (d:au) (a:ab) (p0 p1 p2 p5 p6:Value) (q b:Int) (h:Heap) (bw:(dw p0 p1 p2 p5 p6 q b).all Am.one=true) (hd:fO h p0 p1 p2 p5 p6 d) (K:Value→Heap→Prop) (hk:∀ h',Ext h h'→K (.int .i64 (iu d a)) h'):Ok Tryz.prog ae ov 74 [gQ p0 p1 p2 p5 p6 q b,a.val] h K:=by
 rw [ao h]
 have z:=Ext.refl h
 have gr:=mn
 refine Ok.aD rfl zAr (br N74) rfl (m:=31) rfl ?_
 simp -implicitDefEqProofs only [syms,aa,seval,Ai,eQ,eW,↓ff,eR,dQ]
 refine zt3 a _ _ (fun h' x=>?_)
 have q0:=Holds.top (i:=0) x rfl
 have e0:=Holds.top (i:=1) x rfl
 (replace z:=z.an x (by omega);rw [ao h'])
 simp -implicitDefEqProofs only [syms,aa,seval,Ai,gr]
 refine iK (fun hc=>?_) (fun h0=>?_)
 ·rw [zBG hc] at hk
  simp -implicitDefEqProofs only [syms,aa,seval,Ai,gr]
  exact hk _ (z.aw _ _ (by omega))
 simp -implicitDefEqProofs only [syms,aa,seval,Ai,q0.lay,e0.lay,↓im,gP,gk,MF,MG,Bv]
 refine Gx d.aj a.says _ _ _ _ _ _ _ _ ((hd.s0.mono z.inc).lay _ _) _ (fun h' x=>?_)
 (replace z:=z.an x (by omega);(replace q0:=q0.over x);(replace e0:=e0.over x);rw [ao h'])
 rw [GN]
 cases hh:bg d.aj a.says
 ·rw [zBE h0 hh] at hk
  repeat' (first|simp -implicitDefEqProofs only [syms,aa,seval,Ai,Bool.not_false]|((with_reducible_and_instances apply cm);(· rfl)))
  exact hk _ (z.aw _ _ (by omega))
 repeat' (first|simp -implicitDefEqProofs only [syms,aa,seval,Ai,Bool.not_true,q0.lay,e0.lay,↓im,gP,gk,MF,MG,Bv]|((with_reducible_and_instances apply cm);(· rfl)))
 refine zkB d.bA a.pred _ _ _ _ _ _ _ _ ((hd.s1.mono z.inc).lay _ _) _ (fun h' x=>?_)
 (replace z:=z.an x (by omega);(replace q0:=q0.over x);(replace e0:=e0.over x);rw [ao h'])
 cases h2:(lT d.bA a.pred).2
 ·rw [zBF h0 hh h2] at hk
  repeat' (first|simp -implicitDefEqProofs only [syms,aa,seval,Ai,Bool.not_false]|((with_reducible_and_instances apply cm);(· rfl)))
  exact hk _ (z.aw _ _ (by omega))
 repeat' (first|simp -implicitDefEqProofs only [syms,aa,seval,Ai,Bool.not_true,e0.lay,Bv,gr]|((with_reducible apply iK) <;> intro _)|((with_reducible_and_instances apply cm);(· rfl)))
 ·rw [zBD h0 hh h2 (by assumption)] at hk
  exact hk _ (z.aw _ _ (by omega))
 ·rw [zBC h0 hh h2 (by assumption)] at hk
  exact hk _ (z.aw _ _ (by omega))
noncomputable def fP (pre:List ByteArray) (w:ByteArray):Int:=gh [aX (!mv w) 3,aX (bg pre w) 5]
theorem Tz {pre:List ByteArray} {w:ByteArray} (h:¬ iL w):fP pre w=3:=by unfold fP;rw [O2 h];rfl
theorem TA {pre:List ByteArray} {w:ByteArray} (h:iL w) (h2:bg pre w=true):fP pre w=5:=by unfold fP;rw [bM.2 h,h2];rfl
theorem Ty {pre:List ByteArray} {w:ByteArray} (h:iL w) (h2:bg pre w=false):fP pre w=0:=by unfold fP;rw [bM.2 h,h2];rfl
theorem n8 {α:Type} {f:List α→α→Int} {l:List α} {i:Nat} {x:α} {e c:Int} (hx:l[i]? = some x) (he:e=ey f (l.take i) (l.drop i)) (hc:f (l.take i) x=c) (h0:c≠0):e=c:=by
 rw [he,pB hx,hc,if_neg h0]
theorem ED {α:Type} {f:List α→α→Int} {l:List α} {i:Nat} {x:α} {e:Int} (hx:l[i]? = some x) (he:e=ey f (l.take i) (l.drop i)) (hc:f (l.take i) x=0):e=ey f (l.take (i+1)) (l.drop (i+1)):=by
 rw [he,pB hx,if_pos hc]
theorem Ew {α:Type} {f:List α→α→Int} {l:List α} {i:Nat} {e:Int} (he:e=ey f (l.take i) (l.drop i)) (hi:l.length≤i):e=0:=by rw [he,Bk hi]
theorem ziY (l:List ByteArray) (p0 p1 p2 p5 p6:Value) (q b:Int) (h:Heap) (hl:Sl aK.str h p0 l) (K:Value→Heap→Prop) (hk:∀ h',Ext h h'→K (.int .i64 (pj l)) h'):Ok Tryz.prog ae ov 43 [gQ p0 p1 p2 p5 p6 q b] h K:=by
 rw [ao h]
 have z:=Ext.refl h
 have bC:=cJ p0
 have cp:=fun (hh:Heap)=>hl.bd cM hh
 refine Ok.aD rfl zzW (br N43) rfl (m:=38) rfl ?_
 repeat' (first|simp -implicitDefEqProofs only [syms,aa,seval,wR,eQ,dy,bC,cp]|((with_reducible apply bp) <;> intro _))
 iterate 2
  ·rw [show pj l=4 from if_pos (by omega)] at hk
   exact hk _ (z.aw _ _ (by omega))
 have nx:pj l=ey fP (l.take 0) (l.drop 0):=if_neg (by omega)
 refine lG (fun h' x hq=>?_)
 have q0:=hq 0 _ rfl
 clear hq
 (replace z:=z.an x (by omega);rw [ao h'])
 obtain ⟨A0,dS⟩:∃ A0,A0=h.size+0:=⟨_,rfl⟩
 rw [← dS] at q0
 rw [← dS]
 obtain ⟨I1,aR⟩:∃ I:Nat→Env→Heap→Prop,I=(fun n e h'=>∃ (i:Nat) (h1:Heap),h'=h1.lay [] h1.low∧Ext h h1∧(n=l.length - i∧i≤l.length∧pj l=ey fP (l.take i) (l.drop i)∧Holds h1 A0 (.row (dw p0 p1 p2 p5 p6 q b) 29 false))∧∃ J:Nat→Value,e=(J 0::.pointer (some ⟨A0,0,none⟩)::J 2::.int .i64 i::jr J 4 35 ([]))):=⟨_,rfl⟩
 refine dg I1 _ (by rw [aR];exact ⟨0,_,rfl,z,⟨rfl,by omega,nx,q0⟩,aB (by kernel_rfl)⟩) ?_
 intro n e h' aH
 rw [aR] at aH
 obtain ⟨i,bE,rfl,z,hinv,J,rfl⟩:=aH
 clear q0
 obtain ⟨rfl,hi,dn,q0⟩:=hinv
 have hw:=eg i (by omega)
 simp -implicitDefEqProofs only [syms,aa,seval,wR,q0.lay,dy,bC,cp]
 refine bp (fun aS=>?_) (fun aS=>?_)
 rotate_left
 ·rw [Ew dn (by omega)] at hk
  repeat' (simp -implicitDefEqProofs only [syms,aa,seval,wR])
  exact hk _ (z.aw _ _ (by omega))
 obtain ⟨r,hr,bo⟩:=eP (l:=l) (i:=i) (by omega)
 obtain ⟨a,m,c,g1,g2⟩:=zuO hl i hi
 have dF:∀ (h:Heap) (K:Value→Heap→Prop),aU (some (.slice a m c)) h K=K (.slice a m c) h:=fun _ _=>rfl
 repeat' (first|simp -implicitDefEqProofs only [syms,aa,seval,wR,q0.lay,dy,bC]|with_reducible_and_instances refine ph (hl.mono z.inc) cM mN (by omega) hr (fun p hp=>?_)|with_reducible_and_instances refine fX hp gU ?_)
 refine ZA _ _ _ (fun hs h' x=>?_) (fun hs h' x=>?_)
 rotate_left
 ·rw [n8 bo dn (Tz hs) (by decide)] at hk
  (replace z:=z.an x (by omega);(replace q0:=q0.over x);rw [ao h'])
  repeat' (first|simp -implicitDefEqProofs only [syms,aa,seval,wR,Bool.not_false]|((with_reducible_and_instances apply cm);(· rfl)))
  exact hk _ (z.aw _ _ (by omega))
 (replace z:=z.an x (by omega);(replace q0:=q0.over x);rw [ao h'])
 repeat' (first|simp -implicitDefEqProofs only [syms,aa,seval,wR,Bool.not_true,q0.lay,dy,bC,g1,dF,zpV,gk]|with_reducible refine eu (by simp only [wR]) (z.aw _ _ (by omega)) ?_|with_reducible_and_instances refine ph (hl.mono z.inc) cM mN (by omega) hr (fun p hp=>?_)|with_reducible_and_instances refine fX hp gU ?_|((with_reducible_and_instances apply cm);(· rfl)))
 refine Gx (l.take i) r _ _ _ _ _ _ _ _ ((g2.mono z.inc).lay _ _) _ (fun h' x=>?_)
 (((with_reducible refine dK ?_ ?_ ?_);(· exact (by (simp only [dM]);have:=z.size;omega));(· exact x));replace z:=z.an x (by omega);(replace q0:=q0.over x);rw [ao h'])
 rw [GN]
 cases hh:bg (l.take i) r
 ·repeat' (first|simp -implicitDefEqProofs only [syms,aa,seval,wR]|((with_reducible refine ⟨z.cW.lay _ _,?_⟩);(intro _ h' zz x _);( simp only [cq,List.append_nil] at x );( replace q0:=q0.over x );(replace z:=zz);(clear zz);rw [ao h']))
  rw [hw]
  (rw [aR];with_reducible refine cz (m:=_) ?_ ⟨i+1,_,rfl,z,⟨rfl,by omega,ED bo dn (Ty hs hh),q0⟩,aB (by kernel_rfl)⟩;omega)
 ·rw [n8 bo dn (TA hs hh) (by decide)] at hk
  repeat' (first|simp -implicitDefEqProofs only [syms,aa,seval,wR]|((with_reducible refine ⟨z.cW.lay _ _,?_⟩);(intro _ h' zz x _);(simp only [cq,List.append_nil] at x);(replace q0:=q0.over x);(replace z:=zz);(clear zz);rw [ao h']))
  exact hk _ (z.aw _ _ (by omega))
noncomputable def fR (pre:List bx) (x:bx):Int:=gh [aX (!mv x.name) 3,aX (bg (pre.map bx.name) x.name) 5,aX (decide (x.arity < 0∨4 < x.arity)) 4]
theorem TC {pre:List bx} {x:bx} (h:¬ iL x.name):fR pre x=3:=by unfold fR;rw [O2 h];rfl
theorem TD {pre:List bx} {x:bx} (h:iL x.name) (h2:bg (pre.map bx.name) x.name=true):fR pre x=5:=by unfold fR;rw [bM.2 h,h2];rfl
theorem IE {pre:List bx} {x:bx} (h:iL x.name) (h2:bg (pre.map bx.name) x.name=false) (h3:x.arity < 0∨4 < x.arity):fR pre x=4:=by unfold fR;rw [bM.2 h,h2,decide_eq_true h3];rfl
theorem TB {pre:List bx} {x:bx} (h:iL x.name) (h2:bg (pre.map bx.name) x.name=false) (h3:¬ (x.arity < 0∨4 < x.arity)):fR pre x=0:=by unfold fR;rw [bM.2 h,h2,decide_eq_false h3];rfl
theorem zsP (l:List bx) (s:ByteArray):(lT l s).2=bg (l.map bx.name) s:=by
 unfold lT
 cases h:l.find? (fun x=>decide (x.name=s)) with
 |none =>
  have h1:=List.find?_eq_none.1 h
  cases g:bg (l.map bx.name) s
  ·rfl
  ·obtain ⟨x,hx,e⟩:=List.mem_map.1 (cI.1 g)
   exact absurd (h1 x hx) (by simp [e])
 |some x =>
  have h1:=List.find?_some h
  have h2:=List.mem_of_find?_eq_some h
  symm
  exact cI.2 (List.mem_map.2 ⟨x,h2,of_decide_eq_true h1⟩)
theorem zIg (h:Heap) (l:List bh) (w i o:Nat) (v:Value) (hi:i < l.length):gA ae 67 (.pointer (some ⟨h.size+i,o,none⟩)) v (h.lay l w)=if v.cells.size=2 then qw l[i]? i o v.cells.toList h l w else none:=tc kb h l w i o v hi
theorem zrS (l:List bx) (p0 p1 p2 p5 p6:Value) (q b:Int) (h:Heap) (hl:Sl aK.pred h p1 l) (K:Value→Heap→Prop) (hk:∀ h',Ext h h'→K (.int .i64 (rk l)) h'):Ok Tryz.prog ae ov 44 [gQ p0 p1 p2 p5 p6 q b] h K:=by
 rw [ao h]
 have z:=Ext.refl h
 have bC:=cJ p1
 have cp:=fun (hh:Heap)=>hl.bd iY hh
 refine Ok.aD rfl zzX (br N44) rfl (m:=46) rfl ?_
 repeat' (first|simp -implicitDefEqProofs only [syms,aa,seval,vH,eQ,eo,bC,cp]|((with_reducible apply bp) <;> intro _))
 ·rw [show rk l=4 from if_pos (by omega)] at hk
  exact hk _ (z.aw _ _ (by omega))
 have nx:rk l=ey fR (l.take 0) (l.drop 0):=if_neg (by omega)
 refine lG (fun h' x hq=>?_)
 have q0:=hq 0 _ rfl
 clear hq
 (replace z:=z.an x (by omega);rw [ao h'])
 obtain ⟨A0,dS⟩:∃ A0,A0=h.size+0:=⟨_,rfl⟩
 rw [← dS] at q0
 rw [← dS]
 obtain ⟨I1,aR⟩:∃ I:Nat→Env→Heap→Prop,I=(fun n e h'=>∃ (i:Nat) (h1:Heap),h'=h1.lay [] h1.low∧Ext h h1∧(n=l.length - i∧i≤l.length∧rk l=ey fR (l.take i) (l.drop i)∧Holds h1 A0 (.row (dw p0 p1 p2 p5 p6 q b) 29 false))∧∃ J:Nat→Value,e=(J 0::.pointer (some ⟨A0,0,none⟩)::J 2::.int .i64 i::jr J 4 43 ([]))):=⟨_,rfl⟩
 refine dg I1 _ (by rw [aR];exact ⟨0,_,rfl,z,⟨rfl,by omega,nx,q0⟩,aB (by kernel_rfl)⟩) ?_
 intro n e h' aH
 rw [aR] at aH
 obtain ⟨i,bE,rfl,z,hinv,J,rfl⟩:=aH
 clear q0
 obtain ⟨rfl,hi,dn,q0⟩:=hinv
 have hw:=eg i (by omega)
 simp -implicitDefEqProofs only [syms,aa,seval,vH,q0.lay,eo,bC,cp]
 refine bp (fun aS=>?_) (fun aS=>?_)
 rotate_left
 ·rw [Ew dn (by omega)] at hk
  repeat' (simp -implicitDefEqProofs only [syms,aa,seval,vH])
  exact hk _ (z.aw _ _ (by omega))
 obtain ⟨r,hr,bo⟩:=eP (l:=l) (i:=i) (by omega)
 obtain ⟨a,m,c,g1,g2⟩:=zzq hl i hi
 have dF:∀ (h:Heap) (K:Value→Heap→Prop),aU (some (.slice a m c)) h K=K (.slice a m c) h:=fun _ _=>rfl
 repeat' (first|simp -implicitDefEqProofs only [syms,aa,seval,vH,q0.lay,eo,bC]|with_reducible_and_instances refine MU (hl.mono z.inc) iY kb (by omega) hr (fun p hp=>?_)|with_reducible_and_instances refine Km hp tm kb ?_)
 repeat' (simp -implicitDefEqProofs only [syms,aa,seval,vH,mr,nO,List.all_cons,List.all_nil,Am.one,Bool.and_true,Bool.true_and,Bool.and_self,List.set_cons_zero,List.set_cons_succ,kM,fe,nJ,gy,gz,zIg])
 refine zqn _ _ _ (fun hs h' x=>?_) (fun hs h' x=>?_)
 rotate_left
 ·rw [n8 bo dn (TC hs) (by decide)] at hk
  (replace z:=z.an x (by omega);(replace q0:=q0.over x);rw [ao h'])
  repeat' (first|simp -implicitDefEqProofs only [syms,aa,seval,vH,Bool.not_false]|((with_reducible_and_instances apply cm);(· rfl)))
  exact hk _ (z.aw _ _ (by omega))
 have e0:=Holds.top (i:=0) x rfl
 (replace z:=z.an x (by omega);(replace q0:=q0.over x);rw [ao h'])
 obtain ⟨E0,nU⟩:∃ E0,E0=bE.size+0:=⟨_,rfl⟩
 rw [← nU] at e0
 rw [← nU]
 have tY:([.string r.name,.int .i64 r.arity]:List Value)[0]? = some (.string r.name):=rfl
 have rG:([.string r.name,.int .i64 r.arity]:List Value)[1]? = some (.int .i64 r.arity):=rfl
 repeat' (first|simp -implicitDefEqProofs only [syms,aa,seval,vH,Bool.not_true,q0.lay,e0.lay,eo,bC,g1,dF,zwj,gk,tY]|with_reducible refine eu (by simp only [vH]) (z.aw _ _ (by omega)) ?_|((with_reducible_and_instances apply cm);(· rfl)))
 refine zkB (l.take i) r.name _ _ _ _ _ _ _ _ ((g2.mono z.inc).lay _ _) _ (fun h' x=>?_)
 (((with_reducible refine dK ?_ ?_ ?_);(· exact (by (simp only [dM]);have:=z.size;omega));(· exact x));replace z:=z.an x (by omega);(replace q0:=q0.over x);(replace e0:=e0.over x);rw [ao h'])
 rw [zsP]
 cases hh:bg ((l.take i).map bx.name) r.name
 ·repeat' (first|simp -implicitDefEqProofs only [syms,aa,seval,vH,e0.lay,rG]|((with_reducible  apply bp ) <;> intro _)|((with_reducible refine ⟨z.cW.lay _ _,?_⟩);(intro _ h' zz x _);( simp only [cq,List.append_nil] at x );( replace q0:=q0.over x );( replace e0:=e0.over x );(replace z:=zz);(clear zz);rw [ao h']))
  ·rw [n8 bo dn (IE hs hh (by omega)) (by decide)] at hk
   exact hk _ (z.aw _ _ (by omega))
  ·rw [n8 bo dn (IE hs hh (by omega)) (by decide)] at hk
   exact hk _ (z.aw _ _ (by omega))
  rw [hw]
  (rw [aR];with_reducible refine cz (m:=_) ?_ ⟨i+1,_,rfl,z,⟨rfl,by omega,ED bo dn (TB hs hh (by omega)),q0⟩,aB (by kernel_rfl)⟩;omega)
 ·rw [n8 bo dn (TD hs hh) (by decide)] at hk
  repeat' (first|simp -implicitDefEqProofs only [syms,aa,seval,vH]|((with_reducible refine ⟨z.cW.lay _ _,?_⟩);(intro _ h' zz x _);(simp only [cq,List.append_nil] at x);(replace q0:=q0.over x);(replace e0:=e0.over x);(replace z:=zz);(clear zz);rw [ao h']))
  exact hk _ (z.aw _ _ (by omega))
noncomputable def fA (ps:List ByteArray) (c:bF) (pre:List ByteArray) (w:ByteArray):Int:=gh [aX (!bg ps w) 6,aX (decide (w=c.bt)) 11,aX (bg pre w) 5]
section
variable {ps pre:List ByteArray} {c:bF} {w:ByteArray}
theorem Tu (h:bg ps w=false):fA ps c pre w=6:=by unfold fA;rw [h];rfl
theorem zGN (h:bg ps w=true) (h2:w=c.bt):fA ps c pre w=11:=by unfold fA;rw [h,decide_eq_true h2];rfl
theorem Tt (h:bg ps w=true) (h2:¬ w=c.bt) (h3:bg pre w=true):fA ps c pre w=5:=by unfold fA;rw [h,decide_eq_false h2,h3];rfl
theorem Ts (h:bg ps w=true) (h2:¬ w=c.bt) (h3:bg pre w=false):fA ps c pre w=0:=by unfold fA;rw [h,decide_eq_false h2,h3];rfl
end
theorem zrD (ps:List ByteArray) (x0:bF) (v:Value) (p0 p1 p2 p5 p6:Value) (q b:Int) (h:Heap) (bw:(dw p0 p1 p2 p5 p6 q b).all Am.one=true) (hl:Sl aK.str h p0 ps) (hv:Sl aK.str h v x0.reads) (K:Value→Heap→Prop) (hk:∀ h',Ext h h'→K (.int .i64 (ob ps x0)) h'):Ok Tryz.prog ae ov 73 [gQ p0 p1 p2 p5 p6 q b,.agg ⟨[.string x0.bt,v]⟩] h K:=by
 rw [ao h]
 have z:=Ext.refl h
 have bC:=cJ v
 have cp:=fun (hh:Heap)=>hv.bd cM hh
 have tY:([.string x0.bt,v]:List Value)[0]? = some (.string x0.bt):=rfl
 have rG:([.string x0.bt,v]:List Value)[1]? = some v:=rfl
 refine Ok.aD rfl zAq (br N73) rfl (m:=48) rfl ?_
 repeat' (first|simp -implicitDefEqProofs only [syms,aa,seval,vI,eQ,tY,rG,bC,cp]|((with_reducible apply bp) <;> intro _))
 iterate 2
  ·rw [show ob ps x0=4 from if_pos (by omega)] at hk
   exact hk _ (z.aw _ _ (by omega))
 have nx:ob ps x0=ey (fA ps x0) (x0.reads.take 0) (x0.reads.drop 0):=if_neg (by omega)
 refine lG (fun h' x hq=>?_)
 have q0:=hq 0 _ rfl
 have e0:=hq 1 _ rfl
 clear hq
 (replace z:=z.an x (by omega);rw [ao h'])
 obtain ⟨A0,dS⟩:∃ A0,A0=h.size+0:=⟨_,rfl⟩
 rw [← dS] at q0
 rw [← dS]
 obtain ⟨E0,nU⟩:∃ E0,E0=h.size+1:=⟨_,rfl⟩
 rw [← nU] at e0
 rw [← nU]
 obtain ⟨I1,aR⟩:∃ I:Nat→Env→Heap→Prop,I=(fun n e h'=>∃ (i:Nat) (h1:Heap),h'=h1.lay [] h1.low∧Ext h h1∧(n=x0.reads.length - i∧i≤x0.reads.length∧ob ps x0=ey (fA ps x0) (x0.reads.take i) (x0.reads.drop i)∧Holds h1 A0 (.row (dw p0 p1 p2 p5 p6 q b) 29 false)∧Holds h1 E0 (.row [.string x0.bt,v] 69 false))∧∃ J:Nat→Value,e=(jr J 0 2 (.pointer (some ⟨A0,0,none⟩)::.pointer (some ⟨E0,0,none⟩)::J 4::.int .i64 i::jr J 6 44 ([])))):=⟨_,rfl⟩
 refine dg I1 _ (by rw [aR];exact ⟨0,_,rfl,z,⟨rfl,by omega,nx,q0,e0⟩,aB (by kernel_rfl)⟩) ?_
 intro n e h' aH
 rw [aR] at aH
 obtain ⟨i,bE,rfl,z,hinv,J,rfl⟩:=aH
 clear q0 e0
 obtain ⟨rfl,hi,dn,q0,e0⟩:=hinv
 have hw:=eg i (by omega)
 simp -implicitDefEqProofs only [syms,aa,seval,vI,e0.lay,rG,bC,cp]
 refine bp (fun aS=>?_) (fun aS=>?_)
 rotate_left
 ·rw [Ew dn (by omega)] at hk
  repeat' (simp -implicitDefEqProofs only [syms,aa,seval,vI])
  exact hk _ (z.aw _ _ (by omega))
 obtain ⟨r,hr,bo⟩:=eP (l:=x0.reads) (i:=i) (by omega)
 obtain ⟨a,m,c,g1,g2⟩:=zuO hv i hi
 have dF:∀ (h:Heap) (K:Value→Heap→Prop),aU (some (.slice a m c)) h K=K (.slice a m c) h:=fun _ _=>rfl
 repeat' (first|simp -implicitDefEqProofs only [syms,aa,seval,vI,q0.lay,e0.lay,↓im,gP,gk,tY,rG,bC]|with_reducible refine eu (by simp only [vI]) (z.aw _ _ (by omega)) ?_|with_reducible_and_instances refine ph (hv.mono z.inc) cM mN (by omega) hr (fun p hp=>?_)|with_reducible_and_instances refine fX hp gU ?_)
 refine Gx ps r _ _ _ _ _ _ _ _ ((hl.mono z.inc).lay _ _) _ (fun h' x=>?_)
 (((with_reducible refine dK ?_ ?_ ?_);(· exact (by (simp only [dM]);have:=z.size;omega));(· exact x));replace z:=z.an x (by omega);(replace q0:=q0.over x);(replace e0:=e0.over x);rw [ao h'])
 rw [GN]
 cases hh:bg ps r
 ·rw [n8 bo dn (Tu hh) (by decide)] at hk
  repeat' (first|simp -implicitDefEqProofs only [syms,aa,seval,vI,Bool.not_false]|((with_reducible_and_instances apply cm);(· rfl))|((with_reducible refine ⟨z.cW.lay _ _,?_⟩);(intro _ h' zz x _);(simp only [cq,List.append_nil] at x);(replace q0:=q0.over x);(replace e0:=e0.over x);(replace z:=zz);(clear zz);rw [ao h']))
  exact hk _ (z.aw _ _ (by omega))
 repeat' (first|simp -implicitDefEqProofs only [syms,aa,seval,vI,Bool.not_true,q0.lay,e0.lay,↓im,gP,gk,tY,rG,bC,g1,dF,zpV]|with_reducible refine eu (by simp only [vI]) (z.aw _ _ (by omega)) ?_|((with_reducible apply bp) <;> intro _)|with_reducible_and_instances refine ph (hv.mono z.inc) cM mN (by omega) hr (fun p hp=>?_)|with_reducible_and_instances refine fX hp gU ?_|((with_reducible_and_instances apply cm);(· rfl))|((with_reducible refine ⟨z.cW.lay _ _,?_⟩);(intro _ h' zz x _);(simp only [cq,List.append_nil] at x);(replace q0:=q0.over x);(replace e0:=e0.over x);(replace z:=zz);(clear zz);rw [ao h']))
 ·rw [n8 bo dn (zGN hh (by assumption)) (by decide)] at hk
  exact hk _ (z.aw _ _ (by omega))
 have aO:¬ r=x0.bt:=by assumption
 refine Gx (x0.reads.take i) r _ _ _ _ _ _ _ _ ((g2.mono z.inc).lay _ _) _ (fun h' x=>?_)
 (((with_reducible refine dK ?_ ?_ ?_);(· exact (by (simp only [dM]);have:=z.size;omega));(· exact x));replace z:=z.an x (by omega);(replace q0:=q0.over x);(replace e0:=e0.over x);rw [ao h'])
 rw [GN]
 cases hh2:bg (x0.reads.take i) r
 ·repeat' (first|simp -implicitDefEqProofs only [syms,aa,seval,vI]|((with_reducible refine ⟨z.cW.lay _ _,?_⟩);(intro _ h' zz x _);( simp only [cq,List.append_nil] at x );( replace q0:=q0.over x );( replace e0:=e0.over x );(replace z:=zz);(clear zz);rw [ao h']))
  rw [hw]
  (rw [aR];with_reducible refine cz (m:=_) ?_ ⟨i+1,_,rfl,z,⟨rfl,by omega,ED bo dn (Ts hh aO hh2),q0,e0⟩,aB (by kernel_rfl)⟩;omega)
 ·rw [n8 bo dn (Tt hh aO hh2) (by decide)] at hk
  repeat' (first|simp -implicitDefEqProofs only [syms,aa,seval,vI]|((with_reducible refine ⟨z.cW.lay _ _,?_⟩);(intro _ h' zz x _);(simp only [cq,List.append_nil] at x);(replace q0:=q0.over x);(replace e0:=e0.over x);(replace z:=zz);(clear zz);rw [ao h']))
  exact hk _ (z.aw _ _ (by omega))
noncomputable def fC (ps:List ByteArray) (pre:List bF) (c:bF):Int:=gh [aX (!bg ps c.bt) 6,aX (bg (pre.map bF.bt) c.bt) 5,ob ps c]
section
variable {ps:List ByteArray} {pre:List bF} {c:bF}
theorem Tw (h:bg ps c.bt=false):fC ps pre c=6:=by unfold fC;rw [h];rfl
theorem Tv (h:bg ps c.bt=true) (h2:bg (pre.map bF.bt) c.bt=true):fC ps pre c=5:=by unfold fC;rw [h,h2];rfl
theorem Tx (h:bg ps c.bt=true) (h2:bg (pre.map bF.bt) c.bt=false):fC ps pre c=ob ps c:=by
 unfold fC
 rw [h,h2]
 show (if ob ps c=0 then (0:Int) else ob ps c)=ob ps c
 split
 ·rename_i e;exact e.symm
 ·rfl
end
theorem zpb (d:au) (p0 p1 p2 p5 p6:Value) (q b:Int) (h:Heap) (bw:(dw p0 p1 p2 p5 p6 q b).all Am.one=true) (hd:fO h p0 p1 p2 p5 p6 d) (hn:d.aV.length≤70) (K:Value→Heap→Prop) (hk:∀ h',Ext h h'→K (.int .i64 (vp d.aj d.aV)) h'):Ok Tryz.prog ae ov 45 [gQ p0 p1 p2 p5 p6 q b] h K:=by
 rw [ao h]
 have z:=Ext.refl h
 have bC:=cJ p2
 have cp:=fun (hh:Heap)=>hd.s2.bd ky hh
 have nx:vp d.aj d.aV=ey (fC d.aj) (d.aV.take 0) (d.aV.drop 0):=rfl
 refine Ok.aD rfl zzY (br N45) rfl (m:=49) rfl ?_
 repeat' (simp -implicitDefEqProofs only [syms,aa,seval,pk,eQ,fV,bC,cp])
 refine lG (fun h' x hq=>?_)
 have q0:=hq 0 _ rfl
 clear hq
 (replace z:=z.an x (by omega);rw [ao h'])
 obtain ⟨A0,dS⟩:∃ A0,A0=h.size+0:=⟨_,rfl⟩
 rw [← dS] at q0
 rw [← dS]
 obtain ⟨I1,aR⟩:∃ I:Nat→Env→Heap→Prop,I=(fun n e h'=>∃ (i:Nat) (h1:Heap),h'=h1.lay [] h1.low∧Ext h h1∧(n=d.aV.length - i∧i≤d.aV.length∧vp d.aj d.aV=ey (fC d.aj) (d.aV.take i) (d.aV.drop i)∧Holds h1 A0 (.row (dw p0 p1 p2 p5 p6 q b) 29 false))∧∃ J:Nat→Value,e=(J 0::.pointer (some ⟨A0,0,none⟩)::J 2::.int .i64 i::jr J 4 46 ([]))):=⟨_,rfl⟩
 refine dg I1 _ (by rw [aR];exact ⟨0,_,rfl,z,⟨rfl,by omega,nx,q0⟩,aB (by kernel_rfl)⟩) ?_
 intro n e h' aH
 rw [aR] at aH
 obtain ⟨i,bE,rfl,z,hinv,J,rfl⟩:=aH
 clear q0
 obtain ⟨rfl,hi,dn,q0⟩:=hinv
 have hw:=eg i (by omega)
 simp -implicitDefEqProofs only [syms,aa,seval,pk,q0.lay,fV,bC,cp]
 refine bp (fun aS=>?_) (fun aS=>?_)
 rotate_left
 ·rw [Ew dn (by omega)] at hk
  repeat' (simp -implicitDefEqProofs only [syms,aa,seval,pk])
  exact hk _ (z.aw _ _ (by omega))
 obtain ⟨r,hr,bo⟩:=eP (l:=d.aV) (i:=i) (by omega)
 repeat' (first|simp -implicitDefEqProofs only [syms,aa,seval,pk,q0.lay,↓im,gP,gk,fV,bC]|with_reducible refine eu (by simp only [pk]) (z.aw _ _ (by omega)) ?_|with_reducible_and_instances refine GO (hd.s2.mono z.inc) ky lC (by omega) hr (fun p bv hb hp=>?_)|with_reducible_and_instances refine tI hp BB (fun qq hq=>?_)|with_reducible_and_instances refine fX hq gU ?_)
 refine Gx d.aj r.bt _ _ _ _ _ _ _ _ ((hd.s0.mono z.inc).lay _ _) _ (fun h' x=>?_)
 (((with_reducible refine dK ?_ ?_ ?_);(· exact (by (simp only [dM]);have:=z.size;omega));(· exact x));replace z:=z.an x (by omega);(replace q0:=q0.over x);rw [ao h'])
 rw [GN]
 cases hh:bg d.aj r.bt
 ·rw [n8 bo dn (Tw hh) (by decide)] at hk
  repeat' (first|simp -implicitDefEqProofs only [syms,aa,seval,pk,Bool.not_false]|((with_reducible_and_instances apply cm);(· rfl))|((with_reducible refine ⟨z.cW.lay _ _,?_⟩);(intro _ h' zz x _);(simp only [cq,List.append_nil] at x);(replace q0:=q0.over x);(replace z:=zz);(clear zz);rw [ao h']))
  exact hk _ (z.aw _ _ (by omega))
 repeat' (first|simp -implicitDefEqProofs only [syms,aa,seval,pk,Bool.not_true]|((with_reducible_and_instances apply cm);(· rfl))|((with_reducible refine ⟨z.cW.lay _ _,?_⟩);(intro _ h' zz x _);(simp only [cq,List.append_nil] at x);(replace q0:=q0.over x);(replace z:=zz);(clear zz);rw [ao h']))
 obtain ⟨I2,eM⟩:∃ I:Nat→Env→Heap→Prop,I=(fun n e h'=>∃ (k:Nat) (h1:Heap),h'=h1.lay [] h1.low∧Ext h h1∧(n=i - k∧k≤i∧(∀ e∈d.aV.take k,e.bt≠r.bt)∧Holds h1 A0 (.row (dw p0 p1 p2 p5 p6 q b) 29 false))∧∃ J:Nat→Value,e=(J 0::.pointer (some ⟨A0,0,none⟩)::J 2::.int .i64 i::.int .i64 k::jr J 5 45 ([]))):=⟨_,rfl⟩
 refine dg I2 _ (by rw [eM];exact ⟨0,_,rfl,z,⟨rfl,by omega,by simp,q0⟩,aB (by kernel_rfl)⟩) ?_
 intro n e h' aH
 rw [eM] at aH
 obtain ⟨k,bE,rfl,z,hinv,J,rfl⟩:=aH
 clear q0
 obtain ⟨rfl,uk,ld,q0⟩:=hinv
 have mK:=eg k (by omega)
 simp -implicitDefEqProofs only [syms,aa,seval,pk]
 refine bp (fun jb=>?_) (fun jb=>?_)
 ·obtain ⟨e,he,qL⟩:=eP (l:=d.aV) (i:=k) (by omega)
  repeat' (first|simp -implicitDefEqProofs only [syms,aa,seval,pk,q0.lay,fV,bC]|with_reducible refine eu (by simp only [pk]) (z.aw _ _ (by omega)) ?_|((with_reducible apply bp) <;> intro _)|with_reducible_and_instances refine GO (hd.s2.mono z.inc) ky lC (by omega) hr (fun p bv hb hp=>?_)|with_reducible_and_instances refine GO (hd.s2.mono z.inc) ky lC (by omega) he (fun p bv hb hp=>?_)|with_reducible_and_instances refine tI hp BB (fun qq hq=>?_)|with_reducible_and_instances refine fX hq gU ?_|((with_reducible refine ⟨z.cW.lay _ _,?_⟩);(intro _ h' zz x _);(simp only [cq,List.append_nil] at x);(replace q0:=q0.over x);(replace z:=zz);(clear zz);rw [ao h']))
  ·have VK:e.bt=r.bt:=by assumption
   rw [n8 bo dn (Tv hh (cI.2 (List.mem_map.2 ⟨e,List.mem_of_getElem? (i:=k) (by rw [List.getElem?_take,if_pos (by omega)];exact qL),VK⟩))) (by decide)] at hk
   exact hk _ (z.aw _ _ (by omega))
  ·have aO:¬ e.bt=r.bt:=by assumption
   rw [mK]
   (rw [eM];with_reducible refine cz (m:=_) ?_ ⟨k+1,_,rfl,z,⟨rfl,by omega,pf (i:=k) (P:=fun e:bF=>e.bt≠r.bt) qL ld aO,q0⟩,aB (by kernel_rfl)⟩;omega)
 have qh:k=i:=by omega
 subst qh
 have oN:bg ((d.aV.take k).map bF.bt) r.bt=false:=by
  cases g:bg ((d.aV.take k).map bF.bt) r.bt
  ·rfl
  ·obtain ⟨e,he,ee⟩:=List.mem_map.1 (cI.1 g)
   exact absurd ee (ld e he)
 repeat' (first|simp -implicitDefEqProofs only [syms,aa,seval,pk,q0.lay,↓im,gP,gk,fV,bC]|with_reducible refine eu (by simp only [pk]) (z.aw _ _ (by omega)) ?_|with_reducible_and_instances refine GO (hd.s2.mono z.inc) ky lC (by omega) hr (fun p bv hb hp=>?_)|with_reducible_and_instances refine Km hp wG lC ?_)
 have nW:Sl aK.str bE bv r.reads:=by assumption
 refine zrD d.aj r bv _ _ _ _ _ _ _ _ bw ((hd.s0.mono z.inc).lay _ _) (nW.lay _ _) _ (fun h' x=>?_)
 have gr:=mn
 (((with_reducible refine dK ?_ ?_ ?_);(· exact (by (simp only [dM]);have:=z.size;omega));(· exact x));replace z:=z.an x (by omega);(replace q0:=q0.over x);rw [ao h'])
 have cN:=Tx (pre:=d.aV.take k) hh oN
 simp -implicitDefEqProofs only [syms,aa,seval,pk,gr]
 ((with_reducible refine ⟨z.cW.lay _ _,?_⟩);(intro _ h' zz x _);(simp only [cq,List.append_nil] at x);(replace q0:=q0.over x);(replace z:=zz);(clear zz);rw [ao h'])
 simp -implicitDefEqProofs only [syms,aa,seval,pk,gr]
 refine iK (fun hc=>?_) (fun h0=>?_)
 ·rw [n8 bo dn cN hc] at hk
  simp -implicitDefEqProofs only [syms,aa,seval,pk,gr]
  exact hk _ (z.aw _ _ (by omega))
 ·simp -implicitDefEqProofs only [syms,aa,seval,pk,gr]
  rw [hw]
  (rw [aR];with_reducible refine cz (m:=_) ?_ ⟨k+1,_,rfl,z,⟨rfl,by omega,ED bo dn (cN.trans h0),q0⟩,aB (by kernel_rfl)⟩;omega)
end Go.Proofs.YtdplfgoifjjniaaGreatDoor

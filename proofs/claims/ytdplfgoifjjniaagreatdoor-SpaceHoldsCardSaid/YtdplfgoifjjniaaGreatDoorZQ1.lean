/- Walks: an atom's constants, each once. Written out by fill2.py. No condition. -/
import Derived.Test.YtdplfgoifjjniaaGreatDoorG35
set_option linter.unusedSimpArgs false
set_option linter.unusedVariables false
namespace Go.Proofs.YtdplfgoifjjniaaGreatDoor
open Go.Am
set_option maxRecDepth 100000
set_option maxHeartbeats 0
theorem zt7 (a:ab) (bv:Bool) (h:Heap) (K:Value→Heap→Prop) (hk:∀ w l h',Ext h h'→(∀ D:List Nat,(∀ B∈D,B < h.size)→Sl aK.str (aN D h') w l)→l.length≤4→l.Nodup→(∀ x,x∈l↔∃ i:Nat,i < a.cx∧(a.arg i).v=bv∧(a.arg i).s=x)→K w h'):Ok Tryz.prog ae ov 98 [a.val,.bool bv] h K:=by
 rw [ao h]
 have z:=Ext.refl h
 have Ay:=ZI a
 refine Ok.aD rfl zqD (br RM) rfl (m:=31) rfl ?_
 repeat' (simp -implicitDefEqProofs only [syms,aa,seval,mx,eW,↓ff,eR,dQ])
 refine MB a _ _ (fun w h' x sw=>?_)
 (replace z:=z.an x (by omega);rw [ao h'])
 have jm:=cJ w
 have rQ:=fun (hh:Heap)=>sw.bd vB hh
 have Vx:=sS a
 have Ke:=z.size
 simp -implicitDefEqProofs only [syms,aa,seval,mx,jm,rQ]
 obtain ⟨Hb,rfl⟩:∃ Hb,Hb=h':=⟨_,rfl⟩
 obtain ⟨I1,aR⟩:∃ I:Nat→Env→Heap→Prop,I=(fun n e h'=>∃ (i:Nat) (wv:Value) (A:Nat) (l:List ByteArray) (h1:Heap),h'=h1.lay [] h1.low∧Ext h h1∧(n=a.cx - i∧i≤a.cx∧l.length≤i∧(∀ x,x∈l↔∃ j:Nat,j < i∧(a.arg j).v=bv∧(a.arg j).s=x)∧Ow aK.str h h1 9 A wv l∧cP Hb h1∧Hb.size≤A∧l.Nodup)∧∃ J:Nat→Value,e=(J 0::.bool bv::jr J 2 3 (wv::jr J 6 3 (w::.int .i64 a.args.length::.int .i64 i::jr J 12 21 ([]))))):=⟨_,rfl⟩
 refine dg I1 _ (by rw [aR];exact ⟨0,.slice none 0 0,Hb.size,[],_,rfl,z,⟨rfl,by omega,by simp,by simp,Ow.nil (by omega),cP.refl _,Nat.le_refl _,List.nodup_nil⟩,aB (by kernel_rfl)⟩) ?_
 intro n e h' aH
 rw [aR] at aH
 obtain ⟨i,wv,A,l,bE,rfl,z,hinv,J,rfl⟩:=aH
 obtain ⟨rfl,hi,FH,b8,ow,ib,vN,iw⟩:=hinv
 have gO:=eg i (by omega)
 have gN:=cJ wv
 simp -implicitDefEqProofs only [syms,aa,seval,mx]
 refine bp (fun aS=>?_) (fun aS=>?_)
 rotate_left
 ·have he:i=a.cx:=by omega
  rw [he] at b8
  repeat' (simp -implicitDefEqProofs only [syms,aa,seval,mx,gN])
  exact hk _ _ _ (z.aw _ _ (by omega)) (fun D hD=>(ow.mono (cP.lay _ _ _)).aN (fun _ _ _ _ q=>q) (by decide) hD) (by omega) iw b8
 have nt:=Go.Am.args_at (a:=a) (i:=i) (by omega)
 rcases sJ:a.arg i with ⟨rv,rs⟩
 rw [sJ] at nt
 have hr:a.args[(i:Int).toNat]? = some ⟨rv,rs⟩:=by rw [Int.toNat_natCast];exact nt
 have j8:∀ x,(∃ j:Nat,j < i+1∧(a.arg j).v=bv∧(a.arg j).s=x)↔(∃ j:Nat,j < i∧(a.arg j).v=bv∧(a.arg j).s=x)∨(rv=bv∧rs=x):=by
  intro x
  constructor
  ·rintro ⟨j,hj,e⟩
   by_cases xj:j=i
   ·subst xj
    rw [sJ] at e
    exact .inr e
   ·exact .inl ⟨j,by omega,e⟩
  ·rintro (⟨j,hj,e⟩|e)
   ·exact ⟨j,by omega,e⟩
   ·exact ⟨i,by omega,by rw [sJ];exact e⟩
 repeat' (first|simp -implicitDefEqProofs only [syms,aa,seval,mx,mr,nO,List.all_cons,List.all_nil,Am.one,Bool.and_true,Bool.true_and,Bool.and_self,List.set_cons_zero,List.set_cons_succ,kM,fe,nJ,gy,gz,aQ.val,aQ.cells,gN]|with_reducible_and_instances refine MM (sw.mono ib) vB iJ (by omega) hr (fun p hp=>?_)|with_reducible_and_instances refine FW hp oh iJ ?_)
 have kl:(¬ rv=bv∨rs∈l)→∀ x,x∈l↔∃ j:Nat,j < i+1∧(a.arg j).v=bv∧(a.arg j).s=x:=by
  intro hs x
  rw [j8,← b8]
  refine ⟨.inl,fun e=>e.elim id (fun e=>?_)⟩
  rcases hs with hs|hs
  ·exact absurd e.1 hs
  ·rw [← e.2];exact hs
 have mJ:rv=bv→∀ x,x∈l++[rs]↔∃ j:Nat,j < i+1∧(a.arg j).v=bv∧(a.arg j).s=x:=by
  intro hs x
  rw [j8,← b8,List.mem_append,List.mem_singleton]
  exact ⟨fun e=>e.imp id (fun e=>⟨hs,e.symm⟩),fun e=>e.imp id (fun e=>e.2.symm)⟩
 have b1:(true == false)=false:=rfl
 have b2:(false == true)=false:=rfl
 have b3:(true == true)=true:=rfl
 have b4:(false == false)=true:=rfl
 have qU:=z.size
 cases rv
 all_goals
  cases bv
  all_goals
   repeat' (simp -implicitDefEqProofs only [syms,aa,seval,mx,zpX,b1,b2,b3,b4,gN])
 all_goals first
  |(rw [gO]
    have uL:=kl (.inl (by decide))
    refine OP (z.aw _ _ (by omega)) (fun H z hO hI=>?_)
    (rw [aR];with_reducible refine cz (m:=_) ?_ ⟨i+1,wv,A,l,_,rfl,z,⟨rfl,by omega,by omega,uL,ow.mono hI,ib.trans hI,vN,iw⟩,aB (by kernel_rfl)⟩;omega))
  |skip
 all_goals
  refine FZ l wv rs _ ((ow.sl (by decide)).lay _ _) (by omega) _ (fun h' x=>?_)
  have q0:=Holds.top (i:=0) x rfl
  (replace z:=z.an x (by omega);(replace ow:=ow.over x);(replace ib:=ib.over x);rw [ao h'])
  cases aH:l.any fun x=>decide (rs=x)
  rotate_left
  ·have uL:=kl (.inr (by obtain ⟨y,hy,e⟩:=List.any_eq_true.1 aH;rw [of_decide_eq_true e];exact hy))
   repeat' (first|simp -implicitDefEqProofs only [syms,aa,seval,mx,Bool.not_true]|((with_reducible_and_instances apply cm);(· rfl)))
   rw [gO]
   (rw [aR];with_reducible refine cz (m:=_) ?_ ⟨i+1,wv,A,l,_,rfl,z,⟨rfl,by omega,by omega,uL,ow,ib,vN,iw⟩,aB (by kernel_rfl)⟩;omega)
  have lz:=mJ rfl
  have Dm:(l++[rs]).Nodup:=by
   rw [List.nodup_append]
   refine ⟨iw,by simp,fun x hx y hy e=>?_⟩
   rw [List.mem_singleton] at hy
   rw [hy] at e
   have hf:=List.any_eq_false.1 aH x hx
   rw [e] at hf
   simp at hf
  repeat' (first|simp -implicitDefEqProofs only [syms,aa,seval,mx,Bool.not_false,q0.lay,gN]|((with_reducible_and_instances apply cm);(· rfl)))
  simp -implicitDefEqProofs only [syms,aa,seval,mx,sX,RI]
 all_goals
  refine zA5 (i:=0) (cs:=[.string rs]) (x:=rs) cM Ev rfl (by decide) (by rfl) z.size ow rfl (by omega) (by omega) (fun w3 h3 A3 Xt ou IL=>?_)
  have VT:=ow.fresh
  have Xb:=cP.ku (ib.trans (cP.lay _ _ _)) ou vN
  have Ji:=ib.size
  replace z:=(z.aw _ _ (by omega)).step ou (by omega)
  rw [ao h3]
  have DN:=cJ w3
  repeat' (simp -implicitDefEqProofs only [syms,aa,seval,mx,DN])
  rw [gO]
  clear ow q0
  (rw [aR];with_reducible refine cz (m:=_) ?_ ⟨i+1,w3,A3,l++[rs],_,rfl,z,⟨rfl,by omega,by rw [List.length_append,List.length_singleton];omega,lz,Xt,Xb,by omega,Dm⟩,aB (by kernel_rfl)⟩;omega)
def vq (a:ab) (x:ByteArray):Prop:=∃ i:Nat,i < a.cx∧(a.arg i).v=false∧(a.arg i).s=x
theorem zkE (a:ab) (h:Heap) (K:Value→Heap→Prop) (hk:∀ w l h',Ext h h'→(∀ D:List Nat,(∀ B∈D,B < h.size)→Sl aK.str (aN D h') w l)→l.length≤4→l.Nodup→(∀ x,x∈l↔vq a x)→K w h'):Ok Tryz.prog ae ov 64 [a.val] h K:=by
 rw [ao h]
 have z:=Ext.refl h
 refine Ok.aD rfl zAh (br N64) rfl (m:=4) rfl ?_
 repeat' (simp -implicitDefEqProofs only [syms,aa,seval,c64,eW,↓ff,eR,dQ])
 refine zt7 a false _ _ (fun w l h' x s hl hn hm=>?_)
 (replace z:=z.an x (by omega);rw [ao h'])
 have jm:=cJ w
 repeat' (simp -implicitDefEqProofs only [syms,aa,seval,c64,jm])
 exact hk _ _ _ (z.aw _ _ (by omega)) (fun D hD=>(s D (fun B hB=>by rw [bB];have:=hD B hB;omega)).mono ((aT.lay h' [] h'.low D).inc (fun B hB=>.inl hB))) hl hn hm
end Go.Proofs.YtdplfgoifjjniaaGreatDoor

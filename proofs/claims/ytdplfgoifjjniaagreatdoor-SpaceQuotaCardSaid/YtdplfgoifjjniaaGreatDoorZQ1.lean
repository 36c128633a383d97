/- Walks: an atom's constants, each once. Written out by fill2.py. No condition. -/
import Derived.Test.YtdplfgoifjjniaaGreatDoorZQ0
set_option linter.unusedSimpArgs false
set_option linter.unusedVariables false
namespace Go.Proofs.YtdplfgoifjjniaaGreatDoor
open Go.Am
set_option maxRecDepth 100000
set_option maxHeartbeats 0
theorem zsR (a:AtomD) (bv:Bool) (h:Heap) (K:Value→Heap→Prop) (hk:∀ w l h',Ext h h'→(∀ D:List Nat,(∀ B∈D,B < h.size)→Sl Rep.str (killL D h') w l)→l.length≤4→l.Nodup→(∀ x,x∈l↔∃ i:Nat,i < a.cnt∧(a.arg i).v=bv∧(a.arg i).s=x)→K w h'):Ok Tryz.prog tab ov 98 [a.val,.bool bv] h K:=by
 rw [zaa h]
 have z:=Ext.refl h
 have hcn:=zkJ a
 refine Ok.into rfl zpE (zaw N98) rfl (m:=31) rfl ?_
 repeat' (simp -implicitDefEqProofs only [syms,symx,seval,c98,zas,↓zaF,zaA,zal])
 refine zix a _ _ (fun w h' x sw=>?_)
 (replace z:=z.overW x (by omega);rw [zaa h'])
 have hvw:=za3 w
 have hlw:=fun (hh:Heap)=>sw.lenA zh8 hh
 have hal:=zbt a
 have hz0:=z.size
 simp -implicitDefEqProofs only [syms,symx,seval,c98,hvw,hlw]
 obtain ⟨Hb,rfl⟩:∃ Hb,Hb=h':=⟨_,rfl⟩
 obtain ⟨I1,hI1⟩:∃ I:Nat→Env→Heap→Prop,I=(fun n e h'=>∃ (i:Nat) (wv:Value) (A:Nat) (l:List ByteArray) (h1:Heap),h'=h1.lay [] h1.low∧Ext h h1∧(n=a.cnt - i∧i≤a.cnt∧l.length≤i∧(∀ x,x∈l↔∃ j:Nat,j < i∧(a.arg j).v=bv∧(a.arg j).s=x)∧Ow Rep.str h h1 9 A wv l∧Inc Hb h1∧Hb.size≤A∧l.Nodup)∧∃ J:Nat→Value,e=(J 0::.bool bv::jr J 2 3 (wv::jr J 6 3 (w::.int .i64 a.args.length::.int .i64 i::jr J 12 21 ([]))))):=⟨_,rfl⟩
 refine zaE I1 _ (by rw [hI1];exact ⟨0,.slice none 0 0,Hb.size,[],_,rfl,z,⟨rfl,by omega,by simp,by simp,Ow.nil (by omega),Inc.refl _,Nat.le_refl _,List.nodup_nil⟩,junk (by kernel_rfl)⟩) ?_
 intro n e h' hin
 rw [hI1] at hin
 obtain ⟨i,wv,A,l,h1',rfl,z,hinv,J,rfl⟩:=hin
 obtain ⟨rfl,hi,hll,hmem,ow,ib,hbA,hnd⟩:=hinv
 have hwi:=zcl i (by omega)
 have hvv:=za3 wv
 simp -implicitDefEqProofs only [syms,symx,seval,c98]
 refine zaD (fun hlt=>?_) (fun hlt=>?_)
 rotate_left
 ·have he:i=a.cnt:=by omega
  rw [he] at hmem
  repeat' (simp -implicitDefEqProofs only [syms,symx,seval,c98,hvv])
  exact hk _ _ _ (z.upW _ _ (by omega)) (fun D hD=>(ow.mono (Inc.lay _ _ _)).killL (fun _ _ _ _ q=>q) (by decide) hD) (by omega) hnd hmem
 have hat:=Go.Am.args_at (a:=a) (i:=i) (by omega)
 rcases hr0:a.arg i with ⟨rv,rs⟩
 rw [hr0] at hat
 have hr:a.args[(i:Int).toNat]? = some ⟨rv,rs⟩:=by rw [Int.toNat_natCast];exact hat
 have hup:∀ x,(∃ j:Nat,j < i+1∧(a.arg j).v=bv∧(a.arg j).s=x)↔(∃ j:Nat,j < i∧(a.arg j).v=bv∧(a.arg j).s=x)∨(rv=bv∧rs=x):=by
  intro x
  constructor
  ·rintro ⟨j,hj,e⟩
   by_cases hjk:j=i
   ·subst hjk
    rw [hr0] at e
    exact .inr e
   ·exact .inl ⟨j,by omega,e⟩
  ·rintro (⟨j,hj,e⟩|e)
   ·exact ⟨j,by omega,e⟩
   ·exact ⟨i,by omega,by rw [hr0];exact e⟩
 repeat' (first|simp -implicitDefEqProofs only [syms,symx,seval,c98,zbA,zaS,List.all_cons,List.all_nil,Am.one,Bool.and_true,Bool.true_and,Bool.and_self,List.set_cons_zero,List.set_cons_succ,st4,st3,st9,st39,st42,TermD.val,TermD.cells,hvv]|with_reducible_and_instances refine zmm (sw.mono ib) zh8 sz39 (by omega) hr (fun p hp=>?_)|with_reducible_and_instances refine ldt hp ag39 sz39 ?_)
 have hskip:(¬ rv=bv∨rs∈l)→∀ x,x∈l↔∃ j:Nat,j < i+1∧(a.arg j).v=bv∧(a.arg j).s=x:=by
  intro hs x
  rw [hup,← hmem]
  refine ⟨.inl,fun e=>e.elim id (fun e=>?_)⟩
  rcases hs with hs|hs
  ·exact absurd e.1 hs
  ·rw [← e.2];exact hs
 have htake:rv=bv→∀ x,x∈l++[rs]↔∃ j:Nat,j < i+1∧(a.arg j).v=bv∧(a.arg j).s=x:=by
  intro hs x
  rw [hup,← hmem,List.mem_append,List.mem_singleton]
  exact ⟨fun e=>e.imp id (fun e=>⟨hs,e.symm⟩),fun e=>e.imp id (fun e=>e.2.symm)⟩
 have b1:(true == false)=false:=rfl
 have b2:(false == true)=false:=rfl
 have b3:(true == true)=true:=rfl
 have b4:(false == false)=true:=rfl
 have hzp:=z.size
 cases rv
 all_goals
  cases bv
  all_goals
   repeat' (simp -implicitDefEqProofs only [syms,symx,seval,c98,zo7,b1,b2,b3,b4,hvv])
 all_goals first
  |(rw [hwi]
    have hsk:=hskip (.inl (by decide))
    refine zfy (z.upW _ _ (by omega)) (fun H z hO hI=>?_)
    (rw [hI1];with_reducible refine zae (m:=_) ?_ ⟨i+1,wv,A,l,_,rfl,z,⟨rfl,by omega,by omega,hsk,ow.mono hI,ib.trans hI,hbA,hnd⟩,junk (by kernel_rfl)⟩;omega))
  |skip
 all_goals
  refine zb4 l wv rs _ ((ow.sl (by decide)).lay _ _) (by omega) _ (fun h' x=>?_)
  have q0:=Holds.top (i:=0) x rfl
  (replace z:=z.overW x (by omega);(replace ow:=ow.over x);(replace ib:=ib.over x);rw [zaa h'])
  cases hin:l.any fun x=>decide (rs=x)
  rotate_left
  ·have hsk:=hskip (.inr (by obtain ⟨y,hy,e⟩:=List.any_eq_true.1 hin;rw [of_decide_eq_true e];exact hy))
   repeat' (first|simp -implicitDefEqProofs only [syms,symx,seval,c98,Bool.not_true]|((with_reducible_and_instances apply zar);(· rfl)))
   rw [hwi]
   (rw [hI1];with_reducible refine zae (m:=_) ?_ ⟨i+1,wv,A,l,_,rfl,z,⟨rfl,by omega,by omega,hsk,ow,ib,hbA,hnd⟩,junk (by kernel_rfl)⟩;omega)
  have htk:=htake rfl
  have hnd2:(l++[rs]).Nodup:=by
   rw [List.nodup_append]
   refine ⟨hnd,by simp,fun x hx y hy e=>?_⟩
   rw [List.mem_singleton] at hy
   rw [hy] at e
   have hf:=List.any_eq_false.1 hin x hx
   rw [e] at hf
   simp at hf
  repeat' (first|simp -implicitDefEqProofs only [syms,symx,seval,c98,Bool.not_false,q0.lay,hvv]|((with_reducible_and_instances apply zar);(· rfl)))
  simp -implicitDefEqProofs only [syms,symx,seval,c98,zcU,zzs]
 all_goals
  refine zxi (i:=0) (cs:=[.string rs]) (x:=rs) ds23 zeg rfl (by decide) (by rfl) z.size ow rfl (by omega) (by omega) (fun w3 h3 A3 ow3 cg3 hA3=>?_)
  have hfA:=ow.fresh
  have ib3:=Inc.chg (ib.trans (Inc.lay _ _ _)) cg3 hbA
  have hbs:=ib.size
  replace z:=(z.upW _ _ (by omega)).step cg3 (by omega)
  rw [zaa h3]
  have hvw3:=za3 w3
  repeat' (simp -implicitDefEqProofs only [syms,symx,seval,c98,hvw3])
  rw [hwi]
  clear ow q0
  (rw [hI1];with_reducible refine zae (m:=_) ?_ ⟨i+1,w3,A3,l++[rs],_,rfl,z,⟨rfl,by omega,by rw [List.length_append,List.length_singleton];omega,htk,ow3,ib3,by omega,hnd2⟩,junk (by kernel_rfl)⟩;omega)
def zds (a:AtomD) (x:ByteArray):Prop:=∃ i:Nat,i < a.cnt∧(a.arg i).v=false∧(a.arg i).s=x
theorem zj8 (a:AtomD) (h:Heap) (K:Value→Heap→Prop) (hk:∀ w l h',Ext h h'→(∀ D:List Nat,(∀ B∈D,B < h.size)→Sl Rep.str (killL D h') w l)→l.length≤4→l.Nodup→(∀ x,x∈l↔zds a x)→K w h'):Ok Tryz.prog tab ov 64 [a.val] h K:=by
 rw [zaa h]
 have z:=Ext.refl h
 refine Ok.into rfl zwB (zaw N64) rfl (m:=4) rfl ?_
 repeat' (simp -implicitDefEqProofs only [syms,symx,seval,c64,zas,↓zaF,zaA,zal])
 refine zsR a false _ _ (fun w l h' x s hl hn hm=>?_)
 (replace z:=z.overW x (by omega);rw [zaa h'])
 have hvw:=za3 w
 repeat' (simp -implicitDefEqProofs only [syms,symx,seval,c64,hvw])
 exact hk _ _ _ (z.upW _ _ (by omega)) (fun D hD=>(s D (fun B hB=>by rw [zad];have:=hD B hB;omega)).mono ((Frs.lay h' [] h'.low D).inc (fun B hB=>.inl hB))) hl hn hm
end Go.Proofs.YtdplfgoifjjniaaGreatDoor

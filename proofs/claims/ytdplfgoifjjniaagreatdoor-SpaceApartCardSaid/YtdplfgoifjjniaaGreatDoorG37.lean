/- Walks: atoms that may be, their variables, by the program. Written out by fill2.py. No condition. -/
import Derived.Test.YtdplfgoifjjniaaGreatDoorG35
import Derived.Test.YtdplfgoifjjniaaGreatDoorG36
import Derived.Test.YtdplfgoifjjniaaGreatDoorG30
import Derived.Test.YtdplfgoifjjniaaGreatDoorG27
import Derived.Test.YtdplfgoifjjniaaGreatDoorG25
import Derived.KernelRfl
import Derived.Test.YtdplfgoifjjniaaGreatDoorG26
import Derived.Test.YtdplfgoifjjniaaGreatDoorG18
namespace Go.Proofs.YtdplfgoifjjniaaGreatDoor
open Go.Am
set_option linter.unusedSimpArgs false
set_option linter.unusedVariables false
set_option maxRecDepth 100000
set_option maxHeartbeats 0
theorem zzT (A o:Nat) (k:Int) (h0:0≤k) (h4:k≤4):zbn tab 40 (.pointer (some ⟨A,o,none⟩)) (some (.int .i64 k)) none none=some (.slice (some ⟨A,if 4=k.toNat then o else o+k.toNat*2,none⟩) (4 - k.toNat) (4 - k.toNat)):=by
 have hG:4 < G:=by decide
 simp only [zbn,ds40,zbJ,zg1,if_pos hG,Option.bind_some]
 rw [if_pos ⟨h0,by omega⟩]
 simp [sz39]
theorem zd1 (a:AtomD) (k:Nat):(a.all.drop k).length=4 - k:=by rw [List.length_drop];rfl
theorem zzy (a:AtomD) {k i:Nat} (h:k+i < 4):(a.all.drop k)[i]? = some (a.arg (k+i)):=by
 rw [List.getElem?_drop]
 have:k+i=0∨k+i=1∨k+i=2∨k+i=3:=by omega
 rcases this with e|e|e|e <;> rw [e] <;> rfl
theorem zAv {H:Heap} {A:Nat} {a:AtomD} {u:TypeId} {ro:Bool} (q:Holds H A (.row a.cells u ro)) (k:Nat) (hk:k≤4):Sl Rep.term H (.slice (some ⟨A,if 4=k then 3 else 3+k*2,none⟩) (4 - k) (4 - k)) (a.all.drop k):=by
 refine .inr ⟨A,_,4 - k,a.cells,u,ro,by rw [zd1],by rw [zd1];unfold maxLen;omega,.inl ⟨by unfold G;omega,by rw [zd1];exact Nat.le_refl _⟩,q.lt,q.get,fun i x hx=>?_⟩
 have hi:i < 4 - k:=by have:=(List.getElem?_eq_some_iff.1 hx).1;rw [zd1] at this;exact this
 rw [zzy a (by omega)] at hx
 cases hx
 have hc:=zBK a (k+i) (by omega)
 rw [if_neg (by omega)]
 refine ⟨_,?_,rfl⟩
 show cut a.cells (3+k*2+i*2) 2=_
 rw [← hc]
 congr 1
 omega
theorem zhm (a:AtomD):a.cells[0]? = some (.string a.says):=rfl
theorem zpc (a:AtomD):a.cells[1]? = some (.string a.pred):=rfl
theorem zjV (a:AtomD):a.cells[2]? = some (.int .i64 a.n):=rfl
theorem ztL (a:AtomD) (bv:Bool) (h:Heap) (K:Value→Heap→Prop) (hk:∀ w l h',Ext h h'→Sl Rep.str h' w l→l.length≤4→(∀ x,x∈l↔∃ i:Nat,i < a.cnt∧(a.arg i).v=bv∧(a.arg i).s=x)→K w h'):Ok Tryz.prog tab ov 98 [a.val,.bool bv] h K:=by
 rw [zaa h]
 have z:=Ext.refl h
 have hcn:=zlt a
 refine Ok.into rfl zpM (zaB N98) rfl (m:=31) rfl ?_
 repeat' ( simp -implicitDefEqProofs only [syms,symx,seval,c98,zas,↓zaG,zaD,zar])
 refine zi9 a _ _ (fun w h' x sw=>?_)
 ((skip);replace z:=z.overW x (by (try simp only [lsz]);omega);rw [zaa h'])
 have hvw:=zaQ w
 have hlw:=fun (hh:Heap)=>sw.lenA ziG hh
 have hal:=zbw a
 have hz0:=z.size
 simp -implicitDefEqProofs only [syms,symx,seval,c98,hvw,hlw]
 obtain ⟨Hb,rfl⟩:∃ Hb,Hb=h':=⟨_,rfl⟩
 obtain ⟨I1,hI1⟩:∃ I:Nat→Env→Heap→Prop,I=(fun n e h'=>∃ (i:Nat) (wv:Value) (A:Nat) (l:List ByteArray) (h1:Heap),h'=h1.lay [] h1.low∧Ext h h1∧(n=a.cnt - i∧i≤a.cnt∧l.length≤i∧(∀ x,x∈l↔∃ j:Nat,j < i∧(a.arg j).v=bv∧(a.arg j).s=x)∧Ow Rep.str h h1 9 A wv l∧Inc Hb h1∧Hb.size≤A)∧∃ J:Nat→Value,e=(J 0::.bool bv::jr J 2 3 (wv::jr J 6 3 (w::.int .i64 a.args.length::.int .i64 i::jr J 12 21 ([]))))):=⟨_,rfl⟩
 refine zaI I1 _ (by rw [hI1];exact ⟨0,.slice none 0 0,Hb.size,[],_,rfl,z,⟨rfl,by omega,by simp,by simp,Ow.nil (by omega),Inc.refl _,Nat.le_refl _⟩,junk (by kernel_rfl)⟩) ?_
 intro n e h' hin
 rw [hI1] at hin
 obtain ⟨i,wv,A,l,h1',rfl,z,hinv,J,rfl⟩:=hin
 obtain ⟨rfl,hi,hll,hmem,ow,ib,hbA⟩:=hinv
 have hwi:IntKind.i64.wrap ((i:Int)+1)=((i+1:Nat):Int):=by rw [wrap_i64 (by omega) (by omega)];omega
 have hvv:=zaQ wv
 simp -implicitDefEqProofs only [syms,symx,seval,c98]
 refine zaE (fun hlt=>?_) (fun hlt=>?_)
 rotate_left
 ·have he:i=a.cnt:=by omega
  rw [he] at hmem
  repeat' ( simp -implicitDefEqProofs only [syms,symx,seval,c98,hvv])
  exact hk _ _ _ (z.upW _ _ (by omega)) ((ow.sl (by decide)).lay _ _) (by omega) hmem
 have hat:=Go.Am.args_at (a:=a) (i:=i) (by omega)
 rcases hr0:a.arg i with ⟨rv,rs⟩
 rw [hr0] at hat
 have hr:a.args[(i:Int).toNat]? = some ⟨rv,rs⟩:=by rw [Int.toNat_natCast];exact hat
 have hup:∀ x,(∃ j:Nat,j < i+1∧(a.arg j).v=bv∧(a.arg j).s=x)↔(∃ j:Nat,j < i∧(a.arg j).v=bv∧(a.arg j).s=x)∨(rv=bv∧rs=x):=by
  intro x
  constructor
  ·rintro ⟨j,hj,e⟩
   by_cases hjk:j=i
   ·subst hjk
    rw [hr0] at e
    exact .inr e
   ·exact .inl ⟨j,by omega,e⟩
  ·rintro (⟨j,hj,e⟩|e)
   ·exact ⟨j,by omega,e⟩
   ·exact ⟨i,by omega,by rw [hr0];exact e⟩
 repeat' (first|simp -implicitDefEqProofs only [syms,symx,seval,c98,zbI,zaX,List.all_cons,List.all_nil,Am.one,Bool.and_true,Bool.true_and,Bool.and_self,List.set_cons_zero,List.set_cons_succ,st4,st3,st9,st39,st42,TermD.val,TermD.cells,hvv]|with_reducible_and_instances refine zm1 (sw.mono ib) ziG sz39 (by omega) hr (fun p hp=>?_)|with_reducible_and_instances refine ldt hp ag39 sz39 ?_)
 have hskip:(¬ rv=bv∨rs∈l)→∀ x,x∈l↔∃ j:Nat,j < i+1∧(a.arg j).v=bv∧(a.arg j).s=x:=by
  intro hs x
  rw [hup,← hmem]
  refine ⟨.inl,fun e=>e.elim id (fun e=>?_)⟩
  rcases hs with hs|hs
  ·exact absurd e.1 hs
  ·rw [← e.2];exact hs
 have htake:rv=bv→∀ x,x∈l++[rs]↔∃ j:Nat,j < i+1∧(a.arg j).v=bv∧(a.arg j).s=x:=by
  intro hs x
  rw [hup,← hmem,List.mem_append,List.mem_singleton]
  exact ⟨fun e=>e.imp id (fun e=>⟨hs,e.symm⟩),fun e=>e.imp id (fun e=>e.2.symm)⟩
 have b1:(true == false)=false:=rfl
 have b2:(false == true)=false:=rfl
 have b3:(true == true)=true:=rfl
 have b4:(false == false)=true:=rfl
 have hzp:=z.size
 cases rv
 all_goals
  cases bv
  all_goals
   repeat' ( simp -implicitDefEqProofs only [syms,symx,seval,c98,zpa,b1,b2,b3,b4,hvv])
 all_goals first
  |(rw [hwi]
    have hsk:=hskip (.inl (by decide))
    refine zft (z.upW _ _ (by omega)) (fun H z hO hI=>?_)
    (rw [hI1];with_reducible refine zae (m:=_) ?_ ⟨i+1,wv,A,l,_,rfl,z,⟨rfl,by omega,by omega,hsk,ow.mono hI,ib.trans hI,hbA⟩,junk (by kernel_rfl)⟩;omega))
  |skip
 all_goals
  refine zb7 l wv rs _ ((ow.sl (by decide)).lay _ _) (by omega) _ (fun h' x=>?_)
  have q0:=Holds.top (i:=0) x rfl
  ((skip);replace z:=z.overW x (by (try simp only [lsz]);omega);(try replace ow:=ow.over x);(try replace ib:=ib.over x);rw [zaa h'])
  cases hin:l.any fun x=>decide (rs=x)
  rotate_left
  ·have hsk:=hskip (.inr (by obtain ⟨y,hy,e⟩:=List.any_eq_true.1 hin;rw [of_decide_eq_true e];exact hy))
   repeat' (first|simp -implicitDefEqProofs only [syms,symx,seval,c98,Bool.not_true]|((with_reducible_and_instances apply zal);(· rfl)))
   rw [hwi]
   (rw [hI1];with_reducible refine zae (m:=_) ?_ ⟨i+1,wv,A,l,_,rfl,z,⟨rfl,by omega,by omega,hsk,ow,ib,hbA⟩,junk (by kernel_rfl)⟩;omega)
  have htk:=htake rfl
  repeat' (first|simp -implicitDefEqProofs only [syms,symx,seval,c98,Bool.not_false,q0.lay,hvv]|((with_reducible_and_instances apply zal);(· rfl)))
  simp -implicitDefEqProofs only [syms,symx,seval,c98,zcG,zBF]
 all_goals
  refine zzJ (i:=0) (cs:=[.string rs]) (x:=rs) ds23 zd0 rfl (by decide) (by rfl) z.size ow rfl (by omega) (by omega) (fun w3 h3 A3 ow3 cg3 hA3=>?_)
  have hfA:=ow.fresh
  have ib3:=Inc.chg (ib.trans (Inc.lay _ _ _)) cg3 hbA
  have hbs:=ib.size
  replace z:=(z.upW _ _ (by omega)).step cg3 (by omega)
  rw [zaa h3]
  have hvw3:=zaQ w3
  repeat' ( simp -implicitDefEqProofs only [syms,symx,seval,c98,hvw3])
  rw [hwi]
  clear ow q0
  (rw [hI1];with_reducible refine zae (m:=_) ?_ ⟨i+1,w3,A3,l++[rs],_,rfl,z,⟨rfl,by omega,by rw [List.length_append,List.length_singleton];omega,htk,ow3,ib3,by omega⟩,junk (by kernel_rfl)⟩;omega)
theorem zpx (a:AtomD) (h:Heap) (K:Value→Heap→Prop) (hk:∀ w l h',Ext h h'→Sl Rep.str h' w l→l.length≤4→(∀ x,x∈l↔zlq a x)→K w h'):Ok Tryz.prog tab ov 115 [a.val] h K:=by
 rw [zaa h]
 have z:=Ext.refl h
 refine Ok.into rfl zuN (zaB N115) rfl (m:=4) rfl ?_
 repeat' ( simp -implicitDefEqProofs only [syms,symx,seval,c115,zas,↓zaG,zaD,zar])
 refine ztL a true _ _ (fun w l h' x s hl hm=>?_)
 ((skip);replace z:=z.overW x (by (try simp only [lsz]);omega);rw [zaa h'])
 have hvw:=zaQ w
 repeat' ( simp -implicitDefEqProofs only [syms,symx,seval,c115,hvw])
 exact hk _ _ _ (z.upW _ _ (by omega)) (s.lay _ _) hl (fun x=>(hm x).trans varIn_iff.symm)
end Go.Proofs.YtdplfgoifjjniaaGreatDoor
namespace Go.Proofs.YtdplfgoifjjniaaGreatDoor
open Go.Am
set_option linter.unusedVariables false
set_option linter.unusedSimpArgs false
set_option maxRecDepth 100000
set_option maxHeartbeats 0
noncomputable def N19:=zaz Tryz.f19
noncomputable def x19:=PLift.up (by have c:=zah N19 Tryz.f19;simp only [zan,Tryz.f19,Option.getD_some,zaj,opsF,opsX,zag,zaA,dstL,zak,List.append_eq,List.cons_append,List.nil_append,seval] at c;exact nd c <| nd @zpn <| nd @zgz <| nd @zpL <| nd @zpg <| nd @ix40 <| nd @ld9 <| nd @ln9 <| @fi19)
theorem c19:type_of% x19.down:=x19.down
noncomputable def N40:=zaz Tryz.f40
noncomputable def x40:=PLift.up (by have c:=zah N40 Tryz.f40;simp only [zan,Tryz.f40,Option.getD_some,zaj,opsF,opsX,zag,zaA,dstL,zak,List.append_eq,List.cons_append,List.nil_append,seval] at c;exact nd c <| nd @ix52 <| nd @ld42 <| nd @ln52 <| @fi40)
theorem c40:type_of% x40.down:=x40.down
noncomputable def N9:=zaz Tryz.f9
noncomputable def x9:=PLift.up (by have c:=zah N9 Tryz.f9;simp only [zan,Tryz.f9,Option.getD_some,zaj,opsF,opsX,zag,zaA,dstL,zak,List.append_eq,List.cons_append,List.nil_append,seval] at c;exact nd c <| @fi9)
theorem c9:type_of% x9.down:=x9.down
end Go.Proofs.YtdplfgoifjjniaaGreatDoor
namespace Go.Proofs.YtdplfgoifjjniaaGreatDoor
open Go.Am
set_option linter.unusedSimpArgs false
set_option linter.unusedVariables false
set_option maxRecDepth 100000
set_option maxHeartbeats 0
/-! ### Light -/
theorem zge (a:AtomD) (h:Heap) (K:Value→Heap→Prop) (h1:a.light=true→∀ h',Ext h h'→K (.bool true) h') (h2:a.light=false→∀ h',Ext h h'→K (.bool false) h'):Ok Tryz.prog tab ov 19 [a.val] h K:=by
 rw [zaa h]
 have z:=Ext.refl h
 unfold AtomD.val AtomD.cells
 refine Ok.into rfl zwn (zaB N19) rfl (m:=29) rfl ?_
 simp -implicitDefEqProofs only [syms,symx,seval,c19]
 repeat' ((first|((with_reducible  apply zaE ) <;> intro _)|with_reducible_and_instances refine zhV ?_) <;> simp -implicitDefEqProofs only [syms,symx,seval,c19])
 all_goals first
  |with_reducible exact h2 (by simp [AtomD.light];omega) _ (z.upW _ _ (by omega))
  |with_reducible exact h1 (by simp [AtomD.light];omega) _ (z.upW _ _ (by omega))
theorem zmk (l:List AtomD) (v:Value) (m:Int) (h:Heap) (hl:Sl Rep.atom h v l) (K:Value→Heap→Prop) (h1:(l.length:Int)≤m→(∀ a∈l,a.light=true)→∀ h',Ext h h'→K (.bool true) h') (h2:∀ h',Ext h h'→K (.bool false) h'):Ok Tryz.prog tab ov 40 [v,.int .i64 m] h K:=by
 rw [zaa h]
 have z:=Ext.refl h
 have hle:=hl.le
 refine Ok.into rfl zy1 (zaB N40) rfl (m:=20) rfl ?_
 simp -implicitDefEqProofs only [syms,symx,seval,c40]
 repeat' ((first|((with_reducible  apply zaE ) <;> intro _)|with_reducible_and_instances refine zi5 hl ds52 ?_) <;> simp -implicitDefEqProofs only [syms,symx,seval,c40])
 ·exact h2 _ (z.upW _ _ (by omega))
 refine zBW (fun e h'=>∃ (i:Nat) (h1:Heap) (x1 x2 x3 x4 x6 x7 x8 x9 x10 x11 x12 x13 x14 x15 x16 x17 x18 x19 x20 x21:Value),h'=h1.lay [] h1.low∧Ext h h1∧i≤l.length∧(∀ a∈l.take i,a.light=true)∧e=[v,x1,x2,x3,x4,.int .i64 i,x6,x7,x8,x9,x10,x11,x12,x13,x14,x15,x16,x17,x18,x19,x20,x21]) (fun e _=>match e.get 5 with | .int _ i=>l.length - i.toNat|_=>0) ?_ ?_
 ·exact ⟨0,h,_,_,_,_,_,_,_,_,_,_,_,_,_,_,_,_,_,_,_,_,rfl,z,by omega,by simp,rfl⟩
 rintro e h' ⟨i,h1',x1,x2,x3,x4,x6,x7,x8,x9,x10,x11,x12,x13,x14,x15,x16,x17,x18,x19,x20,x21,rfl,z,hi,hall,rfl⟩
 have hw:i < l.length→IntKind.i64.wrap ((i:Int)+1)=((i+1:Nat):Int):=fun hh=>by unfold maxLen at hle;rw [wrap_i64 (by omega) (by omega)];omega
 simp -implicitDefEqProofs only [syms,symx,seval,c40]
 repeat' ((first|((with_reducible  apply zaE ) <;> intro _)|with_reducible_and_instances refine zi5 hl ds52 ?_|with_reducible_and_instances refine ixa (hl.mono z.inc) ds52 sz42 (by omega) (by omega) (fun a p ha hp=>?_)|with_reducible_and_instances refine lda hp ag42 sz42 ?_|((with_reducible_and_instances refine zge _ _ _ (fun hlx h' x=>?_) (fun hlx h' x=>?_)) <;> ((skip);replace z:=z.overW x (by (try simp only [lsz]);omega);rw [zaa h']))|((with_reducible_and_instances apply zal);(· rfl))) <;> simp -implicitDefEqProofs only [syms,symx,seval,c40])
 all_goals first
  |with_reducible exact h2 _ (z.upW _ _ (by omega))
  |with_reducible exact h1 (by omega) (by rw [List.take_of_length_le (by omega)] at hall;exact hall) _ (z.upW _ _ (by omega))
  |(rw [hw (by omega)]
    with_reducible refine znj ?_ ?_
    ·exact ⟨i+1,h',_,_,_,_,_,_,_,_,_,_,_,_,_,_,_,_,_,_,_,_,rfl,z,by omega,zb5 ha hall hlx,rfl⟩
    ·show l.length - ((i+1:Nat):Int).toNat < l.length - (i:Int).toNat
     omega)
end Go.Proofs.YtdplfgoifjjniaaGreatDoor
namespace Go.Proofs.YtdplfgoifjjniaaGreatDoor
open Go.Am
set_option linter.unusedVariables false
set_option linter.unusedSimpArgs false
set_option maxRecDepth 100000
set_option maxHeartbeats 0
noncomputable def N39:=zaz Tryz.f39
noncomputable def x39:=PLift.up (by have c:=zah N39 Tryz.f39;simp only [zan,Tryz.f39,Option.getD_some,zaj,opsF,opsX,zag,zaA,dstL,zak,List.append_eq,List.cons_append,List.nil_append,seval] at c;exact nd c <| nd @ix23 <| nd @ld9 <| nd @ln23 <| nd @ln9 <| @fi39)
theorem c39:type_of% x39.down:=x39.down
noncomputable def N17:=zaz Tryz.f17
noncomputable def x17:=PLift.up (by have c:=zah N17 Tryz.f17;simp only [zan,Tryz.f17,Option.getD_some,zaj,opsF,opsX,zag,zaA,dstL,zak,List.append_eq,List.cons_append,List.nil_append,seval] at c;exact nd c <| nd @zki <| nd @zpq <| nd @zzP <| nd @zuh <| nd @zu0 <| nd @zpV <| nd @zpe <| nd @ztV <| nd @zpo <| nd @zpj <| nd @zta <| nd @zpW <| nd @zum <| nd @ix24 <| nd @ix25 <| nd @ix26 <| nd @ix27 <| nd @ld23 <| nd @ld24 <| nd @ld25 <| nd @ld26 <| nd @ld27 <| nd @ld42 <| nd @ld52 <| nd @ld9 <| nd @ln24 <| nd @ln25 <| nd @ln26 <| nd @ln27 <| nd @ln9 <| @fi17)
theorem c17:type_of% x17.down:=x17.down
end Go.Proofs.YtdplfgoifjjniaaGreatDoor
namespace Go.Proofs.YtdplfgoifjjniaaGreatDoor
open Go.Am
set_option linter.unusedSimpArgs false
set_option linter.unusedVariables false
set_option maxRecDepth 100000
set_option maxHeartbeats 0
theorem zgf (l:List ByteArray) (v:Value) (n0 m:Int) (h:Heap) (hl:Sl Rep.str h v l) (K:Value→Heap→Prop) (h1k:(l.length:Int)≤n0→∀ h',Ext h h'→K (.bool true) h') (h2k:∀ h',Ext h h'→K (.bool false) h'):Ok Tryz.prog tab ov 39 [v,.int .i64 n0,.int .i64 m] h K:=by
 rw [zaa h]
 have z:=Ext.refl h
 have hle:=hl.le
 have hva:=zaQ v
 have hlv:=fun (hh:Heap)=>hl.lenA ds23 hh
 refine Ok.into rfl zw7 (zaB N39) rfl (m:=26) rfl ?_
 repeat' (first|simp -implicitDefEqProofs only [syms,symx,seval,c39,hva,hlv]|((with_reducible  apply zaE ) <;> intro _))
 ·exact h2k _ (z.upW _ _ (by omega))
 obtain ⟨I1,hI1⟩:∃ I:Nat→Env→Heap→Prop,I=(fun n e h'=>∃ (i:Nat) (s:Int) (h1:Heap),h'=h1.lay [] h1.low∧Ext h h1∧(n=l.length - i∧i≤l.length)∧∃ J:Nat→Value,e=(v::.int .i64 n0::.int .i64 m::jr J 3 4 (.int .i64 s::.int .i64 i::jr J 9 20 ([])))):=⟨_,rfl⟩
 refine zaI I1 _ (by rw [hI1];exact ⟨0,0,_,rfl,z,⟨rfl,by omega⟩,junk (by kernel_rfl)⟩) ?_
 intro n e h' hin
 rw [hI1] at hin
 obtain ⟨i,s,h1',rfl,z,hinv,J,rfl⟩:=hin
 obtain ⟨rfl,hi⟩:=hinv
 have hw:i < l.length→IntKind.i64.wrap ((i:Int)+1)=((i+1:Nat):Int):=fun hh=>by unfold maxLen at hle;rw [wrap_i64 (by omega) (by omega)];omega
 simp -implicitDefEqProofs only [syms,symx,seval,c39,hva,hlv]
 refine zaE (fun hlt=>?_) (fun hlt=>?_)
 rotate_left
 ·repeat' ( simp -implicitDefEqProofs only [syms,symx,seval,c39])
  exact h1k (by omega) _ (z.upW _ _ (by omega))
 obtain ⟨r,hr,hr'⟩:=za5 (l:=l) (i:=i) (by omega)
 repeat' (first|simp -implicitDefEqProofs only [syms,symx,seval,c39,hva]|((with_reducible  apply zaE ) <;> intro _)|with_reducible_and_instances refine ziC (hl.mono z.inc) ds23 sz9 (by omega) hr (fun p hp=>?_)|with_reducible_and_instances refine zcq hp ag9 ?_)
 ·exact h2k _ (z.upW _ _ (by omega))
 ·rw [hw (by omega)]
  (rw [hI1];with_reducible refine zae (m:=_) ?_ ⟨i+1,IntKind.i64.wrap (s+r.size),_,rfl,z,⟨rfl,by omega⟩,junk (by kernel_rfl)⟩;omega)
end Go.Proofs.YtdplfgoifjjniaaGreatDoor

/- Walks: atoms that may be, their variables, by the program. Written out by fill2.py. No condition. -/
import Derived.Test.YtdplfgoifjjniaaGreatDoorG33
import Derived.Test.YtdplfgoifjjniaaGreatDoorG34
set_option linter.unusedSimpArgs false
set_option linter.unusedVariables false
set_option maxRecDepth 100000
set_option maxHeartbeats 0
namespace Go.Proofs.YtdplfgoifjjniaaGreatDoor
open Go.Am
theorem zxL (A o:Nat) (k:Int) (h0:0≤k) (h4:k≤4):zbl tab 40 (.pointer (some ⟨A,o,none⟩)) (some (.int .i64 k)) none none=some (.slice (some ⟨A,if 4=k.toNat then o else o+k.toNat*2,none⟩) (4 - k.toNat) (4 - k.toNat)):=by
 have hG:4 < G:=by decide
 simp only [zbl,ds40,zbH,zgQ,if_pos hG,Option.bind_some]
 rw [if_pos ⟨h0,by omega⟩]
 simp [sz39]
theorem zdX (a:AtomD) (k:Nat):(a.all.drop k).length=4 - k:=by rw [List.length_drop];rfl
theorem zxh (a:AtomD) {k i:Nat} (h:k+i < 4):(a.all.drop k)[i]? = some (a.arg (k+i)):=by
 rw [List.getElem?_drop]
 have:k+i=0∨k+i=1∨k+i=2∨k+i=3:=by omega
 rcases this with e|e|e|e <;> rw [e] <;> rfl
theorem zzl {H:Heap} {A:Nat} {a:AtomD} {u:TypeId} {ro:Bool} (q:Holds H A (.row a.cells u ro)) (k:Nat) (hk:k≤4):Sl Rep.term H (.slice (some ⟨A,if 4=k then 3 else 3+k*2,none⟩) (4 - k) (4 - k)) (a.all.drop k):=by
 refine .inr ⟨A,_,4 - k,a.cells,u,ro,by rw [zdX],by rw [zdX];unfold maxLen;omega,.inl ⟨by unfold G;omega,by rw [zdX];exact Nat.le_refl _⟩,q.lt,q.get,fun i x hx=>?_⟩
 have hi:i < 4 - k:=by have:=(List.getElem?_eq_some_iff.1 hx).1;rw [zdX] at this;exact this
 rw [zxh a (by omega)] at hx
 cases hx
 have hc:=zyk a (k+i) (by omega)
 rw [if_neg (by omega)]
 refine ⟨_,?_,rfl⟩
 show cut a.cells (3+k*2+i*2) 2=_
 rw [← hc]
 congr 1
 omega
theorem zhn (a:AtomD):a.cells[0]? = some (.string a.says):=rfl
theorem zo8 (a:AtomD):a.cells[1]? = some (.string a.pred):=rfl
theorem zjR (a:AtomD):a.cells[2]? = some (.int .i64 a.n):=rfl
theorem zsS (a:AtomD) (bv:Bool) (h:Heap) (K:Value→Heap→Prop) (hk:∀ w l h',Ext h h'→Sl Rep.str h' w l→l.length≤4→(∀ x,x∈l↔∃ i:Nat,i < a.cnt∧(a.arg i).v=bv∧(a.arg i).s=x)→K w h'):Ok Tryz.prog tab ov 98 [a.val,.bool bv] h K:=by
 rw [zaa h]
 have z:=Ext.refl h
 have hcn:=zkJ a
 refine Ok.into rfl zpE (zaw N98) rfl (m:=31) rfl ?_
 repeat' (simp -implicitDefEqProofs only [syms,symx,seval,c98,zas,↓zaF,zaA,zal])
 refine zix a _ _ (fun w h' x sw=>?_)
 (replace z:=z.overW x (by omega);rw [zaa h'])
 have hvw:=za3 w
 have hlw:=fun (hh:Heap)=>sw.lenA zh8 hh
 have hal:=zbt a
 have hz0:=z.size
 simp -implicitDefEqProofs only [syms,symx,seval,c98,hvw,hlw]
 obtain ⟨Hb,rfl⟩:∃ Hb,Hb=h':=⟨_,rfl⟩
 obtain ⟨I1,hI1⟩:∃ I:Nat→Env→Heap→Prop,I=(fun n e h'=>∃ (i:Nat) (wv:Value) (A:Nat) (l:List ByteArray) (h1:Heap),h'=h1.lay [] h1.low∧Ext h h1∧(n=a.cnt - i∧i≤a.cnt∧l.length≤i∧(∀ x,x∈l↔∃ j:Nat,j < i∧(a.arg j).v=bv∧(a.arg j).s=x)∧Ow Rep.str h h1 9 A wv l∧Inc Hb h1∧Hb.size≤A)∧∃ J:Nat→Value,e=(J 0::.bool bv::jr J 2 3 (wv::jr J 6 3 (w::.int .i64 a.args.length::.int .i64 i::jr J 12 21 ([]))))):=⟨_,rfl⟩
 refine zaE I1 _ (by rw [hI1];exact ⟨0,.slice none 0 0,Hb.size,[],_,rfl,z,⟨rfl,by omega,by simp,by simp,Ow.nil (by omega),Inc.refl _,Nat.le_refl _⟩,junk (by kernel_rfl)⟩) ?_
 intro n e h' hin
 rw [hI1] at hin
 obtain ⟨i,wv,A,l,h1',rfl,z,hinv,J,rfl⟩:=hin
 obtain ⟨rfl,hi,hll,hmem,ow,ib,hbA⟩:=hinv
 have hwi:=zcl i (by omega)
 have hvv:=za3 wv
 simp -implicitDefEqProofs only [syms,symx,seval,c98]
 refine zaD (fun hlt=>?_) (fun hlt=>?_)
 rotate_left
 ·have he:i=a.cnt:=by omega
  rw [he] at hmem
  repeat' (simp -implicitDefEqProofs only [syms,symx,seval,c98,hvv])
  exact hk _ _ _ (z.upW _ _ (by omega)) ((ow.sl (by decide)).lay _ _) (by omega) hmem
 have hat:=Go.Am.args_at (a:=a) (i:=i) (by omega)
 rcases hr0:a.arg i with ⟨rv,rs⟩
 rw [hr0] at hat
 have hr:a.args[(i:Int).toNat]? = some ⟨rv,rs⟩:=by rw [Int.toNat_natCast];exact hat
 have hup:∀ x,(∃ j:Nat,j < i+1∧(a.arg j).v=bv∧(a.arg j).s=x)↔(∃ j:Nat,j < i∧(a.arg j).v=bv∧(a.arg j).s=x)∨(rv=bv∧rs=x):=by
  intro x
  constructor
  ·rintro ⟨j,hj,e⟩
   by_cases hjk:j=i
   ·subst hjk
    rw [hr0] at e
    exact .inr e
   ·exact .inl ⟨j,by omega,e⟩
  ·rintro (⟨j,hj,e⟩|e)
   ·exact ⟨j,by omega,e⟩
   ·exact ⟨i,by omega,by rw [hr0];exact e⟩
 repeat' (first|simp -implicitDefEqProofs only [syms,symx,seval,c98,zbA,zaS,List.all_cons,List.all_nil,Am.one,Bool.and_true,Bool.true_and,Bool.and_self,List.set_cons_zero,List.set_cons_succ,st4,st3,st9,st39,st42,TermD.val,TermD.cells,hvv]|with_reducible_and_instances refine zmm (sw.mono ib) zh8 sz39 (by omega) hr (fun p hp=>?_)|with_reducible_and_instances refine ldt hp ag39 sz39 ?_)
 have hskip:(¬ rv=bv∨rs∈l)→∀ x,x∈l↔∃ j:Nat,j < i+1∧(a.arg j).v=bv∧(a.arg j).s=x:=by
  intro hs x
  rw [hup,← hmem]
  refine ⟨.inl,fun e=>e.elim id (fun e=>?_)⟩
  rcases hs with hs|hs
  ·exact absurd e.1 hs
  ·rw [← e.2];exact hs
 have htake:rv=bv→∀ x,x∈l++[rs]↔∃ j:Nat,j < i+1∧(a.arg j).v=bv∧(a.arg j).s=x:=by
  intro hs x
  rw [hup,← hmem,List.mem_append,List.mem_singleton]
  exact ⟨fun e=>e.imp id (fun e=>⟨hs,e.symm⟩),fun e=>e.imp id (fun e=>e.2.symm)⟩
 have b1:(true == false)=false:=rfl
 have b2:(false == true)=false:=rfl
 have b3:(true == true)=true:=rfl
 have b4:(false == false)=true:=rfl
 have hzp:=z.size
 cases rv
 all_goals
  cases bv
  all_goals
   repeat' (simp -implicitDefEqProofs only [syms,symx,seval,c98,zo7,b1,b2,b3,b4,hvv])
 all_goals first
  |(rw [hwi]
    have hsk:=hskip (.inl (by decide))
    refine zfy (z.upW _ _ (by omega)) (fun H z hO hI=>?_)
    (rw [hI1];with_reducible refine zae (m:=_) ?_ ⟨i+1,wv,A,l,_,rfl,z,⟨rfl,by omega,by omega,hsk,ow.mono hI,ib.trans hI,hbA⟩,junk (by kernel_rfl)⟩;omega))
  |skip
 all_goals
  refine zb4 l wv rs _ ((ow.sl (by decide)).lay _ _) (by omega) _ (fun h' x=>?_)
  have q0:=Holds.top (i:=0) x rfl
  (replace z:=z.overW x (by omega);(replace ow:=ow.over x);(replace ib:=ib.over x);rw [zaa h'])
  cases hin:l.any fun x=>decide (rs=x)
  rotate_left
  ·have hsk:=hskip (.inr (by obtain ⟨y,hy,e⟩:=List.any_eq_true.1 hin;rw [of_decide_eq_true e];exact hy))
   repeat' (first|simp -implicitDefEqProofs only [syms,symx,seval,c98,Bool.not_true]|((with_reducible_and_instances apply zar);(· rfl)))
   rw [hwi]
   (rw [hI1];with_reducible refine zae (m:=_) ?_ ⟨i+1,wv,A,l,_,rfl,z,⟨rfl,by omega,by omega,hsk,ow,ib,hbA⟩,junk (by kernel_rfl)⟩;omega)
  have htk:=htake rfl
  repeat' (first|simp -implicitDefEqProofs only [syms,symx,seval,c98,Bool.not_false,q0.lay,hvv]|((with_reducible_and_instances apply zar);(· rfl)))
  simp -implicitDefEqProofs only [syms,symx,seval,c98,zcU,zzs]
 all_goals
  refine zxi (i:=0) (cs:=[.string rs]) (x:=rs) ds23 zeg rfl (by decide) (by rfl) z.size ow rfl (by omega) (by omega) (fun w3 h3 A3 ow3 cg3 hA3=>?_)
  have hfA:=ow.fresh
  have ib3:=Inc.chg (ib.trans (Inc.lay _ _ _)) cg3 hbA
  have hbs:=ib.size
  replace z:=(z.upW _ _ (by omega)).step cg3 (by omega)
  rw [zaa h3]
  have hvw3:=za3 w3
  repeat' (simp -implicitDefEqProofs only [syms,symx,seval,c98,hvw3])
  rw [hwi]
  clear ow q0
  (rw [hI1];with_reducible refine zae (m:=_) ?_ ⟨i+1,w3,A3,l++[rs],_,rfl,z,⟨rfl,by omega,by rw [List.length_append,List.length_singleton];omega,htk,ow3,ib3,by omega⟩,junk (by kernel_rfl)⟩;omega)
theorem zpq (a:AtomD) (h:Heap) (K:Value→Heap→Prop) (hk:∀ w l h',Ext h h'→Sl Rep.str h' w l→l.length≤4→(∀ x,x∈l↔zlt a x)→K w h'):Ok Tryz.prog tab ov 115 [a.val] h K:=by
 rw [zaa h]
 have z:=Ext.refl h
 refine Ok.into rfl ztO (zaw N115) rfl (m:=4) rfl ?_
 repeat' (simp -implicitDefEqProofs only [syms,symx,seval,c115,zas,↓zaF,zaA,zal])
 refine zsS a true _ _ (fun w l h' x s hl hm=>?_)
 (replace z:=z.overW x (by omega);rw [zaa h'])
 have hvw:=za3 w
 repeat' (simp -implicitDefEqProofs only [syms,symx,seval,c115,hvw])
 exact hk _ _ _ (z.upW _ _ (by omega)) (s.lay _ _) hl (fun x=>(hm x).trans varIn_iff.symm)
noncomputable def N9:=zax Tryz.f9
noncomputable def x9:=PLift.up (by have c:=zag N9 Tryz.f9;simp only [nEqs,Tryz.f9,seval] at c;exact nd c <| @fi9)
theorem c9:type_of% x9.down:=x9.down
/-! ### Light -/
end Go.Proofs.YtdplfgoifjjniaaGreatDoor
namespace Go.Am
structure PredD where
 name:ByteArray
 arity:Int
structure ClearD where
 who:ByteArray
 reads:List ByteArray
structure GrantD where
 «to»:ByteArray
 head:AtomD
 body:List AtomD
structure PolicyD where
 principals:List ByteArray
 preds:List PredD
 clears:List ClearD
 quota:Int
 budget:Int
 rules:List ClauseD
 grants:List GrantD
abbrev Rep.pred:Rep PredD:={ k:=2,R:=fun _ cs x=>cs=[.string x.name,.int .i64 x.arity],len:=by rintro _ _ _ rfl;rfl,mono:=fun _ _ _ _ _ h=>h,ones:=by rintro _ _ _ rfl;rfl }
abbrev Rep.clear:Rep ClearD :=
 { k:=2,R:=fun h cs x=>∃ v,cs=[.string x.who,v]∧Sl Rep.str h v x.reads
   len:=by rintro h cs x ⟨v,rfl,_⟩;rfl
   mono:=by rintro h h' cs x i ⟨v,e,f⟩;exact ⟨v,e,f.mono i⟩
   ones:=by rintro h cs x ⟨v,rfl,f⟩;have:=f.one;simp only [List.all_cons,List.all_nil,this];rfl }
abbrev Rep.grant:Rep GrantD :=
 { k:=13,R:=fun h cs x=>∃ v,cs=.string x.to::(x.head.cells++[v])∧Sl Rep.atom h v x.body
   len:=by rintro h cs x ⟨v,rfl,_⟩;rfl
   mono:=by rintro h h' cs x i ⟨v,e,f⟩;exact ⟨v,e,f.mono i⟩
   ones:=by rintro h cs x ⟨v,rfl,f⟩;have:=f.one;simp only [List.all_append,AtomD.cells,List.all_cons,List.all_nil,this];rfl }
def zaq (p0 p1 p2 p5 p6:Value) (q b:Int):List Value:=[p0,p1,p2,.int .i64 q,.int .i64 b,p5,p6]
def zbN (p0 p1 p2 p5 p6:Value) (q b:Int):Value:=.agg ⟨zaq p0 p1 p2 p5 p6 q b⟩
structure PolH (h:Heap) (p0 p1 p2 p5 p6:Value) (d:PolicyD):Prop where
 s0:Sl Rep.str h p0 d.principals
 s1:Sl Rep.pred h p1 d.preds
 s2:Sl Rep.clear h p2 d.clears
 s5:Sl Rep.clause h p5 d.rules
 s6:Sl Rep.grant h p6 d.grants
theorem PolH.mono {h h':Heap} {p0 p1 p2 p5 p6:Value} {d:PolicyD} (f:PolH h p0 p1 p2 p5 p6 d) (i:Inc h h'):PolH h' p0 p1 p2 p5 p6 d:=⟨f.s0.mono i,f.s1.mono i,f.s2.mono i,f.s5.mono i,f.s6.mono i⟩
theorem PolH.lay {h:Heap} {p0 p1 p2 p5 p6:Value} {d:PolicyD} (f:PolH h p0 p1 p2 p5 p6 d) (bs:List Blk) (w:Nat):PolH (h.lay bs w) p0 p1 p2 p5 p6 d:=f.mono (Inc.lay h bs w)
theorem PolH.over {h1 h2:Heap} {bs:List Blk} {w:Nat} {p0 p1 p2 p5 p6:Value} {d:PolicyD} (f:PolH h1 p0 p1 p2 p5 p6 d) (x:Ext (h1.lay bs w) h2):PolH h2 p0 p1 p2 p5 p6 d:=f.mono x.inc.of_lay
theorem PolH.one {h:Heap} {p0 p1 p2 p5 p6:Value} {d:PolicyD} (f:PolH h p0 p1 p2 p5 p6 d) (q b:Int):(zaq p0 p1 p2 p5 p6 q b).all Am.one=true:=by
 have h0:=f.s0.one
 have h1:=f.s1.one
 have h2:=f.s2.one
 have h5:=f.s5.one
 have h6:=f.s6.one
 simp only [zaq,List.all_cons,List.all_nil,h0,h1,h2,h5,h6]
 rfl
theorem zyZ (p0 p1 p2 p5 p6:Value) (q b:Int):(zaq p0 p1 p2 p5 p6 q b).length=7:=rfl
theorem zbI (p0 p1 p2 p5 p6:Value) (q b:Int):cut (zaq p0 p1 p2 p5 p6 q b) 0 7=some (zaq p0 p1 p2 p5 p6 q b):=rfl
theorem pol0 (p0 p1 p2 p5 p6:Value) (q b:Int):(zaq p0 p1 p2 p5 p6 q b)[0]? = some p0:=rfl
theorem pol1 (p0 p1 p2 p5 p6:Value) (q b:Int):(zaq p0 p1 p2 p5 p6 q b)[1]? = some p1:=rfl
theorem pol2 (p0 p1 p2 p5 p6:Value) (q b:Int):(zaq p0 p1 p2 p5 p6 q b)[2]? = some p2:=rfl
theorem pol3 (p0 p1 p2 p5 p6:Value) (q b:Int):(zaq p0 p1 p2 p5 p6 q b)[3]? = some (.int .i64 q):=rfl
theorem pol4 (p0 p1 p2 p5 p6:Value) (q b:Int):(zaq p0 p1 p2 p5 p6 q b)[4]? = some (.int .i64 b):=rfl
theorem pol5 (p0 p1 p2 p5 p6:Value) (q b:Int):(zaq p0 p1 p2 p5 p6 q b)[5]? = some p5:=rfl
theorem pol6 (p0 p1 p2 p5 p6:Value) (q b:Int):(zaq p0 p1 p2 p5 p6 q b)[6]? = some p6:=rfl
theorem zbz (p0 p1 p2 p5 p6:Value) (q b:Int):Value.agg (zaq p0 p1 p2 p5 p6 q b).toArray=zbN p0 p1 p2 p5 p6 q b:=rfl
theorem zat (p0 p1 p2 p5 p6:Value) (q b:Int):(zbN p0 p1 p2 p5 p6 q b).cells.toList=zaq p0 p1 p2 p5 p6 q b:=rfl
theorem za0 (p0 p1 p2 p5 p6:Value) (q b:Int) (h:Heap) (K:Value→Heap→Prop):valE (some (zbN p0 p1 p2 p5 p6 q b)) h K=K (zbN p0 p1 p2 p5 p6 q b) h:=rfl
section
variable {h1:Heap} {bs:List Blk} {w:Nat} {T:Tab} {K:Value→Heap→Prop} {t e s:TypeId} {v p:Value} {kd:IntKind} {i:Int}
theorem zxI {l:List PredD} {x:PredD} (f:Sl Rep.pred h1 v l) (hd:T.desc t=some (.slice e)) (hs:zau T e=some 2) (h0:0≤i) (hx:l[i.toNat]? = some x) (hk:∀ p,AtP h1 p [.string x.name,.int .i64 x.arity]→K p (h1.lay bs w)):valE (zao T t v (.int kd i)) (h1.lay bs w) K:=by
 have hi:=(List.getElem?_eq_some_iff.1 hx).1
 refine ze4 f hd hs h0 (by omega) (fun x' p cs hx' hr hp=>?_)
 rw [hx] at hx'
 cases hx'
 exact hk p (hr ▸ hp)
theorem zAy {l:List ClearD} {x:ClearD} (f:Sl Rep.clear h1 v l) (hd:T.desc t=some (.slice e)) (hs:zau T e=some 2) (h0:0≤i) (hx:l[i.toNat]? = some x) (hk:∀ p b,Sl Rep.str h1 b x.reads→AtP h1 p [.string x.who,b]→K p (h1.lay bs w)):valE (zao T t v (.int kd i)) (h1.lay bs w) K:=by
 have hi:=(List.getElem?_eq_some_iff.1 hx).1
 refine ze4 f hd hs h0 (by omega) (fun x' p cs hx' hr hp=>?_)
 rw [hx] at hx'
 cases hx'
 obtain ⟨b,rfl,hb⟩:=hr
 exact hk p b hb hp
theorem zAz {l:List GrantD} {x:GrantD} (f:Sl Rep.grant h1 v l) (hd:T.desc t=some (.slice e)) (hs:zau T e=some 13) (h0:0≤i) (hx:l[i.toNat]? = some x) (hk:∀ p b,Sl Rep.atom h1 b x.body→AtP h1 p (.string x.to::(x.head.cells++[b]))→K p (h1.lay bs w)):valE (zao T t v (.int kd i)) (h1.lay bs w) K:=by
 have hi:=(List.getElem?_eq_some_iff.1 hx).1
 refine ze4 f hd hs h0 (by omega) (fun x' p cs hx' hr hp=>?_)
 rw [hx] at hx'
 cases hx'
 obtain ⟨b,rfl,hb⟩:=hr
 exact hk p b hb hp
theorem ldP {x y:Value} (f:AtP h1 p [x,y]) (hg:aggA T t=some true) (hs:zau T t=some 2) (hk:K (.agg ⟨[x,y]⟩) (h1.lay bs w)):valE (zaL T t p (h1.lay bs w)) (h1.lay bs w) K:=zmp f hg hs rfl hk
theorem ldG {x:GrantD} {b:Value} (f:AtP h1 p (.string x.to::(x.head.cells++[b]))) (hg:aggA T t=some true) (hs:zau T t=some 13) (hk:K (.agg ⟨.string x.to::(x.head.cells++[b])⟩) (h1.lay bs w)):valE (zaL T t p (h1.lay bs w)) (h1.lay bs w) K:=zmp f hg hs rfl hk
end
end Go.Am

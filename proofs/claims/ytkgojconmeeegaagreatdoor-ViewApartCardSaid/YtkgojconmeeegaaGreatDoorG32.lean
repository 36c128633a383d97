/- Walks: atoms that may be, their variables, by the program. Written out by fill2.py. No condition. -/
import Derived.Test.YtkgojconmeeegaaGreatDoorG30
import Derived.Test.YtkgojconmeeegaaGreatDoorG31
set_option linter.unusedSimpArgs false
set_option linter.unusedVariables false
set_option maxRecDepth 100000
set_option maxHeartbeats 0
namespace Go.Proofs.YtkgojconmeeegaaGreatDoor
open Go.Am
theorem CX (A o:Nat) (k:Int) (h0:0≤k) (h4:k≤4):ki ae 32 (.pointer (some ⟨A,o,none⟩)) (some (.int .i64 k)) none none=some (.slice (some ⟨A,if 4=k.toNat then o else o+k.toNat*2,none⟩) (4 - k.toNat) (4 - k.toNat)):=by
 have hG:4 < G:=by decide
 simp only [ki,FB,rq,yf,if_pos hG,Option.bind_some]
 rw [if_pos ⟨h0,by omega⟩]
 simp [jC]
theorem Ro (a:ab) (k:Nat):(a.all.drop k).length=4 - k:=by rw [List.length_drop];rfl
theorem Jc (a:ab) {k i:Nat} (h:k+i < 4):(a.all.drop k)[i]? = some (a.arg (k+i)):=by
 rw [List.getElem?_drop]
 have:k+i=0∨k+i=1∨k+i=2∨k+i=3:=by omega
 rcases this with e|e|e|e <;> rw [e] <;> rfl
theorem zGJ {H:Heap} {A:Nat} {a:ab} {u:TypeId} {ro:Bool} (q:Holds H A (.row a.cells u ro)) (k:Nat) (hk:k≤4):Sl aJ.term H (.slice (some ⟨A,if 4=k then 3 else 3+k*2,none⟩) (4 - k) (4 - k)) (a.all.drop k):=by
 refine .inr ⟨A,_,4 - k,a.cells,u,ro,by rw [Ro],by rw [Ro];unfold maxLen;omega,.inl ⟨by unfold G;omega,by rw [Ro];exact Nat.le_refl _⟩,q.lt,q.get,fun i x hx=>?_⟩
 have hi:i < 4 - k:=by have:=(List.getElem?_eq_some_iff.1 hx).1;rw [Ro] at this;exact this
 rw [Jc a (by omega)] at hx
 cases hx
 have hc:=zFB a (k+i) (by omega)
 rw [if_neg (by omega)]
 refine ⟨_,?_,rfl⟩
 show cut a.cells (3+k*2+i*2) 2=_
 rw [← hc]
 congr 1
 omega
theorem EA (a:ab):a.cells[0]? = some (.string a.says):=rfl
theorem XH (a:ab):a.cells[1]? = some (.string a.pred):=rfl
theorem Kk (a:ab):a.cells[2]? = some (.int .i64 a.n):=rfl
theorem zvT (a:ab) (bv:Bool) (h:Heap) (K:Value→Heap→Prop) (hk:∀ w l h',Ext h h'→Sl aJ.str h' w l→l.length≤4→(∀ x,x∈l↔∃ i:Nat,i < a.cL∧(a.arg i).v=bv∧(a.arg i).s=x)→K w h'):Ok Tryz.prog ae ov 120 [a.val,.bool bv] h K:=by
 rw [ao h]
 have z:=Ext.refl h
 have wI:=Ud a
 refine Ok.aH rfl zo6 (br EZ) rfl (m:=31) rfl ?_
 repeat' (simp only [syms,aa,seval,gS,ec,↓eM,eh,dC])
 refine R3 a _ _ (fun w h' x sw=>?_)
 (replace z:=z.an x (by omega);rw [ao h'])
 have eR:=bY w
 have qv:=fun (hh:Heap)=>sw.bc ye hh
 have IH:=vB a
 have uq:=z.size
 simp only [syms,aa,seval,gS,eR,qv]
 obtain ⟨Hb,rfl⟩:∃ Hb,Hb=h':=⟨_,rfl⟩
 obtain ⟨I1,aS⟩:∃ I:Nat→Env→Heap→Prop,I=(fun n e h'=>∃ (i:Nat) (wv:Value) (A:Nat) (l:List ByteArray) (h1:Heap),h'=h1.lay [] h1.low∧Ext h h1∧(n=a.cL - i∧i≤a.cL∧l.length≤i∧(∀ x,x∈l↔∃ j:Nat,j < i∧(a.arg j).v=bv∧(a.arg j).s=x)∧Ow aJ.str h h1 9 A wv l∧cn Hb h1∧Hb.size≤A)∧∃ J:Nat→Value,e=(J 0::.bool bv::jr J 2 3 (wv::jr J 6 3 (w::.int .i64 a.args.length::.int .i64 i::jr J 12 21 ([]))))):=⟨_,rfl⟩
 refine dj I1 _ (by rw [aS];exact ⟨0,.slice none 0 0,Hb.size,[],_,rfl,z,⟨rfl,by omega,by simp,by simp,Ow.nil (by omega),cn.refl _,Nat.le_refl _⟩,aE (by kernel_rfl)⟩) ?_
 intro n e h' aL
 rw [aS] at aL
 obtain ⟨i,wv,A,l,bH,rfl,z,hinv,J,rfl⟩:=aL
 obtain ⟨rfl,hi,DM,cd,ow,ib,yo⟩:=hinv
 have gl:=eb i (by omega)
 have ej:=bY wv
 simp only [syms,aa,seval,gS]
 refine bt (fun aR=>?_) (fun aR=>?_)
 rotate_left
 ·have he:i=a.cL:=by omega
  rw [he] at cd
  repeat' (simp only [syms,aa,seval,gS,ej])
  exact hk _ _ _ (z.aw _ _ (by omega)) ((ow.sl (by decide)).lay _ _) (by omega) cd
 have oW:=Go.Am.args_at (a:=a) (i:=i) (by omega)
 rcases vo:a.arg i with ⟨rv,rs⟩
 rw [vo] at oW
 have hr:a.args[(i:Int).toNat]? = some ⟨rv,rs⟩:=by rw [Int.toNat_natCast];exact oW
 have mh:∀ x,(∃ j:Nat,j < i+1∧(a.arg j).v=bv∧(a.arg j).s=x)↔(∃ j:Nat,j < i∧(a.arg j).v=bv∧(a.arg j).s=x)∨(rv=bv∧rs=x):=by
  intro x
  constructor
  ·rintro ⟨j,hj,e⟩
   by_cases Af:j=i
   ·subst Af
    rw [vo] at e
    exact .inr e
   ·exact .inl ⟨j,by omega,e⟩
  ·rintro (⟨j,hj,e⟩|e)
   ·exact ⟨j,by omega,e⟩
   ·exact ⟨i,by omega,by rw [vo];exact e⟩
 repeat' (first|simp only [syms,aa,seval,gS,nT,pA,List.all_cons,List.all_nil,Am.one,Bool.and_true,Bool.true_and,Bool.and_self,List.set_cons_zero,List.set_cons_succ,lW,fV,pt,iA,iB,pF,aX.val,aX.cells,ej]|with_reducible_and_instances refine Sj (sw.mono ib) ye jC (by omega) hr (fun p hp=>?_)|with_reducible_and_instances refine I8 hp pY jC ?_)
 have lD:(¬ rv=bv∨rs∈l)→∀ x,x∈l↔∃ j:Nat,j < i+1∧(a.arg j).v=bv∧(a.arg j).s=x:=by
  intro hs x
  rw [mh,← cd]
  refine ⟨.inl,fun e=>e.elim id (fun e=>?_)⟩
  rcases hs with hs|hs
  ·exact absurd e.1 hs
  ·rw [← e.2];exact hs
 have oh:rv=bv→∀ x,x∈l++[rs]↔∃ j:Nat,j < i+1∧(a.arg j).v=bv∧(a.arg j).s=x:=by
  intro hs x
  rw [mh,← cd,List.mem_append,List.mem_singleton]
  exact ⟨fun e=>e.imp id (fun e=>⟨hs,e.symm⟩),fun e=>e.imp id (fun e=>e.2.symm)⟩
 have b1:(true == false)=false:=rfl
 have b2:(false == true)=false:=rfl
 have b3:(true == true)=true:=rfl
 have b4:(false == false)=true:=rfl
 have sR:=z.size
 cases rv
 all_goals
  cases bv
  all_goals
   repeat' (simp only [syms,aa,seval,gS,zrj,b1,b2,b3,b4,ej])
 all_goals first
  |(rw [gl]
    have xk:=lD (.inl (by decide))
    refine W6 (z.aw _ _ (by omega)) (fun H z hO hI=>?_)
    (rw [aS];with_reducible refine cB (m:=_) ?_ ⟨i+1,wv,A,l,_,rfl,z,⟨rfl,by omega,by omega,xk,ow.mono hI,ib.trans hI,yo⟩,aE (by kernel_rfl)⟩;omega))
  |skip
 all_goals
  refine Jx l wv rs _ ((ow.sl (by decide)).lay _ _) (by omega) _ (fun h' x=>?_)
  have q0:=Holds.top (i:=0) x rfl
  (replace z:=z.an x (by omega);(replace ow:=ow.over x);(replace ib:=ib.over x);rw [ao h'])
  cases aL:l.any fun x=>decide (rs=x)
  rotate_left
  ·have xk:=lD (.inr (by obtain ⟨y,hy,e⟩:=List.any_eq_true.1 aL;rw [of_decide_eq_true e];exact hy))
   repeat' (first|simp only [syms,aa,seval,gS,Bool.not_true]|((with_reducible_and_instances apply b8);(· rfl)))
   rw [gl]
   (rw [aS];with_reducible refine cB (m:=_) ?_ ⟨i+1,wv,A,l,_,rfl,z,⟨rfl,by omega,by omega,xk,ow,ib,yo⟩,aE (by kernel_rfl)⟩;omega)
  have kS:=oh rfl
  repeat' (first|simp only [syms,aa,seval,gS,Bool.not_false,q0.lay,ej]|((with_reducible_and_instances apply b8);(· rfl)))
  simp only [syms,aa,seval,gS,lG,VU]
 all_goals
  refine Jd (i:=0) (cs:=[.string rs]) (x:=rs) cY Eo rfl (by decide) (by rfl) z.size ow rfl (by omega) (by omega) (fun w3 h3 A3 BW qd uZ=>?_)
  have Ab:=ow.fresh
  have BM:=cn.iJ (ib.trans (cn.lay _ _ _)) qd yo
  have Nr:=ib.size
  replace z:=(z.aw _ _ (by omega)).step qd (by omega)
  rw [ao h3]
  have GZ:=bY w3
  repeat' (simp only [syms,aa,seval,gS,GZ])
  rw [gl]
  clear ow q0
  (rw [aS];with_reducible refine cB (m:=_) ?_ ⟨i+1,w3,A3,l++[rs],_,rfl,z,⟨rfl,by omega,by rw [List.length_append,List.length_singleton];omega,kS,BW,BM,by omega⟩,aE (by kernel_rfl)⟩;omega)
theorem zrM (a:ab) (h:Heap) (K:Value→Heap→Prop) (hk:∀ w l h',Ext h h'→Sl aJ.str h' w l→l.length≤4→(∀ x,x∈l↔jF a x)→K w h'):Ok Tryz.prog ae ov 186 [a.val] h K:=by
 rw [ao h]
 have z:=Ext.refl h
 refine Ok.aH rfl zxy (br Lq) rfl (m:=4) rfl ?_
 repeat' (simp only [syms,aa,seval,Mx,ec,↓eM,eh,dC])
 refine zvT a true _ _ (fun w l h' x s hl hm=>?_)
 (replace z:=z.an x (by omega);rw [ao h'])
 have eR:=bY w
 repeat' (simp only [syms,aa,seval,Mx,eR])
 exact hk _ _ _ (z.aw _ _ (by omega)) (s.lay _ _) hl (fun x=>(hm x).trans ou.symm)
def fh (h:Heap) (fv:Value) (e:Int):Prop:=(∃ (f:Fn) (a b:Array Value),fv=.func f a b)∧∀ hc (K:Value→Heap→Prop),aM [] h hc→(∀ h',Ext hc h'→K (.int .i64 e) h')→nW Tryz.prog ae ov [] hc K fv
theorem fh.bX {h h2:Heap} {fv:Value} {e:Int} (r:fh h fv e) (x:aM [] h h2):fh h2 fv e:=⟨r.1,fun hc K y hk=>r.2 hc K (x.trans y (fun _ h=>nomatch h)) hk⟩
theorem fh.over {h1 h2:Heap} {bs:List bh} {w:Nat} {fv:Value} {e:Int} (r:fh h1 fv e) (x:Ext (h1.lay bs w) h2):fh h2 fv e:=r.bX ((aM.refl [] h1).over x)
theorem fh.lay {h1:Heap} {fv:Value} {e:Int} (r:fh h1 fv e) (bs:List bh) (w:Nat):fh (h1.lay bs w) fv e:=r.bX (aM.lay _ _ _ _)
theorem zGA (b:Bool) (e:Int) (A B:Nat) (h:Heap) (q0:Holds h A (.row [.bool b] 4 false)) (q1:Holds h B (.row [.int .i64 e] 49 false)) (K:Value→Heap→Prop) (hk:∀ h',Ext h h'→K (.int .i64 (bd b e)) h'):Ok Tryz.prog ae ov 159 [.pointer (some ⟨A,0,none⟩),.pointer (some ⟨B,0,none⟩)] h K:=by
 rw [ao h]
 have z:=Ext.refl h
 refine Ok.aH rfl zxj (br Lb) rfl (m:=3) rfl ?_
 cases b
 ·simp only [syms,aa,seval,Mr,q0.lay,q1.lay]
  exact hk _ (z.aw _ _ (by omega))
 ·simp only [syms,aa,seval,Mr,q0.lay,q1.lay]
  exact hk _ (z.aw _ _ (by omega))
theorem nu (b:Bool) (e:Int) (h:Heap) (K:Value→Heap→Prop) (hk:∀ h' fv,Ext h h'→fh h' fv (bd b e)→K fv h'):Ok Tryz.prog ae ov 112 [.bool b,.int .i64 e] h K:=by
 rw [ao h]
 have z:=Ext.refl h
 refine Ok.aH rfl zwS (br KJ) rfl (m:=4) rfl ?_
 simp only [syms,aa,seval,ZK]
 refine hk _ _ (z.aw _ _ (by omega)) ⟨⟨_,_,_,rfl⟩,fun hc K2 y gz=>?_⟩
 rw [uC]
 exact zGA b e _ _ hc (Holds.dq ⟨by rw [bm];simp,by rw [iR];rfl⟩ y) (Holds.dq ⟨by rw [bm];simp,by rw [iR];rfl⟩ y) K2 gz
theorem znY {es:List Int} {i:Nat} {e:Int} (hz:∀ x∈es.take i,x=0) (he:es[i]? = some e) (aP:e≠0):gW es=e:=by
 induction es generalizing i with
 |nil=>simp at he
 |cons x es ih =>
  rw [fQ]
  cases i with
  |zero=>simp at he;subst he;rw [if_neg aP]
  |succ i =>
   rw [if_pos (hz x (by simp))]
   exact ih (fun y hy=>hz y (by rw [List.take_succ_cons];exact List.mem_cons_of_mem _ hy)) (by simpa using he)
theorem y4 (qY:List Value) (es:List Int) (v:Value) (h:Heap) (hl:Sl aJ.MU h v qY) (hs:qY.length≤100) (hlen:es.length=qY.length) (hr:∀ (i:Nat) fv e,qY[i]? = some fv→es[i]? = some e→fh h fv e) (K:Value→Heap→Prop)
 (hk:∀ h',Ext h h'→K (.int .i64 (gW es)) h'):Ok Tryz.prog ae ov 111 [v] h K:=by
 rw [ao h]
 have z:=Ext.refl h
 have bx:=bY v
 have cz:=fun (hh:Heap)=>hl.bc SB hh
 refine Ok.aH rfl zwR (br KI) rfl (m:=17) rfl ?_
 simp only [syms,aa,seval,qa,bx,cz]
 obtain ⟨I1,aS⟩:∃ I:Nat→Env→Heap→Prop,I=(fun n e h'=>∃ (i:Nat) (h1:Heap),h'=h1.lay [] h1.low∧Ext h h1∧(n=qY.length - i∧i≤qY.length∧∀ x∈es.take i,x=0)∧∃ J:Nat→Value,e=(jr J 0 6 (v::.int .i64 qY.length::.int .i64 i::jr J 9 9 ([])))):=⟨_,rfl⟩
 refine dj I1 _ (by rw [aS];exact ⟨0,_,rfl,z,⟨rfl,by omega,by simp⟩,aE (by kernel_rfl)⟩) ?_
 intro n e h' aL
 rw [aS] at aL
 obtain ⟨i,bH,rfl,z,hinv,J,rfl⟩:=aL
 obtain ⟨rfl,hi,aB⟩:=hinv
 have hw:=eb i (by omega)
 simp only [syms,aa,seval,qa]
 refine bt (fun aR=>?_) (fun aR=>?_)
 rotate_left
 ·rw [List.take_of_length_le (by omega)] at aB
  rw [bU.2 aB] at hk
  simp only [syms,aa,seval,qa]
  exact hk _ (z.aw _ _ (by omega))
 obtain ⟨fv,hf,Bn⟩:=eU (l:=qY) (i:=i) (by omega)
 obtain ⟨e,he,sI⟩:=eU (l:=es) (i:=i) (by omega)
 have jd:=bY fv
 simp only [syms,aa,seval,qa,bx]
 repeat' ((first|with_reducible_and_instances refine zvo (hl.mono z.inc) SB zNU (by omega) hf (fun p hp=>?_)|with_reducible_and_instances refine hY hp C5 ?_) <;> simp only [syms,aa,seval,qa,bx,jd])
 refine (hr i fv e Bn sI).2 _ _ ((z.aw _ _ (by omega)).bX []) (fun h' x=>?_)
 (replace z:=z.an x (by omega);rw [ao h'])
 clear hp
 simp only [syms,aa,seval,qa]
 refine iS (fun aP=>?_) (fun heq=>?_)
 ·rw [znY aB sI aP] at hk
  simp only [syms,aa,seval,qa]
  exact hk _ (z.aw _ _ (by omega))
 ·simp only [syms,aa,seval,qa]
  rw [hw]
  (rw [aS];with_reducible refine cB (m:=_) ?_ ⟨i+1,_,rfl,z,⟨rfl,by omega,oC (i:=i) (P:=fun x:Int=>x=0) sI aB heq⟩,aE (by kernel_rfl)⟩;omega)
theorem Ra (l:List ByteArray) (who:ByteArray) (p0 p1 p2 p5 p6:Value) (q b:Int) (h:Heap) (hl:Sl aJ.str h p0 l) (hs:l.length≤1000) (K:Value→Heap→Prop) (hk:∀ h',Ext h h'→K (.bool (ba l who)) h'):Ok Tryz.prog ae ov 45 [gi p0 p1 p2 p5 p6 q b,.string who] h K:=by
 rw [ao h]
 have z:=Ext.refl h
 have bx:=bY p0
 have dA:=fP
 refine Ok.aH rfl zr4 (br Yq) rfl (m:=7) rfl ?_
 simp only [syms,aa,seval,SR,ek,dY,bx,dA]
 refine Jx l p0 who _ (hl.lay _ _) hs _ (fun h' x=>?_)
 (replace z:=z.an x (by omega);rw [ao h'])
 simp only [syms,aa,seval,SR]
 exact hk _ (z.aw _ _ (by omega))
theorem zm8 {l:List bF} {i:Nat} {x:bF} {s:ByteArray} (hz:∀ y∈l.take i,¬ y.name=s) (hx:l[i]? = some x) (he:x.name=s):nx l s=(x.arity,true):=by
 induction l generalizing i with
 |nil=>simp at hx
 |cons y l ih =>
  unfold nx at ih ⊢
  cases i with
  |zero=>simp at hx;subst hx;rw [List.find?_cons_of_pos (by simpa using he)]
  |succ i =>
   rw [List.find?_cons_of_neg (by simpa using hz y (by simp))]
   exact ih (fun w hw=>hz w (by rw [List.take_succ_cons];exact List.mem_cons_of_mem _ hw)) (by simpa using hx)
theorem ziT {l:List bF} {s:ByteArray} (hz:∀ y∈l,¬ y.name=s):nx l s=(0,false):=by
 unfold nx
 rw [List.find?_eq_none.2 (fun x hx=>by simpa using hz x hx)]
theorem OT (h:Heap) (l:List bh) (w i o:Nat) (v:Value) (hi:i < l.length):ic ae 73 (.pointer (some ⟨h.size+i,o,none⟩)) v (h.lay l w)=if v.cells.size=2 then rz l[i]? i o v.cells.toList h l w else none:=uO lq h l w i o v hi
theorem zvF (l:List bF) (who:ByteArray) (p0 p1 p2 p5 p6:Value) (q b:Int) (h:Heap) (hl:Sl aJ.pred h p1 l) (K:Value→Heap→Prop) (hk:∀ h',Ext h h'→K (.tuple #[.int .i64 (nx l who).1,.bool (nx l who).2]) h'):Ok Tryz.prog ae ov 160 [gi p0 p1 p2 p5 p6 q b,.string who] h K:=by
 rw [ao h]
 have z:=Ext.refl h
 have hle:=hl.le
 have bx:=bY p1
 have dA:=fP
 have cz:=fun (hh:Heap)=>hl.bc jS hh
 refine Ok.aH rfl zxk (br Lc) rfl (m:=20) rfl ?_
 simp only [syms,aa,seval,vV,ek,eK,bx,cz]
 refine ml (fun h' x hq=>?_)
 have q0:=hq 0 _ rfl
 clear hq
 (replace z:=z.an x (by omega);rw [ao h'])
 obtain ⟨I1,aS⟩:∃ I:Nat→Env→Heap→Prop,I=(fun n e h'=>∃ (i:Nat) (h1:Heap),h'=h1.lay [] h1.low∧Ext h h1∧(n=l.length - i∧i≤l.length∧∀ y∈l.take i,¬ y.name=who)∧∃ J:Nat→Value,e=(J 0::.string who::jr J 2 7 (p1::.int .i64 l.length::.int .i64 i::jr J 12 10 ([])))):=⟨_,rfl⟩
 refine dj I1 _ (by rw [aS];exact ⟨0,_,rfl,z,⟨rfl,by omega,by simp⟩,aE (by kernel_rfl)⟩) ?_
 intro n e h' aL
 rw [aS] at aL
 obtain ⟨i,bH,rfl,z,hinv,J,rfl⟩:=aL
 obtain ⟨rfl,hi,aB⟩:=hinv
 have hw:i < l.length→IntKind.i64.wrap ((i:Int)+1)=((i+1:Nat):Int):=fun hh=>by unfold maxLen at hle;rw [wrap_i64 (by omega) (by omega)];omega
 simp only [syms,aa,seval,vV]
 refine bt (fun aR=>?_) (fun aR=>?_)
 rotate_left
 ·rw [List.take_of_length_le (by omega)] at aB
  rw [ziT aB] at hk
  simp only [syms,aa,seval,vV]
  exact hk _ (z.aw _ _ (by omega))
 obtain ⟨r,hr,bz⟩:=eU (l:=l) (i:=i) (by omega)
 repeat' (first|simp only [syms,aa,seval,vV,bx]|with_reducible_and_instances refine Sh (hl.mono z.inc) jS lq (by omega) hr (fun p hp=>?_)|with_reducible_and_instances refine Hc hp vQ lq ?_)
 repeat' (first|simp only [syms,aa,seval,vV,nT,pA,List.all_cons,List.all_nil,Am.one,Bool.and_true,Bool.true_and,Bool.and_self,List.set_cons_zero,List.set_cons_succ,lW,fV,pt,iA,iB,pF,OT,dA]|((with_reducible apply bt) <;> intro _))
 ·rw [zm8 aB bz (by assumption)] at hk
  exact hk _ (z.aw _ _ (by omega))
 ·rw [hw (by omega)]
  refine W6 (z.aw _ _ (by omega)) (fun H z hO hI=>?_)
  (rw [aS];with_reducible refine cB (m:=_) ?_ ⟨i+1,_,rfl,z,⟨rfl,by omega,oC (i:=i) (P:=fun y:bF=>¬ y.name=who) bz aB (by assumption)⟩,aE (by kernel_rfl)⟩;omega)
theorem zvG (a:ab) (h:Heap) (cF:bj 1 h) (K:Value→Heap→Prop) (hk:∀ h',Ext h h'→K (.int .i64 (jJ a)) h'):Ok Tryz.prog ae ov 162 [a.val] h K:=by
 rw [ao h]
 have z:=Ext.refl h
 refine Ok.aH rfl zxm (br Le) rfl (m:=40) rfl ?_
 repeat' (simp only [syms,aa,seval,mv,ec,EA,XH,Kk])
 refine UD _ _ (cF.lay _ _) _ (fun hs h' x=>?_) (fun hs h' x=>?_)
 rotate_left
 ·(replace z:=z.an x (by omega);rw [ao h'])
  repeat' (first|simp only [syms,aa,seval,mv]|((with_reducible_and_instances apply b8);(· rfl)))
  rw [Xa (.inl hs)] at hk
  exact hk _ (z.aw _ _ (by omega))
 have q0:=Holds.top (i:=0) x rfl
 (replace z:=z.an x (by omega);rw [ao h'])
 repeat' (first|simp only [syms,aa,seval,mv,q0.lay,EA,XH,Kk]|((with_reducible_and_instances apply b8);(· rfl)))
 refine zrJ _ _ ((cF.ext z).lay _ _) _ (fun hp h' x=>?_) (fun hp h' x=>?_)
 rotate_left
 ·(replace z:=z.an x (by omega);( replace q0:=q0.over x );rw [ao h'])
  repeat' (first|simp only [syms,aa,seval,mv]|((with_reducible_and_instances apply b8);(· rfl)))
  rw [Xa (.inr hp)] at hk
  exact hk _ (z.aw _ _ (by omega))
 (replace z:=z.an x (by omega);(replace q0:=q0.over x);rw [ao h'])
 repeat' (first|simp only [syms,aa,seval,mv,q0.lay,EA,XH,Kk,↓eM,eh,dC]|((with_reducible apply bt) <;> intro _)|((with_reducible_and_instances apply b8);(· rfl)))
 all_goals first
  |(rw [zpf hs hp (by omega)] at hk
    exact hk _ (z.aw _ _ (by omega)))
  |skip
 have pe:0≤a.n:=by omega
 have IW:a.n≤4:=by omega
 have zW:a.cL=a.n.toNat:=zHy pe IW
 refine R3 a _ _ (fun w h' x sw=>?_)
 (replace z:=z.an x (by omega);(replace q0:=q0.over x);rw [ao h'])
 have eR:=bY w
 repeat' (simp only [syms,aa,seval,mv,eR])
 refine OY a.args w _ rH _ (sw.lay _ _) (by rw [vB];have:=Ud a;omega) (fun t hc K' xe hK=>by rw [rj];exact zs2 t hc ((cF.ext z).lay _ _ |>.ext xe) K' hK) _ (fun h' x=>?_)
 (replace z:=z.an x (by omega);(replace q0:=q0.over x);rw [ao h'])
 cases Nj:a.args.any rH
 rotate_left
 ·repeat' ( simp only [syms,aa,seval,mv])
  rw [zlH hs hp (by omega) Nj] at hk
  exact hk _ (z.aw _ _ (by omega))
 rw [zlG hs hp (by omega) Nj,zW] at hk
 obtain ⟨k,arX⟩:=Int.eq_ofNat_of_zero_le pe
 have wQ:k≤4:=by omega
 have rW:=CX
 have gf:=zGJ q0 k wQ
 have rR:(0:Int)≤a.n∧a.n≤4:=⟨pe,IW⟩
 repeat' (simp only [syms,aa,seval,mv,q0.lay,Kk,CX _ _ _ pe IW])
 have DK:a.n.toNat=k:=by omega
 rw [DK] at hk ⊢
 obtain ⟨sv,D5⟩:∃ sv,sv=Value.slice (some ⟨h.size+0,if 4=k then 3 else 3+k*2,none⟩) (4 - k) (4 - k):=⟨_,rfl⟩
 rw [← D5] at gf ⊢
 clear rW
 obtain ⟨I1,aS⟩:∃ I:Nat→Env→Heap→Prop,I=(fun n e h'=>∃ (i:Nat) (h1:Heap),h'=h1.lay [] h1.low∧Ext h h1∧(n=4 - k - i∧i≤4 - k∧(∀ t∈(a.all.drop k).take i,t=cm)∧Sl aJ.term h1 sv (a.all.drop k))∧∃ J:Nat→Value,e=(jr J 0 31 (sv::.int .i64 ((4 - k:Nat):Int)::.int .i64 i::jr J 34 7 ([])))):=⟨_,rfl⟩
 refine dj I1 _ (by rw [aS];exact ⟨0,_,rfl,z,⟨rfl,by omega,by simp,gf⟩,aE (by kernel_rfl)⟩) ?_
 intro n e h' aL
 rw [aS] at aL
 obtain ⟨i,bH,rfl,z,hinv,J,rfl⟩:=aL
 clear gf q0
 obtain ⟨rfl,hi,aB,gf⟩:=hinv
 have gl:=eb i (by omega)
 have IH:=Ro a k
 simp only [syms,aa,seval,mv]
 refine bt (fun aR=>?_) (fun aR=>?_)
 rotate_left
 ·rw [List.take_of_length_le (by omega)] at aB
  repeat' (simp only [syms,aa,seval,mv])
  rw [if_neg (by rw [List.any_eq_true];rintro ⟨x,hx,e⟩;simp [aB x hx] at e)] at hk
  exact hk _ (z.aw _ _ (by omega))
 obtain ⟨⟨rv,rs⟩,hr,bz⟩:=eU (l:=a.all.drop k) (i:=i) (by omega)
 have hri:a.arg (k+i)=⟨rv,rs⟩:=Option.some.inj ((Jc a (by omega)).symm.trans bz)
 repeat' (first|simp only [syms,aa,seval,mv,nT,pA,List.all_cons,List.all_nil,Am.one,Bool.and_true,Bool.true_and,Bool.and_self,List.set_cons_zero,List.set_cons_succ,lW,fV,pt,iA,iB,pF,aX.val,aX.cells,zsk,zpy]|((with_reducible apply H3) <;> intro _)|with_reducible_and_instances refine Sj gf ye jC (by omega) hr (fun p hp=>?_)|with_reducible_and_instances refine I8 hp pY jC ?_)
 ·have acH:¬ (⟨rv,rs⟩:aX)=cm:=‹¬ (⟨rv,rs⟩:aX)=⟨false,⟨#[]⟩⟩›
  rw [if_pos (List.any_eq_true.2 ⟨_,List.mem_of_getElem? bz,by simp [acH]⟩)] at hk
  exact hk _ (z.aw _ _ (by omega))
 ·have ab2:(⟨rv,rs⟩:aX)=cm:=‹(⟨rv,rs⟩:aX)=⟨false,⟨#[]⟩⟩›
  rw [gl]
  refine W6 (z.aw _ _ (by omega)) (fun H z hO hI=>?_)
  (rw [aS];with_reducible refine cB (m:=_) ?_ ⟨i+1,_,rfl,z,⟨rfl,by omega,oC (i:=i) (P:=fun t:aX=>t=cm) bz aB ab2,gf.mono hI⟩,aE (by kernel_rfl)⟩;omega)
theorem zzn (a:ab) (A:Nat) (h:Heap) (cF:bj 1 h) (q0:Holds h A (.row a.cells 34 false)) (K:Value→Heap→Prop) (hk:∀ h',Ext h h'→K (.int .i64 (jJ a)) h'):Ok Tryz.prog ae ov 161 [.pointer (some ⟨A,0,none⟩)] h K:=by
 rw [ao h]
 have z:=Ext.refl h
 refine Ok.aH rfl zxl (br Ld) rfl (m:=3) rfl ?_
 simp only [syms,aa,seval,Ms,q0.lay,ec,↓eM,eh,dC]
 refine zvG a _ (cF.lay _ _) _ (fun h' x=>?_)
 (replace z:=z.an x (by omega);rw [ao h'])
 simp only [syms,aa,seval,Ms]
 exact hk _ (z.aw _ _ (by omega))
theorem yY (b:Bool) (h:Heap) (K:Value→Heap→Prop):rB b h K=K (.bool b) h:=by
 unfold rB
 cases b
 ·simp
 ·simp
theorem zf {h:Heap} {bs:List bh} {w i c:Nat} {u:TypeId} {ro:Bool} {l:List Value} (hb:bs[i]? = some (.row l u ro)) (h1:l.all Am.one=true) (hc:c=l.length) (hl:l.length≤100):Sl aJ.MU (h.lay bs w) (.slice (some ⟨h.size+i,0,none⟩) l.length c) l:=by
 have hi:=(List.getElem?_eq_some_iff.1 hb).1
 refine .inr ⟨h.size+i,0,c,l,u,ro,rfl,by unfold maxLen;omega,.inl ⟨by unfold G;omega,by omega⟩,by rw [bm];omega,by rw [iR];exact hb,fun j x hx=>⟨[x],?_,rfl,List.all_eq_true.1 h1 x (List.mem_of_getElem? hx)⟩⟩
 have hj:=List.getElem?_eq_some_iff.1 hx
 have ra:=hj.1
 show cut l (0+j*1) 1=some [x]
 unfold cut
 rw [if_pos (by omega),Nat.zero_add,Nat.mul_one,List.drop_eq_getElem_cons hj.1,hj.2]
 rfl
theorem UC (d:au) (a:ab) (p0 p1 p2 p5 p6:Value) (q b:Int) (h:Heap) (cF:bj 1 h) (bf:(cX p0 p1 p2 p5 p6 q b).all Am.one=true) (h0:Sl aJ.str h p0 d.ah) (h1:Sl aJ.pred h p1 d.bG) (hs:d.ah.length≤1000) (K:Value→Heap→Prop) (hk:∀ h',Ext h h'→K (.int .i64 (ia d a)) h'):Ok Tryz.prog ae ov 114 [gi p0 p1 p2 p5 p6 q b,a.val] h K:=by
 rw [ao h]
 have z:=Ext.refl h
 have dA:=fP
 refine Ok.aH rfl zwU (br KL) rfl (m:=29) rfl ?_
 simp only [syms,aa,seval,jM,ek,↓fm,eX,eG,ec,XH,dA]
 refine zvF d.bG a.pred _ _ _ _ _ _ _ _ (h1.lay _ _) _ (fun h' x=>?_)
 have q0:=Holds.top (i:=0) x rfl
 have q1:=Holds.top (i:=1) x rfl
 (replace z:=z.an x (by omega);rw [ao h'])
 simp only [syms,aa,seval,jM,q0.lay,q1.lay]
 rw [yY]
 simp only [syms,aa,seval,jM,q0.lay,q1.lay]
 with_reducible first|refine dH (by simp only [jM]) (z.aw _ _ (by omega)) ?_
 simp only [syms,aa,seval,jM,q0.lay,q1.lay,ek,↓fm,eX,eG,EA,Kk,dA]
 refine Ra d.ah a.says _ _ _ _ _ _ _ _ ((h0.mono z.inc).lay _ _) hs _ (fun h' x=>?_)
 (((with_reducible refine dv ?_ ?_ ?_);(· exact (by (simp only [dx]);have:=z.size;omega));(· exact x));replace z:=z.an x (by omega);(replace q0:=q0.over x);(replace q1:=q1.over x);rw [ao h'])
 simp only [syms,aa,seval,jM]
 (with_reducible_and_instances apply b8);(· rfl)
 simp only [syms,aa,seval,jM]
 refine nu _ _ _ _ (fun h' f1 x r1=>?_)
 (((with_reducible refine dv ?_ ?_ ?_);(· exact (by (simp only [dx]);have:=z.size;omega));(· exact x));replace z:=z.an x (by omega);(replace q0:=q0.over x);(replace q1:=q1.over x);rw [ao h'])
 simp only [syms,aa,seval,jM]
 (with_reducible_and_instances apply b8);(· rfl)
 simp only [syms,aa,seval,jM]
 refine nu _ _ _ _ (fun h' f2 x r2=>?_)
 (((with_reducible refine dv ?_ ?_ ?_);(· exact (by (simp only [dx]);have:=z.size;omega));(· exact x));replace z:=z.an x (by omega);(replace q0:=q0.over x);(replace q1:=q1.over x);(replace r1:=r1.over x);rw [ao h'])
 simp only [syms,aa,seval,jM,q0.lay,q1.lay,EA,Kk,dA]
 rw [yY]
 simp only [syms,aa,seval,jM]
 refine nu _ _ _ _ (fun h' f3 x r3=>?_)
 (((with_reducible refine dv ?_ ?_ ?_);(· exact (by (simp only [dx]);have:=z.size;omega));(· exact x));replace z:=z.an x (by omega);(replace q0:=q0.over x);(replace q1:=q1.over x);(replace r1:=r1.over x);(replace r2:=r2.over x);rw [ao h'])
 obtain ⟨A1,nH⟩:∃ A1,A1=h.size+1:=⟨_,rfl⟩
 rw [← nH] at q1
 rw [← nH]
 have r0:fh h' (.func (.func 161) ⟨[]⟩ ⟨[.pointer (some ⟨A1,0,none⟩)]⟩) (jJ a):=⟨⟨_,_,_,rfl⟩,fun hc K2 y gz=>by rw [uC];exact zzn a A1 hc (Holds.dq (cF.ext z) y) (Holds.dq q1 y) K2 gz⟩
 obtain ⟨g1,u1,v1,rfl⟩:=r1.1
 obtain ⟨g2,u2,v2,rfl⟩:=r2.1
 obtain ⟨g3,u3,v3,rfl⟩:=r3.1
 simp only [syms,aa,seval,jM]
 refine xQ (by have:=z.size;omega) (by omega) ?_
 simp only [syms,aa,seval,jM]
 refine y4 [.func (.func 161) ⟨[]⟩ ⟨[.pointer (some ⟨A1,0,none⟩)]⟩,.func g1 u1 v1,.func g2 u2 v2,.func g3 u3 v3] [jJ a,bd (!ba d.ah a.says) 6,bd (!(nx d.bG a.pred).2) 7,bd ((nx d.bG a.pred).1 != a.n) 8] _ _ (zf (i:=0) rfl rfl rfl (by simp)) (by simp) rfl (fun i fv e h1 h2=>?_) _ (fun h' x=>?_)
 ·match i,h1,h2 with
  |0,h1,h2=>cases h1;cases h2;exact r0.lay _ _
  |1,h1,h2=>cases h1;cases h2;exact r1.lay _ _
  |2,h1,h2=>cases h1;cases h2;exact r2.lay _ _
  |3,h1,h2=>cases h1;cases h2;exact r3.lay _ _
 (((with_reducible refine dv ?_ ?_ ?_);(· exact (by (simp only [dx]);have:=z.size;omega));(· exact x));replace z:=z.an x (by omega);(replace q0:=q0.over x);(replace q1:=q1.over x);(replace r1:=r1.over x);(replace r2:=r2.over x);(replace r3:=r3.over x);rw [ao h'])
 simp only [syms,aa,seval,jM]
 ((with_reducible refine ⟨z.cN.lay _ _,?_⟩);(intro _ h' zz x _);(simp only [el,List.append_nil] at x);(replace q0:=q0.over x);(replace q1:=q1.over x);(replace r1:=r1.over x);(replace r2:=r2.over x);(replace r3:=r3.over x);(replace z:=zz);(clear zz);rw [ao h'])
 simp only [syms,aa,seval,jM]
 have he:gW [jJ a,bd (!ba d.ah a.says) 6,bd (!(nx d.bG a.pred).2) 7,bd ((nx d.bG a.pred).1 != a.n) 8]=ia d a:=rfl
 rw [he]
 exact hk _ (z.aw _ _ (by omega))
theorem zzt (d:au) (a:ab) (p0 p1 p2 p5 p6:Value) (q b:Int) (A B:Nat) (h:Heap) (cF:bj 1 h) (bf:(cX p0 p1 p2 p5 p6 q b).all Am.one=true) (h0:Sl aJ.str h p0 d.ah) (h1:Sl aJ.pred h p1 d.bG) (hs:d.ah.length≤1000) (q0:Holds h A (.row (cX p0 p1 p2 p5 p6 q b) 28 false)) (q1:Holds h B (.row a.cells 34 false)) (K:Value→Heap→Prop) (hk:∀ h',Ext h h'→K (.int .i64 (ia d a)) h'):Ok Tryz.prog ae ov 113 [.pointer (some ⟨A,0,none⟩),.pointer (some ⟨B,0,none⟩)] h K:=by
 rw [ao h]
 have z:=Ext.refl h
 refine Ok.aH rfl zwT (br KK) rfl (m:=4) rfl ?_
 simp only [syms,aa,seval,Ml,q0.lay,q1.lay,ek,↓fm,eX,eG,ec,↓eM,eh,dC]
 refine UC d a _ _ _ _ _ _ _ _ (cF.lay _ _) bf (h0.lay _ _) (h1.lay _ _) hs _ (fun h' x=>?_)
 (replace z:=z.an x (by omega);rw [ao h'])
 simp only [syms,aa,seval,Ml]
 exact hk _ (z.aw _ _ (by omega))
theorem zzu (d:au) (s:ByteArray) (a:ab) (p0 p1 p2 p5 p6:Value) (q b:Int) (h:Heap) (cF:bj 1 h) (bf:(cX p0 p1 p2 p5 p6 q b).all Am.one=true) (h0:Sl aJ.str h p0 d.ah) (h1:Sl aJ.pred h p1 d.bG) (hs:d.ah.length≤1000) (K:Value→Heap→Prop) (hk:∀ h',Ext h h'→K (.int .i64 (fo d s a)) h'):Ok Tryz.prog ae ov 68 [gi p0 p1 p2 p5 p6 q b,.string s,a.val] h K:=by
 rw [ao h]
 have z:=Ext.refl h
 have dA:=fP
 refine Ok.aH rfl zDQ (br VZ) rfl (m:=21) rfl ?_
 simp only [syms,aa,seval,sE,ek,ec]
 refine ml (fun h' x hq=>?_)
 have q0:=hq 0 _ rfl
 have q1:=hq 1 _ rfl
 clear hq
 (replace z:=z.an x (by omega);rw [ao h'])
 obtain ⟨A0,dZ⟩:∃ A0,A0=h.size+0:=⟨_,rfl⟩
 rw [← dZ] at q0
 rw [← dZ]
 obtain ⟨A1,nH⟩:∃ A1,A1=h.size+1:=⟨_,rfl⟩
 rw [← nH] at q1
 rw [← nH]
 with_reducible first|refine dH (by simp only [sE]) (z.aw _ _ (by omega)) ?_
 simp only [syms,aa,seval,sE,q0.lay,q1.lay,ek,↓fm,eX,eG,dA]
 refine Ra d.ah s _ _ _ _ _ _ _ _ ((h0.mono z.inc).lay _ _) hs _ (fun h' x=>?_)
 (((with_reducible refine dv ?_ ?_ ?_);(· exact (by (simp only [dx]);have:=z.size;omega));(· exact x));replace z:=z.an x (by omega);(replace q0:=q0.over x);(replace q1:=q1.over x);rw [ao h'])
 simp only [syms,aa,seval,sE]
 (with_reducible_and_instances apply b8);(· rfl)
 simp only [syms,aa,seval,sE]
 refine nu _ _ _ _ (fun h' f1 x r1=>?_)
 (((with_reducible refine dv ?_ ?_ ?_);(· exact (by (simp only [dx]);have:=z.size;omega));(· exact x));replace z:=z.an x (by omega);(replace q0:=q0.over x);(replace q1:=q1.over x);rw [ao h'])
 simp only [syms,aa,seval,sE,q0.lay,q1.lay,↓eM,eh,dC,EA,dA]
 refine zvO a _ _ (fun h' x=>?_)
 (((with_reducible refine dv ?_ ?_ ?_);(· exact (by (simp only [dx]);have:=z.size;omega));(· exact x));replace z:=z.an x (by omega);(replace q0:=q0.over x);(replace q1:=q1.over x);(replace r1:=r1.over x);rw [ao h'])
 simp only [syms,aa,seval,sE]
 (with_reducible_and_instances apply b8);(· rfl)
 simp only [syms,aa,seval,sE]
 refine nu _ _ _ _ (fun h' f2 x r2=>?_)
 (((with_reducible refine dv ?_ ?_ ?_);(· exact (by (simp only [dx]);have:=z.size;omega));(· exact x));replace z:=z.an x (by omega);(replace q0:=q0.over x);(replace q1:=q1.over x);(replace r1:=r1.over x);rw [ao h'])
 simp only [syms,aa,seval,sE,q0.lay,q1.lay,EA,dA]
 rw [yY]
 simp only [syms,aa,seval,sE]
 refine nu _ _ _ _ (fun h' f3 x r3=>?_)
 (((with_reducible refine dv ?_ ?_ ?_);(· exact (by (simp only [dx]);have:=z.size;omega));(· exact x));replace z:=z.an x (by omega);(replace q0:=q0.over x);(replace q1:=q1.over x);(replace r1:=r1.over x);(replace r2:=r2.over x);rw [ao h'])
 have r0:fh h' (.func (.func 113) ⟨[]⟩ ⟨[.pointer (some ⟨A0,0,none⟩),.pointer (some ⟨A1,0,none⟩)]⟩) (ia d a):=⟨⟨_,_,_,rfl⟩,fun hc K2 y gz=>by
  rw [uC]
  exact zzt d a _ _ _ _ _ _ _ A0 A1 hc (Holds.dq (cF.ext z) y) bf ((h0.mono z.inc).mono y.all) ((h1.mono z.inc).mono y.all) hs (Holds.dq q0 y) (Holds.dq q1 y) K2 gz⟩
 rw [show decide (a.says≠s) = !decide (a.says=s) by simp] at r3
 obtain ⟨g1,u1,v1,rfl⟩:=r1.1
 obtain ⟨g2,u2,v2,rfl⟩:=r2.1
 obtain ⟨g3,u3,v3,rfl⟩:=r3.1
 simp only [syms,aa,seval,sE]
 refine xQ (by have:=z.size;omega) (by omega) ?_
 simp only [syms,aa,seval,sE]
 refine y4 [.func g1 u1 v1,.func (.func 113) ⟨[]⟩ ⟨[.pointer (some ⟨A0,0,none⟩),.pointer (some ⟨A1,0,none⟩)]⟩,.func g2 u2 v2,.func g3 u3 v3] [bd (!ba d.ah s) 6,ia d a,bd (!a.ground) 10,bd (!decide (a.says=s)) 11] _ _ (zf (i:=0) rfl rfl rfl (by simp)) (by simp) rfl (fun i fv e h1 h2=>?_) _ (fun h' x=>?_)
 ·match i,h1,h2 with
  |0,h1,h2=>cases h1;cases h2;exact r1.lay _ _
  |1,h1,h2=>cases h1;cases h2;exact r0.lay _ _
  |2,h1,h2=>cases h1;cases h2;exact r2.lay _ _
  |3,h1,h2=>cases h1;cases h2;exact r3.lay _ _
 (((with_reducible refine dv ?_ ?_ ?_);(· exact (by (simp only [dx]);have:=z.size;omega));(· exact x));replace z:=z.an x (by omega);(replace q0:=q0.over x);(replace q1:=q1.over x);(replace r1:=r1.over x);(replace r2:=r2.over x);(replace r3:=r3.over x);rw [ao h'])
 simp only [syms,aa,seval,sE]
 ((with_reducible refine ⟨z.cN.lay _ _,?_⟩);(intro _ h' zz x _);(simp only [el,List.append_nil] at x);(replace q0:=q0.over x);(replace q1:=q1.over x);(replace r1:=r1.over x);(replace r2:=r2.over x);(replace r3:=r3.over x);(replace z:=zz);(clear zz);rw [ao h'])
 simp only [syms,aa,seval,sE]
 exact hk _ (z.aw _ _ (by omega))
end Go.Proofs.YtkgojconmeeegaaGreatDoor

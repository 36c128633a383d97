/- Texts by numbers, as plain data. No condition. -/
import Derived.Test.YtkgojconmeeegaaGreatDoorG27
set_option linter.unusedSimpArgs false
set_option linter.unusedVariables false
set_option maxRecDepth 100000
set_option maxHeartbeats 0
namespace Go.Am
def gV (us:ByteArray→Nat) (t:ByteArray) (n:Nat):ByteArray→Nat:=fun x=>if x=t then n else us x
theorem xU (us:ByteArray→Nat) (t:ByteArray) (n:Nat):gV us t n t=n:=if_pos rfl
theorem uM {us:ByteArray→Nat} {t x:ByteArray} {n:Nat} (h:x≠t):gV us t n x=us x:=if_neg h
abbrev ff:=ByteArray × Int
def RL (x:ff):List Value:=[.string x.1,.int .i64 x.2]
theorem Rk (x:ff):(RL x).length=2:=rfl
def CH (x:Int):List Value:=[.int .i64 x]
theorem FG (x:Int):(CH x).length=1:=rfl
structure cS (free:List Int) (aU:List ff) (kv:List (ByteArray × Value)) (us:ByteArray→Nat):Prop where
 fr:∀ n∈free,∃ i:Nat,n=(i:Int)∧i < aU.length
 nd:free.Nodup
 kn:(kv.map Prod.fst).Nodup
 val:∀ t v,dG kv t=some v→∃ i:Nat,v=.int .i64 (i:Int)∧aU[i]? = some (t,(us t:Int))∧(i:Int) ∉ free
 has:∀ t,(dG kv t).isSome=true↔0 < us t
section
variable {free rest:List Int} {aU:List ff} {kv:List (ByteArray × Value)} {us:ByteArray→Nat} {t:ByteArray} {v:Value} {n:Int} {i:Nat}
theorem cS.empty:cS [] [] [] (fun _=>0):=⟨fun _ h=>by simp at h,List.nodup_nil,by simp,fun t v h=>by simp [dG] at h,fun t=>by simp [dG]⟩
theorem cS.perm (p:cS free aU kv us) (h:free.Perm rest):cS rest aU kv us :=
 ⟨fun n hn=>p.fr n (h.mem_iff.2 hn),h.nodup_iff.1 p.nd,p.kn,fun t v hv=>(p.val t v hv).imp fun i hi=>⟨hi.1,hi.2.1,fun hh=>hi.2.2 (h.mem_iff.2 hh)⟩,p.has⟩
theorem cS.num (p:cS free aU kv us) (h:dG kv t=some v):∃ i:Nat,v=.int .i64 (i:Int)∧aU[i]? = some (t,(us t:Int)):=(p.val t v h).imp fun i hi=>⟨hi.1,hi.2.1⟩
theorem cS.zero (p:cS free aU kv us) (h:dG kv t=none):us t=0:=by
 have:=p.has t
 rw [h] at this
 simp at this
 exact this
theorem cS.pos (p:cS free aU kv us) (h:dG kv t=some v):0 < us t:=(p.has t).1 (by rw [h];rfl)
theorem cS.turn (p:cS free aU kv us) (h:dG kv t=some (.int .i64 (i:Int))) {m:Nat} (hm:0 < m):cS free (aU.set i (t,(m:Int))) kv (gV us t m):=by
 obtain ⟨j,hj,ke,Yw⟩:=p.val t _ h
 have di:i=j:=by cases hj;rfl
 subst di
 have iK:=(List.getElem?_eq_some_iff.1 ke).1
 refine ⟨fun n hn=>?_,p.nd,p.kn,fun t2 v2 h2=>?_,fun t2=>?_⟩
 ·obtain ⟨q,hq,tY⟩:=p.fr n hn
  exact ⟨q,hq,by rw [List.length_set];exact tY⟩
 ·obtain ⟨q,hq,sN,yw⟩:=p.val t2 v2 h2
  refine ⟨q,hq,?_,yw⟩
  rw [List.getElem?_set]
  by_cases he:t2=t
  ·subst he
   rw [h] at h2
   cases h2
   have:q=i:=by cases hq;rfl
   subst this
   rw [if_pos rfl,if_pos iK,xU]
  ·rw [if_neg (by rintro rfl;rw [ke] at sN;cases sN;exact he rfl),uM he]
   exact sN
 ·by_cases he:t2=t
  ·subst he
   rw [h,xU]
   simp [hm]
  ·rw [uM he]
   exact p.has t2
theorem cS.fresh {m:Nat} (df:∀ n∈rest,∃ i:Nat,n=(i:Int)∧i < aU.length) (fU:rest.Nodup) (DK:(kv.map Prod.fst).Nodup) (eC:∀ t v,dG kv t=some v→∃ i:Nat,v=.int .i64 (i:Int)∧aU[i]? = some (t,(us t:Int))∧(i:Int) ∉ rest∧i≠m) (wM:∀ t,(dG kv t).isSome=true↔0 < us t)
 (hm:m < aU.length) (hmf:(m:Int) ∉ rest) (h:dG kv t=none):cS rest (aU.set m (t,1)) (gC kv t (.int .i64 (m:Int))) (gV us t 1):=by
 refine ⟨fun n hn=>?_,fU,W9 DK t _,fun t2 v2 h2=>?_,fun t2=>?_⟩
 ·obtain ⟨q,hq,tY⟩:=df n hn
  exact ⟨q,hq,by rw [List.length_set];exact tY⟩
 ·rw [RA] at h2
  by_cases he:t2=t
  ·subst he
   rw [if_pos rfl] at h2
   cases h2
   refine ⟨m,rfl,?_,hmf⟩
   rw [List.getElem?_set,if_pos rfl,if_pos hm,xU]
   rfl
  ·rw [if_neg he] at h2
   obtain ⟨q,hq,sN,yw,hqm⟩:=eC t2 v2 h2
   refine ⟨q,hq,?_,yw⟩
   rw [List.getElem?_set,if_neg (Ne.symm hqm),uM he]
   exact sN
 ·rw [RA]
  by_cases he:t2=t
  ·subst he
   rw [if_pos rfl,xU]
   simp
  ·rw [if_neg he,uM he]
   exact wM t2
theorem cS.pop (p:cS free aU kv us) (h:dG kv t=none) (hp:free.Perm (n::rest)):∃ i:Nat,n=(i:Int)∧i < aU.length∧cS rest (aU.set i (t,1)) (gC kv t (.int .i64 (i:Int))) (gV us t 1):=by
 have fU:=hp.nodup_iff.1 p.nd
 rw [List.nodup_cons] at fU
 obtain ⟨i,rfl,hi⟩:=p.fr n (hp.mem_iff.2 List.mem_cons_self)
 refine ⟨i,rfl,hi,cS.fresh (fun m hm=>p.fr m (hp.mem_iff.2 (List.mem_cons_of_mem _ hm))) fU.2 p.kn (fun t2 v2 h2=>?_) p.has hi fU.1 h⟩
 obtain ⟨q,hq,sN,yw⟩:=p.val t2 v2 h2
 exact ⟨q,hq,sN,fun hh=>yw (hp.mem_iff.2 (List.mem_cons_of_mem _ hh)),fun e=>yw (by rw [e];exact hp.mem_iff.2 List.mem_cons_self)⟩
theorem cS.more (p:cS free aU kv us) (h:dG kv t=none) (x:ff):cS free ((aU++[x]).set aU.length (t,1)) (gC kv t (.int .i64 (aU.length:Int))) (gV us t 1):=by
 refine cS.fresh (fun m hm=>?_) p.nd p.kn (fun t2 v2 h2=>?_) p.has (by rw [List.length_append];simp) (fun hh=>?_) h
 ·obtain ⟨q,hq,tY⟩:=p.fr m hm
  exact ⟨q,hq,by rw [List.length_append];omega⟩
 ·obtain ⟨q,hq,sN,yw⟩:=p.val t2 v2 h2
  have tY:=(List.getElem?_eq_some_iff.1 sN).1
  exact ⟨q,hq,by rw [List.getElem?_append_left tY];exact sN,yw,by omega⟩
 ·obtain ⟨q,hq,tY⟩:=p.fr _ hh
  omega
theorem cS.gone (p:cS free aU kv us) (h:dG kv t=some (.int .i64 (i:Int))) (x:ff):cS ((i:Int)::free) (aU.set i x) (mx kv t) (gV us t 0):=by
 obtain ⟨j,hj,ke,Yw⟩:=p.val t _ h
 have di:i=j:=by cases hj;rfl
 subst di
 have iK:=(List.getElem?_eq_some_iff.1 ke).1
 refine ⟨fun n hn=>?_,List.nodup_cons.2 ⟨Yw,p.nd⟩,TC p.kn t,fun t2 v2 h2=>?_,fun t2=>?_⟩
 ·rw [List.length_set]
  rcases List.mem_cons.1 hn with rfl|hn
  ·exact ⟨i,rfl,iK⟩
  ·exact p.fr n hn
 ·rw [T7] at h2
  by_cases he:t2=t
  ·rw [if_pos he] at h2;cases h2
  ·rw [if_neg he] at h2
   obtain ⟨q,hq,sN,yw⟩:=p.val t2 v2 h2
   have YJ:i≠q:=by rintro rfl;rw [ke] at sN;cases sN;exact he rfl
   refine ⟨q,hq,by rw [List.getElem?_set,if_neg YJ,uM he];exact sN,fun hh=>?_⟩
   rcases List.mem_cons.1 hh with e|hh
   ·exact YJ (by omega)
   ·exact yw hh
 ·rw [T7]
  by_cases he:t2=t
  ·rw [if_pos he,he,xU];simp
  ·rw [if_neg he,uM he];exact p.has t2
end
theorem U9 {kv kw:List (ByteArray × Value)} (h1:(kv.map Prod.fst).Nodup) (h2:(kw.map Prod.fst).Nodup) (h:∀ t,(dG kv t).isSome=true↔(dG kw t).isSome=true):kv.length=kw.length:=by
 have hm:∀ (l:List (ByteArray × Value)) (t:ByteArray),(dG l t).isSome=true↔t∈l.map Prod.fst:=fun l t=>by
  cases hl:dG l t with
  |none=>simp [iv.1 hl]
  |some v =>
   simp only [Option.isSome_some,true_iff]
   refine Classical.byContradiction fun hn=>?_
   rw [iv.2 hn] at hl
   cases hl
 have hp:(kv.map Prod.fst).Perm (kw.map Prod.fst):=(List.perm_ext_iff_of_nodup h1 h2).2 fun t=>by rw [← hm,← hm];exact h t
 simpa using hp.length_eq
structure gp (tt ti te N:Nat) (h:Heap) (T0 I E M:Nat) (free:List Int) (aU:List ff) (kv:List (ByteArray × Value)):Prop where
 row:∃ vi ve,Holds h T0 (.row [vi,ve,.map (some M)] tt false)∧cJ 1 CH h ti I vi free∧cJ 2 RL h te E ve aU
 map:dp h M kv
 ne:T0≠I∧T0≠E∧T0≠M∧I≠E∧I≠M∧E≠M
 lo:N≤T0∧N≤I∧N≤E∧N≤M
 hi:T0 < h.size∧I < h.size∧E < h.size∧M < h.size
section
variable {tt ti te N:Nat} {h h1 h2:Heap} {T0 I E M w:Nat} {bs:List bh} {free:List Int} {aU:List ff} {kv:List (ByteArray × Value)}
theorem gp.hold (s:gp tt ti te N h T0 I E M free aU kv) (hs:h.size≤h1.size) (hO:∀ A b,A=T0∨A=I∨A=E∨A=M→Holds h A b→Holds h1 A b):gp tt ti te N h1 T0 I E M free aU kv:=by
 obtain ⟨⟨vi,ve,q,oi,oe⟩,m,n,l,u⟩:=s
 exact ⟨⟨vi,ve,hO _ _ (.inl rfl) q,oi.hold (fun b=>hO _ b (.inr (.inl rfl))),oe.hold (fun b=>hO _ b (.inr (.inr (.inl rfl))))⟩,m.hold (fun b=>hO _ b (.inr (.inr (.inr rfl)))),n,l,⟨by omega,by omega,by omega,by omega⟩⟩
theorem gp.over (s:gp tt ti te N h1 T0 I E M free aU kv) (x:Ext (h1.lay bs w) h2):gp tt ti te N h2 T0 I E M free aU kv:=s.hold (by have:=x.size;rw [bm] at this;omega) (fun A b _ q=>q.over x)
theorem gp.lay (s:gp tt ti te N h1 T0 I E M free aU kv) (bs:List bh) (w:Nat):gp tt ti te N (h1.lay bs w) T0 I E M free aU kv:=s.hold (by rw [bm];omega) (fun A b _ q=>q.on bs w)
theorem gp.bX {D:List Nat} (s:gp tt ti te N h1 T0 I E M free aU kv) (f:aM D h1 h2) (h0:T0 ∉ D∧I ∉ D∧E ∉ D∧M ∉ D):gp tt ti te N h2 T0 I E M free aU kv:=s.hold f.size (fun A b hA q=>q.bX f (by rcases hA with rfl|rfl|rfl|rfl;exact h0.1;exact h0.2.1;exact h0.2.2.1;exact h0.2.2.2))
theorem gp.qO {vi ve:Value} {f2:List Int} (s:gp tt ti te N h1 T0 I E M free aU kv) (q:Holds h1 T0 (.row [vi,ve,.map (some M)] tt false)) (oe:cJ 2 RL h1 te E ve aU) (c:aM [I] h1 h2) (o2:cJ 1 CH h2 ti I vi f2):gp tt ti te N h2 T0 I E M f2 aU kv:=by
 obtain ⟨_,m,n,l,u⟩:=s
 have hs:=c.size
 have hn:∀ {A},A≠I→A ∉ [I]:=fun h hm=>h (List.mem_singleton.1 hm)
 exact ⟨⟨vi,ve,q.bX c (hn n.1),o2,oe.bX c (hn (Ne.symm n.2.2.2.1))⟩,m.hold (fun b q=>q.bX c (hn (Ne.symm n.2.2.2.2.1))),n,l,⟨by omega,by omega,by omega,by omega⟩⟩
theorem gp.Pv {v2 ve:Value} {f2:List Int} {Du:List ff} (s:gp tt ti te N h1 T0 I E M free aU kv) (c:aM [T0] h1 h2) (q:Holds h2 T0 (.row [v2,ve,.map (some M)] tt false)) (o1:cJ 1 CH h1 ti I v2 f2) (oe:cJ 2 RL h1 te E ve Du):gp tt ti te N h2 T0 I E M f2 Du kv:=by
 obtain ⟨_,m,n,l,u⟩:=s
 have hs:=c.size
 have hn:∀ {A},A≠T0→A ∉ [T0]:=fun h hm=>h (List.mem_singleton.1 hm)
 exact ⟨⟨v2,ve,q,o1.bX c (hn (Ne.symm n.1)),oe.bX c (hn (Ne.symm n.2.1))⟩,m.hold (fun b q=>q.bX c (hn (Ne.symm n.2.2.1))),n,l,⟨by omega,by omega,by omega,by omega⟩⟩
theorem gp.Hm {v2 ve:Value} {I2:Nat} {f2:List Int} (s:gp tt ti te N h1 T0 I E M free aU kv) (c:aM [T0,I] h1 h2) (hI:I2=I∨h1.size≤I2) (fM:I2 < h2.size) (q:Holds h2 T0 (.row [v2,ve,.map (some M)] tt false)) (o1:cJ 1 CH h2 ti I2 v2 f2) (oe:cJ 2 RL h1 te E ve aU):gp tt ti te N h2 T0 I2 E M f2 aU kv:=by
 obtain ⟨_,m,n,l,u⟩:=s
 have hs:=c.size
 have hn:∀ {A},A≠T0→A≠I→A ∉ [T0,I]:=fun h h2 hm=>by
  rcases List.mem_cons.1 hm with e|hm
  ·exact h e
  ·exact h2 (List.mem_singleton.1 hm)
 refine ⟨⟨v2,ve,q,o1,oe.bX c (hn (Ne.symm n.2.1) (Ne.symm n.2.2.2.1))⟩,m.hold (fun b q=>q.bX c (hn (Ne.symm n.2.2.1) (Ne.symm n.2.2.2.2.1))),?_,?_,⟨by omega,fM,by omega,by omega⟩⟩
 ·rcases hI with rfl|hI
  ·exact n
  ·exact ⟨by omega,n.2.1,n.2.2.1,by omega,by omega,n.2.2.2.2.2⟩
 ·rcases hI with rfl|hI
  ·exact l
  ·exact ⟨l.1,by omega,l.2.2⟩
end
theorem RE {l:List Int} {i j:Nat} {a b:Int} (hi:l[i]? = some a) (hj:l[j]? = some b):l.Perm ((l.set i b).set j a):=by
 by_cases h:i=j
 ·subst h
  rw [hi] at hj
  cases hj
  have e:(l.set i a).set i a=l:=by
   apply List.ext_getElem?
   intro k
   rw [List.set_set,List.getElem?_set]
   by_cases hk:i=k
   ·subst hk
    rw [if_pos rfl,hi]
    simp [(List.getElem?_eq_some_iff.1 hi).1]
   ·rw [if_neg hk]
  rw [e]
 ·have hc:∀ x,l.count x=((l.set i b).set j a).count x:=by
   intro x
   have iK:=(List.getElem?_eq_some_iff.1 hi)
   have Ag:=(List.getElem?_eq_some_iff.1 hj)
   have e1:((l.set i b).set j a).count x=(l.set i b).count x - (if (b == x) then 1 else 0)+(if (a == x) then 1 else 0):=by
    rw [List.count_set (by rw [List.length_set];exact Ag.1)]
    rw [List.getElem_set_ne h,Ag.2]
   have e2:(l.set i b).count x=l.count x - (if (a == x) then 1 else 0)+(if (b == x) then 1 else 0):=by
    rw [List.count_set iK.1,iK.2]
   rw [e1,e2]
   have ha:(a == x)=true→1≤l.count x:=fun e=>List.one_le_count_iff.2 (by rw [← eq_of_beq e];exact List.mem_of_getElem? hi)
   have hb:(b == x)=true→1≤l.count x:=fun e=>List.one_le_count_iff.2 (by rw [← eq_of_beq e];exact List.mem_of_getElem? hj)
   cases tK:(a == x)
   ·simp
   ·have:=ha tK
    simp
    omega
  exact List.perm_iff_count.2 hc
end Go.Am
namespace Go.Proofs.YtkgojconmeeegaaGreatDoor
open Go.Am
theorem Hx (b:Bool) (h:Heap) (K:Value→Heap→Prop):rB b h K=K (.bool b) h:=by
 unfold rB
 cases b
 ·simp
 ·simp
theorem C9:ae.desc 170=some (.slice 3):=by kernel_rfl
theorem zrE (A:Nat) (h:Heap):tc ae 181 (.pointer (some ⟨A,0,none⟩)) "Len" h=(dI ae 170 (.pointer (some ⟨A,0,none⟩)) h).map fun r=>(121,r):=by kernel_rfl
theorem RB (A:Nat) (h:Heap):tc ae 181 (.pointer (some ⟨A,0,none⟩)) "Less" h=(dI ae 170 (.pointer (some ⟨A,0,none⟩)) h).map fun r=>(257,r):=by kernel_rfl
theorem RC (A:Nat) (h:Heap):tc ae 181 (.pointer (some ⟨A,0,none⟩)) "Swap" h=(dI ae 170 (.pointer (some ⟨A,0,none⟩)) h).map fun r=>(260,r):=by kernel_rfl
theorem zzi (A:Nat) (h:Heap):tc ae 181 (.pointer (some ⟨A,0,none⟩)) "Pop" h=some (258,.pointer (some ⟨A,0,none⟩)):=by kernel_rfl
theorem zvz (A:Nat) (h:Heap):tc ae 181 (.pointer (some ⟨A,0,none⟩)) "Push" h=some (259,.pointer (some ⟨A,0,none⟩)):=by kernel_rfl
theorem vy {h1:Heap} {T0 w:Nat} {bs:List bh} {vi ve vm:Value} (q:Holds h1 T0 (.row [vi,ve,vm] 176 false)):dI ae 170 (.pointer (some ⟨T0,0,none⟩)) (h1.lay bs w)=some vi:=by
 have hg:=q.lay bs w
 have ha:aq ae 170=some false:=by kernel_rfl
 unfold dI gQ
 simp only [ha,Option.bind_some,Bool.false_eq_true,if_false,hg]
 rfl
abbrev eH (N:Nat) (h:Heap) (T0 I E M:Nat) (free:List Int) (aU:List ff) (kv:List (ByteArray × Value)):Prop:=gp 176 3 178 N h T0 I E M free aU kv
theorem UZ (free:List Int) (I:Nat) (v:Value) (h:Heap) (o:cJ 1 CH h 3 I v free) (K:Value→Heap→Prop) (hk:∀ h',Ext h h'→K (.int .i64 free.length) h'):Ok Tryz.prog ae ov 121 [v] h K:=by
 rw [ao h]
 have z:=Ext.refl h
 have cz:=fun (hh:Heap)=>o.bc C9 hh
 refine Ok.aH rfl zwY (br KP) rfl (m:=4) rfl ?_
 simp only [syms,aa,seval,ZL,cz]
 exact hk _ (z.aw _ _ (by omega))
theorem RS (free:List Int) (I:Nat) (v:Value) (i j:Nat) (a b:Int) (h:Heap) (o:cJ 1 CH h 3 I v free) (hi:free[i]? = some a) (hj:free[j]? = some b) (K:Value→Heap→Prop) (hk:∀ h',Ext h h'→K (.bool (decide (a < b))) h'):Ok Tryz.prog ae ov 257 [v,.int .i64 i,.int .i64 j] h K:=by
 rw [ao h]
 have z:=Ext.refl h
 have gZ:=o.ix (kd:=.i64) (i:=i) C9 xL (List.getElem?_eq_some_iff.1 hi).1
 have ra:=o.ix (kd:=.i64) (i:=j) C9 xL (List.getElem?_eq_some_iff.1 hj).1
 have ci:=o.mw hi rfl
 have cj:=o.mw hj rfl
 have vt:=py
 refine Ok.aH rfl zxX (br LQ) rfl (m:=13) rfl ?_
 simp only [syms,aa,seval,v7]
 with_reducible first|refine dH (by simp only [v7]) (z.aw _ _ (by omega)) ?_
 simp only [syms,aa,seval,v7,gZ,ra,ci,cj,vt]
 rw [Hx]
 simp only [syms,aa,seval,v7]
 ((with_reducible refine ⟨z.cN.lay _ _,?_⟩);(intro _ h' zz x _);(simp only [el,List.append_nil] at x);(replace z:=zz);(clear zz);rw [ao h'])
 simp only [syms,aa,seval,v7]
 exact hk _ (z.aw _ _ (by omega))
theorem RU (free:List Int) (I:Nat) (v:Value) (i j:Nat) (a b:Int) (h hc:Heap) (z:Ext h hc) (hI:h.size≤I) (o:cJ 1 CH hc 3 I v free) (hi:free[i]? = some a) (hj:free[j]? = some b) (K:Value→Heap→Prop) (hk:∀ h',Ext h h'→aM [I] hc h'→cJ 1 CH h' 3 I v ((free.set i b).set j a)→K undef h'):Ok Tryz.prog ae ov 260 [v,.int .i64 i,.int .i64 j] hc K:=by
 rw [ao hc]
 have gZ:=o.ix (kd:=.i64) (i:=i) C9 xL (List.getElem?_eq_some_iff.1 hi).1
 have ra:=o.ix (kd:=.i64) (i:=j) C9 xL (List.getElem?_eq_some_iff.1 hj).1
 have ci:=o.mw hi rfl
 have cj:=o.mw hj rfl
 have vt:=py
 refine Ok.aH rfl zx0 (br LU) rfl (m:=17) rfl ?_
 with_reducible first|refine dH (by simp only [v8]) (z.aw _ _ (by omega)) ?_
 simp only [syms,aa,seval,v8,gZ,ra,ci,cj,vt]
 refine cJ.pw (y:=b) FG o hi xL (by omega) rfl rfl rfl rfl (fun h3 o3 c3=>?_)
 have hz:=z.size
 refine nQ (A:=I) (by kernel_rfl) (by rw [bm];omega) (by omega) (by simpa only [el,bm,List.append_nil,List.length_cons,List.length_nil,Nat.add_zero] using c3) ?_
 have z3:=(z.aw [] (hc.size+0) (by omega)).step c3 hI
 rw [ao h3]
 simp only [syms,aa,seval,v8,gZ,ra]
 have hj3:(free.set i b)[j]? = some b:=by
  rw [List.getElem?_set]
  split
  ·rw [if_pos (List.getElem?_eq_some_iff.1 hi).1]
  ·exact hj
 refine cJ.pw (y:=a) FG o3 hj3 xL (by omega) rfl rfl rfl rfl (fun h4 o4 c4=>?_)
 have yA:=z3.size
 refine nQ (A:=I) (by kernel_rfl) (by rw [bm];omega) (by omega) (by simpa only [el,bm,List.append_nil,List.length_cons,List.length_nil,Nat.add_zero] using c4) ?_
 have z4:=(z3.aw [] (h3.size+0) (by omega)).step c4 hI
 have cc:aM [I] hc h4:=((aM.refl [I] hc).iJ c3 (.inl (by simp))).iJ c4 (.inl (by simp))
 clear z
 have z:=z4
 rw [ao h4]
 simp only [syms,aa,seval,v8]
 ((with_reducible refine ⟨z.cN.lay _ _,?_⟩);(intro _ h' zz x _);(simp only [el,List.append_nil] at x))
 replace o4:=o4.over x
 replace cc:=cc.over x
 replace z:=zz
 rw [ao h']
 simp only [syms,aa,seval,v8]
 exact hk _ (z.aw _ _ (by omega)) (cc.trans (aM.lay _ _ _ []) (fun _ h=>nomatch h)) (o4.lay _ _)
theorem zGd (j:Nat) (h:j≤1000000000):IntKind.i64.wrap ((IntKind.i64.wrap ((j:Int) - 1)).tdiv 2)=(((j - 1) / 2:Nat):Int):=by
 rw [wrap_i64 (i:=(j:Int) - 1) (by omega) (by omega)]
 have e:((j:Int) - 1).tdiv 2=(((j - 1) / 2:Nat):Int):=by
  cases j with
  |zero=>decide
  |succ j =>
   rw [show ((j+1:Nat):Int) - 1=(j:Int) by omega,show j+1 - 1=j by omega]
   exact (Int.ofNat_tdiv j 2).symm
 rw [e]
 exact wrap_i64 (by omega) (by omega)
theorem zyE {T:bK} {t:TypeId} {k:IntKind} {a b:Int}:cw Tryz.prog T .mul t (.int k a) (.int k b)=some (.int k (k.wrap (a*b))):=by
 refine Uk rfl ?_ rfl
 simp [binOp,Op.intArith,za]
theorem tz {k i:Nat} (h:¬ i=k) (Q:Ex→Env→Heap→Prop) (e:Env) (hh:Heap):Ez k Q (.exit i) e hh=Q (.exit i) e hh:=by
 show (if i=k then Q .normal e hh else Q (.exit i) e hh)=_
 rw [if_neg h]
abbrev sS (T0:Nat):Value:=.iface 181 (.pointer (some ⟨T0,0,none⟩))
theorem zH1 (h hc:Heap) (z:Ext h hc) (T0 FI FE FM:Nat) (free:List Int) (aU:List ff) (kv:List (ByteArray × Value)) (j:Nat) (st:eH h.size hc T0 FI FE FM free aU kv) (hj:j < free.length) (K:Value→Heap→Prop) (hk:∀ h' f2,Ext h h'→aM [FI] hc h'→eH h.size h' T0 FI FE FM f2 aU kv→free.Perm f2→K undef h'):Ok Tryz.prog ae ov 168 [sS T0,.int .i64 j] hc K:=by
 have hle:free.length≤1000000000:=by obtain ⟨⟨vi,ve,q,oi,oe⟩,_⟩:=st;exact oi.mX
 have jd:∀ (h:Heap) (K:Value→Heap→Prop),aW (some (sS T0)) h K=K (sS T0) h:=fun _ _=>rfl
 rw [ao hc]
 refine Ok.aH rfl zxr (br Lj) rfl (m:=21) rfl ?_
 simp only [syms,aa,seval,lL]
 obtain ⟨I1,aS⟩:∃ I:Nat→Env→Heap→Prop,I=(fun n e h'=>∃ (j1:Nat) (f1:List Int) (h1:Heap),h'=h1.lay [] h1.low∧Ext h h1∧(n=j1+1∧j1 < f1.length∧eH h.size h1 T0 FI FE FM f1 aU kv∧free.Perm f1∧aM [FI] hc h1)∧∃ J:Nat→Value,e=(sS T0::.int .i64 j1::jr J 2 21 ([]))):=⟨_,rfl⟩
 refine dj I1 _ (by rw [aS];exact ⟨j,free,_,rfl,z,⟨rfl,hj,st,List.Perm.refl _,aM.refl _ _⟩,aE (by kernel_rfl)⟩) ?_
 intro n e h' aL
 rw [aS] at aL
 obtain ⟨j1,f1,bH,rfl,z,hinv,J,rfl⟩:=aL
 clear st
 obtain ⟨rfl,ra,st,gT,fr⟩:=hinv
 have hlen:=gT.length_eq
 obtain ⟨⟨vi,ve,q,oi,oe⟩,_⟩:=id st
 have hq:=zGd j1 (by omega)
 have tS:(j1 - 1) / 2 < f1.length:=by omega
 obtain ⟨a,ha,IE⟩:=eU (l:=f1) (i:=j1) (by omega)
 obtain ⟨b,hb,lB⟩:=eU (l:=f1) (i:=(j1 - 1) / 2) (by omega)
 simp only [syms,aa,seval,lL]
 rw [zuw (by decide),hq]
 simp only [syms,aa,seval,lL]
 refine nX (fun heq=>?_) (fun aP=>?_)
 ·simp only [syms,aa,seval,lL]
  rw [tz (by decide)]
  simp only [syms,aa,seval,lL]
  exact hk _ f1 (z.aw _ _ (by omega)) (fr.trans (aM.lay _ _ _ []) (fun _ h=>nomatch h)) (st.lay _ _) gT
 simp only [syms,aa,seval,lL,tf,jd]
 refine th (f:=257) (y:=vi) (by rw [RB,vy q];rfl) ?_
 refine RS f1 FI vi j1 ((j1 - 1) / 2) a b _ (oi.lay _ _) IE lB _ (fun h' x=>?_)
 (replace z:=z.an x (by omega);(replace st:=st.over x);(replace fr:=fr.over x);rw [ao h'])
 simp only [syms,aa,seval,lL]
 (with_reducible_and_instances apply b8);(· rfl)
 simp only [syms,aa,seval,lL]
 clear q oi oe
 obtain ⟨⟨vi,ve,q,oi,oe⟩,_,_,cV,_⟩:=id st
 refine H3 (fun kQ=>?_) (fun aR=>?_)
 ·simp only [syms,aa,seval,lL]
  rw [tz (by decide)]
  simp only [syms,aa,seval,lL]
  exact hk _ f1 (z.aw _ _ (by omega)) (fr.trans (aM.lay _ _ _ []) (fun _ h=>nomatch h)) (st.lay _ _) gT
 simp only [syms,aa,seval,lL,tf,jd]
 refine th (f:=260) (y:=vi) (by rw [RC,vy q];rfl) ?_
 refine RU f1 FI vi ((j1 - 1) / 2) j1 b a h _ (z.aw _ _ (by omega)) cV.2.1 (oi.lay _ _) lB IE _ (fun h3 z3 fL o3=>?_)
 have fV:=(st.lay [] h'.low).qO (q.on _ _) (oe.lay _ _) fL o3
 replace fr:=(fr.trans (aM.lay h' [] h'.low []) (fun _ h=>nomatch h)).trans fL (fun B hB=>.inl hB)
 have Ao:=gT.trans (RE lB IE)
 clear q oi oe o3 fL st z
 have z:=z3
 rw [ao h3]
 simp only [syms,aa,seval,lL]
 (rw [aS];with_reducible refine cB (m:=_) ?_ ⟨(j1 - 1) / 2,(f1.set ((j1 - 1) / 2) a).set j1 b,_,rfl,z,⟨rfl,by rw [List.length_set,List.length_set];omega,fV,Ao,fr⟩,aE (by kernel_rfl)⟩;omega)
theorem zzo (h hc:Heap) (z:Ext h hc) (T0 FI FE FM:Nat) (free:List Int) (aU:List ff) (kv:List (ByteArray × Value)) (m:Nat) (st:eH h.size hc T0 FI FE FM free aU kv) (hm:m≤free.length) (K:Value→Heap→Prop) (hk:∀ h' f2 b,Ext h h'→aM [FI] hc h'→eH h.size h' T0 FI FE FM f2 aU kv→free.Perm f2→K (.bool b) h'):Ok Tryz.prog ae ov 167 [sS T0,.int .i64 0,.int .i64 m] hc K:=by
 have hle:free.length≤1000000000:=by obtain ⟨⟨vi,ve,q,oi,oe⟩,_⟩:=st;exact oi.mX
 have jd:∀ (h:Heap) (K:Value→Heap→Prop),aW (some (sS T0)) h K=K (sS T0) h:=fun _ _=>rfl
 rw [ao hc]
 refine Ok.aH rfl zxq (br Li) rfl (m:=45) rfl ?_
 simp only [syms,aa,seval,dE]
 obtain ⟨I1,aS⟩:∃ I:Nat→Env→Heap→Prop,I=(fun n e h'=>∃ (i:Nat) (f1:List Int) (h1:Heap),h'=h1.lay [] h1.low∧Ext h h1∧(n=free.length - i∧i≤free.length∧eH h.size h1 T0 FI FE FM f1 aU kv∧free.Perm f1∧aM [FI] hc h1)∧∃ J:Nat→Value,e=(sS T0::.int .i64 0::.int .i64 m::jr J 3 4 (.int .i64 i::jr J 8 40 ([])))):=⟨_,rfl⟩
 refine dj I1 _ (by rw [aS];exact ⟨0,free,_,rfl,z,⟨rfl,by omega,st,List.Perm.refl _,aM.refl _ _⟩,aE (by kernel_rfl)⟩) ?_
 intro n e h' aL
 rw [aS] at aL
 obtain ⟨i,f1,bH,rfl,z,hinv,J,rfl⟩:=aL
 clear st
 obtain ⟨rfl,hi,st,gT,fr⟩:=hinv
 have hlen:=gT.length_eq
 obtain ⟨⟨vi,ve,q,oi,oe⟩,_,_,cV,_⟩:=id st
 have uj:IntKind.i64.wrap (IntKind.i64.wrap (2*(i:Int))+1)=((2*i+1:Nat):Int):=by
  rw [wrap_i64 (i:=2*(i:Int)) (by omega) (by omega),wrap_i64 (by omega) (by omega)];omega
 have re:IntKind.i64.wrap (((2*i+1:Nat):Int)+1)=((2*i+2:Nat):Int):=by rw [wrap_i64 (by omega) (by omega)];omega
 simp only [syms,aa,seval,dE,zyE,uj,re]
 refine bt (fun kQ=>?_) (fun aR=>?_)
 ·simp only [syms,aa,seval,dE]
  rw [tz (by decide)]
  simp only [syms,aa,seval,dE]
  rw [Hx]
  simp only [syms,aa,seval,dE]
  exact hk _ f1 _ (z.aw _ _ (by omega)) (fr.trans (aM.lay _ _ _ []) (fun _ h=>nomatch h)) (st.lay _ _) gT
 simp only [syms,aa,seval,dE]
 refine bt (fun c0=>absurd c0 (by omega)) (fun _=>?_)
 obtain ⟨a1,IF,oT⟩:=eU (l:=f1) (i:=2*i+1) (by omega)
 obtain ⟨ai,Td,oV⟩:=eU (l:=f1) (i:=i) (by omega)
 simp only [syms,aa,seval,dE,re]
 refine bt (fun i7=>?_) (fun i7=>?_)
 ·obtain ⟨a2,IG,wA⟩:=eU (l:=f1) (i:=2*i+2) (by omega)
  simp only [syms,aa,seval,dE,tf,jd]
  refine th (f:=257) (y:=vi) (by rw [RB,vy q];rfl) ?_
  refine RS f1 FI vi (2*i+2) (2*i+1) a2 a1 _ (oi.lay _ _) wA oT _ (fun h' x=>?_)
  (replace z:=z.an x (by omega);(replace st:=st.over x);(replace fr:=fr.over x);rw [ao h'])
  clear q oi oe
  simp only [syms,aa,seval,dE]
  refine bt (fun hl=>?_) (fun hl=>?_)
  ·simp only [syms,aa,seval,dE]
   obtain ⟨jj,NN⟩:∃ jj,jj=2*i+2:=⟨_,rfl⟩
   rw [← NN] at wA ⊢
   have NO:jj < m:=by omega
   have di:i < jj:=by omega
   simp only [syms,aa,seval,dE,tf,jd]
   obtain ⟨⟨vi,ve,q,oi,oe⟩,_,_,cV,_⟩:=id st
   refine th (f:=257) (y:=vi) (by rw [RB,vy q];rfl) ?_
   refine RS f1 FI vi jj i a2 ai _ (oi.lay _ _) wA oV _ (fun h' x=>?_)
   (replace z:=z.an x (by omega);(replace st:=st.over x);(replace fr:=fr.over x);rw [ao h'])
   clear q oi oe
   obtain ⟨⟨vi,ve,q,oi,oe⟩,_,_,cV,_⟩:=id st
   rcases Decidable.em (a2 < ai) with hd|hd
   rotate_left
   ·rw [decide_eq_false hd]
    simp only [syms,aa,seval,dE]
    (with_reducible_and_instances apply b8);(· rfl)
    simp only [syms,aa,seval,dE,Bool.not_false]
    rw [tz (by decide)]
    simp only [syms,aa,seval,dE]
    rw [Hx]
    simp only [syms,aa,seval,dE]
    exact hk _ f1 _ (z.aw _ _ (by omega)) (fr.trans (aM.lay _ _ _ []) (fun _ h=>nomatch h)) (st.lay _ _) gT
   rw [decide_eq_true hd]
   simp only [syms,aa,seval,dE]
   (with_reducible_and_instances apply b8);(· rfl)
   simp only [syms,aa,seval,dE,Bool.not_true,tf,jd]
   refine th (f:=260) (y:=vi) (by rw [RC,vy q];rfl) ?_
   refine RU f1 FI vi i jj ai a2 h _ (z.aw _ _ (by omega)) cV.2.1 (oi.lay _ _) oV wA _ (fun h3 z3 fL o3=>?_)
   have fV:=(st.lay [] h'.low).qO (q.on _ _) (oe.lay _ _) fL o3
   replace fr:=(fr.trans (aM.lay h' [] h'.low []) (fun _ h=>nomatch h)).trans fL (fun B hB=>.inl hB)
   have Ao:=gT.trans (RE oV wA)
   clear q oi oe o3 fL st z
   have z:=z3
   rw [ao h3]
   simp only [syms,aa,seval,dE]
   (rw [aS];with_reducible refine cB (m:=_) ?_ ⟨jj,(f1.set i a2).set jj ai,_,rfl,z,⟨rfl,by omega,fV,Ao,fr⟩,aE (by kernel_rfl)⟩;omega)
  ·simp only [syms,aa,seval,dE]
   obtain ⟨jj,NN⟩:∃ jj,jj=2*i+1:=⟨_,rfl⟩
   rw [← NN] at oT ⊢
   have NO:jj < m:=by omega
   have di:i < jj:=by omega
   simp only [syms,aa,seval,dE,tf,jd]
   obtain ⟨⟨vi,ve,q,oi,oe⟩,_,_,cV,_⟩:=id st
   refine th (f:=257) (y:=vi) (by rw [RB,vy q];rfl) ?_
   refine RS f1 FI vi jj i a1 ai _ (oi.lay _ _) oT oV _ (fun h' x=>?_)
   (replace z:=z.an x (by omega);(replace st:=st.over x);(replace fr:=fr.over x);rw [ao h'])
   clear q oi oe
   obtain ⟨⟨vi,ve,q,oi,oe⟩,_,_,cV,_⟩:=id st
   rcases Decidable.em (a1 < ai) with hd|hd
   rotate_left
   ·rw [decide_eq_false hd]
    simp only [syms,aa,seval,dE]
    (with_reducible_and_instances apply b8);(· rfl)
    simp only [syms,aa,seval,dE,Bool.not_false]
    rw [tz (by decide)]
    simp only [syms,aa,seval,dE]
    rw [Hx]
    simp only [syms,aa,seval,dE]
    exact hk _ f1 _ (z.aw _ _ (by omega)) (fr.trans (aM.lay _ _ _ []) (fun _ h=>nomatch h)) (st.lay _ _) gT
   rw [decide_eq_true hd]
   simp only [syms,aa,seval,dE]
   (with_reducible_and_instances apply b8);(· rfl)
   simp only [syms,aa,seval,dE,Bool.not_true,tf,jd]
   refine th (f:=260) (y:=vi) (by rw [RC,vy q];rfl) ?_
   refine RU f1 FI vi i jj ai a1 h _ (z.aw _ _ (by omega)) cV.2.1 (oi.lay _ _) oV oT _ (fun h3 z3 fL o3=>?_)
   have fV:=(st.lay [] h'.low).qO (q.on _ _) (oe.lay _ _) fL o3
   replace fr:=(fr.trans (aM.lay h' [] h'.low []) (fun _ h=>nomatch h)).trans fL (fun B hB=>.inl hB)
   have Ao:=gT.trans (RE oV oT)
   clear q oi oe o3 fL st z
   have z:=z3
   rw [ao h3]
   simp only [syms,aa,seval,dE]
   (rw [aS];with_reducible refine cB (m:=_) ?_ ⟨jj,(f1.set i a1).set jj ai,_,rfl,z,⟨rfl,by omega,fV,Ao,fr⟩,aE (by kernel_rfl)⟩;omega)
 ·clear q oi oe
  simp only [syms,aa,seval,dE]
  obtain ⟨jj,NN⟩:∃ jj,jj=2*i+1:=⟨_,rfl⟩
  rw [← NN] at oT ⊢
  have NO:jj < m:=by omega
  have di:i < jj:=by omega
  simp only [syms,aa,seval,dE,tf,jd]
  obtain ⟨⟨vi,ve,q,oi,oe⟩,_,_,cV,_⟩:=id st
  refine th (f:=257) (y:=vi) (by rw [RB,vy q];rfl) ?_
  refine RS f1 FI vi jj i a1 ai _ (oi.lay _ _) oT oV _ (fun h' x=>?_)
  (replace z:=z.an x (by omega);(replace st:=st.over x);(replace fr:=fr.over x);rw [ao h'])
  clear q oi oe
  obtain ⟨⟨vi,ve,q,oi,oe⟩,_,_,cV,_⟩:=id st
  rcases Decidable.em (a1 < ai) with hd|hd
  rotate_left
  ·rw [decide_eq_false hd]
   simp only [syms,aa,seval,dE]
   (with_reducible_and_instances apply b8);(· rfl)
   simp only [syms,aa,seval,dE,Bool.not_false]
   rw [tz (by decide)]
   simp only [syms,aa,seval,dE]
   rw [Hx]
   simp only [syms,aa,seval,dE]
   exact hk _ f1 _ (z.aw _ _ (by omega)) (fr.trans (aM.lay _ _ _ []) (fun _ h=>nomatch h)) (st.lay _ _) gT
  rw [decide_eq_true hd]
  simp only [syms,aa,seval,dE]
  (with_reducible_and_instances apply b8);(· rfl)
  simp only [syms,aa,seval,dE,Bool.not_true,tf,jd]
  refine th (f:=260) (y:=vi) (by rw [RC,vy q];rfl) ?_
  refine RU f1 FI vi i jj ai a1 h _ (z.aw _ _ (by omega)) cV.2.1 (oi.lay _ _) oV oT _ (fun h3 z3 fL o3=>?_)
  have fV:=(st.lay [] h'.low).qO (q.on _ _) (oe.lay _ _) fL o3
  replace fr:=(fr.trans (aM.lay h' [] h'.low []) (fun _ h=>nomatch h)).trans fL (fun B hB=>.inl hB)
  have Ao:=gT.trans (RE oV oT)
  clear q oi oe o3 fL st z
  have z:=z3
  rw [ao h3]
  simp only [syms,aa,seval,dE]
  (rw [aS];with_reducible refine cB (m:=_) ?_ ⟨jj,(f1.set i a1).set jj ai,_,rfl,z,⟨rfl,by omega,fV,Ao,fr⟩,aE (by kernel_rfl)⟩;omega)
theorem Xm (x:Value):EH ae 3 x=some (.iface 3 x):=by kernel_rfl
theorem zvl (x:Value):EH ae 181 x=some (.iface 181 x):=by kernel_rfl
theorem zna (n:Int):HM ae (.iface 3 (.int .i64 n)) 3 true=some (.tuple #[.int .i64 n,.bool true]):=by kernel_rfl
theorem CY:bJ ae 170=some 1:=by kernel_rfl
theorem Vc (a b c:Value):([a,b,c]:List Value)[0]? = some a:=rfl
theorem ya (a b c:Value):([a,b,c]:List Value)[1]? = some b:=rfl
theorem Km (a b c:Value):([a,b,c]:List Value)[2]? = some c:=rfl
theorem zti (h hc:Heap) (z:Ext h hc) (T0 FI FE FM:Nat) (free:List Int) (aU:List ff) (kv:List (ByteArray × Value)) (n:Nat) (last:Int) (st:eH h.size hc T0 FI FE FM free aU kv) (hn:free.length=n+1) (hl:free[n]? = some last) (K:Value→Heap→Prop) (hk:∀ h',Ext h h'→aM [T0] hc h'→eH h.size h' T0 FI FE FM (free.take n) aU kv→K (.iface 3 (.int .i64 last)) h'):Ok Tryz.prog ae ov 258 [.pointer (some ⟨T0,0,none⟩)] hc K:=by
 obtain ⟨⟨vi,ve,q,oi,oe⟩,mm,aP,cV,lP⟩:=id st
 have hle:=oi.mX
 have cz:=fun (hh:Heap)=>oi.bc C9 hh
 have hw:IntKind.i64.wrap (((free.length:Nat):Int) - 1)=(n:Int):=by rw [wrap_i64 (by omega) (by omega)];omega
 have gZ:=oi.ix (kd:=.i64) (i:=n) C9 xL (by omega)
 have ci:=oi.mw hl rfl
 obtain ⟨v2,jc,o2⟩:=oi.pop (kd:=.i64) (n:=n) (by decide) C9 xL (by omega) (by intro e;rw [e] at hn;simp at hn)
 have ej:=bY vi
 have jI:=bY v2
 have gj:=py
 have vt:∀ (x:Value) (h:Heap) (K:Value→Heap→Prop),aW (some (.iface 3 x)) h K=K (.iface 3 x) h:=fun _ _ _=>rfl
 rw [ao hc]
 refine Ok.aH rfl zxY (br LR) rfl (m:=28) rfl ?_
 simp only [syms,aa,seval,ME,q.lay,Vc,ej,cz,hw,gZ,ci,gj,jc,jI,Xm,vt,WA]
 obtain ⟨xa,xn,xc,rfl⟩:=o2.shape
 refine HB q CY rfl rfl (by simp) rfl (fun h3 q3 c3=>?_)
 replace q3:Holds h3 T0 (.row [.slice xa xn xc,ve,.map (some FM)] 176 false):=q3
 have z3:=z.cM c3 cV.1 (by omega)
 have fL:aM [T0] hc h3:=(aM.refl [T0] hc).iJ c3 (.inl (by simp))
 have fV:=st.Pv fL q3 o2 oe
 clear z
 have z:=z3
 rw [ao h3]
 simp only [syms,aa,seval,ME,Xm,vt,WA]
 exact hk _ (z.aw _ _ (by omega)) (fL.trans (aM.lay _ _ _ []) (fun _ h=>nomatch h)) (fV.lay _ _)
theorem zwi {l:List Int} {n:Nat} {x:Int} (hn:l.length=n+1) (hl:l[n]? = some x):l.Perm (x::l.take n):=by
 have e:l=l.take n++[x]:=by
  have h1:=(List.take_append_drop n l).symm
  rw [List.drop_eq_getElem_cons (by omega),(List.getElem?_eq_some_iff.1 hl).2,List.drop_of_length_le (by omega)] at h1
  exact h1
 conv=>lhs;rw [e]
 exact List.perm_append_singleton x (l.take n)
theorem ztg (h hc:Heap) (z:Ext h hc) (T0 FI FE FM:Nat) (free:List Int) (aU:List ff) (kv:List (ByteArray × Value)) (n:Nat) (st:eH h.size hc T0 FI FE FM free aU kv) (hn:free.length=n+1) (K:Value→Heap→Prop) (hk:∀ h' x rest,Ext h h'→aM [T0,FI] hc h'→eH h.size h' T0 FI FE FM rest aU kv→free.Perm (x::rest)→K (.iface 3 (.int .i64 x)) h'):Ok Tryz.prog ae ov 122 [sS T0] hc K:=by
 obtain ⟨⟨vi,ve,q,oi,oe⟩,mm,aP,cV,lP⟩:=id st
 have hle:=oi.mX
 have hw:IntKind.i64.wrap (((free.length:Nat):Int) - 1)=(n:Int):=by rw [wrap_i64 (by omega) (by omega)];omega
 have jd:∀ (h:Heap) (K:Value→Heap→Prop),aW (some (sS T0)) h K=K (sS T0) h:=fun _ _=>rfl
 have vt:∀ (x:Value) (h:Heap) (K:Value→Heap→Prop),aW (some (.iface 3 x)) h K=K (.iface 3 x) h:=fun _ _ _=>rfl
 obtain ⟨a,ha,IE⟩:=eU (l:=free) (i:=0) (by omega)
 obtain ⟨b,hb,lB⟩:=eU (l:=free) (i:=n) (by omega)
 rw [ao hc]
 refine Ok.aH rfl zwZ (br KQ) rfl (m:=14) rfl ?_
 simp only [syms,aa,seval,vS,tf,jd]
 refine th (f:=121) (y:=vi) (by rw [zrE,vy q];rfl) ?_
 refine UZ free FI vi _ (oi.lay _ _) _ (fun h' x=>?_)
 have fr:aM [T0,FI] hc h':=(aM.refl [T0,FI] hc).over x
 (replace z:=z.an x (by omega);(replace st:=st.over x);rw [ao h'])
 clear q oi oe mm
 obtain ⟨⟨vi,ve,q,oi,oe⟩,mm,_,_,_⟩:=id st
 simp only [syms,aa,seval,vS,tf,jd,hw]
 refine th (f:=260) (y:=vi) (by rw [RC,vy q];rfl) ?_
 refine RU free FI vi 0 n a b h _ (z.aw _ _ (by omega)) cV.2.1 (oi.lay _ _) IE lB _ (fun h3 z3 fL o3=>?_)
 have fV:=(st.lay [] h'.low).qO (q.on _ _) (oe.lay _ _) fL o3
 replace fr:=(fr.trans (aM.lay h' [] h'.low []) (fun _ h=>nomatch h)).trans fL (fun B hB=>.inl (by rw [List.mem_singleton.1 hB];simp))
 have Ao:=RE IE lB
 have NS:((free.set 0 b).set n a).length=n+1:=by rw [List.length_set,List.length_set];exact hn
 clear q oi oe o3 fL st z mm
 have z:=z3
 rw [ao h3]
 simp only [syms,aa,seval,vS,jd]
 refine zzo h _ (z.aw _ _ (by omega)) T0 FI FE FM _ aU kv n (fV.lay _ _) (by omega) _ (fun h4 f4 bb z4 ju lW Tm=>?_)
 replace fr:=(fr.trans (aM.lay h3 [] h3.low []) (fun _ h=>nomatch h)).trans ju (fun B hB=>.inl (by rw [List.mem_singleton.1 hB];simp))
 have yu:=Tm.length_eq
 obtain ⟨c,wF,Ns⟩:=eU (l:=f4) (i:=n) (by omega)
 clear z z3 fV
 have z:=z4
 rw [ao h4]
 simp only [syms,aa,seval,vS,tf,jd]
 refine th (f:=258) (y:=.pointer (some ⟨T0,0,none⟩)) (by rw [zzi]) ?_
 refine zti h _ (z.aw _ _ (by omega)) T0 FI FE FM f4 aU kv n c (lW.lay _ _) (by omega) Ns _ (fun h5 z5 ni xJ=>?_)
 replace fr:=(fr.trans (aM.lay h4 [] h4.low []) (fun _ h=>nomatch h)).trans ni (fun B hB=>.inl (by rw [List.mem_singleton.1 hB];simp))
 clear z z4
 have z:=z5
 rw [ao h5]
 simp only [syms,aa,seval,vS,vt]
 exact hk _ c _ (z.aw _ _ (by omega)) (fr.trans (aM.lay _ _ _ []) (fun _ h=>nomatch h)) (xJ.lay _ _) ((Ao.trans Tm).trans (zwi (by omega) Ns))
theorem zGM:pU ae 170 170=true:=by kernel_rfl
theorem zqu (h hc:Heap) (z:Ext h hc) (T0 FI FE FM:Nat) (free:List Int) (aU:List ff) (kv:List (ByteArray × Value)) (n:Int) (st:eH h.size hc T0 FI FE FM free aU kv) (hn:free.length < 800000000) (K:Value→Heap→Prop) (hk:∀ h' I2,Ext h h'→aM [T0,FI] hc h'→eH h.size h' T0 I2 FE FM (free++[n]) aU kv→(I2=FI∨hc.size≤I2)→K undef h'):Ok Tryz.prog ae ov 259 [.pointer (some ⟨T0,0,none⟩),.iface 3 (.int .i64 n)] hc K:=by
 obtain ⟨⟨vi,ve,q,oi,oe⟩,mm,aP,cV,lP⟩:=id st
 have ej:=bY vi
 have gj:=py
 have jd:∀ (h:Heap) (K:Value→Heap→Prop),aW (some (.iface 3 (.int .i64 n))) h K=K (.iface 3 (.int .i64 n)) h:=fun _ _=>rfl
 rw [ao hc]
 refine Ok.aH rfl zxZ (br LS) rfl (m:=20) rfl ?_
 have BI:∀ (a:Array Value) (h:Heap) (K:Value→Heap→Prop),aW (some (.tuple a)) h K=K (.tuple a) h:=fun _ _ _=>rfl
 simp only [syms,aa,seval,Fs,ziv,zna,jd,BI,gj,q.lay,Vc,ej,lG,zGM]
 refine cJ.app (x:=n) (j:=0) FG rfl (by decide) C9 zpe oi rfl (by omega) (by omega) (fun v3 h3 I3 o3 mF _ qZ=>?_)
 have c3:=qZ lP.2.1
 have z3:=z.cM c3 cV.2.1 (by omega)
 have fL:aM [FI] hc h3:=(aM.refl [FI] hc).iJ c3 (.inl (by simp))
 have q3:=q.bE c3 aP.1
 have lC:=c3.size
 rw [bm] at lC
 obtain ⟨xa,xn,xc,rfl⟩:=o3.shape
 have aqZ:I3 < h3.size:=o3.lt (by simp)
 clear z
 have z:=z3
 rw [ao h3]
 simp only [syms,aa,seval,Fs]
 refine HB q3 CY rfl rfl (by simp) rfl (fun h4 q4 c4=>?_)
 replace q4:Holds h4 T0 (.row [.slice xa xn xc,ve,.map (some FM)] 176 false):=q4
 have z4:=z.cM c4 cV.1 (by omega)
 have abv:I3≠T0:=by
  rcases mF with e|e
  ·rw [e.1];exact Ne.symm aP.1
  ·rw [e,bm];omega
 have ju:aM [T0,FI] hc h4:=(fL.mono (fun B hB=>by rw [List.mem_singleton.1 hB];simp)).iJ c4 (.inl (by simp))
 have vp:=c4.size
 rw [bm] at vp
 have M6:I3=FI∨hc.size≤I3:=by
  rcases mF with e|e
  ·exact .inl e.1
  ·right;rw [e,bm];omega
 have lW:=st.Hm ju M6 (by simp only [List.length_nil] at vp;omega) q4 (o3.bE c4 abv) oe
 clear z z3
 have z:=z4
 rw [ao h4]
 simp only [syms,aa,seval,Fs]
 exact hk _ I3 (z.aw _ _ (by omega)) (ju.trans (aM.lay _ _ _ []) (fun _ h=>nomatch h)) (lW.lay _ _) M6
theorem zqt (h hc:Heap) (z:Ext h hc) (T0 FI FE FM:Nat) (free:List Int) (aU:List ff) (kv:List (ByteArray × Value)) (n:Int) (st:eH h.size hc T0 FI FE FM free aU kv) (hn:free.length < 800000000) (K:Value→Heap→Prop) (hk:∀ h' I2 f2,Ext h h'→aM [T0,FI] hc h'→eH h.size h' T0 I2 FE FM f2 aU kv→(I2=FI∨hc.size≤I2)→f2.Perm (n::free)→K undef h'):Ok Tryz.prog ae ov 124 [sS T0,.iface 3 (.int .i64 n)] hc K:=by
 have jd:∀ (h:Heap) (K:Value→Heap→Prop),aW (some (sS T0)) h K=K (sS T0) h:=fun _ _=>rfl
 have hw:IntKind.i64.wrap ((((free++[n]).length:Nat):Int) - 1)=(free.length:Int):=by rw [List.length_append,List.length_singleton,wrap_i64 (by omega) (by omega)];omega
 rw [ao hc]
 refine Ok.aH rfl zw1 (br KS) rfl (m:=10) rfl ?_
 simp only [syms,aa,seval,zw,tf,jd]
 refine th (f:=259) (y:=.pointer (some ⟨T0,0,none⟩)) (by rw [zvz]) ?_
 refine zqu h _ (z.aw _ _ (by omega)) T0 FI FE FM free aU kv n (st.lay _ _) hn _ (fun h3 I3 z3 fL fV mF=>?_)
 have fr:aM [T0,FI] hc h3:=(aM.lay hc [] hc.low [T0,FI]).trans fL (fun B hB=>.inl hB)
 have hI:I3=FI∨hc.size≤I3:=mF.imp id (fun e=>by rw [bm] at e;omega)
 clear z st fL
 have z:=z3
 have st:=fV
 clear z3 fV
 rw [ao h3]
 obtain ⟨⟨vi,ve,q,oi,oe⟩,mm,_,_,_⟩:=id st
 simp only [syms,aa,seval,zw,tf,jd]
 refine th (f:=121) (y:=vi) (by rw [zrE,vy q];rfl) ?_
 refine UZ _ I3 vi _ (oi.lay _ _) _ (fun h' x=>?_)
 (replace z:=z.an x (by omega);(replace st:=st.over x);(replace fr:=fr.over x);rw [ao h'])
 clear q oi oe mm
 simp only [syms,aa,seval,zw,jd,hw]
 refine zH1 h _ (z.aw _ _ (by omega)) T0 I3 FE FM _ aU kv free.length (st.lay _ _) (by rw [List.length_append,List.length_singleton];omega) _ (fun h4 f4 z4 ju lW Tm=>?_)
 have frf:aM [T0,FI] hc h4:=(fr.trans (aM.lay h' [] h'.low []) (fun _ h=>nomatch h)).trans ju (fun B hB=>by
  rw [List.mem_singleton.1 hB]
  exact hI.imp (fun e=>by rw [e];simp) id)
 clear z
 have z:=z4
 rw [ao h4]
 simp only [syms,aa,seval,zw]
 exact hk _ I3 f4 (z.aw _ _ (by omega)) (frf.trans (aM.lay _ _ _ []) (fun _ h=>nomatch h)) (lW.lay _ _) hI ((Tm.symm).trans (List.perm_append_singleton n free))
theorem gh (A:Nat) (h:Heap) (K:Value→Heap→Prop):aW (some (.map (some A))) h K=K (.map (some A)) h:=rfl
theorem bl (k:IntKind) (n:Int) (h:Heap) (K:Value→Heap→Prop):aW (some (.int k n)) h K=K (.int k n) h:=rfl
theorem mC (x):cw Tryz.prog ae .eql 95 (.pointer (some x)) (.pointer none)=some (.bool false):=by kernel_rfl
theorem sZ (x):cw Tryz.prog ae .neq 95 (.pointer (some x)) (.pointer none)=some (.bool true):=by kernel_rfl
theorem Sw:ae.desc 174=some (.map 9 3):=by kernel_rfl
theorem EM:ae.desc 9=some .string:=by kernel_rfl
theorem Ij:ae.zero 3=some (.int .i64 0):=by kernel_rfl
theorem HR:ae.desc 173=some (.slice 178):=by kernel_rfl
theorem Kl:bJ ae 178=some 2:=by kernel_rfl
theorem zzv (t:ByteArray) (r:Option Nat) (h:Heap) (T0 FI FE FM N:Nat) (free:List Int) (aU:List ff) (kv:List (ByteArray × Value)) (st:eH N h T0 FI FE FM free aU kv) (hr:dG kv t=r.map fun i=>.int .i64 (i:Int)) (K:Value→Heap→Prop) (hk:∀ h',Ext h h'→K (.tuple #[.int .i64 ((r.getD 0:Nat):Int),.bool r.isSome]) h'):Ok Tryz.prog ae ov 75 [.pointer (some ⟨T0,0,none⟩),.string t] h K:=by
 obtain ⟨⟨vi,ve,q,oi,oe⟩,mm,aP,cV,lP⟩:=st
 have z:=Ext.refl h
 rw [ao h]
 refine Ok.aH rfl zDX (br V5) rfl (m:=19) rfl ?_
 simp only [syms,aa,seval,ZO,gh,bl,mC,sZ,q.lay,Km,Er]
 refine Rt mm Sw EM Ij ?_
 rw [hr]
 cases r with
 |none =>
  simp only [Option.map_none,Option.getD_none,Option.isSome_none,if_true] at hk ⊢
  simp only [syms,aa,seval,ZO,bl]
  exact hk _ (z.aw _ _ (by omega))
 |some i =>
  simp only [Option.map_some,Option.getD_some,Option.isSome_some,if_true] at hk ⊢
  simp only [syms,aa,seval,ZO,bl]
  exact hk _ (z.aw _ _ (by omega))
theorem _root_.Go.Am.cJ.gF {α:Type} {k:Nat} {cell:α→List Value} {h1:Heap} {u:TypeId} {A i j:Nat} {v:Value} {l:List α} {x:Value} {y:α} (f:cJ k cell h1 u A v l) (hx:l[i]? = some y) (hj:j < k) (hc:(cell y)[j]? = some x) (bs:List bh) (w:Nat):kW ((h1.lay bs w).get A) (i*k+j)=some x:=by
 obtain ⟨row,q,c⟩:=f.row hx
 have hg:=q.lay bs w
 rw [hg]
 unfold cut at c
 split at c
 ·simp only [Option.some.injEq] at c
  show row[i*k+j]? = some x
  have:=congrArg (fun l=>l[j]?) c
  simp only [List.getElem?_take,List.getElem?_drop,if_pos hj,hc] at this
  exact this
 ·cases c
theorem zGx (n:Nat) (x:ff) (h:Heap) (T0 FI FE FM N:Nat) (free:List Int) (aU:List ff) (kv:List (ByteArray × Value)) (st:eH N h T0 FI FE FM free aU kv) (hx:aU[n]? = some x) (K:Value→Heap→Prop) (hk:∀ h',Ext h h'→K (.bool (decide (0 < x.2))) h'):Ok Tryz.prog ae ov 123 [.pointer (some ⟨T0,0,none⟩),.int .i64 n] h K:=by
 obtain ⟨⟨vi,ve,q,oi,oe⟩,mm,aP,cV,lP⟩:=st
 have z:=Ext.refl h
 have cz:=fun (hh:Heap)=>oe.bc HR hh
 have iK:=(List.getElem?_eq_some_iff.1 hx).1
 have gZ:=oe.ix (kd:=.i64) (i:=n) HR Kl iK
 have c1:=oe.gF (j:=1) hx (by omega) rfl
 have ej:=bY ve
 rw [ao h]
 refine Ok.aH rfl zw0 (br KR) rfl (m:=29) rfl ?_
 simp only [syms,aa,seval,vT,gh,bl,mC,sZ,q.lay,ya,ej,cz]
 refine bt (fun _=>?_) (fun hn=>absurd hn (by omega))
 simp only [syms,aa,seval,vT,gh,bl,mC,sZ,q.lay,ya,ej,cz]
 refine bt (fun _=>?_) (fun hn=>absurd hn (by omega))
 simp only [syms,aa,seval,vT,gh,bl,mC,sZ,q.lay,ya,ej,cz,gZ,c1]
 rw [Hx]
 simp only [syms,aa,seval,vT]
 rw [Hx]
 simp only [syms,aa,seval,vT]
 exact hk _ (z.aw _ _ (by omega))
theorem UB:∀ (n:Nat) (l:List Int),l.Nodup→(∀ x∈l,0≤x∧x < n)→l.length≤n
 |0,l,_,h=>by
  cases l with
  |nil=>exact Nat.le_refl _
  |cons a l=>have:=h a List.mem_cons_self;omega
 |n+1,l,hn,h=>by
  by_cases hm:(n:Int)∈l
  ·have h1:=UB n (l.erase n) (hn.erase _) (fun x hx=>by
    have h2:=h x (List.mem_of_mem_erase hx)
    have h3:x≠n:=fun e=>by rw [e] at hx;exact (List.Nodup.not_mem_erase hn) hx
    omega)
   rw [List.length_erase_of_mem hm] at h1
   omega
  ·have h1:=UB n l hn (fun x hx=>by
    have h2:=h x hx
    have h3:x≠n:=fun e=>hm (e ▸ hx)
    omega)
   omega
theorem _root_.Go.Am.cS.sF {free:List Int} {aU:List ff} {kv:List (ByteArray × Value)} {us:ByteArray→Nat} (p:cS free aU kv us):free.length≤aU.length :=
 UB _ _ p.nd (fun x hx=>by obtain ⟨i,rfl,hi⟩:=p.fr x hx;omega)
theorem ael (a b:Value):([a,b]:List Value)[1]? = some b:=rfl
theorem cZ (s:ByteArray) (h:Heap) (K:Value→Heap→Prop):aW (some (.string s)) h K=K (.string s) h:=rfl
theorem Hn (t:TypeId) (x:Value) (h:Heap) (K:Value→Heap→Prop):aW (some (.iface t x)) h K=K (.iface t x) h:=rfl
theorem Mk:nV ae 178 []=some (.agg #[.string ByteArray.empty,.int .i64 0]):=by kernel_rfl
theorem j9 (a:Array Value) (h:Heap) (K:Value→Heap→Prop):aW (some (.agg a)) h K=K (.agg a) h:=rfl
theorem zzq (h hc:Heap) (z:Ext h hc) (T0 FI FE FM:Nat) (free:List Int) (aU:List ff) (kv:List (ByteArray × Value)) (us:ByteArray→Nat) (t:ByteArray) (i:Nat) (st:eH h.size hc T0 FI FE FM free aU kv) (p:cS free aU kv us) (hl:dG kv t=some (.int .i64 (i:Int))) (vh:aU.length < 800000000) (kF:us t < 1000000000000) (K:Value→Heap→Prop)
 (hk:∀ h' I2 f2 e2 AF,Ext h h'→aM [T0,FI,FE,FM] hc h'→eH h.size h' T0 I2 FE FM f2 e2 AF→cS f2 e2 AF (gV us t (us t - 1))→(I2=FI∨hc.size≤I2)→e2.length=aU.length→K (.int .i64 0) h'):Ok Tryz.prog ae ov 76 [.pointer (some ⟨T0,0,none⟩),.int .i64 i] hc K:=by
 obtain ⟨j,hj,AD⟩:=p.num hl
 have di:i=j:=by cases hj;rfl
 subst di
 clear hj
 have kC:=p.pos hl
 have sJ:=p.sF
 have iK:=(List.getElem?_eq_some_iff.1 AD).1
 have hw:IntKind.i64.wrap (((us t:Nat):Int) - 1)=((us t - 1:Nat):Int):=by rw [wrap_i64 (by omega) (by omega)];omega
 obtain ⟨⟨vi,ve,q,oi,oe⟩,mm,aP,cV,lP⟩:=id st
 have gZ:=oe.ix (kd:=.i64) (i:=i) HR Kl iK
 have c1:=oe.gF (j:=1) AD (by omega) rfl
 have ej:=bY ve
 rw [ao hc]
 refine Ok.aH rfl zDY (br V6) rfl (m:=57) rfl ?_
 simp only [syms,aa,seval,uV,gh,bl,mC,sZ]
 refine zGx i _ _ T0 FI FE FM h.size free aU kv (st.lay _ _) AD _ (fun h' x=>?_)
 rw [decide_eq_true (by show (0:Int) < (us t:Nat);omega)]
 have fr:aM [T0,FI,FE,FM] hc h':=(aM.refl [T0,FI,FE,FM] hc).over x
 replace st:=st.over x
 replace q:=q.over x
 replace oe:=oe.over x
 clear c1
 have c1:=oe.gF (j:=1) AD (by omega) rfl
 replace oi:=oi.over x
 replace mm:=mm.over x
 (replace z:=z.an x (by omega);rw [ao h'])
 simp only [syms,aa,seval,uV,gh,bl,mC,sZ]
 (with_reducible_and_instances apply b8);(· rfl)
 simp only [syms,aa,seval,uV,gh,bl,mC,sZ,q.lay,ya,ej,gZ,c1,hw]
 refine cJ.store (off:=1) (y:=(t,((us t - 1:Nat):Int))) Rk oe AD xL (by omega) rfl rfl rfl rfl (fun h3 vu c3=>?_)
 have z3:=z.cM c3 cV.2.2.1 (by omega)
 have yx:=fr.size
 have fL:aM [T0,FI,FE,FM] hc h3:=fr.iJ c3 (.inl (by simp))
 have q3:=q.bE c3 aP.2.1
 have Ec:=oi.bE c3 aP.2.2.2.1
 have Eb:=mm.bE c3 (Ne.symm aP.2.2.2.2.2)
 have lC:=fL.size
 clear z q oi oe mm c1 fr
 have z:=z3
 have G4:(aU.set i (t,((us t - 1:Nat):Int)))[i]? = some (t,((us t - 1:Nat):Int)):=by rw [List.getElem?_set,if_pos rfl,if_pos iK]
 have c1:=vu.gF (j:=1) G4 (by omega) rfl
 have c0:=vu.gF (j:=0) G4 (by omega) rfl
 rw [ao h3]
 simp only [syms,aa,seval,uV,gh,bl,q3.lay,ya,ej,gZ,c1]
 refine nX (fun heq=>?_) (fun asd=>?_)
 ·simp only [syms,aa,seval,uV]
  with_reducible first|refine dH (by simp only [uV]) (z.aw _ _ (by omega)) ?_
  simp only [syms,aa,seval,uV,gh,bl,cZ,q3.lay,ya,Km,ej,gZ,c0,zEq]
  refine zuN Eb Sw EM (fun h4 m4 c4=>?_)
  have hz:=z.size
  refine nQ (A:=FM) (by kernel_rfl) (by rw [bm];omega) (by omega) (by simpa only [el,bm,List.append_nil,List.length_cons,List.length_nil,Nat.add_zero] using c4) ?_
  have z4:=(z.aw [] (h3.size+0) (by omega)).step c4 cV.2.2.2
  have ju:aM [T0,FI,FE,FM] hc h4:=fL.iJ c4 (.inl (by simp))
  have q4:=q3.bE c4 aP.2.2.1
  have Tz:=Ec.bE c4 aP.2.2.2.2.1
  have Ty:=vu.bE c4 aP.2.2.2.2.2
  clear z q3 Ec vu Eb c1 c0
  have z:=z4
  rw [ao h4]
  simp only [syms,aa,seval,uV]
  ((with_reducible refine ⟨z.cN.lay _ _,?_⟩);(intro _ h' zz x _);(simp only [el,List.append_nil] at x))
  replace q4:=q4.over x
  replace Tz:=Tz.over x
  replace Ty:=Ty.over x
  replace m4:=m4.over x
  replace ju:=ju.over x
  replace z:=zz
  rw [ao h']
  simp only [syms,aa,seval,uV,gh,bl,cZ,q4.lay,ya,Km,ej,gZ,Mk,j9]
  have adm:(aU.set i (t,((us t - 1:Nat):Int)))[i]? = some (t,((us t - 1:Nat):Int)):=G4
  refine cJ.pw (y:=(ByteArray.empty,0)) Rk Ty adm Kl (by omega) rfl rfl rfl rfl (fun h5 Pj c5=>?_)
  have vp:=ju.size
  have z5:=z.cM c5 cV.2.2.1 (by omega)
  have ni:aM [T0,FI,FE,FM] hc h5:=ju.iJ c5 (.inl (by simp))
  have q5:=q4.bE c5 aP.2.1
  have TA:=Tz.bE c5 aP.2.2.2.1
  have m5:=m4.bE c5 (Ne.symm aP.2.2.2.2.2)
  have D0:=ni.size
  clear z q4 Tz Ty m4 ju z3 z4 fL
  have z:=z5
  rw [List.set_set] at Pj
  have xJ:eH h.size h5 T0 FI FE FM free (aU.set i (ByteArray.empty,0)) (mx kv t):=⟨⟨vi,ve,q5,TA,Pj⟩,m5,aP,cV,⟨by omega,by omega,by omega,by omega⟩⟩
  have p5:=p.gone hl (ByteArray.empty,0)
  rw [ao h5]
  simp only [syms,aa,seval,uV,Xm,zvl,Hn,WA]
  refine zqt h _ (z.aw _ _ (by omega)) T0 FI FE FM free _ _ (i:Int) (xJ.lay _ _) (by omega) _ (fun h6 I2 f2 z6 qf st6 hI hp6=>?_)
  replace ni:=(ni.trans (aM.lay h5 [] h5.low []) (fun _ h=>nomatch h)).trans qf (fun B hB=>.inl (by rcases List.mem_cons.1 hB with rfl|hB;simp;rw [List.mem_singleton.1 hB];simp))
  have p6:=p5.perm hp6.symm
  rw [show (0:Nat)=us t - 1 by omega] at p6
  have hI6:I2=FI∨hc.size≤I2:=hI.imp id (fun e=>by rw [bm] at e;omega)
  clear z z5
  have z:=z6
  rw [ao h6]
  simp only [syms,aa,seval,uV]
  exact hk _ I2 f2 _ _ (z.aw _ _ (by omega)) (ni.trans (aM.lay _ _ _ []) (fun _ h=>nomatch h)) (st6.lay _ _) p6 hI6 (by rw [List.length_set])
 ·simp only [syms,aa,seval,uV]
  have fV:eH h.size h3 T0 FI FE FM free (aU.set i (t,((us t - 1:Nat):Int))) kv:=⟨⟨vi,ve,q3,Ec,vu⟩,Eb,aP,cV,⟨by omega,by omega,by omega,by omega⟩⟩
  exact hk _ FI free _ _ (z.aw _ _ (by omega)) (fL.trans (aM.lay _ _ _ []) (fun _ h=>nomatch h)) (fV.lay _ _) (p.turn hl (m:=us t - 1) (by omega)) (.inl rfl) (by rw [List.length_set])
theorem zGN:pU ae 173 173=true:=by kernel_rfl
theorem zIj:bJ ae 173=some 1:=by kernel_rfl
theorem ZB (t:ByteArray):nV ae 178 [(0,.string t),(1,.int .i64 1)]=some (.agg #[.string t,.int .i64 1]):=by kernel_rfl
theorem gP (a:Array Value) (h:Heap) (K:Value→Heap→Prop):aW (some (.tuple a)) h K=K (.tuple a) h:=rfl
theorem zzC (h hc:Heap) (z:Ext h hc) (T0 FI FE FM:Nat) (free:List Int) (aU:List ff) (kv:List (ByteArray × Value)) (us:ByteArray→Nat) (t:ByteArray) (st:eH h.size hc T0 FI FE FM free aU kv) (p:cS free aU kv us) (ht:t.size≠0) (YM:t.size≤255) (kB:kv.length < 65536) (vh:aU.length < 700000000) (kF:us t < 1000000000000) (K:Value→Heap→Prop)
 (hk:∀ h' n I2 E2 f2 e2 AF,Ext h h'→aM [T0,FI,FE,FM] hc h'→eH h.size h' T0 I2 E2 FM f2 e2 AF→cS f2 e2 AF (gV us t (us t+1))→(I2=FI∨hc.size≤I2)→(E2=FE∨hc.size≤E2)→e2.length≤aU.length+1→K (.tuple #[.int .i64 n,.int .i64 0]) h'):Ok Tryz.prog ae ov 73 [.pointer (some ⟨T0,0,none⟩),.string t] hc K:=by
 have sJ:=p.sF
 obtain ⟨⟨vi,ve,q,oi,oe⟩,mm,aP,cV,lP⟩:=id st
 have ej:=bY ve
 have vt:=bY vi
 have IU:=fun (b:List bh) (w:Nat)=>adD (bs:=b) (w:=w) mm Sw
 have hle:=fun (hh:Heap)=>oe.bc HR hh
 rw [ao hc]
 refine Ok.aH rfl zDV (br V3) rfl (m:=94) rfl ?_
 simp only [syms,aa,seval,oO,gh,bl,mC,sZ]
 refine bt (fun he=>absurd (by rw [he];rfl) ht) (fun _=>?_)
 simp only [syms,aa,seval,oO,gh,bl,mC,sZ]
 refine bt (fun he=>absurd he (by omega)) (fun _=>?_)
 simp only [syms,aa,seval,oO,gh,bl,mC,sZ,q.lay,Km,Er]
 refine Rt mm Sw EM Ij ?_
 cases hl:dG kv t with
 |some v =>
  obtain ⟨i,rfl,AD⟩:=p.num hl
  have iK:=(List.getElem?_eq_some_iff.1 AD).1
  have gZ:=oe.ix (kd:=.i64) (i:=i) HR Kl iK
  have c1:=oe.gF (j:=1) AD (by omega) rfl
  have hw:IntKind.i64.wrap (((us t:Nat):Int)+1)=((us t+1:Nat):Int):=by rw [wrap_i64 (by omega) (by omega)];omega
  simp only [Option.getD_some,Option.isSome_some,if_true]
  simp only [syms,aa,seval,oO,gh,bl,mC,sZ,q.lay,ya,ej,gZ,c1,hw]
  refine cJ.store (off:=1) (y:=(t,((us t+1:Nat):Int))) Rk oe AD xL (by omega) rfl rfl rfl rfl (fun h3 vu c3=>?_)
  have z3:=z.cM c3 cV.2.2.1 (by omega)
  have fL:aM [T0,FI,FE,FM] hc h3:=(aM.refl _ hc).iJ c3 (.inl (by simp))
  have q3:=q.bE c3 aP.2.1
  have Ec:=oi.bE c3 aP.2.2.2.1
  have Eb:=mm.bE c3 (Ne.symm aP.2.2.2.2.2)
  have lC:=fL.size
  clear z q oi oe mm c1
  have z:=z3
  rw [ao h3]
  simp only [syms,aa,seval,oO,bl]
  have fV:eH h.size h3 T0 FI FE FM free (aU.set i (t,((us t+1:Nat):Int))) kv:=⟨⟨vi,ve,q3,Ec,vu⟩,Eb,aP,cV,⟨by omega,by omega,by omega,by omega⟩⟩
  exact hk _ _ FI FE free _ _ (z.aw _ _ (by omega)) (fL.trans (aM.lay _ _ _ []) (fun _ h=>nomatch h)) (fV.lay _ _) (p.turn hl (m:=us t+1) (by omega)) (.inl rfl) (.inl rfl) (by rw [List.length_set];omega)
 |none =>
  have hzu:=p.zero hl
  simp only [Option.getD_none,Option.isSome_none,if_true]
  simp only [syms,aa,seval,oO,gh,bl,mC,sZ,q.lay,Km,IU]
  refine bt (fun he=>absurd he (by omega)) (fun _=>?_)
  simp only [syms,aa,seval,oO,gh,bl,mC,sZ,q.lay,ya,Vc,ej,vt,hle]
  refine UZ free FI vi _ (oi.lay _ _) _ (fun h' x=>?_)
  replace st:=st.over x
  have fr:aM [T0,FI,FE,FM] hc h':=(aM.refl [T0,FI,FE,FM] hc).over x
  replace q:=q.over x
  replace oi:=oi.over x
  replace oe:=oe.over x
  replace mm:=mm.over x
  (replace z:=z.an x (by omega);rw [ao h'])
  simp only [syms,aa,seval,oO,bl]
  refine bt (fun kC=>?_) (fun hzero=>?_)
  focus
   obtain ⟨nf,hnf⟩:∃ nf,free.length=nf+1:=⟨free.length - 1,by omega⟩
   simp only [syms,aa,seval,oO,Xm,zvl,Hn,WA,mC,sZ]
   refine ztg h _ (z.aw _ _ (by omega)) T0 FI FE FM free aU kv nf (st.lay _ _) hnf _ (fun hb xx F2 z2 Iz B3 DV=>?_)
   have fL:aM [T0,FI,FE,FM] hc hb:=(fr.trans (aM.lay h' [] h'.low []) (fun _ h=>nomatch h)).trans Iz (fun B hB=>.inl (by rcases List.mem_cons.1 hB with rfl|hB;simp;rw [List.mem_singleton.1 hB];simp))
   obtain ⟨m,rfl,hm,pp⟩:=p.pop hl DV
   obtain ⟨E2,wx⟩:∃ E2,E2=FE:=⟨_,rfl⟩
   obtain ⟨e2,q8⟩:∃ e2,e2=aU:=⟨_,rfl⟩
   rw [← wx,← q8] at B3
   rw [← q8] at pp hm
   have hE:E2=FE∨hc.size≤E2:=.inl wx
   have NC:e2.length≤aU.length+1:=by rw [q8];omega
   clear z fr Iz st wx q8 DV q oi oe mm ej vt aP cV lP
   rw [ao hb]
   simp only [syms,aa,seval,oO,ziv,zna,Hn,bl,gP]
  rotate_left
  focus
   simp only [syms,aa,seval,oO,bl,q.lay,ya,ej,Mk,j9,lG,zGN]
   refine cJ.app (x:=(ByteArray.empty,0)) (j:=0) Rk rfl (by decide) HR zkg oe rfl (by omega) (by omega) (fun v3 h3 E2 vu hE3 _ qZ=>?_)
   have To:=fr.size
   have c3:=qZ (by omega)
   have z3:=z.cM c3 cV.2.2.1 (by omega)
   have fL:aM [T0,FI,FE,FM] hc h3:=fr.iJ c3 (.inl (by simp))
   have q3:=q.bE c3 aP.2.1
   have Ec:=oi.bE c3 aP.2.2.2.1
   have Eb:=mm.bE c3 (Ne.symm aP.2.2.2.2.2)
   have lC:=c3.size
   rw [bm] at lC
   obtain ⟨xa,xn,xc,rfl⟩:=vu.shape
   have aqU:E2 < h3.size:=vu.lt (by simp)
   have hE:E2=FE∨hc.size≤E2:=by
    rcases hE3 with e|e
    ·exact .inl e.1
    ·right;rw [e,bm];omega
   clear z
   have z:=z3
   rw [ao h3]
   simp only [syms,aa,seval,oO]
   have Aj:T0≠E2∧FI≠E2∧E2≠FM:=by
    rcases hE with e|e
    ·rw [e];exact ⟨aP.2.1,aP.2.2.2.1,aP.2.2.2.2.2⟩
    ·exact ⟨by omega,by omega,by omega⟩
   refine HB q3 zIj rfl rfl (by simp) rfl (fun hb q4 c4=>?_)
   replace q4:Holds hb T0 (.row [vi,.slice xa xn xc,.map (some FM)] 176 false):=q4
   have z2:=z.cM c4 cV.1 (by omega)
   have asr:=fL.size
   replace fL:aM [T0,FI,FE,FM] hc hb:=fL.iJ c4 (.inl (by simp))
   have vp:=c4.size
   rw [bm] at vp
   obtain ⟨F2,wi⟩:∃ F2,F2=free:=⟨_,rfl⟩
   obtain ⟨e2,q8⟩:∃ e2,e2=aU++[((ByteArray.empty,0):ff)]:=⟨_,rfl⟩
   obtain ⟨m,yv⟩:∃ m,m=aU.length:=⟨_,rfl⟩
   have B3:eH h.size hb T0 FI E2 FM F2 e2 kv:=⟨⟨vi,.slice xa xn xc,q4,by rw [wi];exact Ec.bE c4 (Ne.symm aP.1),by rw [q8];exact vu.bE c4 (Ne.symm Aj.1)⟩,Eb.bE c4 (Ne.symm aP.2.2.1),⟨aP.1,Aj.1,aP.2.2.1,Aj.2.1,aP.2.2.2.2.1,Aj.2.2⟩,⟨cV.1,cV.2.1,by rcases hE with e|e;(rw [e];exact cV.2.2.1);(have:=z.size;have:=lP.1;omega),cV.2.2.2⟩,⟨by omega,by omega,by omega,by omega⟩⟩
   have NC:e2.length≤aU.length+1:=by rw [q8,List.length_append];exact Nat.le_refl _
   have hm:m < e2.length:=by rw [q8,yv,List.length_append];simp
   have pp:cS F2 (e2.set m (t,1)) (gC kv t (.int .i64 (m:Int))) (gV us t 1):=by rw [q8,yv,wi];exact p.more hl _
   rw [← yv]
   clear q oi oe mm q3 Ec vu Eb aP cV lP ej vt z st fr z3 wi q8
   rw [ao hb]
   simp only [syms,aa,seval,oO]
  rotate_left
  all_goals
   obtain ⟨⟨vi2,Zb,q,oi,oe⟩,mm,aP,cV,lP⟩:=id B3
   have z:=z2
   clear z2
   obtain ⟨x0,hx0⟩:∃ x0,e2[m]? = some x0:=⟨_,List.getElem?_eq_getElem hm⟩
   have gZ:=oe.ix (kd:=.i64) (i:=m) HR Kl hm
   have ej:=bY Zb
   with_reducible first|refine dH (by simp only [oO]) (z.aw _ _ (by omega)) ?_
   simp only [syms,aa,seval,oO,gh,bl,cZ,j9,ZB,q.lay,ya,Km,ej,gZ]
   refine cJ.pw (y:=(t,1)) Rk oe hx0 Kl (by omega) rfl rfl rfl rfl (fun h5 Pj c5=>?_)
   have hz:=z.size
   refine nQ (A:=E2) (by kernel_rfl) (by rw [bm];omega) (by omega) (by simpa only [el,bm,List.append_nil,List.length_cons,List.length_nil,Nat.add_zero] using c5) ?_
   have z5:=(z.aw [] (hb.size+0) (by omega)).step c5 cV.2.2.1
   have ni:aM [E2] hb h5:=(aM.refl [E2] hb).iJ c5 (.inl (by simp))
   have q5:=q.bE c5 aP.2.1
   have TA:=oi.bE c5 aP.2.2.2.1
   have YZ:=mm.bE c5 (Ne.symm aP.2.2.2.2.2)
   clear z q oi oe mm
   have z:=z5
   rw [ao h5]
   simp only [syms,aa,seval,oO,zuc]
   refine zpP YZ Sw EM Ij (fun h6 xx s bb Bg c6 Bm=>?_)
   have hz:=z.size
   refine nQ (A:=FM) (by kernel_rfl) (by rw [bm];omega) (by omega) (by simpa only [el,bm,List.append_nil,List.length_cons,List.length_nil,Nat.add_zero] using c6) ?_
   have z6:=(z.aw [] (h5.size+0) (by omega)).step c6 cV.2.2.2
   have qf:aM [E2,FM] hb h6:=(ni.mono (fun B hB=>by rw [List.mem_singleton.1 hB];simp)).iJ c6 (.inl (by simp))
   have q6:=q5.bE c6 aP.2.2.1
   have Y3:=TA.bE c6 aP.2.2.2.2.1
   have Y2:=Pj.bE c6 aP.2.2.2.2.2
   clear z q5 TA Pj YZ
   have z:=z6
   rw [ao h6]
   simp only [syms,aa,seval,oO,gh,bl,zpl]
   refine Bm _ (Bg.on _ _) _ _ (fun h7 m7 c7=>?_)
   have hz:=z.size
   refine nQ (A:=FM) (by kernel_rfl) (by rw [bm];omega) (by omega) (by simpa only [el,bm,List.append_nil,List.length_cons,List.length_nil,Nat.add_zero] using c7) ?_
   have z7:=(z.aw [] (h6.size+0) (by omega)).step c7 cV.2.2.2
   have uY:aM [E2,FM] hb h7:=qf.iJ c7 (.inl (by simp))
   have q7:=q6.bE c7 aP.2.2.1
   have BT:=Y3.bE c7 aP.2.2.2.2.1
   have BS:=Y2.bE c7 aP.2.2.2.2.2
   clear z q6 Y3 Y2
   have z:=z7
   rw [ao h7]
   simp only [syms,aa,seval,oO]
   ((with_reducible refine ⟨z.cN.lay _ _,?_⟩);(intro _ h8 zz x8 _);(simp only [el,List.append_nil] at x8))
   replace q7:=q7.over x8
   replace BT:=BT.over x8
   replace BS:=BS.over x8
   replace m7:=m7.over x8
   replace uY:=uY.over x8
   have fr8:aM [T0,FI,FE,FM] hc h8:=fL.trans uY (fun B hB=>by
    rcases List.mem_cons.1 hB with rfl|hB
    ·exact hE.imp (fun e=>by rw [e];simp) id
    ·rw [List.mem_singleton.1 hB];exact .inl (by simp))
   have IY:=uY.size
   clear z
   have z:=zz
   have st7:eH h.size h8 T0 FI E2 FM F2 (e2.set m (t,1)) (gC kv t (.int .i64 (m:Int))):=⟨⟨vi2,Zb,q7,BT,BS⟩,m7,aP,cV,⟨by omega,by omega,by omega,by omega⟩⟩
   rw [ao h8]
   simp only [syms,aa,seval,oO,bl]
   exact hk _ _ FI E2 F2 _ _ (z.aw _ _ (by omega)) (fr8.trans (aM.lay _ _ _ []) (fun _ h=>nomatch h)) (st7.lay _ _) (by rw [hzu];exact pp) (.inl rfl) hE (by rw [List.length_set];exact NC)
end Go.Proofs.YtkgojconmeeegaaGreatDoor

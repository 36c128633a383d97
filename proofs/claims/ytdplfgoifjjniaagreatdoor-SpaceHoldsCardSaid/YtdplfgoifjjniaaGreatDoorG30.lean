/- Texts by numbers, as plain data. No condition. -/
import Derived.Test.YtdplfgoifjjniaaGreatDoorG29
import Derived.Test.YtdplfgoifjjniaaGreatDoorG24
set_option linter.unusedSimpArgs false
set_option linter.unusedVariables false
set_option maxRecDepth 100000
set_option maxHeartbeats 0
namespace Go.Am
def gg (us:ByteArray→Nat) (t:ByteArray) (n:Nat):ByteArray→Nat:=fun x=>if x=t then n else us x
theorem vf (us:ByteArray→Nat) (t:ByteArray) (n:Nat):gg us t n t=n:=if_pos rfl
theorem sg {us:ByteArray→Nat} {t x:ByteArray} {n:Nat} (h:x≠t):gg us t n x=us x:=if_neg h
abbrev eD:=ByteArray × Int
def Mu (x:eD):List Value:=[.string x.1,.int .i64 x.2]
theorem LN (x:eD):(Mu x).length=2:=rfl
def zL (x:Int):List Value:=[.int .i64 x]
theorem YF (x:Int):(zL x).length=1:=rfl
structure cK (free:List Int) (aJ:List eD) (kv:List (ByteArray × Value)) (us:ByteArray→Nat):Prop where
 fr:∀ n∈free,∃ i:Nat,n=(i:Int)∧i < aJ.length
 nd:free.Nodup
 kn:(kv.map Prod.fst).Nodup
 val:∀ t v,cZ kv t=some v→∃ i:Nat,v=.int .i64 (i:Int)∧aJ[i]? = some (t,(us t:Int))∧(i:Int) ∉ free
 has:∀ t,(cZ kv t).isSome=true↔0 < us t
section
variable {free rest:List Int} {aJ:List eD} {kv:List (ByteArray × Value)} {us:ByteArray→Nat} {t:ByteArray} {v:Value} {n:Int} {i:Nat}
theorem cK.empty:cK [] [] [] (fun _=>0):=⟨fun _ h=>by simp at h,List.nodup_nil,by simp,fun t v h=>by simp [cZ] at h,fun t=>by simp [cZ]⟩
theorem cK.perm (p:cK free aJ kv us) (h:free.Perm rest):cK rest aJ kv us :=
 ⟨fun n hn=>p.fr n (h.mem_iff.2 hn),h.nodup_iff.1 p.nd,p.kn,fun t v hv=>(p.val t v hv).imp fun i hi=>⟨hi.1,hi.2.1,fun hh=>hi.2.2 (h.mem_iff.2 hh)⟩,p.has⟩
theorem cK.num (p:cK free aJ kv us) (h:cZ kv t=some v):∃ i:Nat,v=.int .i64 (i:Int)∧aJ[i]? = some (t,(us t:Int)):=(p.val t v h).imp fun i hi=>⟨hi.1,hi.2.1⟩
theorem cK.zero (p:cK free aJ kv us) (h:cZ kv t=none):us t=0:=by
 have:=p.has t
 rw [h] at this
 simp at this
 exact this
theorem cK.pos (p:cK free aJ kv us) (h:cZ kv t=some v):0 < us t:=(p.has t).1 (by rw [h];rfl)
theorem cK.turn (p:cK free aJ kv us) (h:cZ kv t=some (.int .i64 (i:Int))) {m:Nat} (hm:0 < m):cK free (aJ.set i (t,(m:Int))) kv (gg us t m):=by
 obtain ⟨j,hj,jN,hjf⟩:=p.val t _ h
 have dh:i=j:=by cases hj;rfl
 subst dh
 have kE:=(List.getElem?_eq_some_iff.1 jN).1
 refine ⟨fun n hn=>?_,p.nd,p.kn,fun t2 v2 h2=>?_,fun t2=>?_⟩
 ·obtain ⟨q,hq,rS⟩:=p.fr n hn
  exact ⟨q,hq,by rw [List.length_set];exact rS⟩
 ·obtain ⟨q,hq,qQ,vR⟩:=p.val t2 v2 h2
  refine ⟨q,hq,?_,vR⟩
  rw [List.getElem?_set]
  by_cases he:t2=t
  ·subst he
   rw [h] at h2
   cases h2
   have:q=i:=by cases hq;rfl
   subst this
   rw [if_pos rfl,if_pos kE,vf]
  ·rw [if_neg (by rintro rfl;rw [jN] at qQ;cases qQ;exact he rfl),sg he]
   exact qQ
 ·by_cases he:t2=t
  ·subst he
   rw [h,vf]
   simp [hm]
  ·rw [sg he]
   exact p.has t2
theorem cK.fresh {m:Nat} (cN:∀ n∈rest,∃ i:Nat,n=(i:Int)∧i < aJ.length) (iw:rest.Nodup) (AH:(kv.map Prod.fst).Nodup) (dE:∀ t v,cZ kv t=some v→∃ i:Nat,v=.int .i64 (i:Int)∧aJ[i]? = some (t,(us t:Int))∧(i:Int) ∉ rest∧i≠m) (ue:∀ t,(cZ kv t).isSome=true↔0 < us t)
 (hm:m < aJ.length) (hmf:(m:Int) ∉ rest) (h:cZ kv t=none):cK rest (aJ.set m (t,1)) (fo kv t (.int .i64 (m:Int))) (gg us t 1):=by
 refine ⟨fun n hn=>?_,iw,OS AH t _,fun t2 v2 h2=>?_,fun t2=>?_⟩
 ·obtain ⟨q,hq,rS⟩:=cN n hn
  exact ⟨q,hq,by rw [List.length_set];exact rS⟩
 ·rw [Gh] at h2
  by_cases he:t2=t
  ·subst he
   rw [if_pos rfl] at h2
   cases h2
   refine ⟨m,rfl,?_,hmf⟩
   rw [List.getElem?_set,if_pos rfl,if_pos hm,vf]
   rfl
  ·rw [if_neg he] at h2
   obtain ⟨q,hq,qQ,vR,hqm⟩:=dE t2 v2 h2
   refine ⟨q,hq,?_,vR⟩
   rw [List.getElem?_set,if_neg (Ne.symm hqm),sg he]
   exact qQ
 ·rw [Gh]
  by_cases he:t2=t
  ·subst he
   rw [if_pos rfl,vf]
   simp
  ·rw [if_neg he,sg he]
   exact ue t2
theorem cK.pop (p:cK free aJ kv us) (h:cZ kv t=none) (hp:free.Perm (n::rest)):∃ i:Nat,n=(i:Int)∧i < aJ.length∧cK rest (aJ.set i (t,1)) (fo kv t (.int .i64 (i:Int))) (gg us t 1):=by
 have iw:=hp.nodup_iff.1 p.nd
 rw [List.nodup_cons] at iw
 obtain ⟨i,rfl,hi⟩:=p.fr n (hp.mem_iff.2 List.mem_cons_self)
 refine ⟨i,rfl,hi,cK.fresh (fun m hm=>p.fr m (hp.mem_iff.2 (List.mem_cons_of_mem _ hm))) iw.2 p.kn (fun t2 v2 h2=>?_) p.has hi iw.1 h⟩
 obtain ⟨q,hq,qQ,vR⟩:=p.val t2 v2 h2
 exact ⟨q,hq,qQ,fun hh=>vR (hp.mem_iff.2 (List.mem_cons_of_mem _ hh)),fun e=>vR (by rw [e];exact hp.mem_iff.2 List.mem_cons_self)⟩
theorem cK.more (p:cK free aJ kv us) (h:cZ kv t=none) (x:eD):cK free ((aJ++[x]).set aJ.length (t,1)) (fo kv t (.int .i64 (aJ.length:Int))) (gg us t 1):=by
 refine cK.fresh (fun m hm=>?_) p.nd p.kn (fun t2 v2 h2=>?_) p.has (by rw [List.length_append];simp) (fun hh=>?_) h
 ·obtain ⟨q,hq,rS⟩:=p.fr m hm
  exact ⟨q,hq,by rw [List.length_append];omega⟩
 ·obtain ⟨q,hq,qQ,vR⟩:=p.val t2 v2 h2
  have rS:=(List.getElem?_eq_some_iff.1 qQ).1
  exact ⟨q,hq,by rw [List.getElem?_append_left rS];exact qQ,vR,by omega⟩
 ·obtain ⟨q,hq,rS⟩:=p.fr _ hh
  omega
theorem cK.gone (p:cK free aJ kv us) (h:cZ kv t=some (.int .i64 (i:Int))) (x:eD):cK ((i:Int)::free) (aJ.set i x) (k8 kv t) (gg us t 0):=by
 obtain ⟨j,hj,jN,hjf⟩:=p.val t _ h
 have dh:i=j:=by cases hj;rfl
 subst dh
 have kE:=(List.getElem?_eq_some_iff.1 jN).1
 refine ⟨fun n hn=>?_,List.nodup_cons.2 ⟨hjf,p.nd⟩,YR p.kn t,fun t2 v2 h2=>?_,fun t2=>?_⟩
 ·rw [List.length_set]
  rcases List.mem_cons.1 hn with rfl|hn
  ·exact ⟨i,rfl,kE⟩
  ·exact p.fr n hn
 ·rw [Zf] at h2
  by_cases he:t2=t
  ·rw [if_pos he] at h2;cases h2
  ·rw [if_neg he] at h2
   obtain ⟨q,hq,qQ,vR⟩:=p.val t2 v2 h2
   have hqi:i≠q:=by rintro rfl;rw [jN] at qQ;cases qQ;exact he rfl
   refine ⟨q,hq,by rw [List.getElem?_set,if_neg hqi,sg he];exact qQ,fun hh=>?_⟩
   rcases List.mem_cons.1 hh with e|hh
   ·exact hqi (by omega)
   ·exact vR hh
 ·rw [Zf]
  by_cases he:t2=t
  ·rw [if_pos he,he,vf];simp
  ·rw [if_neg he,sg he];exact p.has t2
end
theorem ztL {kv kw:List (ByteArray × Value)} (h1:(kv.map Prod.fst).Nodup) (h2:(kw.map Prod.fst).Nodup) (h:∀ t,(cZ kv t).isSome=true↔(cZ kw t).isSome=true):kv.length=kw.length:=by
 have hm:∀ (l:List (ByteArray × Value)) (t:ByteArray),(cZ l t).isSome=true↔t∈l.map Prod.fst:=fun l t=>by
  cases hl:cZ l t with
  |none=>simp [dq.1 hl]
  |some v =>
   simp only [Option.isSome_some,true_iff]
   refine Classical.byContradiction fun hn=>?_
   rw [dq.2 hn] at hl
   cases hl
 have hp:(kv.map Prod.fst).Perm (kw.map Prod.fst):=(List.perm_ext_iff_of_nodup h1 h2).2 fun t=>by rw [← hm,← hm];exact h t
 simpa using hp.length_eq
structure ft (tt ti te N:Nat) (h:Heap) (T0 I E M:Nat) (free:List Int) (aJ:List eD) (kv:List (ByteArray × Value)):Prop where
 row:∃ vi ve,Holds h T0 (.row [vi,ve,.map (some M)] tt false)∧dD 1 zL h ti I vi free∧dD 2 Mu h te E ve aJ
 map:cC h M kv
 ne:T0≠I∧T0≠E∧T0≠M∧I≠E∧I≠M∧E≠M
 lo:N≤T0∧N≤I∧N≤E∧N≤M
 hi:T0 < h.size∧I < h.size∧E < h.size∧M < h.size
section
variable {tt ti te N:Nat} {h h1 h2:Heap} {T0 I E M w:Nat} {bs:List bh} {free:List Int} {aJ:List eD} {kv:List (ByteArray × Value)}
theorem ft.hold (s:ft tt ti te N h T0 I E M free aJ kv) (hs:h.size≤h1.size) (hO:∀ A b,A=T0∨A=I∨A=E∨A=M→Holds h A b→Holds h1 A b):ft tt ti te N h1 T0 I E M free aJ kv:=by
 obtain ⟨⟨vi,ve,q,oi,oe⟩,m,n,l,u⟩:=s
 exact ⟨⟨vi,ve,hO _ _ (.inl rfl) q,oi.hold (fun b=>hO _ b (.inr (.inl rfl))),oe.hold (fun b=>hO _ b (.inr (.inr (.inl rfl))))⟩,m.hold (fun b=>hO _ b (.inr (.inr (.inr rfl)))),n,l,⟨by omega,by omega,by omega,by omega⟩⟩
theorem ft.over (s:ft tt ti te N h1 T0 I E M free aJ kv) (x:Ext (h1.lay bs w) h2):ft tt ti te N h2 T0 I E M free aJ kv:=s.hold (by have:=x.size;rw [bB] at this;omega) (fun A b _ q=>q.over x)
theorem ft.lay (s:ft tt ti te N h1 T0 I E M free aJ kv) (bs:List bh) (w:Nat):ft tt ti te N (h1.lay bs w) T0 I E M free aJ kv:=s.hold (by rw [bB];omega) (fun A b _ q=>q.on bs w)
theorem ft.dL {D:List Nat} (s:ft tt ti te N h1 T0 I E M free aJ kv) (f:aT D h1 h2) (h0:T0 ∉ D∧I ∉ D∧E ∉ D∧M ∉ D):ft tt ti te N h2 T0 I E M free aJ kv:=s.hold f.size (fun A b hA q=>q.dL f (by rcases hA with rfl|rfl|rfl|rfl;exact h0.1;exact h0.2.1;exact h0.2.2.1;exact h0.2.2.2))
theorem ft.o9 {vi ve:Value} {f2:List Int} (s:ft tt ti te N h1 T0 I E M free aJ kv) (q:Holds h1 T0 (.row [vi,ve,.map (some M)] tt false)) (oe:dD 2 Mu h1 te E ve aJ) (c:aT [I] h1 h2) (o2:dD 1 zL h2 ti I vi f2):ft tt ti te N h2 T0 I E M f2 aJ kv:=by
 obtain ⟨_,m,n,l,u⟩:=s
 have hs:=c.size
 have hn:∀ {A},A≠I→A ∉ [I]:=fun h hm=>h (List.mem_singleton.1 hm)
 exact ⟨⟨vi,ve,q.dL c (hn n.1),o2,oe.dL c (hn (Ne.symm n.2.2.2.1))⟩,m.hold (fun b q=>q.dL c (hn (Ne.symm n.2.2.2.2.1))),n,l,⟨by omega,by omega,by omega,by omega⟩⟩
theorem ft.KC {v2 ve:Value} {f2:List Int} {An:List eD} (s:ft tt ti te N h1 T0 I E M free aJ kv) (c:aT [T0] h1 h2) (q:Holds h2 T0 (.row [v2,ve,.map (some M)] tt false)) (o1:dD 1 zL h1 ti I v2 f2) (oe:dD 2 Mu h1 te E ve An):ft tt ti te N h2 T0 I E M f2 An kv:=by
 obtain ⟨_,m,n,l,u⟩:=s
 have hs:=c.size
 have hn:∀ {A},A≠T0→A ∉ [T0]:=fun h hm=>h (List.mem_singleton.1 hm)
 exact ⟨⟨v2,ve,q,o1.dL c (hn (Ne.symm n.1)),oe.dL c (hn (Ne.symm n.2.1))⟩,m.hold (fun b q=>q.dL c (hn (Ne.symm n.2.2.1))),n,l,⟨by omega,by omega,by omega,by omega⟩⟩
theorem ft.Ed {v2 ve:Value} {I2:Nat} {f2:List Int} (s:ft tt ti te N h1 T0 I E M free aJ kv) (c:aT [T0,I] h1 h2) (hI:I2=I∨h1.size≤I2) (eM:I2 < h2.size) (q:Holds h2 T0 (.row [v2,ve,.map (some M)] tt false)) (o1:dD 1 zL h2 ti I2 v2 f2) (oe:dD 2 Mu h1 te E ve aJ):ft tt ti te N h2 T0 I2 E M f2 aJ kv:=by
 obtain ⟨_,m,n,l,u⟩:=s
 have hs:=c.size
 have hn:∀ {A},A≠T0→A≠I→A ∉ [T0,I]:=fun h h2 hm=>by
  rcases List.mem_cons.1 hm with e|hm
  ·exact h e
  ·exact h2 (List.mem_singleton.1 hm)
 refine ⟨⟨v2,ve,q,o1,oe.dL c (hn (Ne.symm n.2.1) (Ne.symm n.2.2.2.1))⟩,m.hold (fun b q=>q.dL c (hn (Ne.symm n.2.2.1) (Ne.symm n.2.2.2.2.1))),?_,?_,⟨by omega,eM,by omega,by omega⟩⟩
 ·rcases hI with rfl|hI
  ·exact n
  ·exact ⟨by omega,n.2.1,n.2.2.1,by omega,by omega,n.2.2.2.2.2⟩
 ·rcases hI with rfl|hI
  ·exact l
  ·exact ⟨l.1,by omega,l.2.2⟩
end
theorem Mi {l:List Int} {i j:Nat} {a b:Int} (hi:l[i]? = some a) (hj:l[j]? = some b):l.Perm ((l.set i b).set j a):=by
 by_cases h:i=j
 ·subst h
  rw [hi] at hj
  cases hj
  have e:(l.set i a).set i a=l:=by
   apply List.ext_getElem?
   intro k
   rw [List.set_set,List.getElem?_set]
   by_cases hk:i=k
   ·subst hk
    rw [if_pos rfl,hi]
    simp [(List.getElem?_eq_some_iff.1 hi).1]
   ·rw [if_neg hk]
  rw [e]
 ·have hc:∀ x,l.count x=((l.set i b).set j a).count x:=by
   intro x
   have kE:=(List.getElem?_eq_some_iff.1 hi)
   have xk:=(List.getElem?_eq_some_iff.1 hj)
   have e1:((l.set i b).set j a).count x=(l.set i b).count x - (if (b == x) then 1 else 0)+(if (a == x) then 1 else 0):=by
    rw [List.count_set (by rw [List.length_set];exact xk.1)]
    rw [List.getElem_set_ne h,xk.2]
   have e2:(l.set i b).count x=l.count x - (if (a == x) then 1 else 0)+(if (b == x) then 1 else 0):=by
    rw [List.count_set kE.1,kE.2]
   rw [e1,e2]
   have ha:(a == x)=true→1≤l.count x:=fun e=>List.one_le_count_iff.2 (by rw [← eq_of_beq e];exact List.mem_of_getElem? hi)
   have hb:(b == x)=true→1≤l.count x:=fun e=>List.one_le_count_iff.2 (by rw [← eq_of_beq e];exact List.mem_of_getElem? hj)
   cases tU:(a == x)
   ·simp
   ·have:=ha tU
    simp
    omega
  exact List.perm_iff_count.2 hc
end Go.Am
namespace Go.Proofs.YtdplfgoifjjniaaGreatDoor
open Go.Am
theorem Et (b:Bool) (h:Heap) (K:Value→Heap→Prop):pL b h K=K (.bool b) h:=by
 unfold pL
 cases b
 ·simp
 ·simp
theorem zV:ae.desc 110=some (.slice 3):=by kernel_rfl
theorem zqi (A:Nat) (h:Heap):rf ae 138 (.pointer (some ⟨A,0,none⟩)) "Len" h=(dz ae 110 (.pointer (some ⟨A,0,none⟩)) h).map fun r=>(99,r):=by kernel_rfl
theorem Mf (A:Nat) (h:Heap):rf ae 138 (.pointer (some ⟨A,0,none⟩)) "Less" h=(dz ae 110 (.pointer (some ⟨A,0,none⟩)) h).map fun r=>(189,r):=by kernel_rfl
theorem Mg (A:Nat) (h:Heap):rf ae 138 (.pointer (some ⟨A,0,none⟩)) "Swap" h=(dz ae 110 (.pointer (some ⟨A,0,none⟩)) h).map fun r=>(192,r):=by kernel_rfl
theorem zwQ (A:Nat) (h:Heap):rf ae 138 (.pointer (some ⟨A,0,none⟩)) "Pop" h=some (190,.pointer (some ⟨A,0,none⟩)):=by kernel_rfl
theorem ztV (A:Nat) (h:Heap):rf ae 138 (.pointer (some ⟨A,0,none⟩)) "Push" h=some (191,.pointer (some ⟨A,0,none⟩)):=by kernel_rfl
theorem sQ {h1:Heap} {T0 w:Nat} {bs:List bh} {vi ve vm:Value} (q:Holds h1 T0 (.row [vi,ve,vm] 115 false)):dz ae 110 (.pointer (some ⟨T0,0,none⟩)) (h1.lay bs w)=some vi:=by
 have hg:=q.lay bs w
 have ha:aq ae 110=some false:=by kernel_rfl
 unfold dz gL
 simp only [ha,Option.bind_some,Bool.false_eq_true,if_false,hg]
 rfl
abbrev dY (N:Nat) (h:Heap) (T0 I E M:Nat) (free:List Int) (aJ:List eD) (kv:List (ByteArray × Value)):Prop:=ft 115 3 136 N h T0 I E M free aJ kv
theorem zpe (free:List Int) (I:Nat) (v:Value) (h:Heap) (o:dD 1 zL h 3 I v free) (K:Value→Heap→Prop) (hk:∀ h',Ext h h'→K (.int .i64 free.length) h'):Ok Tryz.prog ae ov 99 [v] h K:=by
 rw [ao h]
 have z:=Ext.refl h
 have cp:=fun (hh:Heap)=>o.bd zV hh
 refine Ok.aD rfl zAN (br N99) rfl (m:=4) rfl ?_
 simp -implicitDefEqProofs only [syms,aa,seval,c99,cp]
 exact hk _ (z.aw _ _ (by omega))
theorem Ml (free:List Int) (I:Nat) (v:Value) (i j:Nat) (a b:Int) (h:Heap) (o:dD 1 zL h 3 I v free) (hi:free[i]? = some a) (hj:free[j]? = some b) (K:Value→Heap→Prop) (hk:∀ h',Ext h h'→K (.bool (decide (a < b))) h'):Ok Tryz.prog ae ov 189 [v,.int .i64 i,.int .i64 j] h K:=by
 rw [ao h]
 have z:=Ext.refl h
 have lM:=o.ix (kd:=.i64) (i:=i) zV u9 (List.getElem?_eq_some_iff.1 hi).1
 have py:=o.ix (kd:=.i64) (i:=j) zV u9 (List.getElem?_eq_some_iff.1 hj).1
 have ci:=o.ot hi rfl
 have cj:=o.ot hj rfl
 have sL:=mn
 refine Ok.aD rfl zvD (br HM) rfl (m:=13) rfl ?_
 simp -implicitDefEqProofs only [syms,aa,seval,tD]
 with_reducible first|refine eu (by simp only [tD]) (z.aw _ _ (by omega)) ?_
 simp -implicitDefEqProofs only [syms,aa,seval,tD,lM,py,ci,cj,sL]
 rw [Et]
 simp -implicitDefEqProofs only [syms,aa,seval,tD]
 ((with_reducible refine ⟨z.cW.lay _ _,?_⟩);(intro _ h' zz x _);(simp only [cq,List.append_nil] at x);(replace z:=zz);(clear zz);rw [ao h'])
 simp -implicitDefEqProofs only [syms,aa,seval,tD]
 exact hk _ (z.aw _ _ (by omega))
theorem Mm (free:List Int) (I:Nat) (v:Value) (i j:Nat) (a b:Int) (h hc:Heap) (z:Ext h hc) (hI:h.size≤I) (o:dD 1 zL hc 3 I v free) (hi:free[i]? = some a) (hj:free[j]? = some b) (K:Value→Heap→Prop) (hk:∀ h',Ext h h'→aT [I] hc h'→dD 1 zL h' 3 I v ((free.set i b).set j a)→K undef h'):Ok Tryz.prog ae ov 192 [v,.int .i64 i,.int .i64 j] hc K:=by
 rw [ao hc]
 have lM:=o.ix (kd:=.i64) (i:=i) zV u9 (List.getElem?_eq_some_iff.1 hi).1
 have py:=o.ix (kd:=.i64) (i:=j) zV u9 (List.getElem?_eq_some_iff.1 hj).1
 have ci:=o.ot hi rfl
 have cj:=o.ot hj rfl
 have sL:=mn
 refine Ok.aD rfl zvG (br HP) rfl (m:=17) rfl ?_
 with_reducible first|refine eu (by simp only [tE]) (z.aw _ _ (by omega)) ?_
 simp -implicitDefEqProofs only [syms,aa,seval,tE,lM,py,ci,cj,sL]
 refine dD.nK (y:=b) YF o hi u9 (by omega) rfl rfl rfl rfl (fun h3 o3 c3=>?_)
 have hz:=z.size
 refine nM (A:=I) (by kernel_rfl) (by rw [bB];omega) (by omega) (by simpa only [cq,bB,List.append_nil,List.length_cons,List.length_nil,Nat.add_zero] using c3) ?_
 have z3:=(z.aw [] (hc.size+0) (by omega)).step c3 hI
 rw [ao h3]
 simp -implicitDefEqProofs only [syms,aa,seval,tE,lM,py]
 have hj3:(free.set i b)[j]? = some b:=by
  rw [List.getElem?_set]
  split
  ·rw [if_pos (List.getElem?_eq_some_iff.1 hi).1]
  ·exact hj
 refine dD.nK (y:=a) YF o3 hj3 u9 (by omega) rfl rfl rfl rfl (fun h4 o4 c4=>?_)
 have A7:=z3.size
 refine nM (A:=I) (by kernel_rfl) (by rw [bB];omega) (by omega) (by simpa only [cq,bB,List.append_nil,List.length_cons,List.length_nil,Nat.add_zero] using c4) ?_
 have z4:=(z3.aw [] (h3.size+0) (by omega)).step c4 hI
 have cc:aT [I] hc h4:=((aT.refl [I] hc).ku c3 (.inl (by simp))).ku c4 (.inl (by simp))
 clear z
 have z:=z4
 rw [ao h4]
 simp -implicitDefEqProofs only [syms,aa,seval,tE]
 ((with_reducible refine ⟨z.cW.lay _ _,?_⟩);(intro _ h' zz x _);(simp only [cq,List.append_nil] at x))
 replace o4:=o4.over x
 replace cc:=cc.over x
 replace z:=zz
 rw [ao h']
 simp -implicitDefEqProofs only [syms,aa,seval,tE]
 exact hk _ (z.aw _ _ (by omega)) (cc.trans (aT.lay _ _ _ []) (fun _ h=>nomatch h)) (o4.lay _ _)
theorem zCz (j:Nat) (h:j≤1000000000):IntKind.i64.wrap ((IntKind.i64.wrap ((j:Int) - 1)).tdiv 2)=(((j - 1) / 2:Nat):Int):=by
 rw [wrap_i64 (i:=(j:Int) - 1) (by omega) (by omega)]
 have e:((j:Int) - 1).tdiv 2=(((j - 1) / 2:Nat):Int):=by
  cases j with
  |zero=>decide
  |succ j =>
   rw [show ((j+1:Nat):Int) - 1=(j:Int) by omega,show j+1 - 1=j by omega]
   exact (Int.ofNat_tdiv j 2).symm
 rw [e]
 exact wrap_i64 (by omega) (by omega)
theorem zwi {T:bD} {t:TypeId} {k:IntKind} {a b:Int}:bU Tryz.prog T .mul t (.int k a) (.int k b)=some (.int k (k.wrap (a*b))):=by
 refine Zq rfl ?_ rfl
 simp [binOp,Op.intArith,wj]
theorem ry {k i:Nat} (h:¬ i=k) (Q:Ex→Env→Heap→Prop) (e:Env) (hh:Heap):zS k Q (.exit i) e hh=Q (.exit i) e hh:=by
 show (if i=k then Q .normal e hh else Q (.exit i) e hh)=_
 rw [if_neg h]
abbrev qV (T0:Nat):Value:=.iface 138 (.pointer (some ⟨T0,0,none⟩))
theorem zEi (h hc:Heap) (z:Ext h hc) (T0 FI FE FM:Nat) (free:List Int) (aJ:List eD) (kv:List (ByteArray × Value)) (j:Nat) (st:dY h.size hc T0 FI FE FM free aJ kv) (hj:j < free.length) (K:Value→Heap→Prop) (hk:∀ h' f2,Ext h h'→aT [FI] hc h'→dY h.size h' T0 FI FE FM f2 aJ kv→free.Perm f2→K undef h'):Ok Tryz.prog ae ov 131 [qV T0,.int .i64 j] hc K:=by
 have hle:free.length≤1000000000:=by obtain ⟨⟨vi,ve,q,oi,oe⟩,_⟩:=st;exact oi.nE
 have j9:∀ (h:Heap) (K:Value→Heap→Prop),aU (some (qV T0)) h K=K (qV T0) h:=fun _ _=>rfl
 rw [ao hc]
 refine Ok.aD rfl zvi (br Hs) rfl (m:=21) rfl ?_
 simp -implicitDefEqProofs only [syms,aa,seval,kq]
 obtain ⟨I1,aR⟩:∃ I:Nat→Env→Heap→Prop,I=(fun n e h'=>∃ (j1:Nat) (f1:List Int) (h1:Heap),h'=h1.lay [] h1.low∧Ext h h1∧(n=j1+1∧j1 < f1.length∧dY h.size h1 T0 FI FE FM f1 aJ kv∧free.Perm f1∧aT [FI] hc h1)∧∃ J:Nat→Value,e=(qV T0::.int .i64 j1::jr J 2 21 ([]))):=⟨_,rfl⟩
 refine dg I1 _ (by rw [aR];exact ⟨j,free,_,rfl,z,⟨rfl,hj,st,List.Perm.refl _,aT.refl _ _⟩,aB (by kernel_rfl)⟩) ?_
 intro n e h' aH
 rw [aR] at aH
 obtain ⟨j1,f1,bE,rfl,z,hinv,J,rfl⟩:=aH
 clear st
 obtain ⟨rfl,py,st,ga,fr⟩:=hinv
 have hlen:=ga.length_eq
 obtain ⟨⟨vi,ve,q,oi,oe⟩,_⟩:=id st
 have hq:=zCz j1 (by omega)
 have rL:(j1 - 1) / 2 < f1.length:=by omega
 obtain ⟨a,ha,wZ⟩:=eP (l:=f1) (i:=j1) (by omega)
 obtain ⟨b,hb,kj⟩:=eP (l:=f1) (i:=(j1 - 1) / 2) (by omega)
 simp -implicitDefEqProofs only [syms,aa,seval,kq]
 rw [zBQ (by decide),hq]
 simp -implicitDefEqProofs only [syms,aa,seval,kq]
 refine pK (fun heq=>?_) (fun aO=>?_)
 ·simp -implicitDefEqProofs only [syms,aa,seval,kq]
  rw [ry (by decide)]
  simp -implicitDefEqProofs only [syms,aa,seval,kq]
  exact hk _ f1 (z.aw _ _ (by omega)) (fr.trans (aT.lay _ _ _ []) (fun _ h=>nomatch h)) (st.lay _ _) ga
 simp -implicitDefEqProofs only [syms,aa,seval,kq,q9,j9]
 refine rj (f:=189) (y:=vi) (by rw [Mf,sQ q];rfl) ?_
 refine Ml f1 FI vi j1 ((j1 - 1) / 2) a b _ (oi.lay _ _) wZ kj _ (fun h' x=>?_)
 (replace z:=z.an x (by omega);(replace st:=st.over x);(replace fr:=fr.over x);rw [ao h'])
 simp -implicitDefEqProofs only [syms,aa,seval,kq]
 (with_reducible_and_instances apply cm);(· rfl)
 simp -implicitDefEqProofs only [syms,aa,seval,kq]
 clear q oi oe
 obtain ⟨⟨vi,ve,q,oi,oe⟩,_,_,cR,_⟩:=id st
 refine MT (fun lr=>?_) (fun aS=>?_)
 ·simp -implicitDefEqProofs only [syms,aa,seval,kq]
  rw [ry (by decide)]
  simp -implicitDefEqProofs only [syms,aa,seval,kq]
  exact hk _ f1 (z.aw _ _ (by omega)) (fr.trans (aT.lay _ _ _ []) (fun _ h=>nomatch h)) (st.lay _ _) ga
 simp -implicitDefEqProofs only [syms,aa,seval,kq,q9,j9]
 refine rj (f:=192) (y:=vi) (by rw [Mg,sQ q];rfl) ?_
 refine Mm f1 FI vi ((j1 - 1) / 2) j1 b a h _ (z.aw _ _ (by omega)) cR.2.1 (oi.lay _ _) kj wZ _ (fun h3 z3 fh o3=>?_)
 have fe:=(st.lay [] h'.low).o9 (q.on _ _) (oe.lay _ _) fh o3
 replace fr:=(fr.trans (aT.lay h' [] h'.low []) (fun _ h=>nomatch h)).trans fh (fun B hB=>.inl hB)
 have xv:=ga.trans (Mi kj wZ)
 clear q oi oe o3 fh st z
 have z:=z3
 rw [ao h3]
 simp -implicitDefEqProofs only [syms,aa,seval,kq]
 (rw [aR];with_reducible refine cz (m:=_) ?_ ⟨(j1 - 1) / 2,(f1.set ((j1 - 1) / 2) a).set j1 b,_,rfl,z,⟨rfl,by rw [List.length_set,List.length_set];omega,fe,xv,fr⟩,aB (by kernel_rfl)⟩;omega)
theorem zwW (h hc:Heap) (z:Ext h hc) (T0 FI FE FM:Nat) (free:List Int) (aJ:List eD) (kv:List (ByteArray × Value)) (m:Nat) (st:dY h.size hc T0 FI FE FM free aJ kv) (hm:m≤free.length) (K:Value→Heap→Prop) (hk:∀ h' f2 b,Ext h h'→aT [FI] hc h'→dY h.size h' T0 FI FE FM f2 aJ kv→free.Perm f2→K (.bool b) h'):Ok Tryz.prog ae ov 130 [qV T0,.int .i64 0,.int .i64 m] hc K:=by
 have hle:free.length≤1000000000:=by obtain ⟨⟨vi,ve,q,oi,oe⟩,_⟩:=st;exact oi.nE
 have j9:∀ (h:Heap) (K:Value→Heap→Prop),aU (some (qV T0)) h K=K (qV T0) h:=fun _ _=>rfl
 rw [ao hc]
 refine Ok.aD rfl zvh (br Hr) rfl (m:=45) rfl ?_
 simp -implicitDefEqProofs only [syms,aa,seval,de]
 obtain ⟨I1,aR⟩:∃ I:Nat→Env→Heap→Prop,I=(fun n e h'=>∃ (i:Nat) (f1:List Int) (h1:Heap),h'=h1.lay [] h1.low∧Ext h h1∧(n=free.length - i∧i≤free.length∧dY h.size h1 T0 FI FE FM f1 aJ kv∧free.Perm f1∧aT [FI] hc h1)∧∃ J:Nat→Value,e=(qV T0::.int .i64 0::.int .i64 m::jr J 3 4 (.int .i64 i::jr J 8 40 ([])))):=⟨_,rfl⟩
 refine dg I1 _ (by rw [aR];exact ⟨0,free,_,rfl,z,⟨rfl,by omega,st,List.Perm.refl _,aT.refl _ _⟩,aB (by kernel_rfl)⟩) ?_
 intro n e h' aH
 rw [aR] at aH
 obtain ⟨i,f1,bE,rfl,z,hinv,J,rfl⟩:=aH
 clear st
 obtain ⟨rfl,hi,st,ga,fr⟩:=hinv
 have hlen:=ga.length_eq
 obtain ⟨⟨vi,ve,q,oi,oe⟩,_,_,cR,_⟩:=id st
 have uN:IntKind.i64.wrap (IntKind.i64.wrap (2*(i:Int))+1)=((2*i+1:Nat):Int):=by
  rw [wrap_i64 (i:=2*(i:Int)) (by omega) (by omega),wrap_i64 (by omega) (by omega)];omega
 have sM:IntKind.i64.wrap (((2*i+1:Nat):Int)+1)=((2*i+2:Nat):Int):=by rw [wrap_i64 (by omega) (by omega)];omega
 simp -implicitDefEqProofs only [syms,aa,seval,de,zwi,uN,sM]
 refine bp (fun lr=>?_) (fun aS=>?_)
 ·simp -implicitDefEqProofs only [syms,aa,seval,de]
  rw [ry (by decide)]
  simp -implicitDefEqProofs only [syms,aa,seval,de]
  rw [Et]
  simp -implicitDefEqProofs only [syms,aa,seval,de]
  exact hk _ f1 _ (z.aw _ _ (by omega)) (fr.trans (aT.lay _ _ _ []) (fun _ h=>nomatch h)) (st.lay _ _) ga
 simp -implicitDefEqProofs only [syms,aa,seval,de]
 refine bp (fun c0=>absurd c0 (by omega)) (fun _=>?_)
 obtain ⟨a1,ha1,nk⟩:=eP (l:=f1) (i:=2*i+1) (by omega)
 obtain ⟨ai,Nz,nq⟩:=eP (l:=f1) (i:=i) (by omega)
 simp -implicitDefEqProofs only [syms,aa,seval,de,sM]
 refine bp (fun jb=>?_) (fun jb=>?_)
 ·obtain ⟨a2,ha2,tR⟩:=eP (l:=f1) (i:=2*i+2) (by omega)
  simp -implicitDefEqProofs only [syms,aa,seval,de,q9,j9]
  refine rj (f:=189) (y:=vi) (by rw [Mf,sQ q];rfl) ?_
  refine Ml f1 FI vi (2*i+2) (2*i+1) a2 a1 _ (oi.lay _ _) tR nk _ (fun h' x=>?_)
  (replace z:=z.an x (by omega);(replace st:=st.over x);(replace fr:=fr.over x);rw [ao h'])
  clear q oi oe
  simp -implicitDefEqProofs only [syms,aa,seval,de]
  refine bp (fun hl=>?_) (fun hl=>?_)
  ·simp -implicitDefEqProofs only [syms,aa,seval,de]
   obtain ⟨jj,Jz⟩:∃ jj,jj=2*i+2:=⟨_,rfl⟩
   rw [← Jz] at tR ⊢
   have JA:jj < m:=by omega
   have dh:i < jj:=by omega
   simp -implicitDefEqProofs only [syms,aa,seval,de,q9,j9]
   obtain ⟨⟨vi,ve,q,oi,oe⟩,_,_,cR,_⟩:=id st
   refine rj (f:=189) (y:=vi) (by rw [Mf,sQ q];rfl) ?_
   refine Ml f1 FI vi jj i a2 ai _ (oi.lay _ _) tR nq _ (fun h' x=>?_)
   (replace z:=z.an x (by omega);(replace st:=st.over x);(replace fr:=fr.over x);rw [ao h'])
   clear q oi oe
   obtain ⟨⟨vi,ve,q,oi,oe⟩,_,_,cR,_⟩:=id st
   rcases Decidable.em (a2 < ai) with hd|hd
   rotate_left
   ·rw [decide_eq_false hd]
    simp -implicitDefEqProofs only [syms,aa,seval,de]
    (with_reducible_and_instances apply cm);(· rfl)
    simp -implicitDefEqProofs only [syms,aa,seval,de,Bool.not_false]
    rw [ry (by decide)]
    simp -implicitDefEqProofs only [syms,aa,seval,de]
    rw [Et]
    simp -implicitDefEqProofs only [syms,aa,seval,de]
    exact hk _ f1 _ (z.aw _ _ (by omega)) (fr.trans (aT.lay _ _ _ []) (fun _ h=>nomatch h)) (st.lay _ _) ga
   rw [decide_eq_true hd]
   simp -implicitDefEqProofs only [syms,aa,seval,de]
   (with_reducible_and_instances apply cm);(· rfl)
   simp -implicitDefEqProofs only [syms,aa,seval,de,Bool.not_true,q9,j9]
   refine rj (f:=192) (y:=vi) (by rw [Mg,sQ q];rfl) ?_
   refine Mm f1 FI vi i jj ai a2 h _ (z.aw _ _ (by omega)) cR.2.1 (oi.lay _ _) nq tR _ (fun h3 z3 fh o3=>?_)
   have fe:=(st.lay [] h'.low).o9 (q.on _ _) (oe.lay _ _) fh o3
   replace fr:=(fr.trans (aT.lay h' [] h'.low []) (fun _ h=>nomatch h)).trans fh (fun B hB=>.inl hB)
   have xv:=ga.trans (Mi nq tR)
   clear q oi oe o3 fh st z
   have z:=z3
   rw [ao h3]
   simp -implicitDefEqProofs only [syms,aa,seval,de]
   (rw [aR];with_reducible refine cz (m:=_) ?_ ⟨jj,(f1.set i a2).set jj ai,_,rfl,z,⟨rfl,by omega,fe,xv,fr⟩,aB (by kernel_rfl)⟩;omega)
  ·simp -implicitDefEqProofs only [syms,aa,seval,de]
   obtain ⟨jj,Jz⟩:∃ jj,jj=2*i+1:=⟨_,rfl⟩
   rw [← Jz] at nk ⊢
   have JA:jj < m:=by omega
   have dh:i < jj:=by omega
   simp -implicitDefEqProofs only [syms,aa,seval,de,q9,j9]
   obtain ⟨⟨vi,ve,q,oi,oe⟩,_,_,cR,_⟩:=id st
   refine rj (f:=189) (y:=vi) (by rw [Mf,sQ q];rfl) ?_
   refine Ml f1 FI vi jj i a1 ai _ (oi.lay _ _) nk nq _ (fun h' x=>?_)
   (replace z:=z.an x (by omega);(replace st:=st.over x);(replace fr:=fr.over x);rw [ao h'])
   clear q oi oe
   obtain ⟨⟨vi,ve,q,oi,oe⟩,_,_,cR,_⟩:=id st
   rcases Decidable.em (a1 < ai) with hd|hd
   rotate_left
   ·rw [decide_eq_false hd]
    simp -implicitDefEqProofs only [syms,aa,seval,de]
    (with_reducible_and_instances apply cm);(· rfl)
    simp -implicitDefEqProofs only [syms,aa,seval,de,Bool.not_false]
    rw [ry (by decide)]
    simp -implicitDefEqProofs only [syms,aa,seval,de]
    rw [Et]
    simp -implicitDefEqProofs only [syms,aa,seval,de]
    exact hk _ f1 _ (z.aw _ _ (by omega)) (fr.trans (aT.lay _ _ _ []) (fun _ h=>nomatch h)) (st.lay _ _) ga
   rw [decide_eq_true hd]
   simp -implicitDefEqProofs only [syms,aa,seval,de]
   (with_reducible_and_instances apply cm);(· rfl)
   simp -implicitDefEqProofs only [syms,aa,seval,de,Bool.not_true,q9,j9]
   refine rj (f:=192) (y:=vi) (by rw [Mg,sQ q];rfl) ?_
   refine Mm f1 FI vi i jj ai a1 h _ (z.aw _ _ (by omega)) cR.2.1 (oi.lay _ _) nq nk _ (fun h3 z3 fh o3=>?_)
   have fe:=(st.lay [] h'.low).o9 (q.on _ _) (oe.lay _ _) fh o3
   replace fr:=(fr.trans (aT.lay h' [] h'.low []) (fun _ h=>nomatch h)).trans fh (fun B hB=>.inl hB)
   have xv:=ga.trans (Mi nq nk)
   clear q oi oe o3 fh st z
   have z:=z3
   rw [ao h3]
   simp -implicitDefEqProofs only [syms,aa,seval,de]
   (rw [aR];with_reducible refine cz (m:=_) ?_ ⟨jj,(f1.set i a1).set jj ai,_,rfl,z,⟨rfl,by omega,fe,xv,fr⟩,aB (by kernel_rfl)⟩;omega)
 ·clear q oi oe
  simp -implicitDefEqProofs only [syms,aa,seval,de]
  obtain ⟨jj,Jz⟩:∃ jj,jj=2*i+1:=⟨_,rfl⟩
  rw [← Jz] at nk ⊢
  have JA:jj < m:=by omega
  have dh:i < jj:=by omega
  simp -implicitDefEqProofs only [syms,aa,seval,de,q9,j9]
  obtain ⟨⟨vi,ve,q,oi,oe⟩,_,_,cR,_⟩:=id st
  refine rj (f:=189) (y:=vi) (by rw [Mf,sQ q];rfl) ?_
  refine Ml f1 FI vi jj i a1 ai _ (oi.lay _ _) nk nq _ (fun h' x=>?_)
  (replace z:=z.an x (by omega);(replace st:=st.over x);(replace fr:=fr.over x);rw [ao h'])
  clear q oi oe
  obtain ⟨⟨vi,ve,q,oi,oe⟩,_,_,cR,_⟩:=id st
  rcases Decidable.em (a1 < ai) with hd|hd
  rotate_left
  ·rw [decide_eq_false hd]
   simp -implicitDefEqProofs only [syms,aa,seval,de]
   (with_reducible_and_instances apply cm);(· rfl)
   simp -implicitDefEqProofs only [syms,aa,seval,de,Bool.not_false]
   rw [ry (by decide)]
   simp -implicitDefEqProofs only [syms,aa,seval,de]
   rw [Et]
   simp -implicitDefEqProofs only [syms,aa,seval,de]
   exact hk _ f1 _ (z.aw _ _ (by omega)) (fr.trans (aT.lay _ _ _ []) (fun _ h=>nomatch h)) (st.lay _ _) ga
  rw [decide_eq_true hd]
  simp -implicitDefEqProofs only [syms,aa,seval,de]
  (with_reducible_and_instances apply cm);(· rfl)
  simp -implicitDefEqProofs only [syms,aa,seval,de,Bool.not_true,q9,j9]
  refine rj (f:=192) (y:=vi) (by rw [Mg,sQ q];rfl) ?_
  refine Mm f1 FI vi i jj ai a1 h _ (z.aw _ _ (by omega)) cR.2.1 (oi.lay _ _) nq nk _ (fun h3 z3 fh o3=>?_)
  have fe:=(st.lay [] h'.low).o9 (q.on _ _) (oe.lay _ _) fh o3
  replace fr:=(fr.trans (aT.lay h' [] h'.low []) (fun _ h=>nomatch h)).trans fh (fun B hB=>.inl hB)
  have xv:=ga.trans (Mi nq nk)
  clear q oi oe o3 fh st z
  have z:=z3
  rw [ao h3]
  simp -implicitDefEqProofs only [syms,aa,seval,de]
  (rw [aR];with_reducible refine cz (m:=_) ?_ ⟨jj,(f1.set i a1).set jj ai,_,rfl,z,⟨rfl,by omega,fe,xv,fr⟩,aB (by kernel_rfl)⟩;omega)
theorem Pb (x:Value):BD ae 3 x=some (.iface 3 x):=by kernel_rfl
theorem ztF (x:Value):BD ae 138 x=some (.iface 138 x):=by kernel_rfl
theorem zmb (n:Int):EC ae (.iface 3 (.int .i64 n)) 3 true=some (.tuple #[.int .i64 n,.bool true]):=by kernel_rfl
theorem zBn:bO ae 110=some 1:=by kernel_rfl
theorem zvL (a b c:Value):([a,b,c]:List Value)[0]? = some a:=rfl
theorem vz (a b c:Value):([a,b,c]:List Value)[1]? = some b:=rfl
theorem EW (a b c:Value):([a,b,c]:List Value)[2]? = some c:=rfl
theorem zrR (h hc:Heap) (z:Ext h hc) (T0 FI FE FM:Nat) (free:List Int) (aJ:List eD) (kv:List (ByteArray × Value)) (n:Nat) (last:Int) (st:dY h.size hc T0 FI FE FM free aJ kv) (hn:free.length=n+1) (hl:free[n]? = some last) (K:Value→Heap→Prop) (hk:∀ h',Ext h h'→aT [T0] hc h'→dY h.size h' T0 FI FE FM (free.take n) aJ kv→K (.iface 3 (.int .i64 last)) h'):Ok Tryz.prog ae ov 190 [.pointer (some ⟨T0,0,none⟩)] hc K:=by
 obtain ⟨⟨vi,ve,q,oi,oe⟩,mm,aO,cR,kT⟩:=id st
 have hle:=oi.nE
 have cp:=fun (hh:Heap)=>oi.bd zV hh
 have hw:IntKind.i64.wrap (((free.length:Nat):Int) - 1)=(n:Int):=by rw [wrap_i64 (by omega) (by omega)];omega
 have lM:=oi.ix (kd:=.i64) (i:=n) zV u9 (by omega)
 have ci:=oi.ot hl rfl
 obtain ⟨v2,j7,o2⟩:=oi.pop (kd:=.i64) (n:=n) (by decide) zV u9 (by omega) (by intro e;rw [e] at hn;simp at hn)
 have gN:=cJ vi
 have kH:=cJ v2
 have gr:=mn
 have sL:∀ (x:Value) (h:Heap) (K:Value→Heap→Prop),aU (some (.iface 3 x)) h K=K (.iface 3 x) h:=fun _ _ _=>rfl
 rw [ao hc]
 refine Ok.aD rfl zvE (br HN) rfl (m:=28) rfl ?_
 simp -implicitDefEqProofs only [syms,aa,seval,Ir,q.lay,zvL,gN,cp,hw,lM,ci,gr,j7,kH,Pb,sL,Oj]
 obtain ⟨xa,xn,xc,rfl⟩:=o2.shape
 refine OT q zBn rfl rfl (by simp) rfl (fun h3 q3 c3=>?_)
 replace q3:Holds h3 T0 (.row [.slice xa xn xc,ve,.map (some FM)] 115 false):=q3
 have z3:=z.dI c3 cR.1 (by omega)
 have fh:aT [T0] hc h3:=(aT.refl [T0] hc).ku c3 (.inl (by simp))
 have fe:=st.KC fh q3 o2 oe
 clear z
 have z:=z3
 rw [ao h3]
 simp -implicitDefEqProofs only [syms,aa,seval,Ir,Pb,sL,Oj]
 exact hk _ (z.aw _ _ (by omega)) (fh.trans (aT.lay _ _ _ []) (fun _ h=>nomatch h)) (fe.lay _ _)
theorem zuw {l:List Int} {n:Nat} {x:Int} (hn:l.length=n+1) (hl:l[n]? = some x):l.Perm (x::l.take n):=by
 have e:l=l.take n++[x]:=by
  have h1:=(List.take_append_drop n l).symm
  rw [List.drop_eq_getElem_cons (by omega),(List.getElem?_eq_some_iff.1 hl).2,List.drop_of_length_le (by omega)] at h1
  exact h1
 conv=>lhs;rw [e]
 exact List.perm_append_singleton x (l.take n)
theorem zrP (h hc:Heap) (z:Ext h hc) (T0 FI FE FM:Nat) (free:List Int) (aJ:List eD) (kv:List (ByteArray × Value)) (n:Nat) (st:dY h.size hc T0 FI FE FM free aJ kv) (hn:free.length=n+1) (K:Value→Heap→Prop) (hk:∀ h' x rest,Ext h h'→aT [T0,FI] hc h'→dY h.size h' T0 FI FE FM rest aJ kv→free.Perm (x::rest)→K (.iface 3 (.int .i64 x)) h'):Ok Tryz.prog ae ov 100 [qV T0] hc K:=by
 obtain ⟨⟨vi,ve,q,oi,oe⟩,mm,aO,cR,kT⟩:=id st
 have hle:=oi.nE
 have hw:IntKind.i64.wrap (((free.length:Nat):Int) - 1)=(n:Int):=by rw [wrap_i64 (by omega) (by omega)];omega
 have j9:∀ (h:Heap) (K:Value→Heap→Prop),aU (some (qV T0)) h K=K (qV T0) h:=fun _ _=>rfl
 have sL:∀ (x:Value) (h:Heap) (K:Value→Heap→Prop),aU (some (.iface 3 x)) h K=K (.iface 3 x) h:=fun _ _ _=>rfl
 obtain ⟨a,ha,wZ⟩:=eP (l:=free) (i:=0) (by omega)
 obtain ⟨b,hb,kj⟩:=eP (l:=free) (i:=n) (by omega)
 rw [ao hc]
 refine Ok.aD rfl zuR (br GZ) rfl (m:=14) rfl ?_
 simp -implicitDefEqProofs only [syms,aa,seval,tq,q9,j9]
 refine rj (f:=99) (y:=vi) (by rw [zqi,sQ q];rfl) ?_
 refine zpe free FI vi _ (oi.lay _ _) _ (fun h' x=>?_)
 have fr:aT [T0,FI] hc h':=(aT.refl [T0,FI] hc).over x
 (replace z:=z.an x (by omega);(replace st:=st.over x);rw [ao h'])
 clear q oi oe mm
 obtain ⟨⟨vi,ve,q,oi,oe⟩,mm,_,_,_⟩:=id st
 simp -implicitDefEqProofs only [syms,aa,seval,tq,q9,j9,hw]
 refine rj (f:=192) (y:=vi) (by rw [Mg,sQ q];rfl) ?_
 refine Mm free FI vi 0 n a b h _ (z.aw _ _ (by omega)) cR.2.1 (oi.lay _ _) wZ kj _ (fun h3 z3 fh o3=>?_)
 have fe:=(st.lay [] h'.low).o9 (q.on _ _) (oe.lay _ _) fh o3
 replace fr:=(fr.trans (aT.lay h' [] h'.low []) (fun _ h=>nomatch h)).trans fh (fun B hB=>.inl (by rw [List.mem_singleton.1 hB];simp))
 have xv:=Mi wZ kj
 have JD:((free.set 0 b).set n a).length=n+1:=by rw [List.length_set,List.length_set];exact hn
 clear q oi oe o3 fh st z mm
 have z:=z3
 rw [ao h3]
 simp -implicitDefEqProofs only [syms,aa,seval,tq,j9]
 refine zwW h _ (z.aw _ _ (by omega)) T0 FI FE FM _ aJ kv n (fe.lay _ _) (by omega) _ (fun h4 f4 bb z4 nj kM NI=>?_)
 replace fr:=(fr.trans (aT.lay h3 [] h3.low []) (fun _ h=>nomatch h)).trans nj (fun B hB=>.inl (by rw [List.mem_singleton.1 hB];simp))
 have vQ:=NI.length_eq
 obtain ⟨c,tW,Jj⟩:=eP (l:=f4) (i:=n) (by omega)
 clear z z3 fe
 have z:=z4
 rw [ao h4]
 simp -implicitDefEqProofs only [syms,aa,seval,tq,q9,j9]
 refine rj (f:=190) (y:=.pointer (some ⟨T0,0,none⟩)) (by rw [zwQ]) ?_
 refine zrR h _ (z.aw _ _ (by omega)) T0 FI FE FM f4 aJ kv n c (kM.lay _ _) (by omega) Jj _ (fun h5 z5 nT u6=>?_)
 replace fr:=(fr.trans (aT.lay h4 [] h4.low []) (fun _ h=>nomatch h)).trans nT (fun B hB=>.inl (by rw [List.mem_singleton.1 hB];simp))
 clear z z4
 have z:=z5
 rw [ao h5]
 simp -implicitDefEqProofs only [syms,aa,seval,tq,sL]
 exact hk _ c _ (z.aw _ _ (by omega)) (fr.trans (aT.lay _ _ _ []) (fun _ h=>nomatch h)) (u6.lay _ _) ((xv.trans NI).trans (zuw (by omega) Jj))
theorem zC7:rm ae 110 110=true:=by kernel_rfl
theorem zpd (h hc:Heap) (z:Ext h hc) (T0 FI FE FM:Nat) (free:List Int) (aJ:List eD) (kv:List (ByteArray × Value)) (n:Int) (st:dY h.size hc T0 FI FE FM free aJ kv) (hn:free.length < 800000000) (K:Value→Heap→Prop) (hk:∀ h' I2,Ext h h'→aT [T0,FI] hc h'→dY h.size h' T0 I2 FE FM (free++[n]) aJ kv→(I2=FI∨hc.size≤I2)→K undef h'):Ok Tryz.prog ae ov 191 [.pointer (some ⟨T0,0,none⟩),.iface 3 (.int .i64 n)] hc K:=by
 obtain ⟨⟨vi,ve,q,oi,oe⟩,mm,aO,cR,kT⟩:=id st
 have gN:=cJ vi
 have gr:=mn
 have j9:∀ (h:Heap) (K:Value→Heap→Prop),aU (some (.iface 3 (.int .i64 n))) h K=K (.iface 3 (.int .i64 n)) h:=fun _ _=>rfl
 rw [ao hc]
 refine Ok.aD rfl zvF (br HO) rfl (m:=20) rfl ?_
 have hvt:∀ (a:Array Value) (h:Heap) (K:Value→Heap→Prop),aU (some (.tuple a)) h K=K (.tuple a) h:=fun _ _ _=>rfl
 simp -implicitDefEqProofs only [syms,aa,seval,Cm,zhS,zmb,j9,hvt,gr,q.lay,zvL,gN,sX,zC7]
 refine dD.app (x:=n) (j:=0) YF rfl (by decide) zV zn4 oi rfl (by omega) (by omega) (fun v3 h3 I3 o3 j0 _ CQ=>?_)
 have c3:=CQ kT.2.1
 have z3:=z.dI c3 cR.2.1 (by omega)
 have fh:aT [FI] hc h3:=(aT.refl [FI] hc).ku c3 (.inl (by simp))
 have q3:=q.bR c3 aO.1
 have uH:=c3.size
 rw [bB] at uH
 obtain ⟨xa,xn,xc,rfl⟩:=o3.shape
 have akf:I3 < h3.size:=o3.lt (by simp)
 clear z
 have z:=z3
 rw [ao h3]
 simp -implicitDefEqProofs only [syms,aa,seval,Cm]
 refine OT q3 zBn rfl rfl (by simp) rfl (fun h4 q4 c4=>?_)
 replace q4:Holds h4 T0 (.row [.slice xa xn xc,ve,.map (some FM)] 115 false):=q4
 have z4:=z.dI c4 cR.1 (by omega)
 have Vl:I3≠T0:=by
  rcases j0 with e|e
  ·rw [e.1];exact Ne.symm aO.1
  ·rw [e,bB];omega
 have nj:aT [T0,FI] hc h4:=(fh.mono (fun B hB=>by rw [List.mem_singleton.1 hB];simp)).ku c4 (.inl (by simp))
 have J0:=c4.size
 rw [bB] at J0
 have IX:I3=FI∨hc.size≤I3:=by
  rcases j0 with e|e
  ·exact .inl e.1
  ·right;rw [e,bB];omega
 have kM:=st.Ed nj IX (by simp only [List.length_nil] at J0;omega) q4 (o3.bR c4 Vl) oe
 clear z z3
 have z:=z4
 rw [ao h4]
 simp -implicitDefEqProofs only [syms,aa,seval,Cm]
 exact hk _ I3 (z.aw _ _ (by omega)) (nj.trans (aT.lay _ _ _ []) (fun _ h=>nomatch h)) (kM.lay _ _) IX
theorem zpc (h hc:Heap) (z:Ext h hc) (T0 FI FE FM:Nat) (free:List Int) (aJ:List eD) (kv:List (ByteArray × Value)) (n:Int) (st:dY h.size hc T0 FI FE FM free aJ kv) (hn:free.length < 800000000) (K:Value→Heap→Prop) (hk:∀ h' I2 f2,Ext h h'→aT [T0,FI] hc h'→dY h.size h' T0 I2 FE FM f2 aJ kv→(I2=FI∨hc.size≤I2)→f2.Perm (n::free)→K undef h'):Ok Tryz.prog ae ov 102 [qV T0,.iface 3 (.int .i64 n)] hc K:=by
 have j9:∀ (h:Heap) (K:Value→Heap→Prop),aU (some (qV T0)) h K=K (qV T0) h:=fun _ _=>rfl
 have hw:IntKind.i64.wrap ((((free++[n]).length:Nat):Int) - 1)=(free.length:Int):=by rw [List.length_append,List.length_singleton,wrap_i64 (by omega) (by omega)];omega
 rw [ao hc]
 refine Ok.aD rfl zuT (br G2) rfl (m:=10) rfl ?_
 simp -implicitDefEqProofs only [syms,aa,seval,wI,q9,j9]
 refine rj (f:=191) (y:=.pointer (some ⟨T0,0,none⟩)) (by rw [ztV]) ?_
 refine zpd h _ (z.aw _ _ (by omega)) T0 FI FE FM free aJ kv n (st.lay _ _) hn _ (fun h3 I3 z3 fh fe j0=>?_)
 have fr:aT [T0,FI] hc h3:=(aT.lay hc [] hc.low [T0,FI]).trans fh (fun B hB=>.inl hB)
 have hI:I3=FI∨hc.size≤I3:=j0.imp id (fun e=>by rw [bB] at e;omega)
 clear z st fh
 have z:=z3
 have st:=fe
 clear z3 fe
 rw [ao h3]
 obtain ⟨⟨vi,ve,q,oi,oe⟩,mm,_,_,_⟩:=id st
 simp -implicitDefEqProofs only [syms,aa,seval,wI,q9,j9]
 refine rj (f:=99) (y:=vi) (by rw [zqi,sQ q];rfl) ?_
 refine zpe _ I3 vi _ (oi.lay _ _) _ (fun h' x=>?_)
 (replace z:=z.an x (by omega);(replace st:=st.over x);(replace fr:=fr.over x);rw [ao h'])
 clear q oi oe mm
 simp -implicitDefEqProofs only [syms,aa,seval,wI,j9,hw]
 refine zEi h _ (z.aw _ _ (by omega)) T0 I3 FE FM _ aJ kv free.length (st.lay _ _) (by rw [List.length_append,List.length_singleton];omega) _ (fun h4 f4 z4 nj kM NI=>?_)
 have frf:aT [T0,FI] hc h4:=(fr.trans (aT.lay h' [] h'.low []) (fun _ h=>nomatch h)).trans nj (fun B hB=>by
  rw [List.mem_singleton.1 hB]
  exact hI.imp (fun e=>by rw [e];simp) id)
 clear z
 have z:=z4
 rw [ao h4]
 simp -implicitDefEqProofs only [syms,aa,seval,wI]
 exact hk _ I3 f4 (z.aw _ _ (by omega)) (frf.trans (aT.lay _ _ _ []) (fun _ h=>nomatch h)) (kM.lay _ _) hI ((NI.symm).trans (List.perm_append_singleton n free))
theorem ec (A:Nat) (h:Heap) (K:Value→Heap→Prop):aU (some (.map (some A))) h K=K (.map (some A)) h:=rfl
theorem bj (k:IntKind) (n:Int) (h:Heap) (K:Value→Heap→Prop):aU (some (.int k n)) h K=K (.int k n) h:=rfl
theorem kQ (x):bU Tryz.prog ae .eql 76 (.pointer (some x)) (.pointer none)=some (.bool false):=by kernel_rfl
theorem qo (x):bU Tryz.prog ae .neq 76 (.pointer (some x)) (.pointer none)=some (.bool true):=by kernel_rfl
theorem GQ:ae.desc 63=some (.map 9 3):=by kernel_rfl
theorem vC:ae.desc 9=some .string:=by kernel_rfl
theorem Ff:ae.zero 3=some (.int .i64 0):=by kernel_rfl
theorem EV:ae.desc 113=some (.slice 136):=by kernel_rfl
theorem GB:bO ae 136=some 2:=by kernel_rfl
theorem zCR (h:Heap) (T0 FI FE FM N:Nat) (free:List Int) (aJ:List eD) (kv:List (ByteArray × Value)) (st:dY N h T0 FI FE FM free aJ kv) (K:Value→Heap→Prop) (hk:∀ h',Ext h h'→K (.int .i64 kv.length) h'):Ok Tryz.prog ae ov 36 [.pointer (some ⟨T0,0,none⟩)] h K:=by
 obtain ⟨⟨vi,ve,q,oi,oe⟩,mm,aO,cR,kT⟩:=st
 have z:=Ext.refl h
 have gr:=mn
 have cp:=fun (b:List bh) (w:Nat)=>D6 (bs:=b) (w:=w) mm GQ
 rw [ao h]
 refine Ok.aD rfl zzQ (br N36) rfl (m:=9) rfl ?_
 simp -implicitDefEqProofs only [syms,aa,seval,c36,ec,bj,kQ,qo,q.lay,EW,cp,gr]
 exact hk _ (z.aw _ _ (by omega))
theorem zw1 (t:ByteArray) (r:Option Nat) (h:Heap) (T0 FI FE FM N:Nat) (free:List Int) (aJ:List eD) (kv:List (ByteArray × Value)) (st:dY N h T0 FI FE FM free aJ kv) (hr:cZ kv t=r.map fun i=>.int .i64 (i:Int)) (K:Value→Heap→Prop) (hk:∀ h',Ext h h'→K (.tuple #[.int .i64 ((r.getD 0:Nat):Int),.bool r.isSome]) h'):Ok Tryz.prog ae ov 67 [.pointer (some ⟨T0,0,none⟩),.string t] h K:=by
 obtain ⟨⟨vi,ve,q,oi,oe⟩,mm,aO,cR,kT⟩:=st
 have z:=Ext.refl h
 rw [ao h]
 refine Ok.aD rfl zAk (br N67) rfl (m:=19) rfl ?_
 simp -implicitDefEqProofs only [syms,aa,seval,Tk,ec,bj,kQ,qo,q.lay,EW,v8]
 refine Eo mm GQ vC Ff ?_
 rw [hr]
 cases r with
 |none =>
  simp only [Option.map_none,Option.getD_none,Option.isSome_none,if_true] at hk ⊢
  simp -implicitDefEqProofs only [syms,aa,seval,Tk,bj]
  exact hk _ (z.aw _ _ (by omega))
 |some i =>
  simp only [Option.map_some,Option.getD_some,Option.isSome_some,if_true] at hk ⊢
  simp -implicitDefEqProofs only [syms,aa,seval,Tk,bj]
  exact hk _ (z.aw _ _ (by omega))
theorem _root_.Go.Am.dD.my {α:Type} {k:Nat} {cell:α→List Value} {h1:Heap} {u:TypeId} {A i j:Nat} {v:Value} {l:List α} {x:Value} {y:α} (f:dD k cell h1 u A v l) (hx:l[i]? = some y) (hj:j < k) (hc:(cell y)[j]? = some x) (bs:List bh) (w:Nat):lH ((h1.lay bs w).get A) (i*k+j)=some x:=by
 obtain ⟨row,q,c⟩:=f.row hx
 have hg:=q.lay bs w
 rw [hg]
 unfold cut at c
 split at c
 ·simp only [Option.some.injEq] at c
  show row[i*k+j]? = some x
  have:=congrArg (fun l=>l[j]?) c
  simp only [List.getElem?_take,List.getElem?_drop,if_pos hj,hc] at this
  exact this
 ·cases c
theorem zCP (n:Nat) (x:eD) (h:Heap) (T0 FI FE FM N:Nat) (free:List Int) (aJ:List eD) (kv:List (ByteArray × Value)) (st:dY N h T0 FI FE FM free aJ kv) (hx:aJ[n]? = some x) (K:Value→Heap→Prop) (hk:∀ h',Ext h h'→K (.bool (decide (0 < x.2))) h'):Ok Tryz.prog ae ov 101 [.pointer (some ⟨T0,0,none⟩),.int .i64 n] h K:=by
 obtain ⟨⟨vi,ve,q,oi,oe⟩,mm,aO,cR,kT⟩:=st
 have z:=Ext.refl h
 have cp:=fun (hh:Heap)=>oe.bd EV hh
 have kE:=(List.getElem?_eq_some_iff.1 hx).1
 have lM:=oe.ix (kd:=.i64) (i:=n) EV GB kE
 have c1:=oe.my (j:=1) hx (by omega) rfl
 have gN:=cJ ve
 rw [ao h]
 refine Ok.aD rfl zuS (br G1) rfl (m:=29) rfl ?_
 simp -implicitDefEqProofs only [syms,aa,seval,tu,ec,bj,kQ,qo,q.lay,vz,gN,cp]
 refine bp (fun _=>?_) (fun hn=>absurd hn (by omega))
 simp -implicitDefEqProofs only [syms,aa,seval,tu,ec,bj,kQ,qo,q.lay,vz,gN,cp]
 refine bp (fun _=>?_) (fun hn=>absurd hn (by omega))
 simp -implicitDefEqProofs only [syms,aa,seval,tu,ec,bj,kQ,qo,q.lay,vz,gN,cp,lM,c1]
 rw [Et]
 simp -implicitDefEqProofs only [syms,aa,seval,tu]
 rw [Et]
 simp -implicitDefEqProofs only [syms,aa,seval,tu]
 exact hk _ (z.aw _ _ (by omega))
theorem Zx:∀ (n:Nat) (l:List Int),l.Nodup→(∀ x∈l,0≤x∧x < n)→l.length≤n
 |0,l,_,h=>by
  cases l with
  |nil=>exact Nat.le_refl _
  |cons a l=>have:=h a List.mem_cons_self;omega
 |n+1,l,hn,h=>by
  by_cases hm:(n:Int)∈l
  ·have h1:=Zx n (l.erase n) (hn.erase _) (fun x hx=>by
    have h2:=h x (List.mem_of_mem_erase hx)
    have h3:x≠n:=fun e=>by rw [e] at hx;exact (List.Nodup.not_mem_erase hn) hx
    omega)
   rw [List.length_erase_of_mem hm] at h1
   omega
  ·have h1:=Zx n l hn (fun x hx=>by
    have h2:=h x hx
    have h3:x≠n:=fun e=>hm (e ▸ hx)
    omega)
   omega
theorem _root_.Go.Am.cK.qH {free:List Int} {aJ:List eD} {kv:List (ByteArray × Value)} {us:ByteArray→Nat} (p:cK free aJ kv us):free.length≤aJ.length :=
 Zx _ _ p.nd (fun x hx=>by obtain ⟨i,rfl,hi⟩:=p.fr x hx;omega)
theorem XZ (a b:Value):([a,b]:List Value)[1]? = some b:=rfl
theorem dJ (s:ByteArray) (h:Heap) (K:Value→Heap→Prop):aU (some (.string s)) h K=K (.string s) h:=rfl
theorem Ee (t:TypeId) (x:Value) (h:Heap) (K:Value→Heap→Prop):aU (some (.iface t x)) h K=K (.iface t x) h:=rfl
theorem Ia:nR ae 136 []=some (.agg #[.string ByteArray.empty,.int .i64 0]):=by kernel_rfl
theorem jK (a:Array Value) (h:Heap) (K:Value→Heap→Prop):aU (some (.agg a)) h K=K (.agg a) h:=rfl
theorem zwY (h hc:Heap) (z:Ext h hc) (T0 FI FE FM:Nat) (free:List Int) (aJ:List eD) (kv:List (ByteArray × Value)) (us:ByteArray→Nat) (t:ByteArray) (i:Nat) (st:dY h.size hc T0 FI FE FM free aJ kv) (p:cK free aJ kv us) (hl:cZ kv t=some (.int .i64 (i:Int))) (sF:aJ.length < 800000000) (jE:us t < 1000000000000) (K:Value→Heap→Prop)
 (hk:∀ h' I2 f2 e2 xI,Ext h h'→aT [T0,FI,FE,FM] hc h'→dY h.size h' T0 I2 FE FM f2 e2 xI→cK f2 e2 xI (gg us t (us t - 1))→(I2=FI∨hc.size≤I2)→e2.length=aJ.length→K (.int .i64 0) h'):Ok Tryz.prog ae ov 68 [.pointer (some ⟨T0,0,none⟩),.int .i64 i] hc K:=by
 obtain ⟨j,hj,xF⟩:=p.num hl
 have dh:i=j:=by cases hj;rfl
 subst dh
 clear hj
 have jB:=p.pos hl
 have xf:=p.qH
 have kE:=(List.getElem?_eq_some_iff.1 xF).1
 have hw:IntKind.i64.wrap (((us t:Nat):Int) - 1)=((us t - 1:Nat):Int):=by rw [wrap_i64 (by omega) (by omega)];omega
 obtain ⟨⟨vi,ve,q,oi,oe⟩,mm,aO,cR,kT⟩:=id st
 have lM:=oe.ix (kd:=.i64) (i:=i) EV GB kE
 have c1:=oe.my (j:=1) xF (by omega) rfl
 have gN:=cJ ve
 rw [ao hc]
 refine Ok.aD rfl zAl (br N68) rfl (m:=57) rfl ?_
 simp -implicitDefEqProofs only [syms,aa,seval,sA,ec,bj,kQ,qo]
 refine zCP i _ _ T0 FI FE FM h.size free aJ kv (st.lay _ _) xF _ (fun h' x=>?_)
 rw [decide_eq_true (by show (0:Int) < (us t:Nat);omega)]
 have fr:aT [T0,FI,FE,FM] hc h':=(aT.refl [T0,FI,FE,FM] hc).over x
 replace st:=st.over x
 replace q:=q.over x
 replace oe:=oe.over x
 clear c1
 have c1:=oe.my (j:=1) xF (by omega) rfl
 replace oi:=oi.over x
 replace mm:=mm.over x
 (replace z:=z.an x (by omega);rw [ao h'])
 simp -implicitDefEqProofs only [syms,aa,seval,sA,ec,bj,kQ,qo]
 (with_reducible_and_instances apply cm);(· rfl)
 simp -implicitDefEqProofs only [syms,aa,seval,sA,ec,bj,kQ,qo,q.lay,vz,gN,lM,c1,hw]
 refine dD.store (off:=1) (y:=(t,((us t - 1:Nat):Int))) LN oe xF u9 (by omega) rfl rfl rfl rfl (fun h3 sN c3=>?_)
 have z3:=z.dI c3 cR.2.2.1 (by omega)
 have hs0:=fr.size
 have fh:aT [T0,FI,FE,FM] hc h3:=fr.ku c3 (.inl (by simp))
 have q3:=q.bR c3 aO.2.1
 have Bb:=oi.bR c3 aO.2.2.2.1
 have Ba:=mm.bR c3 (Ne.symm aO.2.2.2.2.2)
 have uH:=fh.size
 clear z q oi oe mm c1 fr
 have z:=z3
 have DR:(aJ.set i (t,((us t - 1:Nat):Int)))[i]? = some (t,((us t - 1:Nat):Int)):=by rw [List.getElem?_set,if_pos rfl,if_pos kE]
 have c1:=sN.my (j:=1) DR (by omega) rfl
 have c0:=sN.my (j:=0) DR (by omega) rfl
 rw [ao h3]
 simp -implicitDefEqProofs only [syms,aa,seval,sA,ec,bj,q3.lay,vz,gN,lM,c1]
 refine pK (fun heq=>?_) (fun alk=>?_)
 ·simp -implicitDefEqProofs only [syms,aa,seval,sA]
  with_reducible first|refine eu (by simp only [sA]) (z.aw _ _ (by omega)) ?_
  simp -implicitDefEqProofs only [syms,aa,seval,sA,ec,bj,dJ,q3.lay,vz,EW,gN,lM,c0,zA2]
  refine ztb Ba GQ vC (fun h4 m4 c4=>?_)
  have hz:=z.size
  refine nM (A:=FM) (by kernel_rfl) (by rw [bB];omega) (by omega) (by simpa only [cq,bB,List.append_nil,List.length_cons,List.length_nil,Nat.add_zero] using c4) ?_
  have z4:=(z.aw [] (h3.size+0) (by omega)).step c4 cR.2.2.2
  have nj:aT [T0,FI,FE,FM] hc h4:=fh.ku c4 (.inl (by simp))
  have q4:=q3.bR c4 aO.2.2.1
  have NW:=Bb.bR c4 aO.2.2.2.2.1
  have NV:=sN.bR c4 aO.2.2.2.2.2
  clear z q3 Bb sN Ba c1 c0
  have z:=z4
  rw [ao h4]
  simp -implicitDefEqProofs only [syms,aa,seval,sA]
  ((with_reducible refine ⟨z.cW.lay _ _,?_⟩);(intro _ h' zz x _);(simp only [cq,List.append_nil] at x))
  replace q4:=q4.over x
  replace NW:=NW.over x
  replace NV:=NV.over x
  replace m4:=m4.over x
  replace nj:=nj.over x
  replace z:=zz
  rw [ao h']
  simp -implicitDefEqProofs only [syms,aa,seval,sA,ec,bj,dJ,q4.lay,vz,EW,gN,lM,Ia,jK]
  have W8:(aJ.set i (t,((us t - 1:Nat):Int)))[i]? = some (t,((us t - 1:Nat):Int)):=DR
  refine dD.nK (y:=(ByteArray.empty,0)) LN NV W8 GB (by omega) rfl rfl rfl rfl (fun h5 Ks c5=>?_)
  have J0:=nj.size
  have z5:=z.dI c5 cR.2.2.1 (by omega)
  have nT:aT [T0,FI,FE,FM] hc h5:=nj.ku c5 (.inl (by simp))
  have q5:=q4.bR c5 aO.2.1
  have NX:=NW.bR c5 aO.2.2.2.1
  have m5:=m4.bR c5 (Ne.symm aO.2.2.2.2.2)
  have AX:=nT.size
  clear z q4 NW NV m4 nj z3 z4 fh
  have z:=z5
  rw [List.set_set] at Ks
  have u6:dY h.size h5 T0 FI FE FM free (aJ.set i (ByteArray.empty,0)) (k8 kv t):=⟨⟨vi,ve,q5,NX,Ks⟩,m5,aO,cR,⟨by omega,by omega,by omega,by omega⟩⟩
  have p5:=p.gone hl (ByteArray.empty,0)
  rw [ao h5]
  simp -implicitDefEqProofs only [syms,aa,seval,sA,Pb,ztF,Ee,Oj]
  refine zpc h _ (z.aw _ _ (by omega)) T0 FI FE FM free _ _ (i:Int) (u6.lay _ _) (by omega) _ (fun h6 I2 f2 z6 tJ st6 hI hp6=>?_)
  replace nT:=(nT.trans (aT.lay h5 [] h5.low []) (fun _ h=>nomatch h)).trans tJ (fun B hB=>.inl (by rcases List.mem_cons.1 hB with rfl|hB;simp;rw [List.mem_singleton.1 hB];simp))
  have p6:=p5.perm hp6.symm
  rw [show (0:Nat)=us t - 1 by omega] at p6
  have hI6:I2=FI∨hc.size≤I2:=hI.imp id (fun e=>by rw [bB] at e;omega)
  clear z z5
  have z:=z6
  rw [ao h6]
  simp -implicitDefEqProofs only [syms,aa,seval,sA]
  exact hk _ I2 f2 _ _ (z.aw _ _ (by omega)) (nT.trans (aT.lay _ _ _ []) (fun _ h=>nomatch h)) (st6.lay _ _) p6 hI6 (by rw [List.length_set])
 ·simp -implicitDefEqProofs only [syms,aa,seval,sA]
  have fe:dY h.size h3 T0 FI FE FM free (aJ.set i (t,((us t - 1:Nat):Int))) kv:=⟨⟨vi,ve,q3,Bb,sN⟩,Ba,aO,cR,⟨by omega,by omega,by omega,by omega⟩⟩
  exact hk _ FI free _ _ (z.aw _ _ (by omega)) (fh.trans (aT.lay _ _ _ []) (fun _ h=>nomatch h)) (fe.lay _ _) (p.turn hl (m:=us t - 1) (by omega)) (.inl rfl) (by rw [List.length_set])
theorem zC8:rm ae 113 113=true:=by kernel_rfl
theorem zEz:bO ae 113=some 1:=by kernel_rfl
theorem Ta (t:ByteArray):nR ae 136 [(0,.string t),(1,.int .i64 1)]=some (.agg #[.string t,.int .i64 1]):=by kernel_rfl
theorem ij (a:Array Value) (h:Heap) (K:Value→Heap→Prop):aU (some (.tuple a)) h K=K (.tuple a) h:=rfl
theorem zw7 (h hc:Heap) (z:Ext h hc) (T0 FI FE FM:Nat) (free:List Int) (aJ:List eD) (kv:List (ByteArray × Value)) (us:ByteArray→Nat) (t:ByteArray) (st:dY h.size hc T0 FI FE FM free aJ kv) (p:cK free aJ kv us) (ht:t.size≠0) (ht2:t.size≤255) (kU:kv.length < 65536) (sF:aJ.length < 700000000) (jE:us t < 1000000000000) (K:Value→Heap→Prop)
 (hk:∀ h' n I2 E2 f2 e2 xI,Ext h h'→aT [T0,FI,FE,FM] hc h'→dY h.size h' T0 I2 E2 FM f2 e2 xI→cK f2 e2 xI (gg us t (us t+1))→(I2=FI∨hc.size≤I2)→(E2=FE∨hc.size≤E2)→e2.length≤aJ.length+1→K (.tuple #[.int .i64 n,.int .i64 0]) h'):Ok Tryz.prog ae ov 65 [.pointer (some ⟨T0,0,none⟩),.string t] hc K:=by
 have xf:=p.qH
 obtain ⟨⟨vi,ve,q,oi,oe⟩,mm,aO,cR,kT⟩:=id st
 have gN:=cJ ve
 have sL:=cJ vi
 have FJ:=fun (b:List bh) (w:Nat)=>D6 (bs:=b) (w:=w) mm GQ
 have hle:=fun (hh:Heap)=>oe.bd EV hh
 rw [ao hc]
 refine Ok.aD rfl zAi (br N65) rfl (m:=94) rfl ?_
 simp -implicitDefEqProofs only [syms,aa,seval,ng,ec,bj,kQ,qo]
 refine bp (fun he=>absurd (by rw [he];rfl) ht) (fun _=>?_)
 simp -implicitDefEqProofs only [syms,aa,seval,ng,ec,bj,kQ,qo]
 refine bp (fun he=>absurd he (by omega)) (fun _=>?_)
 simp -implicitDefEqProofs only [syms,aa,seval,ng,ec,bj,kQ,qo,q.lay,EW,v8]
 refine Eo mm GQ vC Ff ?_
 cases hl:cZ kv t with
 |some v =>
  obtain ⟨i,rfl,xF⟩:=p.num hl
  have kE:=(List.getElem?_eq_some_iff.1 xF).1
  have lM:=oe.ix (kd:=.i64) (i:=i) EV GB kE
  have c1:=oe.my (j:=1) xF (by omega) rfl
  have hw:IntKind.i64.wrap (((us t:Nat):Int)+1)=((us t+1:Nat):Int):=by rw [wrap_i64 (by omega) (by omega)];omega
  simp only [Option.getD_some,Option.isSome_some,if_true]
  simp -implicitDefEqProofs only [syms,aa,seval,ng,ec,bj,kQ,qo,q.lay,vz,gN,lM,c1,hw]
  refine dD.store (off:=1) (y:=(t,((us t+1:Nat):Int))) LN oe xF u9 (by omega) rfl rfl rfl rfl (fun h3 sN c3=>?_)
  have z3:=z.dI c3 cR.2.2.1 (by omega)
  have fh:aT [T0,FI,FE,FM] hc h3:=(aT.refl _ hc).ku c3 (.inl (by simp))
  have q3:=q.bR c3 aO.2.1
  have Bb:=oi.bR c3 aO.2.2.2.1
  have Ba:=mm.bR c3 (Ne.symm aO.2.2.2.2.2)
  have uH:=fh.size
  clear z q oi oe mm c1
  have z:=z3
  rw [ao h3]
  simp -implicitDefEqProofs only [syms,aa,seval,ng,bj]
  have fe:dY h.size h3 T0 FI FE FM free (aJ.set i (t,((us t+1:Nat):Int))) kv:=⟨⟨vi,ve,q3,Bb,sN⟩,Ba,aO,cR,⟨by omega,by omega,by omega,by omega⟩⟩
  exact hk _ _ FI FE free _ _ (z.aw _ _ (by omega)) (fh.trans (aT.lay _ _ _ []) (fun _ h=>nomatch h)) (fe.lay _ _) (p.turn hl (m:=us t+1) (by omega)) (.inl rfl) (.inl rfl) (by rw [List.length_set];omega)
 |none =>
  have hzu:=p.zero hl
  simp only [Option.getD_none,Option.isSome_none,if_true]
  simp -implicitDefEqProofs only [syms,aa,seval,ng,ec,bj,kQ,qo,q.lay,EW,FJ]
  refine bp (fun he=>absurd he (by omega)) (fun _=>?_)
  simp -implicitDefEqProofs only [syms,aa,seval,ng,ec,bj,kQ,qo,q.lay,vz,zvL,gN,sL,hle]
  refine zpe free FI vi _ (oi.lay _ _) _ (fun h' x=>?_)
  replace st:=st.over x
  have fr:aT [T0,FI,FE,FM] hc h':=(aT.refl [T0,FI,FE,FM] hc).over x
  replace q:=q.over x
  replace oi:=oi.over x
  replace oe:=oe.over x
  replace mm:=mm.over x
  (replace z:=z.an x (by omega);rw [ao h'])
  simp -implicitDefEqProofs only [syms,aa,seval,ng,bj]
  refine bp (fun jB=>?_) (fun hzero=>?_)
  focus
   obtain ⟨nf,hnf⟩:∃ nf,free.length=nf+1:=⟨free.length - 1,by omega⟩
   simp -implicitDefEqProofs only [syms,aa,seval,ng,Pb,ztF,Ee,Oj,kQ,qo]
   refine zrP h _ (z.aw _ _ (by omega)) T0 FI FE FM free aJ kv nf (st.lay _ _) hnf _ (fun hb xx F2 z2 lK XD AQ=>?_)
   have fh:aT [T0,FI,FE,FM] hc hb:=(fr.trans (aT.lay h' [] h'.low []) (fun _ h=>nomatch h)).trans lK (fun B hB=>.inl (by rcases List.mem_cons.1 hB with rfl|hB;simp;rw [List.mem_singleton.1 hB];simp))
   obtain ⟨m,rfl,hm,pp⟩:=p.pop hl AQ
   obtain ⟨E2,wX⟩:∃ E2,E2=FE:=⟨_,rfl⟩
   obtain ⟨e2,pt⟩:∃ e2,e2=aJ:=⟨_,rfl⟩
   rw [← wX,← pt] at XD
   rw [← pt] at pp hm
   have hE:E2=FE∨hc.size≤E2:=.inl wX
   have Jo:e2.length≤aJ.length+1:=by rw [pt];omega
   clear z fr lK st wX pt AQ q oi oe mm gN sL aO cR kT
   rw [ao hb]
   simp -implicitDefEqProofs only [syms,aa,seval,ng,zhS,zmb,Ee,bj,ij]
  rotate_left
  focus
   simp -implicitDefEqProofs only [syms,aa,seval,ng,bj,q.lay,vz,gN,Ia,jK,sX,zC8]
   refine dD.app (x:=(ByteArray.empty,0)) (j:=0) LN rfl (by decide) EV zjK oe rfl (by omega) (by omega) (fun v3 h3 E2 sN IU _ CQ=>?_)
   have NN:=fr.size
   have c3:=CQ (by omega)
   have z3:=z.dI c3 cR.2.2.1 (by omega)
   have fh:aT [T0,FI,FE,FM] hc h3:=fr.ku c3 (.inl (by simp))
   have q3:=q.bR c3 aO.2.1
   have Bb:=oi.bR c3 aO.2.2.2.1
   have Ba:=mm.bR c3 (Ne.symm aO.2.2.2.2.2)
   have uH:=c3.size
   rw [bB] at uH
   obtain ⟨xa,xn,xc,rfl⟩:=sN.shape
   have aj9:E2 < h3.size:=sN.lt (by simp)
   have hE:E2=FE∨hc.size≤E2:=by
    rcases IU with e|e
    ·exact .inl e.1
    ·right;rw [e,bB];omega
   clear z
   have z:=z3
   rw [ao h3]
   simp -implicitDefEqProofs only [syms,aa,seval,ng]
   have xp:T0≠E2∧FI≠E2∧E2≠FM:=by
    rcases hE with e|e
    ·rw [e];exact ⟨aO.2.1,aO.2.2.2.1,aO.2.2.2.2.2⟩
    ·exact ⟨by omega,by omega,by omega⟩
   refine OT q3 zEz rfl rfl (by simp) rfl (fun hb q4 c4=>?_)
   replace q4:Holds hb T0 (.row [vi,.slice xa xn xc,.map (some FM)] 115 false):=q4
   have z2:=z.dI c4 cR.1 (by omega)
   have alz:=fh.size
   replace fh:aT [T0,FI,FE,FM] hc hb:=fh.ku c4 (.inl (by simp))
   have J0:=c4.size
   rw [bB] at J0
   obtain ⟨F2,Vj⟩:∃ F2,F2=free:=⟨_,rfl⟩
   obtain ⟨e2,pt⟩:∃ e2,e2=aJ++[((ByteArray.empty,0):eD)]:=⟨_,rfl⟩
   obtain ⟨m,xm⟩:∃ m,m=aJ.length:=⟨_,rfl⟩
   have XD:dY h.size hb T0 FI E2 FM F2 e2 kv:=⟨⟨vi,.slice xa xn xc,q4,by rw [Vj];exact Bb.bR c4 (Ne.symm aO.1),by rw [pt];exact sN.bR c4 (Ne.symm xp.1)⟩,Ba.bR c4 (Ne.symm aO.2.2.1),⟨aO.1,xp.1,aO.2.2.1,xp.2.1,aO.2.2.2.2.1,xp.2.2⟩,⟨cR.1,cR.2.1,by rcases hE with e|e;(rw [e];exact cR.2.2.1);(have:=z.size;have:=kT.1;omega),cR.2.2.2⟩,⟨by omega,by omega,by omega,by omega⟩⟩
   have Jo:e2.length≤aJ.length+1:=by rw [pt,List.length_append];exact Nat.le_refl _
   have hm:m < e2.length:=by rw [pt,xm,List.length_append];simp
   have pp:cK F2 (e2.set m (t,1)) (fo kv t (.int .i64 (m:Int))) (gg us t 1):=by rw [pt,xm,Vj];exact p.more hl _
   rw [← xm]
   clear q oi oe mm q3 Bb sN Ba aO cR kT gN sL z st fr z3 Vj pt
   rw [ao hb]
   simp -implicitDefEqProofs only [syms,aa,seval,ng]
  rotate_left
  all_goals
   obtain ⟨⟨vi2,ve2,q,oi,oe⟩,mm,aO,cR,kT⟩:=id XD
   have z:=z2
   clear z2
   obtain ⟨x0,hx0⟩:∃ x0,e2[m]? = some x0:=⟨_,List.getElem?_eq_getElem hm⟩
   have lM:=oe.ix (kd:=.i64) (i:=m) EV GB hm
   have gN:=cJ ve2
   with_reducible first|refine eu (by simp only [ng]) (z.aw _ _ (by omega)) ?_
   simp -implicitDefEqProofs only [syms,aa,seval,ng,ec,bj,dJ,jK,Ta,q.lay,vz,EW,gN,lM]
   refine dD.nK (y:=(t,1)) LN oe hx0 GB (by omega) rfl rfl rfl rfl (fun h5 Ks c5=>?_)
   have hz:=z.size
   refine nM (A:=E2) (by kernel_rfl) (by rw [bB];omega) (by omega) (by simpa only [cq,bB,List.append_nil,List.length_cons,List.length_nil,Nat.add_zero] using c5) ?_
   have z5:=(z.aw [] (hb.size+0) (by omega)).step c5 cR.2.2.1
   have nT:aT [E2] hb h5:=(aT.refl [E2] hb).ku c5 (.inl (by simp))
   have q5:=q.bR c5 aO.2.1
   have NX:=oi.bR c5 aO.2.2.2.1
   have mm5:=mm.bR c5 (Ne.symm aO.2.2.2.2.2)
   clear z q oi oe mm
   have z:=z5
   rw [ao h5]
   simp -implicitDefEqProofs only [syms,aa,seval,ng,zsB]
   refine zoC mm5 GQ vC Ff (fun h6 xx s bb VB c6 VJ=>?_)
   have hz:=z.size
   refine nM (A:=FM) (by kernel_rfl) (by rw [bB];omega) (by omega) (by simpa only [cq,bB,List.append_nil,List.length_cons,List.length_nil,Nat.add_zero] using c6) ?_
   have z6:=(z.aw [] (h5.size+0) (by omega)).step c6 cR.2.2.2
   have tJ:aT [E2,FM] hb h6:=(nT.mono (fun B hB=>by rw [List.mem_singleton.1 hB];simp)).ku c6 (.inl (by simp))
   have q6:=q5.bR c6 aO.2.2.1
   have oi6:=NX.bR c6 aO.2.2.2.2.1
   have oe6:=Ks.bR c6 aO.2.2.2.2.2
   clear z q5 NX Ks mm5
   have z:=z6
   rw [ao h6]
   simp -implicitDefEqProofs only [syms,aa,seval,ng,ec,bj,zn9]
   refine VJ _ (VB.on _ _) _ _ (fun h7 m7 c7=>?_)
   have hz:=z.size
   refine nM (A:=FM) (by kernel_rfl) (by rw [bB];omega) (by omega) (by simpa only [cq,bB,List.append_nil,List.length_cons,List.length_nil,Nat.add_zero] using c7) ?_
   have z7:=(z.aw [] (h6.size+0) (by omega)).step c7 cR.2.2.2
   have sC:aT [E2,FM] hb h7:=tJ.ku c7 (.inl (by simp))
   have q7:=q6.bR c7 aO.2.2.1
   have Xo:=oi6.bR c7 aO.2.2.2.2.1
   have Xn:=oe6.bR c7 aO.2.2.2.2.2
   clear z q6 oi6 oe6
   have z:=z7
   rw [ao h7]
   simp -implicitDefEqProofs only [syms,aa,seval,ng]
   ((with_reducible refine ⟨z.cW.lay _ _,?_⟩);(intro _ h8 zz x8 _);(simp only [cq,List.append_nil] at x8))
   replace q7:=q7.over x8
   replace Xo:=Xo.over x8
   replace Xn:=Xn.over x8
   replace m7:=m7.over x8
   replace sC:=sC.over x8
   have fr8:aT [T0,FI,FE,FM] hc h8:=fh.trans sC (fun B hB=>by
    rcases List.mem_cons.1 hB with rfl|hB
    ·exact hE.imp (fun e=>by rw [e];simp) id
    ·rw [List.mem_singleton.1 hB];exact .inl (by simp))
   have hs7:=sC.size
   clear z
   have z:=zz
   have st7:dY h.size h8 T0 FI E2 FM F2 (e2.set m (t,1)) (fo kv t (.int .i64 (m:Int))):=⟨⟨vi2,ve2,q7,Xo,Xn⟩,m7,aO,cR,⟨by omega,by omega,by omega,by omega⟩⟩
   rw [ao h8]
   simp -implicitDefEqProofs only [syms,aa,seval,ng,bj]
   exact hk _ _ FI E2 F2 _ _ (z.aw _ _ (by omega)) (fr8.trans (aT.lay _ _ _ []) (fun _ h=>nomatch h)) (st7.lay _ _) (by rw [hzu];exact pp) (.inl rfl) hE (by rw [List.length_set];exact Jo)
end Go.Proofs.YtdplfgoifjjniaaGreatDoor

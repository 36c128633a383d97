/- The code of some functions, node by node, for simp. Written by a program (mkcode.py). No condition. -/
import Derived.Test.YtemapihoobmonaaGreatDoorG21
import Derived.Test.YtemapihoobmonaaGreatDoorG25
import Derived.KernelRfl
import Derived.Test.YtemapihoobmonaaGreatDoorG16
import Derived.Test.YtemapihoobmonaaGreatDoorG14
import Derived.Test.YtemapihoobmonaaGreatDoorG18
import Derived.Lib.RowBridge
import Derived.Test.YtemapihoobmonaaGreatDoorG38
import Derived.Test.YtemapihoobmonaaGreatDoorG13
import Derived.Test.YtemapihoobmonaaGreatDoorG32
namespace Go.Proofs.YtemapihoobmonaaGreatDoor
open Go.Am
set_option linter.unusedVariables false
set_option linter.unusedSimpArgs false
set_option maxRecDepth 100000
set_option maxHeartbeats 0
noncomputable def N141:=zaA Tryz.f141
noncomputable def x141:=PLift.up (by have c:=zai N141 Tryz.f141; simp only [zao,Tryz.f141,Option.getD_some,zam,opsF,opsX,zaf,zax,dstL,zal,List.append_eq,List.cons_append,List.nil_append,seval] at c; exact nd c <| nd @zuh <| nd @ld49 <| @zBO)
theorem c141:type_of% x141.down:=x141.down
noncomputable def N142:=zaA Tryz.f142
noncomputable def x142:=PLift.up (by have c:=zai N142 Tryz.f142; simp only [zao,Tryz.f142,Option.getD_some,zam,opsF,opsX,zaf,zax,dstL,zal,List.append_eq,List.cons_append,List.nil_append,seval] at c; exact nd c <| nd @ix51 <| nd @zCA <| nd @ln51 <| @zCm)
theorem c142:type_of% x142.down:=x142.down
noncomputable def N143:=zaA Tryz.f143
noncomputable def x143:=PLift.up (by have c:=zai N143 Tryz.f143; simp only [zao,Tryz.f143,Option.getD_some,zam,opsF,opsX,zaf,zax,dstL,zal,List.append_eq,List.cons_append,List.nil_append,seval] at c; exact nd c <| nd @zjN <| nd @ld9 <| @zB8)
theorem c143:type_of% x143.down:=x143.down
noncomputable def N109:=zaA Tryz.f109
noncomputable def x109:=PLift.up (by have c:=zai N109 Tryz.f109; simp only [zao,Tryz.f109,Option.getD_some,zam,opsF,opsX,zaf,zax,dstL,zal,List.append_eq,List.cons_append,List.nil_append,seval] at c; exact nd c <| nd @bs49 <| nd @zf3 <| nd @zqF <| nd @ix51 <| nd @ld49 <| nd @ld51 <| nd @ld55 <| nd @ld9 <| @zC4)
theorem c109:type_of% x109.down:=x109.down
noncomputable def N71:=zaA Tryz.f71
noncomputable def x71:=PLift.up (by have c:=zai N71 Tryz.f71; simp only [zao,Tryz.f71,Option.getD_some,zam,opsF,opsX,zaf,zax,dstL,zal,List.append_eq,List.cons_append,List.nil_append,seval] at c; exact nd c <| nd @ld55 <| @fi71)
theorem c71:type_of% x71.down:=x71.down
end Go.Proofs.YtemapihoobmonaaGreatDoor
namespace Go.Am
open Go.Proofs
set_option linter.unusedVariables false
set_option linter.unusedSimpArgs false
theorem ze7 {α:Type} [Inhabited α] [DecidableEq α] (d:Array α) (x:α):∀ m,x∈Lib.compactUpTo d m↔∃ j,j < m∧d[j]! = x
  | 0=>by simp [Lib.compactUpTo]
  | m+1=>by
    rw [Lib.compactUpTo_succ,List.mem_append,ze7 d x m]
    constructor
    · rintro (⟨j,hj,e⟩ | h)
      · exact ⟨j,by omega,e⟩
      · split at h
        · rw [List.mem_singleton] at h
          exact ⟨m,by omega,h.symm⟩
        · cases h
    · rintro ⟨j,hj,e⟩
      by_cases hjm:j < m
      · exact .inl ⟨j,hjm,e⟩
      · have:j=m:=by omega
        subst this
        by_cases hk:Lib.keeps d j=true
        · rw [if_pos hk]
          exact .inr (by rw [List.mem_singleton]; exact e.symm)
        · unfold Lib.keeps at hk
          rw [decide_eq_true_iff] at hk
          have h0:j≠0:=fun g=>hk (.inl g)
          have h1:d[j]! = d[j - 1]! := Classical.byContradiction fun g=>hk (.inr g)
          exact .inl ⟨j - 1,by omega,by rw [← h1,e]⟩
theorem zjS {α:Type} [Inhabited α] [DecidableEq α] (zs:List α) (x:α):x∈Lib.compact zs↔x∈zs:=by
  unfold Lib.compact
  rw [ze7]
  constructor
  · rintro ⟨j,hj,e⟩
    rw [← e]
    have:zs.toArray[j]! = zs[j]:=by simp [hj]
    rw [this]
    exact List.getElem_mem hj
  · intro h
    obtain ⟨j,hj,e⟩:=List.mem_iff_getElem.1 h
    exact ⟨j,hj,by simp [hj,e]⟩
theorem zum (xs:List ByteArray) (x:ByteArray):x∈ze0 xs↔x∈xs:=by
  unfold ze0
  rw [List.mem_map]
  constructor
  · rintro ⟨l,h,rfl⟩
    rw [zjS,List.mem_map] at h
    obtain ⟨y,hy,rfl⟩:=h
    rwa [show (⟨y.data.toList.toArray⟩:ByteArray)=y from zgu (by simp)]
  · intro h
    exact ⟨x.data.toList,by rw [zjS]; exact List.mem_map.2 ⟨x,h,rfl⟩,zgu (by simp)⟩
theorem zhR (xs:List ByteArray):(ze0 xs).length≤xs.length:=by
  unfold ze0
  rw [List.length_map]
  have:=Lib.compact_length_le (xs.map (·.data.toList))
  rwa [List.length_map] at this
theorem zrg {h:Heap} {A:Nat} {e:TypeId} {v:Value} {l:List ByteArray} (f:StrRow h A e v l) (hl:l≠[]) (hn:l.length≤1000):∃ a n c h',zjn [v] h=some (.slice a n c,h')∧Sl Rep.str h' (.slice a n c) (ze0 l)∧Chg A h h':=by
  obtain ⟨c,rfl,hc,q⟩:=f
  have hne:l.length≠0:=fun e=>hl (List.length_eq_zero_iff.1 e)
  have hcl:=zhR l
  have hcs:(zka l).length=l.length:=by unfold zka; rw [List.length_append,List.length_replicate]; omega
  have hM:(1000:Nat)≤maxLen:=by decide
  refine ⟨some ⟨A,0,none⟩,(ze0 l).length,c,_,?_,.inr ⟨A,0,c,(zka l).map Value.string,e,false,rfl,by omega,?_,(zj2 q.lt).lt,(zj2 q.lt).get,fun i x hx=>⟨[.string x],?_,rfl⟩⟩,zts q.lt⟩
  · unfold zjn
    simp only [if_neg hne,zod q,Option.bind_some,znt]
    rw [if_pos ⟨by omega,hcl⟩,zob q hcs]
    rfl
  · show zmJ 1 _ c
    have hc':zmJ 1 l.length c:=hc
    unfold zmJ at hc' ⊢
    omega
  · have hi:=(List.getElem?_eq_some_iff.1 hx).1
    have hx2:(zka l)[i]? = some x:=by
      unfold zka
      rw [List.getElem?_append_left hi]
      exact hx
    have hi2:=(List.getElem?_eq_some_iff.1 hx2).1
    show cut ((zka l).map Value.string) (0+i*1) 1=_
    rw [Nat.zero_add,Nat.mul_one]
    unfold cut
    rw [if_pos (by rw [List.length_map]; omega),← List.map_drop,← List.map_take,List.drop_eq_getElem_cons hi2]
    simp only [List.take_succ_cons,List.take_zero,List.map_cons,List.map_nil]
    rw [(List.getElem?_eq_some_iff.1 hx2).2]
def hasB (l:List ByteArray) (x:ByteArray):Bool:=l.any (fun y=>decide (y=x))
theorem hasB_iff {l:List ByteArray} {x:ByteArray}:hasB l x=true↔x∈l:=by
  unfold hasB
  rw [List.any_eq_true]
  exact ⟨fun ⟨y,h1,h2⟩=>of_decide_eq_true h2 ▸ h1,fun h=>⟨x,h,decide_eq_true rfl⟩⟩
def zer (d:PolicyD) (who other:ByteArray):Bool:=hasB d.principals who && (decide (who=other) || hasB (zc7 d.clears who) other)
def zi0 (d:PolicyD) (who:ByteArray):List ByteArray:=if hasB d.principals who=true then ze0 (zdj d who) else []
theorem ztH {d:PolicyD} {who:ByteArray} (h:∀ c∈d.clears,c.reads.length≤40):(zi0 d who).length≤41:=by
  unfold zi0
  split
  · have h1:=zhR (zdj d who)
    have h2:=zdC d who
    have h3:=zmP (who:=who) h
    omega
  · simp
theorem zvy (d:PolicyD) (who other:ByteArray):hasB (zi0 d who) other=zer d who other:=by
  have key:hasB (zi0 d who) other=true↔zer d who other=true:=by
    rw [hasB_iff]
    unfold zi0 zer
    by_cases h:hasB d.principals who=true
    · rw [if_pos h,zum,zny,h,Bool.true_and,Bool.or_eq_true,decide_eq_true_iff,hasB_iff]
      constructor
      · rintro (e | e)
        · exact .inl e.symm
        · exact .inr e
      · rintro (e | e)
        · exact .inl e.symm
        · exact .inr e
    · rw [if_neg h,show hasB d.principals who=false by simpa using h]
      simp
  cases h1:hasB (zi0 d who) other <;> cases h2:zer d who other <;> simp_all
structure PolK (h:Heap) (p0 p1 p2 p5 p6:Value) (d:PolicyD):Prop where
  s0:Sl Rep.str h p0 d.principals
  s2:Sl Rep.clear h p2 d.clears
theorem PolK.mono {h h':Heap} {p0 p1 p2 p5 p6:Value} {d:PolicyD} (f:PolK h p0 p1 p2 p5 p6 d) (i:Inc h h'):PolK h' p0 p1 p2 p5 p6 d:=⟨f.s0.mono i,f.s2.mono i⟩
theorem PolK.lay {h:Heap} {p0 p1 p2 p5 p6:Value} {d:PolicyD} (f:PolK h p0 p1 p2 p5 p6 d) (bs:List Blk) (w:Nat):PolK (h.lay bs w) p0 p1 p2 p5 p6 d:=f.mono (Inc.lay h bs w)
theorem PolK.over {h1 h2:Heap} {bs:List Blk} {w:Nat} {p0 p1 p2 p5 p6:Value} {d:PolicyD} (f:PolK h1 p0 p1 p2 p5 p6 d) (x:Ext (h1.lay bs w) h2):PolK h2 p0 p1 p2 p5 p6 d:=f.mono x.inc.of_lay
theorem PolH.k {h:Heap} {p0 p1 p2 p5 p6:Value} {d:PolicyD} (f:PolH h p0 p1 p2 p5 p6 d):PolK h p0 p1 p2 p5 p6 d:=⟨f.s0,f.s2⟩
end Go.Am
namespace Go.Proofs.YtemapihoobmonaaGreatDoor
open Go.Am
set_option linter.unusedSimpArgs false
set_option linter.unusedVariables false
set_option maxRecDepth 100000
set_option maxHeartbeats 0
theorem ztx (l:List ByteArray) (v:Value) (a:ByteArray) (h:Heap) (hl:Sl Rep.str h v l) (hs:l.length≤1000) (K:Value→Heap→Prop)
    (hk:∀ h',Ext h h'→K (.int .i64 (idxP (fun x=>decide (a=x)) l)) h'):Ok Tryz.prog tab ov 140 [v,.string a] h K:=by
  rw [zaa h]
  have z:=Ext.refl h
  refine Ok.into rfl zom (zaD N140) rfl (m:=17) rfl ?_
  simp -implicitDefEqProofs only [syms,symx,seval,c140]
  repeat' (( with_reducible_and_instances refine zhy hl ds49 ?_) <;> simp -implicitDefEqProofs only [syms,symx,seval,c140])
  obtain ⟨I1,hI1⟩:∃ I:Nat→Env→Heap→Prop,I=(fun n e h'=>∃ (i:Nat) (h1:Heap),h'=h1.lay [] h1.low∧Ext h h1∧(n=l.length - i∧i≤l.length∧(∀ x∈l.take i,decide (a=x)=false))∧∃ J:Nat→Value,e=(v::.string a::jr J 2 5 (.int .i64 l.length::.int .i64 i::jr J 9 10 ([])))):=⟨_,rfl⟩
  refine zaC I1 _ (by rw [hI1]; exact ⟨0,_,rfl,z,⟨rfl,by omega,by simp⟩,junk (by kernel_rfl)⟩) ?_
  intro n e h' hin
  rw [hI1] at hin
  obtain ⟨i,h1',rfl,z,hinv,J,rfl⟩:=hin
  obtain ⟨rfl,hi,hall⟩:=hinv
  have hw:IntKind.i64.wrap ((i:Int)+1)=((i+1:Nat):Int):=by rw [zad (by omega) (by omega)]; omega
  simp -implicitDefEqProofs only [syms,symx,seval,c140]
  refine zar (fun hlt=>?_) (fun hlt=>?_)
  rotate_left
  · simp -implicitDefEqProofs only [syms,symx,seval,c140]
    rw [List.take_of_length_le (by omega)] at hall
    have:=zeA hall
    rw [this] at hk
    exact hk _ (z.upW _ _ (by omega))
  obtain ⟨r,hr,hr'⟩:=zaY (l:=l) (i:=i) (by omega)
  repeat' (first | simp -implicitDefEqProofs only [syms,symx,seval,c140] | ((with_reducible  apply zar ) <;> intro _) | with_reducible_and_instances refine zeh (hl.mono z.inc) ds49 sz9 (by omega) hr (fun p hp=>?_) | with_reducible_and_instances refine zbF hp ag9 ?_)
  · have hx:a=r:=by assumption
    have:=zd6 (p:=fun x=>decide (a=x)) hr' hall (decide_eq_true hx)
    rw [this] at hk
    exact hk _ (z.upW _ _ (by omega))
  · have hx:¬ a=r:=by assumption
    rw [hw]
    (rw [hI1]; with_reducible refine zac (m:=_) ?_ ⟨i+1,_,rfl,z,⟨rfl,by omega,zci (i:=i) (P:=fun x:ByteArray=>decide (a=x)=false) hr' hall (decide_eq_false hx)⟩,junk (by kernel_rfl)⟩; omega)
theorem zyv (l:List ByteArray) (a:ByteArray):decide (idxP (fun x=>decide (a=x)) l ≥ 0)=hasS l a:=by
  rw [zpZ]
  unfold hasS
  congr 1
  funext x
  exact decide_eq_decide.2 ⟨Eq.symm,Eq.symm⟩
theorem zhS (l:List ByteArray) (v:Value) (a:ByteArray) (h:Heap) (hl:Sl Rep.str h v l) (hs:l.length≤1000) (K:Value→Heap→Prop)
    (hk:∀ h',Ext h h'→K (.bool (hasS l a)) h'):Ok Tryz.prog tab ov 108 [v,.string a] h K:=by
  refine Ok.into rfl zmU (zaD N108) rfl (m:=7) rfl ?_
  simp -implicitDefEqProofs only [syms,symx,seval,c108]
  refine ztx l v a h hl hs _ (fun h' x=>?_)
  simp -implicitDefEqProofs only [syms,symx,seval,c108,zyv]
  refine zAm (fun hh=>?_) (fun hh=>?_)
  all_goals
    simp -implicitDefEqProofs only [syms,symx,seval,c108]
    rw [hh] at hk
    exact hk _ x
theorem zmn (l:List ByteArray) (who:ByteArray) (p0 p1 p2 p5 p6:Value) (q b:Int) (h:Heap) (hl:Sl Rep.str h p0 l) (hs:l.length≤1000) (K:Value→Heap→Prop) (hk:∀ h',Ext h h'→K (.bool (hasS l who)) h'):Ok Tryz.prog tab ov 141 [zbZ p0 p1 p2 p5 p6 q b,.string who] h K:=by
  rw [zaa h]
  have z:=Ext.refl h
  have hva:=zaR p0
  refine Ok.into rfl zu6 (zaD N141) rfl (m:=7) rfl ?_
  repeat' ( simp -implicitDefEqProofs only [syms,symx,seval,c141,zaq,pol0,hva])
  refine zhS l _ who _ (hl.lay _ _) hs _ (fun h' x=>?_)
  ((skip); replace z:=z.overW x (by (try simp only [lsz]); omega); rw [zaa h'])
  repeat' ( simp -implicitDefEqProofs only [syms,symx,seval,c141])
  exact hk _ (z.upW _ _ (by omega))
theorem zke (l:List ClearD) (v fv:Value) (pr:ClearD→Bool) (h:Heap) (hl:Sl Rep.clear h v l) (hs:l.length≤1000) (hpf:∀ (x:ClearD) (b:Value) (hc:Heap) (K:Value→Heap→Prop),Ext h hc→(∀ h',Ext hc h'→K (.bool (pr x)) h')→zil Tryz.prog tab ov [.agg ⟨[.string x.who,b]⟩] hc K fv) (K:Value→Heap→Prop)
    (hk:∀ h',Ext h h'→K (.int .i64 (idxP pr l)) h'):Ok Tryz.prog tab ov 142 [v,fv] h K:=by
  rw [zaa h]
  have z:=Ext.refl h
  refine Ok.into rfl zt3 (zaD N142) rfl (m:=17) rfl ?_
  simp -implicitDefEqProofs only [syms,symx,seval,c142]
  repeat' (( with_reducible_and_instances refine zhy hl ds51 ?_) <;> simp -implicitDefEqProofs only [syms,symx,seval,c142])
  obtain ⟨I1,hI1⟩:∃ I:Nat→Env→Heap→Prop,I=(fun n e h'=>∃ (i:Nat) (h1:Heap),h'=h1.lay [] h1.low∧Ext h h1∧(n=l.length - i∧i≤l.length∧∀ x∈l.take i,pr x=false)∧∃ J:Nat→Value,e=(v::fv::jr J 2 5 (.int .i64 l.length::.int .i64 i::jr J 9 10 ([])))):=⟨_,rfl⟩
  refine zaC I1 _ (by rw [hI1]; exact ⟨0,_,rfl,z,⟨rfl,by omega,by simp⟩,junk (by kernel_rfl)⟩) ?_
  intro n e h' hin
  rw [hI1] at hin
  obtain ⟨i,h1',rfl,z,hinv,J,rfl⟩:=hin
  obtain ⟨rfl,hi,hall⟩:=hinv
  have hw:IntKind.i64.wrap ((i:Int)+1)=((i+1:Nat):Int):=by rw [zad (by omega) (by omega)]; omega
  repeat' (first | simp -implicitDefEqProofs only [syms,symx,seval,c142] | ((with_reducible  apply zar ) <;> intro _))
  rotate_left
  · rw [List.take_of_length_le (by omega)] at hall
    have:=zeA hall
    rw [this] at hk
    exact hk _ (z.upW _ _ (by omega))
  obtain ⟨r,hr,hr'⟩:=zaY (l:=l) (i:=i) (by assumption)
  repeat' ((first | with_reducible_and_instances refine zi1 (hl.mono z.inc) ds51 zkl (by omega) hr (fun p b hb hp=>?_) | with_reducible_and_instances refine ldP hp zzp zkl ?_) <;> simp -implicitDefEqProofs only [syms,symx,seval,c142])
  refine hpf _ _ _ _ (z.upW _ _ (by omega)) (fun h' x=>?_)
  ((skip); replace z:=z.overW x (by (try simp only [lsz]); omega); rw [zaa h'])
  cases hx:pr r
  rotate_left
  · simp -implicitDefEqProofs only [syms,symx,seval,c142]
    have:=zd6 hr' hall hx
    rw [this] at hk
    exact hk _ (z.upW _ _ (by omega))
  · simp -implicitDefEqProofs only [syms,symx,seval,c142]
    rw [hw]
    (rw [hI1]; with_reducible refine zac (m:=_) ?_ ⟨i+1,_,rfl,z,⟨rfl,by omega,zci (i:=i) (P:=fun x:ClearD=>pr x=false) hr' hall hx⟩,junk (by kernel_rfl)⟩; omega)
theorem zpW (who:ByteArray) (x:ClearD) (b:Value) (A:Nat) (h:Heap) (q0:Holds h A (.row [.string who] 9 false)) (K:Value→Heap→Prop)
    (hk:∀ h',Ext h h'→K (.bool (decide (x.who=who))) h'):Ok Tryz.prog tab ov 143 [.agg ⟨[.string x.who,b]⟩,.pointer (some ⟨A,0,none⟩)] h K:=by
  rw [zaa h]
  have z:=Ext.refl h
  refine Ok.into rfl zvh (zaD N143) rfl (m:=6) rfl ?_
  simp -implicitDefEqProofs only [syms,symx,seval,c143]
  repeat' ((first | ((with_reducible first | apply zar | apply zd9 | apply ze2 | apply zeP | apply zf0) <;> intro _) | with_reducible_and_instances refine zi1 (hl.mono z.inc) ds51 zkl (by omega) hr (fun p b hb hp=>?_) | with_reducible_and_instances refine ldP hp zzp zkl ?_) <;> simp -implicitDefEqProofs only [syms,symx,seval,c143,q0.lay])
  simp -implicitDefEqProofs only [syms,symx,seval,c143,q0.lay]
  refine zar (fun hh=>?_) (fun hh=>?_)
  · simp -implicitDefEqProofs only [syms,symx,seval,c143]
    rw [decide_eq_true hh] at hk
    exact hk _ (z.upW _ _ (by omega))
  · simp -implicitDefEqProofs only [syms,symx,seval,c143]
    rw [decide_eq_false hh] at hk
    exact hk _ (z.upW _ _ (by omega))
theorem styV:zeL tab 49 49=true:=by kernel_rfl
theorem zr9 (d:PolicyD) (who:ByteArray) (p0 p1 p2 p5 p6:Value) (q b:Int) (h:Heap) (hone:(zaE p0 p1 p2 p5 p6 q b).all Am.one=true) (hd:PolK h p0 p1 p2 p5 p6 d) (hps:d.principals.length≤1000) (hcl:d.clears.length≤1000) (hrl:∀ c∈d.clears,c.reads.length≤40) (K:Value→Heap→Prop)
    (hk:∀ w h',Ext h h'→Sl Rep.str h' w (zi0 d who)→K w h'):Ok Tryz.prog tab ov 109 [zbZ p0 p1 p2 p5 p6 q b,.string who] h K:=by
  rw [zaa h]
  have z:=Ext.refl h
  have hv2:=zaR p2
  refine Ok.into rfl ztu (zaD N109) rfl (m:=29) rfl ?_
  repeat' ( simp -implicitDefEqProofs only [syms,symx,seval,c109,zaq,↓zaJ,zaI,zaz])
  refine zmn d.principals who _ _ _ _ _ _ _ _ (hd.s0.lay _ _) hps _ (fun h' x=>?_)
  have q0:=Holds.top (i:=0) x rfl
  have e0:=Holds.top (i:=1) x rfl
  ((skip); replace z:=z.overW x (by (try simp only [lsz]); omega); (try replace q0:=q0.over x); (try replace e0:=e0.over x); rw [zaa h'])
  cases hh:hasS d.principals who
  · repeat' (first | simp -implicitDefEqProofs only [syms,symx,seval,c109,Bool.not_false] | ((with_reducible_and_instances apply zap); (· rfl)))
    refine hk _ _ (z.upW _ _ (by omega)) ?_
    rw [show zi0 d who=[] from if_neg (by show ¬ hasS d.principals who=true; rw [hh]; decide)]
    exact .inl ⟨rfl,rfl⟩
  have hvw:zi0 d who=ze0 (zdj d who):=if_pos hh
  rw [hvw] at hk
  have hz0:=z.size
  repeat' (first | simp -implicitDefEqProofs only [syms,symx,seval,c109,Bool.not_true,q0.lay,e0.lay,pol2,hv2] | ((with_reducible_and_instances apply zap); (· rfl)))
  refine zke d.clears _ _ (fun c=>decide (c.who=who)) _ ((hd.s2.mono z.inc).lay _ _) hcl (fun x b hc K' xe hk'=>?_) _ (fun h' x=>?_)
  · rw [zhe]
    exact zpW who x b _ hc (e0.over xe) K' hk'
  have b0:=Holds.top (i:=0) x rfl
  ((skip); replace z:=z.overW x (by (try simp only [lsz]); omega); (try replace q0:=q0.over x); (try replace e0:=e0.over x); (try replace b0:=b0.over x); rw [zaa h'])
  have hrd:=zmP (who:=who) hrl
  have hvb:=zaR p2
  rcases zsW d.clears who with ⟨i,c,hi1,hi2,hi3⟩ | ⟨hi1,hi3⟩
  · rw [hi1]
    obtain ⟨c',hc,hc'⟩:=zaY (l:=d.clears) (i:=i) (by have:=(List.getElem?_eq_some_iff.1 hi2).1; omega)
    cases hi2.symm.trans hc'
    repeat' (first | simp -implicitDefEqProofs only [syms,symx,seval,c109,q0.lay,pol2,hv2] | ((with_reducible  apply zar ) <;> intro _))
    rotate_left
    · exfalso; omega
    repeat' ((first | with_reducible_and_instances refine zi1 (hd.s2.mono z.inc) ds51 zkl (by omega) hc (fun p b hb hp=>?_) | with_reducible_and_instances refine fdP1 hp zf3 (fun q hq=>?_) | with_reducible_and_instances refine zbF hq ag49 ?_) <;> simp -implicitDefEqProofs only [syms,symx,seval,c109,q0.lay,pol2,hv2])
    have hlo:c.reads.length≤900:=by have:=hrl c (List.mem_of_getElem? hi2); omega
    simp -implicitDefEqProofs only [syms,symx,seval,c109,za3,styV]
    obtain ⟨wv,h2,A',e1,e2,e3,e4⟩:=zzG (T:=tab) (t:=49) ds49 zcf (by decide) (b0.on [] h'.low) (Sl.lay (by assumption) [] h'.low) hlo
    rw [e1,zaa h2]
    rw [← hi3] at e2
    have z2:=z.overW e3 (by omega)
    have hz2:=z.size
    have hA:h.size≤A':=by
      rcases e4 with e4 | e4
      · omega
      · rw [e4,zag]; omega
    clear e1 e3 e4
    rw [zaa h2] at e2
    replace z2:=z2.upW [] h2.low (by omega)
    repeat' ( simp -implicitDefEqProofs only [syms,symx,seval,c109])
    obtain ⟨h3,s1,s2,s3⟩:=zjH e2 (by simp) (by simp only [List.length_cons]; omega)
    have z3:=z2.step s3 hA
    refine Ok.over (g:=ziP) rfl s1 ?_
    rw [zaa h3]
    rw [zaa h3] at s2 z3
    repeat' ( simp -implicitDefEqProofs only [syms,symx,seval,c109])
    obtain ⟨ca,cn,cc,h4,c1,c2,c3⟩:=zrg s2 (by have:=zdC d who; intro e; unfold zdj at this; rw [e] at this; simp at this; omega) (by rw [zc0,List.length_cons]; omega)
    have z4:=z3.step c3 hA
    refine Ok.over (g:=zjn) rfl c1 ?_
    rw [zaa h4]
    rw [zaa h4] at c2 z4
    simp -implicitDefEqProofs only [syms,symx,seval,c109]
    exact hk _ _ z4 c2
  · rw [hi1]
    have e2:=(show ∀ {N:Nat},Holds h' N (.row [.string who] 9 false)→StrRow h' N 9 (.slice (some ⟨N,0,none⟩) 1 1) (who::zc7 d.clears who) from fun q=>by rw [hi3]; exact ⟨1,rfl,.inl ⟨by have:=zlu; omega,Nat.le_refl _⟩,q⟩) b0
    have z2:=z.upW [] h'.low (by omega)
    rw [zaa h'] at e2
    repeat' ( simp -implicitDefEqProofs only [syms,symx,seval,c109])
    obtain ⟨h3,s1,s2,s3⟩:=zjH e2 (by simp) (by simp only [List.length_cons]; omega)
    have z3:=z2.step s3 (by omega)
    refine Ok.over (g:=ziP) rfl s1 ?_
    rw [zaa h3]
    rw [zaa h3] at s2 z3
    repeat' ( simp -implicitDefEqProofs only [syms,symx,seval,c109])
    obtain ⟨ca,cn,cc,h4,c1,c2,c3⟩:=zrg s2 (by have:=zdC d who; intro e; unfold zdj at this; rw [e] at this; simp at this; omega) (by rw [zc0,List.length_cons]; omega)
    have z4:=z3.step c3 (by omega)
    refine Ok.over (g:=zjn) rfl c1 ?_
    rw [zaa h4]
    rw [zaa h4] at c2 z4
    simp -implicitDefEqProofs only [syms,symx,seval,c109]
    exact hk _ _ z4 c2
theorem zAb (d:PolicyD) (who other:ByteArray) (p0 p1 p2 p5 p6:Value) (q b:Int) (h:Heap) (hone:(zaE p0 p1 p2 p5 p6 q b).all Am.one=true) (hd:PolK h p0 p1 p2 p5 p6 d) (hps:d.principals.length≤1000) (hcl:d.clears.length≤1000) (hrl:∀ c∈d.clears,c.reads.length≤40) (K:Value→Heap→Prop)
    (hk:∀ h',Ext h h'→K (.bool (zer d who other)) h'):Ok Tryz.prog tab ov 71 [zbZ p0 p1 p2 p5 p6 q b,.string who,.string other] h K:=by
  rw [zaa h]
  have z:=Ext.refl h
  refine Ok.into rfl zw3 (zaD N71) rfl (m:=9) rfl ?_
  repeat' ( simp -implicitDefEqProofs only [syms,symx,seval,c71,zaq,↓zaJ,zaI,zaz])
  refine zr9 d who _ _ _ _ _ _ _ _ hone (hd.lay _ _) hps hcl hrl _ (fun w h' x hs=>?_)
  ((skip); replace z:=z.overW x (by (try simp only [lsz]); omega); rw [zaa h'])
  have hvw:=zaR w
  repeat' ( simp -implicitDefEqProofs only [syms,symx,seval,c71,hvw])
  refine zhS (zi0 d who) w other _ (hs.lay _ _) (by have:=ztH (who:=who) hrl; omega) _ (fun h' x=>?_)
  rw [show hasS (zi0 d who) other=zer d who other from zvy d who other]
  ((skip); replace z:=z.overW x (by (try simp only [lsz]); omega); rw [zaa h'])
  repeat' ( simp -implicitDefEqProofs only [syms,symx,seval,c71])
  exact hk _ (z.upW _ _ (by omega))
end Go.Proofs.YtemapihoobmonaaGreatDoor

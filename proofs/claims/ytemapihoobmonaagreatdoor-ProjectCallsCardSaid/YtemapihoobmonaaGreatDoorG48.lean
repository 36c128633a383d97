/- The code of some functions, node by node, for simp. Written by a program (mkcode.py). No condition. -/
import Derived.Test.YtemapihoobmonaaGreatDoorG21
import Derived.Test.YtemapihoobmonaaGreatDoorG25
import Derived.KernelRfl
import Derived.Test.YtemapihoobmonaaGreatDoorG46
import Derived.Test.YtemapihoobmonaaGreatDoorG47
import Derived.Test.YtemapihoobmonaaGreatDoorG9
namespace Go.Proofs.YtemapihoobmonaaGreatDoor
open Go.Am
set_option linter.unusedVariables false
set_option linter.unusedSimpArgs false
set_option maxRecDepth 100000
set_option maxHeartbeats 0
noncomputable def N88:=zaA Tryz.f88
noncomputable def x88:=PLift.up (by have c:=zai N88 Tryz.f88; simp only [zao,Tryz.f88,Option.getD_some,zam,opsF,opsX,zaf,zax,dstL,zal,List.append_eq,List.cons_append,List.nil_append,seval] at c; exact nd c <| @fi88)
theorem c88:type_of% x88.down:=x88.down
noncomputable def N43:=zaA Tryz.f43
noncomputable def x43:=PLift.up (by have c:=zai N43 Tryz.f43; simp only [zao,Tryz.f43,Option.getD_some,zam,opsF,opsX,zaf,zax,dstL,zal,List.append_eq,List.cons_append,List.nil_append,seval] at c; exact nd c <| nd @bs69 <| nd @ix69 <| nd @ld55 <| nd @ld62 <| nd @ln69 <| @fi43)
theorem c43:type_of% x43.down:=x43.down
noncomputable def N44:=zaA Tryz.f44
noncomputable def x44:=PLift.up (by have c:=zai N44 Tryz.f44; simp only [zao,Tryz.f44,Option.getD_some,zam,opsF,opsX,zaf,zax,dstL,zal,List.append_eq,List.cons_append,List.nil_append,seval] at c; exact nd c <| nd @ix69 <| nd @ld55 <| nd @ld62 <| nd @ln69 <| @fi44)
theorem c44:type_of% x44.down:=x44.down
noncomputable def N46:=zaA Tryz.f46
noncomputable def x46:=PLift.up (by have c:=zai N46 Tryz.f46; simp only [zao,Tryz.f46,Option.getD_some,zam,opsF,opsX,zaf,zax,dstL,zal,List.append_eq,List.cons_append,List.nil_append,seval] at c; exact nd c <| nd @bs69 <| nd @ix30 <| nd @ix69 <| nd @ld3 <| nd @ld55 <| nd @ld62 <| nd @ln30 <| nd @ln69 <| @fi46)
theorem c46:type_of% x46.down:=x46.down
noncomputable def N49:=zaA Tryz.f49
noncomputable def x49:=PLift.up (by have c:=zai N49 Tryz.f49; simp only [zao,Tryz.f49,Option.getD_some,zam,opsF,opsX,zaf,zax,dstL,zal,List.append_eq,List.cons_append,List.nil_append,seval] at c; exact nd c <| nd @bs49 <| nd @zgq <| nd @ix49 <| nd @ix69 <| nd @ld9 <| nd @ln49 <| nd @ln69 <| @fi49)
theorem c49:type_of% x49.down:=x49.down
noncomputable def N48:=zaA Tryz.f48
noncomputable def x48:=PLift.up (by have c:=zai N48 Tryz.f48; simp only [zao,Tryz.f48,Option.getD_some,zam,opsF,opsX,zaf,zax,dstL,zal,List.append_eq,List.cons_append,List.nil_append,seval] at c; exact nd c <| nd @bs49 <| nd @zgq <| nd @ix49 <| nd @ix69 <| nd @ld9 <| nd @ln49 <| nd @ln69 <| @fi48)
theorem c48:type_of% x48.down:=x48.down
noncomputable def N42:=zaA Tryz.f42
noncomputable def x42:=PLift.up (by have c:=zai N42 Tryz.f42; simp only [zao,Tryz.f42,Option.getD_some,zam,opsF,opsX,zaf,zax,dstL,zal,List.append_eq,List.cons_append,List.nil_append,seval] at c; exact nd c <| nd @bs69 <| @fi42)
theorem c42:type_of% x42.down:=x42.down
noncomputable def N45:=zaA Tryz.f45
noncomputable def x45:=PLift.up (by have c:=zai N45 Tryz.f45; simp only [zao,Tryz.f45,Option.getD_some,zam,opsF,opsX,zaf,zax,dstL,zal,List.append_eq,List.cons_append,List.nil_append,seval] at c; exact nd c <| nd @bs30 <| @fi45)
theorem c45:type_of% x45.down:=x45.down
noncomputable def N47:=zaA Tryz.f47
noncomputable def x47:=PLift.up (by have c:=zai N47 Tryz.f47; simp only [zao,Tryz.f47,Option.getD_some,zam,opsF,opsX,zaf,zax,dstL,zal,List.append_eq,List.cons_append,List.nil_append,seval] at c; exact nd c <| nd @ix49 <| nd @ld9 <| nd @ln49 <| @fi47)
theorem c47:type_of% x47.down:=x47.down
noncomputable def N9:=zaA Tryz.f9
noncomputable def x9:=PLift.up (by have c:=zai N9 Tryz.f9; simp only [zao,Tryz.f9,Option.getD_some,zam,opsF,opsX,zaf,zax,dstL,zal,List.append_eq,List.cons_append,List.nil_append,seval] at c; exact nd c <| nd @ix69 <| nd @ld55 <| nd @ld62 <| nd @ln30 <| nd @ln49 <| nd @ln69 <| @fi9)
theorem c9:type_of% x9.down:=x9.down
end Go.Proofs.YtemapihoobmonaaGreatDoor
namespace Go.Proofs.YtemapihoobmonaaGreatDoor
open Go.Am
set_option linter.unusedSimpArgs false
set_option linter.unusedVariables false
set_option maxRecDepth 100000
set_option maxHeartbeats 0
theorem zzf:zeL tab 30 30=true:=by kernel_rfl
theorem zft (l:List SentD) (v:Value) (h:Heap) (hl:Sl Rep.sent h v l) (hn:l.length≤1000000) (K:Value→Heap→Prop) (hk:∀ w h',Ext h h'→Sl Rep.sent h' w l→K w h'):Ok Tryz.prog tab ov 42 [v] h K:=by
  rw [zaa h]
  refine Ok.into rfl zwV (zaD N42) rfl (m:=5) rfl ?_
  simp -implicitDefEqProofs only [syms,symx,seval,c42,za3,znP]
  obtain ⟨news,hs,hsr⟩:=ziW (A:=h.size+1) (r:=Rep.sent) (by decide) (hl.lay [.row [] 62 false] h.low) (fun cs y hr=>hr)
  have f:Ow Rep.sent h (h.lay [.row [] 62 false] h.low) 62 (h.size+1) (.slice (some ⟨h.size+0,0,none⟩) 0 0) [] :=
    .inl ⟨by omega,rfl,.inr ⟨h.size+0,0,rfl,by omega,by rw [zag]; simp,[],62,false,by rw [zbc]; rfl⟩⟩
  obtain ⟨w,h',A',e1,e2,e3,e4,e5⟩:=zhV (t:=69) ds69 zbH rfl (by decide) (by rw [zag]; omega) f hs hsr (by simp only [List.length_nil]; omega) (by simp only [List.length_nil]; omega)
  rw [e1]
  simp -implicitDefEqProofs only [syms,symx,seval,c42]
  exact hk _ _ ((Ext.refl h).stepW e3 (by omega) (by omega)) (e2.sl (by decide))
theorem zuJ (l:List Int) (v:Value) (h:Heap) (hl:Sl Rep.int h v l) (hn:l.length≤1000000) (K:Value→Heap→Prop) (hk:∀ w h',Ext h h'→Sl Rep.int h' w l→K w h'):Ok Tryz.prog tab ov 45 [v] h K:=by
  rw [zaa h]
  refine Ok.into rfl zx4 (zaD N45) rfl (m:=5) rfl ?_
  simp -implicitDefEqProofs only [syms,symx,seval,c45,za3,zzf]
  obtain ⟨news,hs,hsr⟩:=ziW (A:=h.size+1) (r:=Rep.int) (by decide) (hl.lay [.row [] 3 false] h.low) (fun cs y hr=>hr)
  have f:Ow Rep.int h (h.lay [.row [] 3 false] h.low) 3 (h.size+1) (.slice (some ⟨h.size+0,0,none⟩) 0 0) [] :=
    .inl ⟨by omega,rfl,.inr ⟨h.size+0,0,rfl,by omega,by rw [zag]; simp,[],3,false,by rw [zbc]; rfl⟩⟩
  obtain ⟨w,h',A',e1,e2,e3,e4,e5⟩:=zhV (t:=30) ds30 zns rfl (by decide) (by rw [zag]; omega) f hs hsr (by simp only [List.length_nil]; omega) (by simp only [List.length_nil]; omega)
  rw [e1]
  simp -implicitDefEqProofs only [syms,symx,seval,c45]
  exact hk _ _ ((Ext.refl h).stepW e3 (by omega) (by omega)) (e2.sl (by decide))
theorem zsL (l m:List ByteArray) (v u:Value) (h:Heap) (hl:Sl Rep.str h v l) (hm:Sl Rep.str h u m) (hs:l.length≤1000) (hs2:m.length≤1000) (K:Value→Heap→Prop)
    (hk:∀ h',Ext h h'→K (.bool (decide (l=m))) h'):Ok Tryz.prog tab ov 47 [v,u] h K:=by
  rw [zaa h]
  have z:=Ext.refl h
  have hln:=fun (hh:Heap)=>hl.lenA ds49 hh
  have hlm:=fun (hh:Heap)=>hm.lenA ds49 hh
  have hva:∀ (s:ByteArray) (h:Heap) (K:Value→Heap→Prop),valE (some (.string s)) h K=K (.string s) h:=fun _ _ _=>rfl
  refine Ok.into rfl zxq (zaD N47) rfl (m:=24) rfl ?_
  simp -implicitDefEqProofs only [syms,symx,seval,c47,hln,hlm]
  refine ze2 (fun hne=>?_) (fun heq=>?_)
  · rw [decide_eq_false (show ¬ l=m from fun e=>by subst e; exact hne rfl)] at hk
    repeat' ( simp -implicitDefEqProofs only [syms,symx,seval,c47])
    exact hk _ (z.upW _ _ (by omega))
  have hlen:l.length=m.length:=by omega
  repeat' ( simp -implicitDefEqProofs only [syms,symx,seval,c47])
  obtain ⟨I1,hI1⟩:∃ I:Nat→Env→Heap→Prop,I=(fun n e h'=>∃ (i:Nat) (h1:Heap),h'=h1.lay [] h1.low∧Ext h h1∧(n=l.length - i∧i≤l.length∧l.take i=m.take i)∧∃ J:Nat→Value,e=(v::u::jr J 2 3 (.int .i64 i::jr J 6 20 ([])))):=⟨_,rfl⟩
  refine zaC I1 _ (by rw [hI1]; exact ⟨0,_,rfl,z,⟨rfl,by omega,rfl⟩,junk (by kernel_rfl)⟩) ?_
  intro n e h' hin
  rw [hI1] at hin
  obtain ⟨i,h1',rfl,z,hinv,J,rfl⟩:=hin
  obtain ⟨rfl,hi,htk⟩:=hinv
  have hw:IntKind.i64.wrap ((i:Int)+1)=((i+1:Nat):Int):=by rw [zad (by omega) (by omega)]; omega
  simp -implicitDefEqProofs only [syms,symx,seval,c47,hln]
  refine zar (fun hlt=>?_) (fun hlt=>?_)
  rotate_left
  · rw [List.take_of_length_le (by omega),List.take_of_length_le (by omega)] at htk
    rw [decide_eq_true htk] at hk
    repeat' ( simp -implicitDefEqProofs only [syms,symx,seval,c47])
    exact hk _ (z.upW _ _ (by omega))
  obtain ⟨r,hr,hr'⟩:=zaY (l:=l) (i:=i) (by omega)
  obtain ⟨s,hs,hs'⟩:=zaY (l:=m) (i:=i) (by omega)
  simp -implicitDefEqProofs only [syms,symx,seval,c47]
  repeat' ((first | with_reducible refine zcb (by simp only [c47]) (z.upW _ _ (by omega)) ?_ | ((with_reducible  apply zar ) <;> intro _) | with_reducible_and_instances refine zeh (hl.mono z.inc) ds49 sz9 (by omega) hr (fun p hp=>?_) | with_reducible_and_instances refine zeh (hm.mono z.inc) ds49 sz9 (by omega) hs (fun p hp=>?_) | with_reducible_and_instances refine zbF hp ag9 ?_ | ((with_reducible refine ⟨z.grw.lay _ _,?_⟩); (intro _ h' zz x _); (try simp only [zat,List.append_nil] at x); (replace z:=zz); (clear zz); rw [zaa h'])) <;> simp -implicitDefEqProofs only [syms,symx,seval,c47,hva])
  · have hne:¬ r=s:=by assumption
    rw [decide_eq_false (show ¬ l=m from fun e=>by
      subst e
      rw [hr'] at hs'
      exact hne (Option.some.inj hs'))] at hk
    exact hk _ (z.upW _ _ (by omega))
  · have he:r=s:=Classical.not_not.1 (by assumption)
    rw [hw]
    (rw [hI1]; with_reducible refine zac (m:=_) ?_ ⟨i+1,_,rfl,z,⟨rfl,by omega,by rw [List.take_add_one,List.take_add_one,hr',hs',htk,he]⟩,junk (by kernel_rfl)⟩; omega)
theorem zks (d:PolicyD) (who:ByteArray) (l:List SentD) (v:Value) (p0 p1 p2 p5 p6:Value) (q b:Int) (h:Heap) (hone:(zaE p0 p1 p2 p5 p6 q b).all Am.one=true) (hd:PolK h p0 p1 p2 p5 p6 d) (hps:d.principals.length≤1000) (hcl:d.clears.length≤1000) (hrl:∀ c∈d.clears,c.reads.length≤40) (hl:Sl Rep.sent h v l) (hln:l.length≤1000) (hpl:∀ s∈l,s.payload.size≤100000) (K:Value→Heap→Prop)
    (hk:∀ h' w,Ext h h'→Sl Rep.sent h' w (l.filter (fun s => !zaK d who s))→K w h'):Ok Tryz.prog tab ov 43 [zbZ p0 p1 p2 p5 p6 q b,.string who,v] h K:=by
  rw [zaa h]
  have z:=Ext.refl h
  have hva:∀ (s:ByteArray) (h:Heap) (K:Value→Heap→Prop),valE (some (.string s)) h K=K (.string s) h:=fun _ _ _=>rfl
  have hvv:=zaR v
  have hlv:=fun (hh:Heap)=>hl.lenA ds69 hh
  refine Ok.into rfl zxn (zaD N43) rfl (m:=28) rfl ?_
  simp -implicitDefEqProofs only [syms,symx,seval,c43,zaq]
  refine zjc (fun h' x hq=>?_)
  have q0:=hq 0 _ rfl
  clear hq
  (replace z:=z.overW x (by (try simp only [lsz]); omega); rw [zaa h'])
  obtain ⟨P0,hP0⟩:∃ P0,P0=h.size+0:=⟨_,rfl⟩
  rw [← hP0] at q0 ⊢
  have hz0:=z.size
  (try simp -implicitDefEqProofs only [syms,symx,seval,c43])
  obtain ⟨I1,hI1⟩:∃ I:Nat→Env→Heap→Prop,I=(fun n e h'=>∃ (i:Nat) (wv:Value) (A:Nat) (h1:Heap),h'=h1.lay [] h1.low∧Ext h h1∧(n=l.length - i∧i≤l.length∧Ow Rep.sent h h1 62 A wv ((l.take i).filter (fun s => !zaK d who s))∧A≠P0∧Holds h1 P0 (.row (zaE p0 p1 p2 p5 p6 q b) 55 false))∧∃ J:Nat→Value,e=(J 0::.string who::v::.pointer (some ⟨P0,0,none⟩)::jr J 4 3 (wv::.int .i64 i::jr J 9 22 ([])))):=⟨_,rfl⟩
  refine zaC I1 _ (by rw [hI1]; exact ⟨0,.slice none 0 0,h.size+1,_,rfl,z,⟨rfl,by omega,Ow.nil (by omega),by omega,q0⟩,junk (by kernel_rfl)⟩) ?_
  intro n e h' hin
  rw [hI1] at hin
  obtain ⟨i,wv,A,h1',rfl,z,hinv,J,rfl⟩:=hin
  clear q0
  obtain ⟨rfl,hi,ow,hAP,q0⟩:=hinv
  have hwi:IntKind.i64.wrap ((i:Int)+1)=((i+1:Nat):Int):=by rw [zad (by omega) (by omega)]; omega
  have hvw:=zaR wv
  have hz:=z.size
  have hfl:((l.take i).filter (fun s => !zaK d who s)).length≤1000:=Nat.le_trans (List.length_filter_le _ _) (by rw [List.length_take]; omega)
  simp -implicitDefEqProofs only [syms,symx,seval,c43,hvv,hlv]
  refine zar (fun hlt=>?_) (fun hlt=>?_)
  · obtain ⟨r,hr,hr'⟩:=zaY (l:=l) (i:=i) (by omega)
    have hrm:=List.mem_of_getElem? hr'
    have htk:l.take (i+1)=l.take i++[r]:=by rw [List.take_add_one,hr']; rfl
    simp -implicitDefEqProofs only [syms,symx,seval,c43]
    with_reducible first | refine zcb (by simp only [c43]) (z.upW _ _ (by omega)) ?_
    simp -implicitDefEqProofs only [syms,symx,seval,c43,q0.lay,hva,hvv,zaq,↓zaJ,zaI,zaz]
    repeat' ((first | with_reducible_and_instances refine zcI (hl.mono z.inc) ds69 sz62 (by omega) hr (fun p hp=>?_) | with_reducible_and_instances refine ldS hp ag62 sz62 ?_) <;> simp -implicitDefEqProofs only [syms,symx,seval,c43,q0.lay,hva,hvv,zaq,↓zaJ,zaI,zaz])
    refine zi7 d who r _ _ _ _ _ _ _ _ hone ((hd.mono z.inc).lay _ _) hps hcl hrl (hpl r hrm) _ (fun h' x=>?_)
    (( ((with_reducible refine zav ?_ ?_ ?_); (· exact (by (try simp only [lsz]); have:=z.size; omega)); (·  exact x )) ); replace z:=z.overW x (by (try simp only [lsz]); omega); (try replace q0:=q0.over x); (try replace ow:=ow.over x); rw [zaa h'])
    have hzn:=z.size
    cases hkr:zaK d who r
    · have hf:(l.take (i+1)).filter (fun s => !zaK d who s)=(l.take i).filter (fun s => !zaK d who s)++[r]:=by rw [htk,List.filter_append]; simp [hkr]
      clear hp
      simp -implicitDefEqProofs only [syms,symx,seval,c43]
      (with_reducible_and_instances apply zap); (· rfl)
      simp -implicitDefEqProofs only [syms,symx,seval,c43,Bool.not_false]
      ((with_reducible refine ⟨z.grw.lay _ _,?_⟩); (intro _ h' zz x _); (try simp only [zat,List.append_nil] at x); (try replace q0:=q0.over x); (try replace ow:=ow.over x); (replace z:=zz); (clear zz); rw [zaa h'])
      repeat' (first | simp -implicitDefEqProofs only [syms,symx,seval,c43,hvw,hvv,zea] | with_reducible_and_instances refine zcI (hl.mono z.inc) ds69 sz62 (by omega) hr (fun p hp=>?_) | with_reducible_and_instances refine ldS hp ag62 sz62 ?_)
      simp -implicitDefEqProofs only [syms,symx,seval,c43,za3,znP]
      refine zdD (i:=0) (cs:=r.cells) (x:=r) ds69 zbH rfl (by decide) (by rfl) z.size ow rfl (by omega) (by omega) (fun w3 h3 A3 ow3 cg3 hA3=>?_)
      have hfA:=ow.fresh
      have hq0l:=q0.lt
      have q0':=q0.stepL cg3 (Ne.symm hAP)
      rw [← hf] at ow3
      replace z:=z.stepW cg3 hfA (by omega)
      clear ow q0
      rw [zaa h3]
      repeat' ( simp -implicitDefEqProofs only [syms,symx,seval,c43])
      rw [hwi]
      (rw [hI1]; with_reducible refine zac (m:=_) ?_ ⟨i+1,w3,A3,_,rfl,z,⟨rfl,by omega,ow3,by rcases hA3 with e | e <;> omega,q0'⟩,junk (by kernel_rfl)⟩; omega)
    · have hf:(l.take (i+1)).filter (fun s => !zaK d who s)=(l.take i).filter (fun s => !zaK d who s):=by rw [htk,List.filter_append]; simp [hkr]
      rw [← hf] at ow
      clear hp
      simp -implicitDefEqProofs only [syms,symx,seval,c43]
      (with_reducible_and_instances apply zap); (· rfl)
      simp -implicitDefEqProofs only [syms,symx,seval,c43,Bool.not_true]
      ((with_reducible refine ⟨z.grw.lay _ _,?_⟩); (intro _ h' zz x _); (try simp only [zat,List.append_nil] at x); (try replace q0:=q0.over x); (try replace ow:=ow.over x); (replace z:=zz); (clear zz); rw [zaa h'])
      (try simp -implicitDefEqProofs only [syms,symx,seval,c43])
      rw [hwi]
      (rw [hI1]; with_reducible refine zac (m:=_) ?_ ⟨i+1,wv,A,_,rfl,z,⟨rfl,by omega,ow,hAP,q0⟩,junk (by kernel_rfl)⟩; omega)
  · rw [List.take_of_length_le (by omega)] at ow
    repeat' ( simp -implicitDefEqProofs only [syms,symx,seval,c43,hvw])
    exact hk _ _ (z.upW _ _ (by omega)) ((ow.sl (by decide)).lay _ _)
theorem ztL (d:PolicyD) (who:ByteArray) (l m:List SentD) (v u:Value) (p0 p1 p2 p5 p6:Value) (q b:Int) (h:Heap) (hone:(zaE p0 p1 p2 p5 p6 q b).all Am.one=true) (hd:PolK h p0 p1 p2 p5 p6 d) (hps:d.principals.length≤1000) (hcl:d.clears.length≤1000) (hrl:∀ c∈d.clears,c.reads.length≤40) (hl:Sl Rep.sent h v l) (hln:l.length≤1000) (hpl:∀ s∈l,s.payload.size≤100000) (hm:Sl Rep.sent h u m) (hmn:m.length≤1000) (hpm:∀ s∈m,s.payload.size≤100000) (K:Value→Heap→Prop)
    (hk:∀ h',Ext h h'→K (.bool (decide (l.filter (zaK d who)=m.filter (zaK d who)))) h'):Ok Tryz.prog tab ov 44 [zbZ p0 p1 p2 p5 p6 q b,.string who,v,u] h K:=by
  rw [zaa h]
  have z:=Ext.refl h
  have hva:∀ (s:ByteArray) (h:Heap) (K:Value→Heap→Prop),valE (some (.string s)) h K=K (.string s) h:=fun _ _ _=>rfl
  have hvv:=zaR v
  have hvu:=zaR u
  have hf1:(l.filter (zaK d who)).length≤1000:=Nat.le_trans (List.length_filter_le _ _) hln
  have hf2:(m.filter (zaK d who)).length≤1000:=Nat.le_trans (List.length_filter_le _ _) hmn
  refine Ok.into rfl zxm (zaD N44) rfl (m:=36) rfl ?_
  simp -implicitDefEqProofs only [syms,symx,seval,c44,zaq]
  refine zjc (fun h' x hq=>?_)
  have q0:=hq 0 _ rfl
  clear hq
  (replace z:=z.overW x (by (try simp only [lsz]); omega); rw [zaa h'])
  with_reducible first | refine zcb (by simp only [c44]) (z.upW _ _ (by omega)) ?_
  simp -implicitDefEqProofs only [syms,symx,seval,c44,q0.lay,hva,hvv,hvu,zaq,↓zaJ,zaI,zaz]
  refine zf2 d who l _ _ _ _ _ _ _ _ _ hone ((hd.mono z.inc).lay _ _) hps hcl hrl ((hl.mono z.inc).lay _ _) hln hpl _ (fun h' w1 x s1=>?_)
  (( ((with_reducible refine zav ?_ ?_ ?_); (· exact (by (try simp only [lsz]); have:=z.size; omega)); (·  exact x )) ); replace z:=z.overW x (by (try simp only [lsz]); omega); (try replace q0:=q0.over x); rw [zaa h'])
  simp -implicitDefEqProofs only [syms,symx,seval,c44,q0.lay,hva,hvv,hvu,zaq,↓zaJ,zaI,zaz]
  refine zf2 d who m _ _ _ _ _ _ _ _ _ hone ((hd.mono z.inc).lay _ _) hps hcl hrl ((hm.mono z.inc).lay _ _) hmn hpm _ (fun h' w2 x s2=>?_)
  (( ((with_reducible refine zav ?_ ?_ ?_); (· exact (by (try simp only [lsz]); have:=z.size; omega)); (·  exact x )) ); replace z:=z.overW x (by (try simp only [lsz]); omega); (try replace q0:=q0.over x); (try replace s1:=s1.over x); rw [zaa h'])
  simp -implicitDefEqProofs only [syms,symx,seval,c44]
  ((with_reducible refine ⟨z.grw.lay _ _,?_⟩); (intro _ h' zz x _); (try simp only [zat,List.append_nil] at x); (try replace q0:=q0.over x); (try replace s1:=s1.over x); (try replace s2:=s2.over x); (replace z:=zz); (clear zz); rw [zaa h'])
  generalize l.filter (zaK d who)=L at *
  generalize m.filter (zaK d who)=M at *
  have hv1:=zaR w1
  have hv2:=zaR w2
  have hl1:=fun (hh:Heap)=>s1.lenA ds69 hh
  have hl2:=fun (hh:Heap)=>s2.lenA ds69 hh
  simp -implicitDefEqProofs only [syms,symx,seval,c44,hl1,hl2]
  refine ze2 (fun hne=>?_) (fun heq=>?_)
  · rw [decide_eq_false (show ¬ L=M from fun e=>by subst e; exact hne rfl)] at hk
    simp -implicitDefEqProofs only [syms,symx,seval,c44]
    exact hk _ (z.upW _ _ (by omega))
  have hlen:L.length=M.length:=by omega
  simp -implicitDefEqProofs only [syms,symx,seval,c44]
  obtain ⟨I1,hI1⟩:∃ I:Nat→Env→Heap→Prop,I=(fun n e h'=>∃ (i:Nat) (h1:Heap),h'=h1.lay [] h1.low∧Ext h h1∧(n=L.length - i∧i≤L.length∧L.take i=M.take i∧Sl Rep.sent h1 w1 L∧Sl Rep.sent h1 w2 M)∧∃ J:Nat→Value,e=(jr J 0 9 (w1::w2::.int .i64 i::jr J 12 28 ([])))):=⟨_,rfl⟩
  refine zaC I1 _ (by rw [hI1]; exact ⟨0,_,rfl,z,⟨rfl,by omega,rfl,s1,s2⟩,junk (by kernel_rfl)⟩) ?_
  intro n e h' hin
  rw [hI1] at hin
  obtain ⟨i,h1',rfl,z,hinv,J,rfl⟩:=hin
  clear s1 s2
  obtain ⟨rfl,hi,htk,s1,s2⟩:=hinv
  have hw:IntKind.i64.wrap ((i:Int)+1)=((i+1:Nat):Int):=by rw [zad (by omega) (by omega)]; omega
  simp -implicitDefEqProofs only [syms,symx,seval,c44,hl1]
  refine zar (fun hlt=>?_) (fun hlt=>?_)
  rotate_left
  · rw [List.take_of_length_le (by omega),List.take_of_length_le (by omega)] at htk
    rw [decide_eq_true htk] at hk
    simp -implicitDefEqProofs only [syms,symx,seval,c44]
    exact hk _ (z.upW _ _ (by omega))
  obtain ⟨r,hr,hr'⟩:=zaY (l:=L) (i:=i) (by omega)
  obtain ⟨s,hs,hs'⟩:=zaY (l:=M) (i:=i) (by omega)
  simp -implicitDefEqProofs only [syms,symx,seval,c44,hv1,hv2]
  repeat' ((first | with_reducible refine zcb (by simp only [c44]) (z.upW _ _ (by omega)) ?_ | ((with_reducible  apply zeP ) <;> intro _) | with_reducible_and_instances refine zcI s1 ds69 sz62 (by omega) hr (fun p hp=>?_) | with_reducible_and_instances refine zcI s2 ds69 sz62 (by omega) hs (fun p hp=>?_) | with_reducible_and_instances refine ldS hp ag62 sz62 ?_ | ((with_reducible refine ⟨z.grw.lay _ _,?_⟩); (intro _ h' zz x _); (try simp only [zat,List.append_nil] at x); (try replace s1:=s1.over x); (try replace s2:=s2.over x); (replace z:=zz); (clear zz); rw [zaa h'])) <;> simp -implicitDefEqProofs only [syms,symx,seval,c44,zi6,hv1,hv2])
  · have hne:¬ r=s:=by assumption
    rw [decide_eq_false (show ¬ L=M from fun e=>by
      subst e
      rw [hr'] at hs'
      exact hne (Option.some.inj hs'))] at hk
    exact hk _ (z.upW _ _ (by omega))
  · have he:r=s:=by assumption
    rw [hw]
    (rw [hI1]; with_reducible refine zac (m:=_) ?_ ⟨i+1,_,rfl,z,⟨rfl,by omega,by rw [List.take_add_one,List.take_add_one,hr',hs',htk,he],s1,s2⟩,junk (by kernel_rfl)⟩; omega)
theorem zuQ (n m:Int) (h:Heap) (K:Value→Heap→Prop) (hm:1≤m) (hm2:m≤1000000) (hk:K (.int .i64 (modD n m)) h):Ok Tryz.prog tab ov 88 [.int .i64 n,.int .i64 m] h K:=by
  have hb:=zfX n m hm
  have h1:=Int.tmod_lt_of_pos n (show 0 < m by omega)
  have h2:=Int.lt_tmod_of_pos n (show 0 < m by omega)
  have hd:modD n m=if n.tmod m < 0 then n.tmod m+m else n.tmod m:=rfl
  refine Ok.into rfl zwu (zaD N88) rfl (m:=13) rfl ?_
  simp -implicitDefEqProofs only [syms,symx,seval,c88]
  rw [zwe (by omega)]
  simp -implicitDefEqProofs only [syms,symx,seval,c88]
  refine zar (fun c2=>?_) (fun c2=>?_)
  · rw [if_pos c2] at hd
    rw [hd] at hk
    simp -implicitDefEqProofs only [syms,symx,seval,c88]
    rw [zad (by omega) (by omega)]
    exact hk
  · rw [if_neg c2] at hd
    rw [hd] at hk
    simp -implicitDefEqProofs only [syms,symx,seval,c88]
    exact hk
theorem zpb (who:ByteArray) (l:List SentD) (aw:List ByteArray) (v u:Value) (h:Heap) (hl:Sl Rep.sent h v l) (hu:Sl Rep.str h u aw) (hn:l.length≤1000) (hn2:aw.length≤1000) (K:Value→Heap→Prop)
    (hk:∀ h' w,Ext h h'→Sl Rep.str h' w (zc3 who l aw)→K w h'):Ok Tryz.prog tab ov 48 [.string who,v,u] h K:=by
  rw [zaa h]
  have z:=Ext.refl h
  have hva:∀ (s:ByteArray) (h:Heap) (K:Value→Heap→Prop),valE (some (.string s)) h K=K (.string s) h:=fun _ _ _=>rfl
  have hvv:=zaR v
  have hvu:=zaR u
  have hlv:=fun (hh:Heap)=>hl.lenA ds69 hh
  have hlu:=fun (hh:Heap)=>hu.lenA ds49 hh
  refine Ok.into rfl zwX (zaD N48) rfl (m:=30) rfl ?_
  simp -implicitDefEqProofs only [syms,symx,seval,c48,hvv,hvu,hlv,hlu]
  (with_reducible_and_instances apply zp0); (· rfl); (· rfl)
  obtain ⟨k,hkk⟩:∃ k:Nat,k=min l.length aw.length:=⟨_,rfl⟩
  rw [show (if (aw.length:Int) < (l.length:Int) then (aw.length:Int) else (l.length:Int))=(k:Int) by split <;> omega]
  have hfin:=zf8 who l aw k (by omega)
  simp -implicitDefEqProofs only [syms,symx,seval,c48]
  obtain ⟨I1,hI1⟩:∃ I:Nat→Env→Heap→Prop,I=(fun n e h'=>∃ (i:Nat) (wo:Value) (A:Nat) (h1:Heap),h'=h1.lay [] h1.low∧Ext h h1∧(n=k - i∧i≤k∧Ow Rep.str h h1 9 A wo (zc3 who (l.take i) (aw.take i))∧(zc3 who (l.take i) (aw.take i)).length≤i)∧∃ J:Nat→Value,e=(.string who::v::u::jr J 3 4 (wo::jr J 8 5 (.int .i64 k::.int .i64 i::jr J 15 18 ([]))))):=⟨_,rfl⟩
  refine zaC I1 _ (by rw [hI1]; exact ⟨0,.slice none 0 0,h.size,_,rfl,z,⟨rfl,by omega,by simpa [zc3] using Ow.nil (Nat.le_refl _),by simp [zc3]⟩,junk (by kernel_rfl)⟩) ?_
  intro n e h' hin
  rw [hI1] at hin
  obtain ⟨i,wo,A,h1',rfl,z,hinv,J,rfl⟩:=hin
  obtain ⟨rfl,hi,oz,hlo⟩:=hinv
  have hwi:IntKind.i64.wrap ((i:Int)+1)=((i+1:Nat):Int):=by rw [zad (by omega) (by omega)]; omega
  have hvo:=zaR wo
  simp -implicitDefEqProofs only [syms,symx,seval,c48]
  refine zar (fun hlt=>?_) (fun hlt=>?_)
  · obtain ⟨r,hr,hr'⟩:=zaY (l:=l) (i:=i) (by omega)
    obtain ⟨a,ha,ha'⟩:=zaY (l:=aw) (i:=i) (by omega)
    have htk:=zhl (who:=who) hr' ha'
    simp -implicitDefEqProofs only [syms,symx,seval,c48,hvv]
    repeat' ((first | ((with_reducible  apply zar ) <;> intro _) | with_reducible_and_instances refine zo9 (hl.mono z.inc) ds69 sz62 (by omega) hr (fun p hp=>?_) | with_reducible_and_instances refine fdP0 hp zgq (fun qq hq=>?_) | with_reducible_and_instances refine zbF hq ag9 ?_ | with_reducible_and_instances refine zeh (hu.mono z.inc) ds49 sz9 (by omega) ha (fun p hp=>?_) | with_reducible_and_instances refine zbF hp ag9 ?_) <;> simp -implicitDefEqProofs only [syms,symx,seval,c48,hvv,hvu,hva,hvo])
    · have hrw:r.sender=who:=by assumption
      rw [if_pos hrw] at htk
      simp -implicitDefEqProofs only [syms,symx,seval,c48,za3,zn2]
      refine zdD (i:=0) (cs:=[.string a]) (x:=a) ds49 zcf rfl (by decide) (by rfl) z.size oz rfl (by omega) (by omega) (fun w3 h3 A3 ow3 cg3 hA3=>?_)
      have hfA:=oz.fresh
      rw [← htk] at ow3
      replace z:=z.stepW cg3 hfA (by omega)
      clear oz
      rw [zaa h3]
      simp -implicitDefEqProofs only [syms,symx,seval,c48]
      rw [hwi]
      (rw [hI1]; with_reducible refine zac (m:=_) ?_ ⟨i+1,w3,A3,_,rfl,z,⟨rfl,by omega,ow3,by rw [htk,List.length_append]; simp only [List.length_singleton]; omega⟩,junk (by kernel_rfl)⟩; omega)
    · have hrw:¬ r.sender=who:=by assumption
      rw [if_neg hrw,List.append_nil] at htk
      rw [← htk] at oz hlo
      rw [hwi]
      (rw [hI1]; with_reducible refine zac (m:=_) ?_ ⟨i+1,wo,A,_,rfl,z,⟨rfl,by omega,oz,by omega⟩,junk (by kernel_rfl)⟩; omega)
  · rw [show i=k by omega,hfin] at oz
    simp -implicitDefEqProofs only [syms,symx,seval,c48,hvo]
    exact hk _ _ (z.upW _ _ (by omega)) ((oz.sl (by decide)).lay _ _)
theorem zp5 (who:ByteArray) (l:List SentD) (aw:List ByteArray) (v u:Value) (h:Heap) (hl:Sl Rep.sent h v l) (hu:Sl Rep.str h u aw) (hn:l.length≤1000) (hn2:aw.length≤1000) (K:Value→Heap→Prop)
    (hk:∀ h' w,Ext h h'→Sl Rep.str h' w (zc3 who l aw)→K w h'):Ok Tryz.prog tab ov 49 [.string who,v,u] h K:=by
  rw [zaa h]
  have z:=Ext.refl h
  have hva:∀ (s:ByteArray) (h:Heap) (K:Value→Heap→Prop),valE (some (.string s)) h K=K (.string s) h:=fun _ _ _=>rfl
  have hvv:=zaR v
  have hvu:=zaR u
  have hlv:=fun (hh:Heap)=>hl.lenA ds69 hh
  have hlu:=fun (hh:Heap)=>hu.lenA ds49 hh
  refine Ok.into rfl zw9 (zaD N49) rfl (m:=33) rfl ?_
  simp -implicitDefEqProofs only [syms,symx,seval,c49]
  obtain ⟨I1,hI1⟩:∃ I:Nat→Env→Heap→Prop,I=(fun n e h'=>∃ (i:Nat) (wo:Value) (A:Nat) (h1:Heap),h'=h1.lay [] h1.low∧Ext h h1∧(n=l.length - i∧i≤l.length∧i≤aw.length∧Ow Rep.str h h1 9 A wo (zc3 who (l.take i) (aw.take i))∧(zc3 who (l.take i) (aw.take i)).length≤i)∧∃ J:Nat→Value,e=(.string who::v::u::jr J 3 4 (wo::.int .i64 i::jr J 9 27 ([])))):=⟨_,rfl⟩
  refine zaC I1 _ (by rw [hI1]; exact ⟨0,.slice none 0 0,h.size,_,rfl,z,⟨rfl,by omega,by omega,by simpa [zc3] using Ow.nil (Nat.le_refl _),by simp [zc3]⟩,junk (by kernel_rfl)⟩) ?_
  intro n e h' hin
  rw [hI1] at hin
  obtain ⟨i,wo,A,h1',rfl,z,hinv,J,rfl⟩:=hin
  obtain ⟨rfl,hi,hi2,oz,hlo⟩:=hinv
  have hwi:IntKind.i64.wrap ((i:Int)+1)=((i+1:Nat):Int):=by rw [zad (by omega) (by omega)]; omega
  have hvo:=zaR wo
  simp -implicitDefEqProofs only [syms,symx,seval,c49,hvv,hlv]
  refine zar (fun hlt=>?_) (fun hlt=>?_)
  · simp -implicitDefEqProofs only [syms,symx,seval,c49,hvu,hlu]
    refine zar (fun hlt2=>?_) (fun hlt2=>?_)
    · obtain ⟨r,hr,hr'⟩:=zaY (l:=l) (i:=i) (by omega)
      obtain ⟨a,ha,ha'⟩:=zaY (l:=aw) (i:=i) (by omega)
      have htk:=zhl (who:=who) hr' ha'
      simp -implicitDefEqProofs only [syms,symx,seval,c49,hvv]
      repeat' ((first | ((with_reducible  apply zar ) <;> intro _) | with_reducible_and_instances refine zo9 (hl.mono z.inc) ds69 sz62 (by omega) hr (fun p hp=>?_) | with_reducible_and_instances refine fdP0 hp zgq (fun qq hq=>?_) | with_reducible_and_instances refine zbF hq ag9 ?_ | with_reducible_and_instances refine zeh (hu.mono z.inc) ds49 sz9 (by omega) ha (fun p hp=>?_) | with_reducible_and_instances refine zbF hp ag9 ?_) <;> simp -implicitDefEqProofs only [syms,symx,seval,c49,hvv,hvu,hva,hvo])
      · have hrw:r.sender=who:=by assumption
        rw [if_pos hrw] at htk
        simp -implicitDefEqProofs only [syms,symx,seval,c49,za3,zn2]
        refine zdD (i:=0) (cs:=[.string a]) (x:=a) ds49 zcf rfl (by decide) (by rfl) z.size oz rfl (by omega) (by omega) (fun w3 h3 A3 ow3 cg3 hA3=>?_)
        have hfA:=oz.fresh
        rw [← htk] at ow3
        replace z:=z.stepW cg3 hfA (by omega)
        clear oz
        rw [zaa h3]
        simp -implicitDefEqProofs only [syms,symx,seval,c49]
        rw [hwi]
        (rw [hI1]; with_reducible refine zac (m:=_) ?_ ⟨i+1,w3,A3,_,rfl,z,⟨rfl,by omega,by omega,ow3,by rw [htk,List.length_append]; simp only [List.length_singleton]; omega⟩,junk (by kernel_rfl)⟩; omega)
      · have hrw:¬ r.sender=who:=by assumption
        rw [if_neg hrw,List.append_nil] at htk
        rw [← htk] at oz hlo
        rw [hwi]
        (rw [hI1]; with_reducible refine zac (m:=_) ?_ ⟨i+1,wo,A,_,rfl,z,⟨rfl,by omega,by omega,oz,by omega⟩,junk (by kernel_rfl)⟩; omega)
    · rw [zf8 who l aw i (by omega)] at oz
      simp -implicitDefEqProofs only [syms,symx,seval,c49,hvo]
      exact hk _ _ (z.upW _ _ (by omega)) ((oz.sl (by decide)).lay _ _)
  · rw [zf8 who l aw i (by omega)] at oz
    simp -implicitDefEqProofs only [syms,symx,seval,c49,hvo]
    exact hk _ _ (z.upW _ _ (by omega)) ((oz.sl (by decide)).lay _ _)
theorem zrD (m:Int) (ps:List Int) (H l:List SentD) (t:Nat):(znS m ps H l t).length≤H.length+1:=by
  unfold znS
  rw [List.length_append,List.length_map]
  have h1:=List.length_filter_le (fun x:PlD=>x.at_ == (t:Int)) (hidP m ps H)
  rw [zdM] at h1
  cases l[t]? <;> simp <;> omega
theorem zrj (m:Int) (ps:List Int) (H l:List SentD):∀ t,(mixR m ps H l t).length≤t*(H.length+1)
  | 0=>by simp [mixR]
  | t+1=>by
    unfold mixR
    rw [List.length_append,Nat.succ_mul]
    have h1:=zrj m ps H l t
    have h2:=zrD m ps H l t
    omega
theorem zuK (d:PolicyD) (who:ByteArray) (l more:List SentD) (places:List Int) (v u pv:Value) (p0 p1 p2 p5 p6:Value) (q b:Int) (h:Heap) (hone:(zaE p0 p1 p2 p5 p6 q b).all Am.one=true) (hd:PolK h p0 p1 p2 p5 p6 d) (hps:d.principals.length≤1000) (hcl:d.clears.length≤1000) (hrl:∀ c∈d.clears,c.reads.length≤40) (hl:Sl Rep.sent h v l) (hln:l.length≤100) (hm:Sl Rep.sent h u more) (hmn:more.length≤100) (hpm:∀ s∈more,s.payload.size≤100000) (hp:Sl Rep.int h pv places) (hpn:places.length≤1000) (K:Value→Heap→Prop)
    (hk:∀ h' w,Ext h h'→Sl Rep.sent h' w (mixR (l.length+1:Nat) places (more.filter (fun s => !zaK d who s)) l (l.length+1))→K w h'):Ok Tryz.prog tab ov 46 [zbZ p0 p1 p2 p5 p6 q b,.string who,v,u,pv] h K:=by
  rw [zaa h]
  have z:=Ext.refl h
  have hva:∀ (s:ByteArray) (h:Heap) (K:Value→Heap→Prop),valE (some (.string s)) h K=K (.string s) h:=fun _ _ _=>rfl
  have hvv:=zaR v
  have hvu:=zaR u
  have hvp:=zaR pv
  have hlv:=fun (hh:Heap)=>hl.lenA ds69 hh
  have hlp:=fun (hh:Heap)=>hp.lenA ds30 hh
  obtain ⟨H,hH⟩:∃ H,H=more.filter (fun s => !zaK d who s):=⟨_,rfl⟩
  obtain ⟨m,hmm⟩:∃ m:Nat,m=l.length+1:=⟨_,rfl⟩
  have hHn:H.length≤100:=by rw [hH]; exact Nat.le_trans (List.length_filter_le _ _) hmn
  rw [← hH,← hmm] at hk
  refine Ok.into rfl zwt (zaD N46) rfl (m:=61) rfl ?_
  repeat' ( simp -implicitDefEqProofs only [syms,symx,seval,c46,zaq,↓zaJ,zaI,zaz,hvu,hva])
  refine zks d who more _ _ _ _ _ _ _ _ _ hone (hd.lay _ _) hps hcl hrl (hm.lay _ _) (by omega) hpm _ (fun h' wh x sh=>?_)
  rw [← hH] at sh
  ((skip); replace z:=z.overW x (by (try simp only [lsz]); omega); rw [zaa h'])
  have z1:=z
  replace hl:=hl.mono z.inc
  replace hp:=hp.mono z.inc
  clear z x
  obtain ⟨h,rfl⟩:∃ a,a=h':=⟨_,rfl⟩
  have z:=Ext.refl h
  have hvh:=zaR wh
  have hlh:=fun (hh:Heap)=>sh.lenA ds69 hh
  simp -implicitDefEqProofs only [syms,symx,seval,c46,hvh,hlh]
  obtain ⟨I1,hI1⟩:∃ I:Nat→Env→Heap→Prop,I=(fun n e h'=>∃ (t:Nat) (wa:Value) (A:Nat) (h1:Heap),h'=h1.lay [] h1.low∧Ext h h1∧(n=m - t∧t≤m∧Ow Rep.sent h h1 62 A wa (mixR (m:Int) places H l t))∧∃ J:Nat→Value,e=(jr J 0 2 (v::J 3::pv::jr J 5 6 (wh::wa::.int .i64 t::jr J 14 52 ([]))))):=⟨_,rfl⟩
  refine zaC I1 _ (by rw [hI1]; exact ⟨0,.slice none 0 0,h.size,_,rfl,z,⟨rfl,by omega,Ow.nil (Nat.le_refl _)⟩,junk (by kernel_rfl)⟩) ?_
  intro n e h' hin
  rw [hI1] at hin
  obtain ⟨t,wa,A,h1',rfl,z,hinv,J,rfl⟩:=hin
  obtain ⟨rfl,ht,oz⟩:=hinv
  have hwt:IntKind.i64.wrap ((t:Int)+1)=((t+1:Nat):Int):=by rw [zad (by omega) (by omega)]; omega
  have hvw:=zaR wa
  simp -implicitDefEqProofs only [syms,symx,seval,c46,hvv,hlv]
  refine zar (fun htl=>?_) (fun htl=>?_)
  rotate_left
  · rw [show t=m by omega] at oz
    simp -implicitDefEqProofs only [syms,symx,seval,c46,hvw]
    exact hk _ _ ((z1.trans z).upW _ _ (by have:=(z1.trans z).low; omega)) ((oz.sl (by decide)).lay _ _)
  simp -implicitDefEqProofs only [syms,symx,seval,c46]
  have hmt:=zrj (m:Int) places H l t
  have hmb:(mixR (m:Int) places H l t).length≤20000:=Nat.le_trans hmt (Nat.le_trans (Nat.mul_le_mul (show t≤101 by omega) (show H.length+1≤101 by omega)) (by decide))
  clear hmt
  obtain ⟨I2,hI2⟩:∃ I:Nat→Env→Heap→Prop,I=(fun n e h'=>∃ (i:Nat) (wa:Value) (A:Nat) (h1:Heap),h'=h1.lay [] h1.low∧Ext h h1∧(n=H.length - i∧i≤H.length∧Ow Rep.sent h h1 62 A wa (mixR (m:Int) places H l t++(((hidP (m:Int) places H).take i).filter (fun x=>x.at_ == (t:Int))).map PlD.s))∧∃ J:Nat→Value,e=(jr J 0 2 (v::J 3::pv::jr J 5 6 (wh::wa::.int .i64 t::.int .i64 i::jr J 15 51 ([]))))):=⟨_,rfl⟩
  refine zaC I2 _ (by rw [hI2]; exact ⟨0,wa,A,_,rfl,z,⟨rfl,by omega,by simpa using oz⟩,junk (by kernel_rfl)⟩) ?_
  intro n e h' hin
  rw [hI2] at hin
  obtain ⟨i,wa,A,h1',rfl,z,hinv,J,rfl⟩:=hin
  clear oz hvw
  obtain ⟨rfl,hi,oz⟩:=hinv
  have hwi:IntKind.i64.wrap ((i:Int)+1)=((i+1:Nat):Int):=by rw [zad (by omega) (by omega)]; omega
  have hwm:IntKind.i64.wrap ((l.length:Int)+1)=((m:Nat):Int):=by rw [zad (by omega) (by omega)]; omega
  have hvw:=zaR wa
  have htl2:((((hidP (m:Int) places H).take i).filter (fun x=>x.at_ == (t:Int))).map PlD.s).length≤100:=by
    rw [List.length_map]
    refine Nat.le_trans (List.length_filter_le _ _) ?_
    rw [List.length_take,zdM]
    omega
  simp -implicitDefEqProofs only [syms,symx,seval,c46,hvh,hlh]
  refine zar (fun hlt=>?_) (fun hlt=>?_)
  · obtain ⟨r,hr,hr'⟩:=zaY (l:=H) (i:=i) (by omega)
    have key:∀ k:Int,(match places[i]? with | some p=>modD p (m:Int) | none=>0)=k→∀ (w1:Nat) (J:Nat→Value),True:=fun _ _ _ _=>trivial
    have htk:=fun k=>ztD (m:=(m:Int)) (ps:=places) (t:=t) (k:=k) hr'
    simp -implicitDefEqProofs only [syms,symx,seval,c46,hvp,hlp]
    refine zar (fun hip=>?_) (fun hip=>?_)
    · obtain ⟨pk,hpk,hpk'⟩:=zaY (l:=places) (i:=i) (by omega)
      have hbm:=zfX pk (m:Int) (by omega)
      have htk:=htk (modD pk (m:Int)) (by rw [hpk'])
      simp -implicitDefEqProofs only [syms,symx,seval,c46,hvp,hvv,hlv,hwm]
      repeat' ((first | with_reducible_and_instances refine zyF (hp.mono z.inc) ds30 sz3 (by omega) hpk (fun p hp=>?_) | with_reducible_and_instances refine zbF hp ag3 ?_) <;> simp -implicitDefEqProofs only [syms,symx,seval,c46,hvp,hvv,hlv,hwm])
      refine zuQ _ _ _ _ (by omega) (by omega) ?_
      simp -implicitDefEqProofs only [syms,symx,seval,c46]
      refine zd9 (fun heq=>?_) (fun hne=>?_)
      · rw [if_pos heq] at htk
        simp -implicitDefEqProofs only [syms,symx,seval,c46,hvh,hvw]
        repeat' ((first | with_reducible_and_instances refine zcI (sh.mono z.inc) ds69 sz62 (by omega) hr (fun p hp=>?_) | with_reducible_and_instances refine ldS hp ag62 sz62 ?_) <;> simp -implicitDefEqProofs only [syms,symx,seval,c46,hvh,hvw,hvv,zea])
        simp -implicitDefEqProofs only [syms,symx,seval,c46,za3,znP]
        refine zdD (i:=0) (cs:=r.cells) (x:=r) ds69 zbH rfl (by decide) (by rfl) z.size oz rfl (by rw [List.length_append]; omega) (by rw [List.length_append]; omega) (fun w3 h3 A3 ow3 cg3 hA3=>?_)
        have hfA:=oz.fresh
        rw [List.append_assoc,← htk] at ow3
        replace z:=z.stepW cg3 hfA (by omega)
        clear oz
        rw [zaa h3]
        simp -implicitDefEqProofs only [syms,symx,seval,c46]
        rw [hwi]
        (rw [hI2]; with_reducible refine zac (m:=_) ?_ ⟨i+1,w3,A3,_,rfl,z,⟨rfl,by omega,ow3⟩,junk (by kernel_rfl)⟩; omega)
      · rw [if_neg hne,List.append_nil] at htk
        rw [← htk] at oz
        simp -implicitDefEqProofs only [syms,symx,seval,c46]
        rw [hwi]
        (rw [hI2]; with_reducible refine zac (m:=_) ?_ ⟨i+1,wa,A,_,rfl,z,⟨rfl,by omega,oz⟩,junk (by kernel_rfl)⟩; omega)
    · have htk:=htk 0 (by rw [List.getElem?_eq_none (by omega)])
      simp -implicitDefEqProofs only [syms,symx,seval,c46]
      refine zd9 (fun heq=>?_) (fun hne=>?_)
      · rw [if_pos heq] at htk
        simp -implicitDefEqProofs only [syms,symx,seval,c46,hvh,hvw]
        repeat' ((first | with_reducible_and_instances refine zcI (sh.mono z.inc) ds69 sz62 (by omega) hr (fun p hp=>?_) | with_reducible_and_instances refine ldS hp ag62 sz62 ?_) <;> simp -implicitDefEqProofs only [syms,symx,seval,c46,hvh,hvw,hvv,zea])
        simp -implicitDefEqProofs only [syms,symx,seval,c46,za3,znP]
        refine zdD (i:=0) (cs:=r.cells) (x:=r) ds69 zbH rfl (by decide) (by rfl) z.size oz rfl (by rw [List.length_append]; omega) (by rw [List.length_append]; omega) (fun w3 h3 A3 ow3 cg3 hA3=>?_)
        have hfA:=oz.fresh
        rw [List.append_assoc,← htk] at ow3
        replace z:=z.stepW cg3 hfA (by omega)
        clear oz
        rw [zaa h3]
        simp -implicitDefEqProofs only [syms,symx,seval,c46]
        rw [hwi]
        (rw [hI2]; with_reducible refine zac (m:=_) ?_ ⟨i+1,w3,A3,_,rfl,z,⟨rfl,by omega,ow3⟩,junk (by kernel_rfl)⟩; omega)
      · rw [if_neg hne,List.append_nil] at htk
        rw [← htk] at oz
        simp -implicitDefEqProofs only [syms,symx,seval,c46]
        rw [hwi]
        (rw [hI2]; with_reducible refine zac (m:=_) ?_ ⟨i+1,wa,A,_,rfl,z,⟨rfl,by omega,oz⟩,junk (by kernel_rfl)⟩; omega)
  rw [List.take_of_length_le (by rw [zdM]; omega)] at oz
  have hmx:mixR (m:Int) places H l (t+1)=(mixR (m:Int) places H l t++(((hidP (m:Int) places H)).filter (fun x=>x.at_ == (t:Int))).map PlD.s)++l[t]?.toList:=by
    rw [List.append_assoc]
    rfl
  have htl3:((((hidP (m:Int) places H)).filter (fun x=>x.at_ == (t:Int))).map PlD.s).length≤100:=by
    rw [List.length_map]
    refine Nat.le_trans (List.length_filter_le _ _) ?_
    rw [zdM]
    omega
  simp -implicitDefEqProofs only [syms,symx,seval,c46,hvv,hlv]
  refine zar (fun htl4=>?_) (fun htl4=>?_)
  · obtain ⟨r,hr,hr'⟩:=zaY (l:=l) (i:=t) (by omega)
    rw [hr',Option.toList_some] at hmx
    simp -implicitDefEqProofs only [syms,symx,seval,c46,hvv,hvw]
    repeat' ((first | with_reducible_and_instances refine zcI (hl.mono z.inc) ds69 sz62 (by omega) hr (fun p hp=>?_) | with_reducible_and_instances refine ldS hp ag62 sz62 ?_) <;> simp -implicitDefEqProofs only [syms,symx,seval,c46,hvv,hvw,zea])
    simp -implicitDefEqProofs only [syms,symx,seval,c46,za3,znP]
    refine zdD (i:=0) (cs:=r.cells) (x:=r) ds69 zbH rfl (by decide) (by rfl) z.size oz rfl (by rw [List.length_append]; omega) (by rw [List.length_append]; omega) (fun w3 h3 A3 ow3 cg3 hA3=>?_)
    have hfA:=oz.fresh
    rw [← hmx] at ow3
    replace z:=z.stepW cg3 hfA (by omega)
    clear oz
    rw [zaa h3]
    simp -implicitDefEqProofs only [syms,symx,seval,c46]
    rw [hwt]
    (rw [hI1]; with_reducible refine zac (m:=_) ?_ ⟨t+1,w3,A3,_,rfl,z,⟨rfl,by omega,ow3⟩,junk (by kernel_rfl)⟩; omega)
  · rw [List.getElem?_eq_none (by omega),Option.toList_none,List.append_nil] at hmx
    rw [← hmx] at oz
    simp -implicitDefEqProofs only [syms,symx,seval,c46]
    rw [hwt]
    (rw [hI1]; with_reducible refine zac (m:=_) ?_ ⟨t+1,wa,A,_,rfl,z,⟨rfl,by omega,oz⟩,junk (by kernel_rfl)⟩; omega)
theorem zmB (a:Bool):binA Tryz.prog tab .eql 4 (.bool a) (.bool a)=some (.bool true):=by cases a <;> kernel_rfl
theorem zor (a:Bool):binA Tryz.prog tab .neq 4 (.bool a) (.bool a)=some (.bool false):=by cases a <;> kernel_rfl
theorem zjI (d:PolicyD) (who:ByteArray) (l more:List SentD) (places:List Int) (answers:List ByteArray) (v lv mv pv av:Value) (h:Heap) (hsp:SpaceAt 1 h) (hx:PolV h v d) (hl:Sl Rep.sent h lv l) (hm:Sl Rep.sent h mv more) (hp:Sl Rep.int h pv places) (ha:Sl Rep.str h av answers) (K:Value→Heap→Prop)
    (hk:∀ h',Ext h h'→K (.bool true) h'):Ok Tryz.prog tab ov 9 [v,.string who,lv,mv,pv,av] h K:=by
  obtain ⟨p0,p1,p2,p5,p6,q,b,rfl,hd⟩:=hx
  have hone:=hd.one q b
  rw [zaa h]
  have z:=Ext.refl h
  have hva:∀ (s:ByteArray) (h:Heap) (K:Value→Heap→Prop),valE (some (.string s)) h K=K (.string s) h:=fun _ _ _=>rfl
  have hvl:=zaR lv
  have hvm:=zaR mv
  have hvp:=zaR pv
  have hvn:=zaR av
  have hll:=fun (hh:Heap)=>hl.lenA ds69 hh
  have hlm:=fun (hh:Heap)=>hm.lenA ds69 hh
  have hlp:=fun (hh:Heap)=>hp.lenA ds30 hh
  have hla:=fun (hh:Heap)=>ha.lenA ds49 hh
  refine Ok.into rfl zy9 (zaD N9) rfl (m:=115) rfl ?_
  simp -implicitDefEqProofs only [syms,symx,seval,c9,zaq,hva]
  refine Ok.over (g:=zsm 1) rfl (zx9 (hsp.lay _ _)) ?_
  repeat' (first | simp -implicitDefEqProofs only [syms,symx,seval,c9,Bool.not_true,zaq,↓zaJ,zaI,zaz,hvl] | ((with_reducible_and_instances apply zap); (· rfl)))
  refine zgi d l _ _ _ _ _ _ _ _ _ (hd.lay _ _) (hl.lay _ _) _ (fun b0 b2 b3 b8 b9 h' x=>?_) (fun h' x=>?_)
  rotate_left
  · (( skip); replace z:=z.overW x (by (try simp only [lsz]); omega); rw [zaa h'])
    repeat' (first | simp -implicitDefEqProofs only [syms,symx,seval,c9,Bool.not_false] | ((with_reducible_and_instances apply zap); (· rfl)))
    exact hk _ (z.upW _ _ (by omega))
  have qP:=Holds.top (i:=0) x rfl
  (( skip); replace z:=z.overW x (by (try simp only [lsz]); omega); rw [zaa h'])
  obtain ⟨P0,hP0⟩:∃ P0,P0=h.size+0:=⟨_,rfl⟩
  rw [← hP0] at qP
  rw [← hP0]
  simp -implicitDefEqProofs only [syms,symx,seval,c9,Bool.not_true,hva,hvm,qP.lay,zaq,↓zaJ,zaI,zaz]
  (with_reducible_and_instances apply zap); (· rfl)
  simp -implicitDefEqProofs only [syms,symx,seval,c9,Bool.not_true,hva,hvm,qP.lay,zaq,↓zaJ,zaI,zaz]
  refine zgi d more _ _ _ _ _ _ _ _ _ ((hd.mono z.inc).lay _ _) ((hm.mono z.inc).lay _ _) _ (fun _ _ _ b8m b9m h' x=>?_) (fun h' x=>?_)
  rotate_left
  · (( skip); replace z:=z.overW x (by (try simp only [lsz]); omega); (try replace qP:=qP.over x); rw [zaa h'])
    simp -implicitDefEqProofs only [syms,symx,seval,c9,Bool.not_false]
    (with_reducible_and_instances apply zap); (· rfl)
    simp -implicitDefEqProofs only [syms,symx,seval,c9,Bool.not_false]
    exact hk _ (z.upW _ _ (by omega))
  (( skip); replace z:=z.overW x (by (try simp only [lsz]); omega); (try replace qP:=qP.over x); rw [zaa h'])
  simp -implicitDefEqProofs only [syms,symx,seval,c9,Bool.not_true,hvp,hlp]
  (with_reducible_and_instances apply zap); (· rfl)
  simp -implicitDefEqProofs only [syms,symx,seval,c9,Bool.not_true,hvp,hlp]
  refine zar (fun hgt=>?_) (fun hgt=>?_)
  · simp -implicitDefEqProofs only [syms,symx,seval,c9]
    exact hk _ (z.upW _ _ (by omega))
  simp -implicitDefEqProofs only [syms,symx,seval,c9,hvn,hla]
  refine zar (fun hgt2=>?_) (fun hgt2=>?_)
  · simp -implicitDefEqProofs only [syms,symx,seval,c9]
    exact hk _ (z.upW _ _ (by omega))
  have hps:d.principals.length≤1000:=by omega
  have hcl:d.clears.length≤1000:=by omega
  have hpl:∀ s∈l,s.payload.size≤100000:=fun s hs=>Nat.le_trans (b9 s hs) (by decide)
  have hpm:∀ s∈more,s.payload.size≤100000:=fun s hs=>Nat.le_trans (b9m s hs) (by decide)
  simp -implicitDefEqProofs only [syms,symx,seval,c9]
  obtain ⟨I1,hI1⟩:∃ I:Nat→Env→Heap→Prop,I=(fun n e h'=>∃ (i:Nat) (h1:Heap),h'=h1.lay [] h1.low∧Ext h h1∧(n=l.length - i∧i≤l.length∧Holds h1 P0 (.row (zaE p0 p1 p2 p5 p6 q b) 55 false))∧∃ J:Nat→Value,e=(J 0::.string who::lv::mv::pv::av::.pointer (some ⟨P0,0,none⟩)::jr J 7 6 (.int .i64 i::jr J 14 107 ([])))):=⟨_,rfl⟩
  refine zaC I1 _ (by rw [hI1]; exact ⟨0,_,rfl,z,⟨rfl,by omega,qP⟩,junk (by kernel_rfl)⟩) ?_
  intro n e h' hin
  rw [hI1] at hin
  obtain ⟨i,h1',rfl,z,hinv,J,rfl⟩:=hin
  clear qP
  obtain ⟨rfl,hi,qP⟩:=hinv
  have hwi:IntKind.i64.wrap ((i:Int)+1)=((i+1:Nat):Int):=by rw [zad (by omega) (by omega)]; omega
  simp -implicitDefEqProofs only [syms,symx,seval,c9,hvl,hll]
  refine zar (fun hlt=>?_) (fun hlt=>?_)
  · obtain ⟨r,hr,hr'⟩:=zaY (l:=l) (i:=i) (by omega)
    have hrm:=List.mem_of_getElem? hr'
    have hrp:r.payload.size≤100000:=hpl r hrm
    simp -implicitDefEqProofs only [syms,symx,seval,c9,hvl]
    with_reducible first | refine zcb (by simp only [c9]) (z.upW _ _ (by omega)) ?_
    simp -implicitDefEqProofs only [syms,symx,seval,c9,qP.lay,hva,hvl,zaq,↓zaJ,zaI,zaz]
    repeat' ((first | with_reducible_and_instances refine zcI (hl.mono z.inc) ds69 sz62 (by omega) hr (fun p hp=>?_) | with_reducible_and_instances refine ldS hp ag62 sz62 ?_) <;> simp -implicitDefEqProofs only [syms,symx,seval,c9,qP.lay,hva,hvl,zaq,↓zaJ,zaI,zaz])
    refine zjf d who r _ _ _ _ _ _ _ _ ((hsp.ext z).lay _ _) hone ((hd.mono z.inc).lay _ _).k hps hcl b3 hrp _ (fun h' x=>?_)
    (( ((with_reducible refine zav ?_ ?_ ?_); (· exact (by (try simp only [lsz]); have:=z.size; omega)); (·  exact x )) ); replace z:=z.overW x (by (try simp only [lsz]); omega); (try replace qP:=qP.over x); rw [zaa h'])
    clear hp
    simp -implicitDefEqProofs only [syms,symx,seval,c9,qP.lay,hva,hvl,zaq,↓zaJ,zaI,zaz]
    repeat' ((first | with_reducible_and_instances refine zcI (hl.mono z.inc) ds69 sz62 (by omega) hr (fun p hp=>?_) | with_reducible_and_instances refine ldS hp ag62 sz62 ?_) <;> simp -implicitDefEqProofs only [syms,symx,seval,c9,qP.lay,hva,hvl,zaq,↓zaJ,zaI,zaz])
    refine zi7 d who r _ _ _ _ _ _ _ _ hone ((hd.mono z.inc).lay _ _).k hps hcl b3 hrp _ (fun h' x=>?_)
    (( ((with_reducible refine zav ?_ ?_ ?_); (· exact (by (try simp only [lsz]); have:=z.size; omega)); (·  exact x )) ); replace z:=z.overW x (by (try simp only [lsz]); omega); (try replace qP:=qP.over x); rw [zaa h'])
    clear hp
    simp -implicitDefEqProofs only [syms,symx,seval,c9,zor]
    (try simp -implicitDefEqProofs only [syms,symx,seval,c9,zor])
    ((with_reducible refine ⟨z.grw.lay _ _,?_⟩); (intro _ h' zz x _); (try simp only [zat,List.append_nil] at x); (try replace qP:=qP.over x); (replace z:=zz); (clear zz); rw [zaa h'])
    simp -implicitDefEqProofs only [syms,symx,seval,c9]
    rw [hwi]
    (rw [hI1]; with_reducible refine zac (m:=_) ?_ ⟨i+1,_,rfl,z,⟨rfl,by omega,qP⟩,junk (by kernel_rfl)⟩; omega)
  clear hi hlt hwi
  have hfn:∀ (k:SentD→Bool) (m:List SentD),m.length≤30→(m.filter k).length≤30:=fun k m hh=>Nat.le_trans (List.length_filter_le _ _) hh
  have hHn:=hfn (fun s => !zaK d who s) more (by omega)
  have hHl:=hfn (fun s => !zaK d who s) l (by omega)
  have hKl:=hfn (zaK d who) l (by omega)
  simp -implicitDefEqProofs only [syms,symx,seval,c9]
  with_reducible first | refine zcb (by simp only [c9]) (z.upW _ _ (by omega)) ?_
  simp -implicitDefEqProofs only [syms,symx,seval,c9,qP.lay,hva,hvl,hvm,hvp,zaq,↓zaJ,zaI,zaz]
  refine zft l _ _ ((hl.mono z.inc).lay _ _) (by omega) _ (fun w1 h' x s1=>?_)
  (( ((with_reducible refine zav ?_ ?_ ?_); (· exact (by (try simp only [lsz]); have:=z.size; omega)); (·  exact x )) ); replace z:=z.overW x (by (try simp only [lsz]); omega); (try replace qP:=qP.over x); rw [zaa h'])
  simp -implicitDefEqProofs only [syms,symx,seval,c9,qP.lay,hva,hvl,hvm,hvp,zaq,↓zaJ,zaI,zaz]
  refine zfF d who l _ _ _ _ _ _ _ _ _ ((hsp.ext z).lay _ _) hone ((hd.mono z.inc).lay _ _).k hps hcl b3 (s1.lay _ _) (by omega) hpl _ (fun h' w2 x s2=>?_)
  clear s1
  (( ((with_reducible refine zav ?_ ?_ ?_); (· exact (by (try simp only [lsz]); have:=z.size; omega)); (·  exact x )) ); replace z:=z.overW x (by (try simp only [lsz]); omega); (try replace qP:=qP.over x); rw [zaa h'])
  simp -implicitDefEqProofs only [syms,symx,seval,c9,qP.lay,hva,hvl,hvm,hvp,zaq,↓zaJ,zaI,zaz]
  refine zf2 d who l _ _ _ _ _ _ _ _ _ hone ((hd.mono z.inc).lay _ _).k hps hcl b3 ((hl.mono z.inc).lay _ _) (by omega) hpl _ (fun h' w3 x s3=>?_)
  (( ((with_reducible refine zav ?_ ?_ ?_); (· exact (by (try simp only [lsz]); have:=z.size; omega)); (·  exact x )) ); replace z:=z.overW x (by (try simp only [lsz]); omega); (try replace qP:=qP.over x); (try replace s2:=s2.over x); rw [zaa h'])
  simp -implicitDefEqProofs only [syms,symx,seval,c9]
  refine zff _ _ _ _ _ (s2.lay _ _) (s3.lay _ _) (by omega) (by omega) _ (fun h' x=>?_)
  rw [decide_eq_true rfl]
  clear s2 s3
  (( ((with_reducible refine zav ?_ ?_ ?_); (· exact (by (try simp only [lsz]); have:=z.size; omega)); (·  exact x )) ); replace z:=z.overW x (by (try simp only [lsz]); omega); (try replace qP:=qP.over x); rw [zaa h'])
  simp -implicitDefEqProofs only [syms,symx,seval,c9,qP.lay,hva,hvl,hvm,hvp,zaq,↓zaJ,zaI,zaz]
  refine zft l _ _ ((hl.mono z.inc).lay _ _) (by omega) _ (fun w1 h' x s1=>?_)
  (( ((with_reducible refine zav ?_ ?_ ?_); (· exact (by (try simp only [lsz]); have:=z.size; omega)); (·  exact x )) ); replace z:=z.overW x (by (try simp only [lsz]); omega); (try replace qP:=qP.over x); rw [zaa h'])
  simp -implicitDefEqProofs only [syms,symx,seval,c9,qP.lay,hva,hvl,hvm,hvp,zaq,↓zaJ,zaI,zaz]
  refine zk3 d who l _ _ _ _ _ _ _ _ _ ((hsp.ext z).lay _ _) hone ((hd.mono z.inc).lay _ _).k hps hcl b3 (s1.lay _ _) (by omega) hpl _ (fun h' w2 x s2=>?_)
  clear s1
  (( ((with_reducible refine zav ?_ ?_ ?_); (· exact (by (try simp only [lsz]); have:=z.size; omega)); (·  exact x )) ); replace z:=z.overW x (by (try simp only [lsz]); omega); (try replace qP:=qP.over x); rw [zaa h'])
  simp -implicitDefEqProofs only [syms,symx,seval,c9,qP.lay,hva,hvl,hvm,hvp,zaq,↓zaJ,zaI,zaz]
  refine zks d who l _ _ _ _ _ _ _ _ _ hone ((hd.mono z.inc).lay _ _).k hps hcl b3 ((hl.mono z.inc).lay _ _) (by omega) hpl _ (fun h' w3 x s3=>?_)
  (( ((with_reducible refine zav ?_ ?_ ?_); (· exact (by (try simp only [lsz]); have:=z.size; omega)); (·  exact x )) ); replace z:=z.overW x (by (try simp only [lsz]); omega); (try replace qP:=qP.over x); (try replace s2:=s2.over x); rw [zaa h'])
  simp -implicitDefEqProofs only [syms,symx,seval,c9]
  refine zff _ _ _ _ _ (s2.lay _ _) (s3.lay _ _) (by omega) (by omega) _ (fun h' x=>?_)
  rw [decide_eq_true rfl]
  clear s2 s3
  (( ((with_reducible refine zav ?_ ?_ ?_); (· exact (by (try simp only [lsz]); have:=z.size; omega)); (·  exact x )) ); replace z:=z.overW x (by (try simp only [lsz]); omega); (try replace qP:=qP.over x); rw [zaa h'])
  simp -implicitDefEqProofs only [syms,symx,seval,c9,qP.lay,hva,hvl,hvm,hvp,zaq,↓zaJ,zaI,zaz]
  refine zv2 d who l more _ _ _ _ _ _ _ _ _ _ ((hsp.ext z).lay _ _) hone ((hd.mono z.inc).lay _ _).k hps hcl b3 ((hl.mono z.inc).lay _ _) (by omega) hpl ((hm.mono z.inc).lay _ _) (by omega) hpm _ (fun h' x=>?_)
  (( ((with_reducible refine zav ?_ ?_ ?_); (· exact (by (try simp only [lsz]); have:=z.size; omega)); (·  exact x )) ); replace z:=z.overW x (by (try simp only [lsz]); omega); (try replace qP:=qP.over x); rw [zaa h'])
  simp -implicitDefEqProofs only [syms,symx,seval,c9,qP.lay,hva,hvl,hvm,hvp,zaq,↓zaJ,zaI,zaz]
  refine ztL d who l more _ _ _ _ _ _ _ _ _ _ hone ((hd.mono z.inc).lay _ _).k hps hcl b3 ((hl.mono z.inc).lay _ _) (by omega) hpl ((hm.mono z.inc).lay _ _) (by omega) hpm _ (fun h' x=>?_)
  (( ((with_reducible refine zav ?_ ?_ ?_); (· exact (by (try simp only [lsz]); have:=z.size; omega)); (·  exact x )) ); replace z:=z.overW x (by (try simp only [lsz]); omega); (try replace qP:=qP.over x); rw [zaa h'])
  simp -implicitDefEqProofs only [syms,symx,seval,c9,zmB]
  (try simp -implicitDefEqProofs only [syms,symx,seval,c9,zmB])
  simp -implicitDefEqProofs only [syms,symx,seval,c9,qP.lay,hva,hvl,hvm,hvp,zaq,↓zaJ,zaI,zaz]
  refine zft l _ _ ((hl.mono z.inc).lay _ _) (by omega) _ (fun w1 h' x s1=>?_)
  (( ((with_reducible refine zav ?_ ?_ ?_); (· exact (by (try simp only [lsz]); have:=z.size; omega)); (·  exact x )) ); replace z:=z.overW x (by (try simp only [lsz]); omega); (try replace qP:=qP.over x); rw [zaa h'])
  simp -implicitDefEqProofs only [syms,symx,seval,c9,qP.lay,hva,hvl,hvm,hvp,zaq,↓zaJ,zaI,zaz]
  refine zft more _ _ ((hm.mono z.inc).lay _ _) (by omega) _ (fun w2 h' x s2=>?_)
  (( ((with_reducible refine zav ?_ ?_ ?_); (· exact (by (try simp only [lsz]); have:=z.size; omega)); (·  exact x )) ); replace z:=z.overW x (by (try simp only [lsz]); omega); (try replace qP:=qP.over x); (try replace s1:=s1.over x); rw [zaa h'])
  simp -implicitDefEqProofs only [syms,symx,seval,c9,qP.lay,hva,hvl,hvm,hvp,zaq,↓zaJ,zaI,zaz]
  refine zuJ places _ _ ((hp.mono z.inc).lay _ _) (by omega) _ (fun w3 h' x s3=>?_)
  (( ((with_reducible refine zav ?_ ?_ ?_); (· exact (by (try simp only [lsz]); have:=z.size; omega)); (·  exact x )) ); replace z:=z.overW x (by (try simp only [lsz]); omega); (try replace qP:=qP.over x); (try replace s1:=s1.over x); (try replace s2:=s2.over x); rw [zaa h'])
  simp -implicitDefEqProofs only [syms,symx,seval,c9,qP.lay,hva,hvl,hvm,hvp,zaq,↓zaJ,zaI,zaz]
  refine zzI d who l more places _ _ _ _ _ _ _ _ _ _ _ ((hsp.ext z).lay _ _) hone ((hd.mono z.inc).lay _ _).k hps hcl b3 (s1.lay _ _) (by omega) (s2.lay _ _) (by omega) hpm (s3.lay _ _) (by omega) _ (fun h' wM s x hperm hstab hsort sM=>?_)
  clear s1 s2 s3
  have hal:(allP (l.length+1:Nat) places (more.filter (fun s => !zaK d who s)) l).length=s.length:=hperm.length_eq.symm
  rw [hal] at hsort
  have hmix:=zxC hperm hstab hsort
  have hmlen:=zv4 hperm
  rw [← hmix] at sM hmlen
  (( ((with_reducible refine zav ?_ ?_ ?_); (· exact (by (try simp only [lsz]); have:=z.size; omega)); (·  exact x )) ); replace z:=z.overW x (by (try simp only [lsz]); omega); (try replace qP:=qP.over x); rw [zaa h'])
  simp -implicitDefEqProofs only [syms,symx,seval,c9,qP.lay,hva,hvl,hvm,hvp,zaq,↓zaJ,zaI,zaz]
  refine zuK d who l more places _ _ _ _ _ _ _ _ _ _ _ hone ((hd.mono z.inc).lay _ _).k hps hcl b3 ((hl.mono z.inc).lay _ _) (by omega) ((hm.mono z.inc).lay _ _) (by omega) hpm ((hp.mono z.inc).lay _ _) (by omega) _ (fun h' wR x sR=>?_)
  (( ((with_reducible refine zav ?_ ?_ ?_); (· exact (by (try simp only [lsz]); have:=z.size; omega)); (·  exact x )) ); replace z:=z.overW x (by (try simp only [lsz]); omega); (try replace qP:=qP.over x); (try replace sM:=sM.over x); rw [zaa h'])
  simp -implicitDefEqProofs only [syms,symx,seval,c9]
  refine zff _ _ _ _ _ (sM.lay _ _) (sR.lay _ _) (by omega) (by omega) _ (fun h' x=>?_)
  rw [decide_eq_true rfl]
  clear sM sR
  (( ((with_reducible refine zav ?_ ?_ ?_); (· exact (by (try simp only [lsz]); have:=z.size; omega)); (·  exact x )) ); replace z:=z.overW x (by (try simp only [lsz]); omega); (try replace qP:=qP.over x); rw [zaa h'])
  simp -implicitDefEqProofs only [syms,symx,seval,c9,qP.lay,hva,hvl,hvn,zaq,↓zaJ,zaI,zaz]
  have hal2:∀ (l:List SentD) (aw:List ByteArray),(zc3 who l aw).length≤l.length:=by
    intro l
    induction l with
    | nil=>intro aw; simp [zc3]
    | cons y l ih =>
      intro aw
      cases aw with
      | nil=>simp [zc3]
      | cons a aw =>
        unfold zc3
        have:=ih aw
        split <;> simp <;> omega
  have hal3:=hal2 l answers
  refine zpb who l answers _ _ _ ((hl.mono z.inc).lay _ _) ((ha.mono z.inc).lay _ _) (by omega) (by omega) _ (fun h' w1 x s1=>?_)
  (( ((with_reducible refine zav ?_ ?_ ?_); (· exact (by (try simp only [lsz]); have:=z.size; omega)); (·  exact x )) ); replace z:=z.overW x (by (try simp only [lsz]); omega); (try replace qP:=qP.over x); rw [zaa h'])
  simp -implicitDefEqProofs only [syms,symx,seval,c9,qP.lay,hva,hvl,hvn,zaq,↓zaJ,zaI,zaz]
  refine zp5 who l answers _ _ _ ((hl.mono z.inc).lay _ _) ((ha.mono z.inc).lay _ _) (by omega) (by omega) _ (fun h' w2 x s2=>?_)
  (( ((with_reducible refine zav ?_ ?_ ?_); (· exact (by (try simp only [lsz]); have:=z.size; omega)); (·  exact x )) ); replace z:=z.overW x (by (try simp only [lsz]); omega); (try replace qP:=qP.over x); (try replace s1:=s1.over x); rw [zaa h'])
  simp -implicitDefEqProofs only [syms,symx,seval,c9]
  refine zsL _ _ _ _ _ (s1.lay _ _) (s2.lay _ _) (by omega) (by omega) _ (fun h' x=>?_)
  rw [decide_eq_true rfl]
  clear s1 s2
  (( ((with_reducible refine zav ?_ ?_ ?_); (· exact (by (try simp only [lsz]); have:=z.size; omega)); (·  exact x )) ); replace z:=z.overW x (by (try simp only [lsz]); omega); (try replace qP:=qP.over x); rw [zaa h'])
  simp -implicitDefEqProofs only [syms,symx,seval,c9]
  ((with_reducible refine ⟨z.grw.lay _ _,?_⟩); (intro _ h' zz x _); (try simp only [zat,List.append_nil] at x); (try replace qP:=qP.over x); (replace z:=zz); (clear zz); rw [zaa h'])
  simp -implicitDefEqProofs only [syms,symx,seval,c9]
  exact hk _ (z.upW _ _ (by omega))
end Go.Proofs.YtemapihoobmonaaGreatDoor

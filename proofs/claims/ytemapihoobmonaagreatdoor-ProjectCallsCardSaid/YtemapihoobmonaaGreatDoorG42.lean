/- What is kept of requests. No condition. -/
import Derived.Test.YtemapihoobmonaaGreatDoorG24
import Derived.Test.YtemapihoobmonaaGreatDoorGCodec3
import Derived.Test.YtemapihoobmonaaGreatDoorG39
import Derived.Test.YtemapihoobmonaaGreatDoorG41
import Derived.Test.YtemapihoobmonaaGreatDoorG36
import Derived.Test.YtemapihoobmonaaGreatDoorG37
import Derived.Test.YtemapihoobmonaaGreatDoorG40
namespace Go.Am
set_option linter.unusedVariables false
noncomputable def zaK (d:PolicyD) (who:ByteArray) (s:SentD):Bool:=decide (s.sender=who) || (match reqO s.payload with
  | some x=>decide (x.1≠3) && zer d who s.sender
  | none=>false)
theorem zm1 {d:PolicyD} {who:ByteArray} {s:SentD} (h:s.sender=who):zaK d who s=true:=by
  unfold zaK
  rw [decide_eq_true h,Bool.true_or]
theorem zkI {d:PolicyD} {who:ByteArray} {s:SentD} (h:¬ s.sender=who) (e:reqO s.payload=none):zaK d who s=false:=by
  unfold zaK
  rw [decide_eq_false h,Bool.false_or,e]
theorem zkU {d:PolicyD} {who:ByteArray} {s:SentD} {k:Nat} {a:AtomD} (h:¬ s.sender=who) (e:reqO s.payload=some (k,a)):zaK d who s=(decide (k≠3) && zer d who s.sender):=by
  unfold zaK
  rw [decide_eq_false h,Bool.false_or,e]
end Go.Am
namespace Go.Proofs.YtemapihoobmonaaGreatDoor
open Go.Am
set_option linter.unusedSimpArgs false
set_option linter.unusedVariables false
set_option maxRecDepth 100000
set_option maxHeartbeats 0
theorem rq_0 (k:Int) (a:AtomD):(zaV k a)[0]? = some (.int .i64 k):=rfl
theorem zjf (d:PolicyD) (who:ByteArray) (s:SentD) (p0 p1 p2 p5 p6:Value) (q b:Int) (h:Heap) (hsp:SpaceAt 1 h) (hone:(zaE p0 p1 p2 p5 p6 q b).all Am.one=true) (hd:PolK h p0 p1 p2 p5 p6 d) (hps:d.principals.length≤1000) (hcl:d.clears.length≤1000) (hrl:∀ c∈d.clears,c.reads.length≤40) (hpl:s.payload.size≤100000) (K:Value→Heap→Prop)
    (hk:∀ h',Ext h h'→K (.bool (zaK d who s)) h'):Ok Tryz.prog tab ov 25 [zbZ p0 p1 p2 p5 p6 q b,.string who,s.val] h K:=by
  obtain ⟨sn,pl⟩:=s
  rw [zaa h]
  have z:=Ext.refl h
  have hva:∀ (s:ByteArray) (h:Heap) (K:Value→Heap→Prop),valE (some (.string s)) h K=K (.string s) h:=fun _ _ _=>rfl
  unfold SentD.val SentD.cells
  refine Ok.into rfl zxP (zaD N25) rfl (m:=30) rfl ?_
  simp -implicitDefEqProofs only [syms,symx,seval,c25,zaq,↓zaJ,zaI,zaz,hva]
  refine zar (fun hh=>?_) (fun hh=>?_)
  · simp -implicitDefEqProofs only [syms,symx,seval,c25]
    rw [zm1 (s:=⟨sn,pl⟩) hh] at hk
    exact hk _ (z.upW _ _ (by omega))
  simp -implicitDefEqProofs only [syms,symx,seval,c25,hva]
  refine zp6 pl hpl _ (hsp.lay _ _) _ (fun k a hr h' x=>?_) (fun hr h' c hc x=>?_)
  · have q0:=Holds.top (i:=0) x rfl
    have q1:=Holds.top (i:=1) x rfl
    ((skip); replace z:=z.overW x (by (try simp only [lsz]); omega); rw [zaa h'])
    rw [zkU (s:=⟨sn,pl⟩) hh hr] at hk
    simp -implicitDefEqProofs only [syms,symx,seval,c25,zbw,zaS,List.all_cons,List.all_nil,Am.one,Bool.and_true,Bool.true_and,Bool.and_self,List.set_cons_zero,List.set_cons_succ,st4,st3,st9,st23,st26,st29,zeo,st57,za7,zeG,zeQ,zeI,zc5,zeM,List.append_nil,if_true,↓zbL,zbK,zaT,beq_self_eq_true,rq_0]
    refine ze2 (fun h3=>?_) (fun h3=>?_)
    · rw [decide_eq_true (show k≠3 by omega),Bool.true_and] at hk
      repeat' ( simp -implicitDefEqProofs only [syms,symx,seval,c25,q0.lay,q1.lay,hva,zaq,↓zaJ,zaI,zaz])
      refine zAb d who sn _ _ _ _ _ _ _ _ hone ((hd.mono z.inc).lay _ _) hps hcl hrl _ (fun h' x=>?_)
      ((skip); replace z:=z.overW x (by (try simp only [lsz]); omega); (try replace q0:=q0.over x); (try replace q1:=q1.over x); rw [zaa h'])
      show KOps _ _ _ _ _ _ _ _ (.bool (zer d who sn)) _
      replace hk:∀ h',Ext h h'→K (.bool (zer d who sn)) h':=hk
      generalize zer d who sn=bb at hk ⊢
      cases bb
      all_goals
        repeat' ( simp -implicitDefEqProofs only [syms,symx,seval,c25])
        exact hk _ (z.upW _ _ (by omega))
    · rw [decide_eq_false (show ¬ k≠3 by omega),Bool.false_and] at hk
      simp -implicitDefEqProofs only [syms,symx,seval,c25]
      exact hk _ (z.upW _ _ (by omega))
  · ((skip); replace z:=z.overW x (by (try simp only [lsz]); omega); (try replace q0:=q0.over x); (try replace q1:=q1.over x); rw [zaa h'])
    rw [zkI (s:=⟨sn,pl⟩) hh hr] at hk
    simp -implicitDefEqProofs only [syms,symx,seval,c25,zbw,zaS,List.all_cons,List.all_nil,Am.one,Bool.and_true,Bool.true_and,Bool.and_self,List.set_cons_zero,List.set_cons_succ,st4,st3,st9,st23,st26,st29,zeo,st57,za7,zeG,zeQ,zeI,zc5,zeM,List.append_nil,if_true,↓zbL,zbK,zaT,show (c == 0)=false by simpa using hc]
    exact hk _ (z.upW _ _ (by omega))
theorem zp1 (d:PolicyD) (who:ByteArray) (s:SentD) (A B:Nat) (p0 p1 p2 p5 p6:Value) (q b:Int) (h:Heap) (hsp:SpaceAt 1 h) (hone:(zaE p0 p1 p2 p5 p6 q b).all Am.one=true) (hd:PolK h p0 p1 p2 p5 p6 d) (hps:d.principals.length≤1000) (hcl:d.clears.length≤1000) (hrl:∀ c∈d.clears,c.reads.length≤40) (hpl:s.payload.size≤100000) (q0:Holds h A (.row (zaE p0 p1 p2 p5 p6 q b) 55 false)) (q1:Holds h B (.row [.string who] 9 false)) (K:Value→Heap→Prop)
    (hk:∀ h',Ext h h'→K (.bool (!zaK d who s)) h'):Ok Tryz.prog tab ov 81 [s.val,.pointer (some ⟨A,0,none⟩),.pointer (some ⟨B,0,none⟩)] h K:=by
  rw [zaa h]
  have z:=Ext.refl h
  have hva:∀ (s:ByteArray) (h:Heap) (K:Value→Heap→Prop),valE (some (.string s)) h K=K (.string s) h:=fun _ _ _=>rfl
  refine Ok.into rfl zw4 (zaD N81) rfl (m:=7) rfl ?_
  repeat' ( simp -implicitDefEqProofs only [syms,symx,seval,c81,q0.lay,q1.lay,hva,zaq,↓zaJ,zaI,zaz,zkC,↓zfq,zez,zcV])
  refine zjf d who s _ _ _ _ _ _ _ _ (hsp.lay _ _) hone (hd.lay _ _) hps hcl hrl hpl _ (fun h' x=>?_)
  ((skip); replace z:=z.overW x (by (try simp only [lsz]); omega); rw [zaa h'])
  generalize zaK d who s=bb at hk ⊢
  cases bb
  all_goals
    repeat' (first | simp -implicitDefEqProofs only [syms,symx,seval,c81] | ((with_reducible_and_instances apply zap); (· rfl)))
    exact hk _ (z.upW _ _ (by omega))
theorem zmy (v fv:Value) (h:Heap) (hl:Sl Rep.sent h v []) (K:Value→Heap→Prop) (hk:∀ h',Ext h h'→K v h'):Ok Tryz.prog tab ov 113 [v,fv] h K:=by
  rw [zaa h]
  have z:=Ext.refl h
  have hva:=zaR v
  refine Ok.into rfl zmK (zaD N113) rfl (m:=40) rfl ?_
  repeat' ( simp -implicitDefEqProofs only [syms,symx,seval,c113,hva])
  refine zgr [] v fv (fun _=>false) h _ (z.upW _ _ (by omega)) (hl.lay _ _) (by simp) (fun x hx=>absurd hx (by simp)) _ (fun h' x=>?_)
  ((skip); replace z:=z.overW x (by (try simp only [lsz]); omega); rw [zaa h'])
  rw [show idxP (fun _:SentD=>false) [] = -1 from rfl]
  simp -implicitDefEqProofs only [syms,symx,seval,c113,hva,beq_self_eq_true,zkO,Int.reduceBEq]
  exact hk _ (z.upW _ _ (by omega))
theorem zjZ (l:List SentD) (v fv:Value) (pr:SentD→Bool) (h0 h:Heap) (z0:Ext h0 h) (hl:Sl Rep.sent h v l) (hn:l.length≤1000) (hpf:∀ x∈l,∀ (hc:Heap) (K:Value→Heap→Prop),Ext h hc→(∀ h',Ext hc h'→K (.bool (pr x)) h')→zil Tryz.prog tab ov [x.val] hc K fv) (K:Value→Heap→Prop)
    (hk:∀ h' w,Ext h h'→Sl Rep.sent h' w (l.filter (fun x => !pr x))→K w h'):Ok Tryz.prog tab ov 80 [v,fv] h K:=by
  rw [zaa h]
  have z:=Ext.refl h
  refine Ok.into rfl zxs (zaD N80) rfl (m:=7) rfl ?_
  simp -implicitDefEqProofs only [syms,symx,seval,c80,c31]
  refine zti l v _ (hl.lay _ _) (by omega) _ (fun h' w A x ho=>?_)
  ((skip); replace z:=z.overW x (by (try simp only [lsz]); omega); rw [zaa h'])
  have hvw:=zaR w
  repeat' ( simp -implicitDefEqProofs only [syms,symx,seval,c80,c31,hvw])
  rcases OwnXT.own (zsc ho) (by omega) with ⟨e,he⟩ | ⟨A2,t,rfl,q,hA2,hle⟩
  · subst e
    refine zmy w fv _ (he.lay _ _).sl _ (fun h' x=>?_)
    have he2:=he.over x
    ((skip); replace z:=z.overW x (by (try simp only [lsz]); omega); rw [zaa h'])
    repeat' ( simp -implicitDefEqProofs only [syms,symx,seval,c80,c31,hvw])
    exact hk _ _ (z.upW _ _ (by omega)) (he2.lay _ _).sl
  · have key:=fun K hk=>zlw l t fv pr A2 _ h (h'.lay [] h'.low) (z.upW _ _ (by omega)) hA2 (q.on _ _) rfl hle hn (fun y hy hc K' xe hk'=>hpf y hy hc K' xe hk') K hk
    refine key _ (fun h' w3 x ho=>?_)
    have hvw3:=zaR w3
    clear z
    have z:=x
    rw [zaa h']
    repeat' ( simp -implicitDefEqProofs only [syms,symx,seval,c80,c31,hvw3])
    exact hk _ _ (z.upW _ _ (by omega)) (ho.sl.lay _ _)
theorem zfF (d:PolicyD) (who:ByteArray) (l:List SentD) (v:Value) (p0 p1 p2 p5 p6:Value) (q b:Int) (h:Heap) (hsp:SpaceAt 1 h) (hone:(zaE p0 p1 p2 p5 p6 q b).all Am.one=true) (hd:PolK h p0 p1 p2 p5 p6 d) (hps:d.principals.length≤1000) (hcl:d.clears.length≤1000) (hrl:∀ c∈d.clears,c.reads.length≤40) (hl:Sl Rep.sent h v l) (hln:l.length≤1000) (hpl:∀ s∈l,s.payload.size≤100000) (K:Value→Heap→Prop)
    (hk:∀ h' w,Ext h h'→Sl Rep.sent h' w (l.filter (zaK d who))→K w h'):Ok Tryz.prog tab ov 31 [zbZ p0 p1 p2 p5 p6 q b,.string who,v] h K:=by
  rw [zaa h]
  have z:=Ext.refl h
  have hva:=zaR v
  refine Ok.into rfl zyx (zaD N31) rfl (m:=7) rfl ?_
  repeat' ( simp -implicitDefEqProofs only [syms,symx,seval,c31,zaq,↓zaJ,zaI,zaz,hva])
  refine zjZ l v _ (fun s => !zaK d who s) h _ (z.upW _ _ (by omega)) (hl.lay _ _) hln (fun x hx hc K' xe hk'=>?_) _ (fun h' w x hw=>?_)
  · rw [zhe]
    have q0:Holds hc (h.size+0) (.row (zaE p0 p1 p2 p5 p6 q b) 55 false):=Holds.top (i:=0) xe rfl
    have q1:Holds hc (h.size+1) (.row [.string who] 9 false):=Holds.top (i:=1) xe rfl
    have zz:Ext h hc:=z.overW xe (by omega)
    exact zp1 d who x _ _ _ _ _ _ _ _ _ hc (hsp.ext zz) hone (hd.mono zz.inc) hps hcl hrl (hpl x hx) q0 q1 K' hk'
  ((skip); replace z:=z.overW x (by (try simp only [lsz]); omega); rw [zaa h'])
  have hvw:=zaR w
  rw [show (fun x => !(fun s => !zaK d who s) x)=zaK d who from funext fun x=>Bool.not_not _] at hw
  repeat' ( simp -implicitDefEqProofs only [syms,symx,seval,c31,hvw])
  exact hk _ _ (z.upW _ _ (by omega)) (hw.lay _ _)
theorem zwS (d:PolicyD) (who other:ByteArray) (p0 p1 p2 p5 p6:Value) (q b:Int) (h:Heap) (hone:(zaE p0 p1 p2 p5 p6 q b).all Am.one=true) (hd:PolK h p0 p1 p2 p5 p6 d) (hps:d.principals.length≤1000) (hcl:d.clears.length≤1000) (hrl:∀ c∈d.clears,c.reads.length≤40) (K:Value→Heap→Prop)
    (hk:∀ h',Ext h h'→K (.bool (zer d who other)) h'):Ok Tryz.prog tab ov 32 [zbZ p0 p1 p2 p5 p6 q b,.string who,.string other] h K:=by
  rw [zaa h]
  have z:=Ext.refl h
  have hva:∀ (s:ByteArray) (h:Heap) (K:Value→Heap→Prop),valE (some (.string s)) h K=K (.string s) h:=fun _ _ _=>rfl
  refine Ok.into rfl zww (zaD N32) rfl (m:=21) rfl ?_
  repeat' ( simp -implicitDefEqProofs only [syms,symx,seval,c32,zaq,↓zaJ,zaI,zaz,hva])
  refine zpn d who _ _ _ _ _ _ _ _ hone (hd.lay _ _) hps hcl hrl _ (fun h' w l x sl hl41 hmem=>?_)
  ((skip); replace z:=z.overW x (by (try simp only [lsz]); omega); rw [zaa h'])
  have hvw:=zaR w
  have hlw:=fun (hh:Heap)=>sl.lenA ds49 hh
  repeat' ( simp -implicitDefEqProofs only [syms,symx,seval,c32,hvw])
  obtain ⟨I1,hI1⟩:∃ I:Nat→Env→Heap→Prop,I=(fun n e h'=>∃ (i:Nat) (h1:Heap),h'=h1.lay [] h1.low∧Ext h h1∧(n=l.length - i∧i≤l.length∧(∀ y∈l.take i,¬ y=other)∧Sl Rep.str h1 w l)∧∃ J:Nat→Value,e=(jr J 0 2 (.string other::jr J 3 4 (w::.int .i64 i::jr J 9 15 ([]))))):=⟨_,rfl⟩
  refine zaC I1 _ (by rw [hI1]; exact ⟨0,_,rfl,z,⟨rfl,by omega,by simp,sl⟩,junk (by kernel_rfl)⟩) ?_
  intro n e h' hin
  rw [hI1] at hin
  obtain ⟨i,h1',rfl,z,hinv,J,rfl⟩:=hin
  clear sl
  obtain ⟨rfl,hi,hall,sl⟩:=hinv
  have hwi:IntKind.i64.wrap ((i:Int)+1)=((i+1:Nat):Int):=by rw [zad (by omega) (by omega)]; omega
  simp -implicitDefEqProofs only [syms,symx,seval,c32,hvw,hlw]
  refine zar (fun hlt=>?_) (fun hlt=>?_)
  · obtain ⟨r,hr,hr'⟩:=zaY (l:=l) (i:=i) (by omega)
    simp -implicitDefEqProofs only [syms,symx,seval,c32,hvw]
    repeat' ((first | ((with_reducible  apply zar ) <;> intro _) | with_reducible_and_instances refine zeh sl ds49 sz9 (by omega) hr (fun p hp=>?_) | with_reducible_and_instances refine zbF hp ag9 ?_) <;> simp -implicitDefEqProofs only [syms,symx,seval,c32,hvw,hva])
    · have he:r=other:=by assumption
      rw [← hmem,hasB_iff.2 (he ▸ List.mem_of_getElem? hr')] at hk
      exact hk _ (z.upW _ _ (by omega))
    · have he:¬ r=other:=by assumption
      rw [hwi]
      (rw [hI1]; with_reducible refine zac (m:=_) ?_ ⟨i+1,_,rfl,z,⟨rfl,by omega,zci (i:=i) (P:=fun y:ByteArray=>¬ y=other) hr' hall he,sl⟩,junk (by kernel_rfl)⟩; omega)
  · rw [List.take_of_length_le (by omega)] at hall
    have hf:zer d who other=false:=by
      rw [← hmem]
      cases hb:hasB l other
      · rfl
      · exact absurd rfl (hall other (hasB_iff.1 hb))
    rw [hf] at hk
    repeat' ( simp -implicitDefEqProofs only [syms,symx,seval,c32])
    exact hk _ (z.upW _ _ (by omega))
theorem zi7 (d:PolicyD) (who:ByteArray) (s:SentD) (p0 p1 p2 p5 p6:Value) (q b:Int) (h:Heap) (hone:(zaE p0 p1 p2 p5 p6 q b).all Am.one=true) (hd:PolK h p0 p1 p2 p5 p6 d) (hps:d.principals.length≤1000) (hcl:d.clears.length≤1000) (hrl:∀ c∈d.clears,c.reads.length≤40) (hpl:s.payload.size≤100000) (K:Value→Heap→Prop)
    (hk:∀ h',Ext h h'→K (.bool (zaK d who s)) h'):Ok Tryz.prog tab ov 41 [zbZ p0 p1 p2 p5 p6 q b,.string who,s.val] h K:=by
  obtain ⟨sn,pl⟩:=s
  rw [zaa h]
  have z:=Ext.refl h
  have hva:∀ (s:ByteArray) (h:Heap) (K:Value→Heap→Prop),valE (some (.string s)) h K=K (.string s) h:=fun _ _ _=>rfl
  unfold SentD.val SentD.cells
  refine Ok.into rfl zw5 (zaD N41) rfl (m:=29) rfl ?_
  simp -implicitDefEqProofs only [syms,symx,seval,c41,zaq,↓zaJ,zaI,zaz,hva]
  refine zar (fun hh=>?_) (fun hh=>?_)
  · simp -implicitDefEqProofs only [syms,symx,seval,c41]
    rw [zm1 (s:=⟨sn,pl⟩) hh] at hk
    exact hk _ (z.upW _ _ (by omega))
  repeat' ( simp -implicitDefEqProofs only [syms,symx,seval,c41,hva,zaq,↓zaJ,zaI,zaz])
  refine zwS d who sn _ _ _ _ _ _ _ _ hone (hd.lay _ _) hps hcl hrl _ (fun h' x=>?_)
  have q1:=Holds.top (i:=1) x rfl
  ((skip); replace z:=z.overW x (by (try simp only [lsz]); omega); rw [zaa h'])
  have hks:∀ r,reqO pl=r→zaK d who ⟨sn,pl⟩=(match r with | some x=>decide (x.1≠3) && zer d who sn | none=>false):=fun r hr=>by
    cases r with
    | none=>exact zkI (s:=⟨sn,pl⟩) hh hr
    | some x=>exact zkU (s:=⟨sn,pl⟩) (k:=x.1) (a:=x.2) hh hr
  generalize zer d who sn=S at hks ⊢
  cases S
  · have hkf:zaK d who ⟨sn,pl⟩=false:=by
      rw [hks _ rfl]
      cases reqO pl with
      | none=>rfl
      | some x=>exact Bool.and_false _
    rw [hkf] at hk
    repeat' (first | simp -implicitDefEqProofs only [syms,symx,seval,c41,Bool.not_false] | ((with_reducible_and_instances apply zap); (· rfl)))
    exact hk _ (z.upW _ _ (by omega))
  repeat' (first | simp -implicitDefEqProofs only [syms,symx,seval,c41,Bool.not_true,q1.lay,hva] | ((with_reducible_and_instances apply zap); (· rfl)))
  refine zqf pl hpl _ _ (fun k a hr h' x=>?_) (fun hr h' c hc x=>?_)
  · have h0:=hks _ hr
    replace h0:zaK d who ⟨sn,pl⟩=decide (k≠3):=h0.trans (Bool.and_true _)
    rw [h0] at hk
    ((skip); replace z:=z.overW x (by (try simp only [lsz]); omega); (try replace q1:=q1.over x); rw [zaa h'])
    have rq0:(zaV k a)[0]? = some (.int .i64 k):=rfl
    simp -implicitDefEqProofs only [syms,symx,seval,c41,zbw,zaS,List.all_cons,List.all_nil,Am.one,Bool.and_true,Bool.true_and,Bool.and_self,List.set_cons_zero,List.set_cons_succ,st4,st3,st9,st23,st26,st29,zeo,st57,za7,zeG,zeQ,zeI,zc5,zeM,List.append_nil,if_true,↓zbL,zbK,zaT,beq_self_eq_true,rq0]
    refine ze2 (fun h3=>?_) (fun h3=>?_)
    · rw [decide_eq_true (show k≠3 by omega)] at hk
      simp -implicitDefEqProofs only [syms,symx,seval,c41]
      exact hk _ (z.upW _ _ (by omega))
    · rw [decide_eq_false (show ¬ k≠3 by omega)] at hk
      simp -implicitDefEqProofs only [syms,symx,seval,c41]
      exact hk _ (z.upW _ _ (by omega))
  · have h0:zaK d who ⟨sn,pl⟩=false:=hks _ hr
    rw [h0] at hk
    have hcq:(c == 0)=false:=by simpa using hc
    ((skip); replace z:=z.overW x (by (try simp only [lsz]); omega); (try replace q1:=q1.over x); rw [zaa h'])
    simp -implicitDefEqProofs only [syms,symx,seval,c41,zbw,zaS,List.all_cons,List.all_nil,Am.one,Bool.and_true,Bool.true_and,Bool.and_self,List.set_cons_zero,List.set_cons_succ,st4,st3,st9,st23,st26,st29,zeo,st57,za7,zeG,zeQ,zeI,zc5,zeM,List.append_nil,if_true,↓zbL,zbK,zaT,hcq]
    exact hk _ (z.upW _ _ (by omega))
def eqS (x y:SentD):Option Bool:=andO (x.sender.data.toList == y.sender.data.toList) (andO (x.payload.data.toList == y.payload.data.toList) (some true))
theorem zxR (x y:SentD):eqS x y=some (decide (x=y)):=by
  obtain ⟨a,b⟩:=x
  obtain ⟨c,d⟩:=y
  have e:∀ s u:ByteArray,(s.data.toList == u.data.toList)=decide (s=u):=fun s u=>by
    rw [Bool.eq_iff_iff,beq_iff_eq,decide_eq_true_iff]
    exact ⟨fun h=>ByteArray.ext (Array.toList_inj.1 h),fun h=>by rw [h]⟩
  unfold eqS
  simp only [e,SentD.mk.injEq]
  by_cases h1:a=c <;> by_cases h2:b=d <;> simp [andO,h1,h2]
theorem zi6 (a b:SentD):binA Tryz.prog tab .neq 62 a.val b.val=some (.bool (!decide (a=b))):=by
  have h1:binA Tryz.prog tab .neq 62 a.val b.val=(eqS a b).map fun b=>.bool !b:=by kernel_rfl
  rw [h1,zxR]; rfl
theorem zff (l m:List SentD) (v u:Value) (h:Heap) (hl:Sl Rep.sent h v l) (hm:Sl Rep.sent h u m) (hs:l.length≤1000) (hs2:m.length≤1000) (K:Value→Heap→Prop)
    (hk:∀ h',Ext h h'→K (.bool (decide (l=m))) h'):Ok Tryz.prog tab ov 33 [v,u] h K:=by
  rw [zaa h]
  have z:=Ext.refl h
  have hln:=fun (hh:Heap)=>hl.lenA ds69 hh
  have hlm:=fun (hh:Heap)=>hm.lenA ds69 hh
  refine Ok.into rfl zwW (zaD N33) rfl (m:=24) rfl ?_
  simp -implicitDefEqProofs only [syms,symx,seval,c33,hln,hlm]
  refine ze2 (fun hne=>?_) (fun heq=>?_)
  · rw [decide_eq_false (show ¬ l=m from fun e=>by subst e; exact hne rfl)] at hk
    repeat' ( simp -implicitDefEqProofs only [syms,symx,seval,c33])
    exact hk _ (z.upW _ _ (by omega))
  have hlen:l.length=m.length:=by omega
  repeat' ( simp -implicitDefEqProofs only [syms,symx,seval,c33])
  obtain ⟨I1,hI1⟩:∃ I:Nat→Env→Heap→Prop,I=(fun n e h'=>∃ (i:Nat) (h1:Heap),h'=h1.lay [] h1.low∧Ext h h1∧(n=l.length - i∧i≤l.length∧l.take i=m.take i)∧∃ J:Nat→Value,e=(v::u::jr J 2 3 (.int .i64 i::jr J 6 20 ([])))):=⟨_,rfl⟩
  refine zaC I1 _ (by rw [hI1]; exact ⟨0,_,rfl,z,⟨rfl,by omega,rfl⟩,junk (by kernel_rfl)⟩) ?_
  intro n e h' hin
  rw [hI1] at hin
  obtain ⟨i,h1',rfl,z,hinv,J,rfl⟩:=hin
  obtain ⟨rfl,hi,htk⟩:=hinv
  have hw:IntKind.i64.wrap ((i:Int)+1)=((i+1:Nat):Int):=by rw [zad (by omega) (by omega)]; omega
  simp -implicitDefEqProofs only [syms,symx,seval,c33,hln]
  refine zar (fun hlt=>?_) (fun hlt=>?_)
  rotate_left
  · rw [List.take_of_length_le (by omega),List.take_of_length_le (by omega)] at htk
    rw [decide_eq_true htk] at hk
    repeat' ( simp -implicitDefEqProofs only [syms,symx,seval,c33])
    exact hk _ (z.upW _ _ (by omega))
  obtain ⟨r,hr,hr'⟩:=zaY (l:=l) (i:=i) (by omega)
  obtain ⟨s,hs,hs'⟩:=zaY (l:=m) (i:=i) (by omega)
  simp -implicitDefEqProofs only [syms,symx,seval,c33]
  repeat' ((first | with_reducible refine zcb (by simp only [c33]) (z.upW _ _ (by omega)) ?_ | ((with_reducible  apply zeP ) <;> intro _) | with_reducible_and_instances refine zcI (hl.mono z.inc) ds69 sz62 (by omega) hr (fun p hp=>?_) | with_reducible_and_instances refine zcI (hm.mono z.inc) ds69 sz62 (by omega) hs (fun p hp=>?_) | with_reducible_and_instances refine ldS hp ag62 sz62 ?_ | ((with_reducible refine ⟨z.grw.lay _ _,?_⟩); (intro _ h' zz x _); (try simp only [zat,List.append_nil] at x); (replace z:=zz); (clear zz); rw [zaa h'])) <;> simp -implicitDefEqProofs only [syms,symx,seval,c33,zi6])
  · have hne:¬ r=s:=by assumption
    rw [decide_eq_false (show ¬ l=m from fun e=>by
      subst e
      rw [hr'] at hs'
      exact hne (Option.some.inj hs'))] at hk
    exact hk _ (z.upW _ _ (by omega))
  · have he:r=s:=by assumption
    rw [hw]
    (rw [hI1]; with_reducible refine zac (m:=_) ?_ ⟨i+1,_,rfl,z,⟨rfl,by omega,by rw [List.take_add_one,List.take_add_one,hr',hs',htk,he]⟩,junk (by kernel_rfl)⟩; omega)
theorem zea (b:SentD) (z0 z1:Value):zdV (fun i=>some (i*2,2)) [z0,z1] [(0,b.val)]=some b.cells:=rfl
theorem zf2 (d:PolicyD) (who:ByteArray) (l:List SentD) (v:Value) (p0 p1 p2 p5 p6:Value) (q b:Int) (h:Heap) (hone:(zaE p0 p1 p2 p5 p6 q b).all Am.one=true) (hd:PolK h p0 p1 p2 p5 p6 d) (hps:d.principals.length≤1000) (hcl:d.clears.length≤1000) (hrl:∀ c∈d.clears,c.reads.length≤40) (hl:Sl Rep.sent h v l) (hln:l.length≤1000) (hpl:∀ s∈l,s.payload.size≤100000) (K:Value→Heap→Prop)
    (hk:∀ h' w,Ext h h'→Sl Rep.sent h' w (l.filter (zaK d who))→K w h'):Ok Tryz.prog tab ov 34 [zbZ p0 p1 p2 p5 p6 q b,.string who,v] h K:=by
  rw [zaa h]
  have z:=Ext.refl h
  have hva:∀ (s:ByteArray) (h:Heap) (K:Value→Heap→Prop),valE (some (.string s)) h K=K (.string s) h:=fun _ _ _=>rfl
  have hvv:=zaR v
  have hlv:=fun (hh:Heap)=>hl.lenA ds69 hh
  refine Ok.into rfl zxF (zaD N34) rfl (m:=27) rfl ?_
  simp -implicitDefEqProofs only [syms,symx,seval,c34,zaq]
  refine zjc (fun h' x hq=>?_)
  have q0:=hq 0 _ rfl
  clear hq
  (replace z:=z.overW x (by (try simp only [lsz]); omega); rw [zaa h'])
  obtain ⟨P0,hP0⟩:∃ P0,P0=h.size+0:=⟨_,rfl⟩
  rw [← hP0] at q0 ⊢
  have hz0:=z.size
  (try simp -implicitDefEqProofs only [syms,symx,seval,c34])
  obtain ⟨I1,hI1⟩:∃ I:Nat→Env→Heap→Prop,I=(fun n e h'=>∃ (i:Nat) (wv:Value) (A:Nat) (h1:Heap),h'=h1.lay [] h1.low∧Ext h h1∧(n=l.length - i∧i≤l.length∧Ow Rep.sent h h1 62 A wv ((l.take i).filter (zaK d who))∧A≠P0∧Holds h1 P0 (.row (zaE p0 p1 p2 p5 p6 q b) 55 false))∧∃ J:Nat→Value,e=(J 0::.string who::v::.pointer (some ⟨P0,0,none⟩)::jr J 4 3 (wv::.int .i64 i::jr J 9 21 ([])))):=⟨_,rfl⟩
  refine zaC I1 _ (by rw [hI1]; exact ⟨0,.slice none 0 0,h.size+1,_,rfl,z,⟨rfl,by omega,Ow.nil (by omega),by omega,q0⟩,junk (by kernel_rfl)⟩) ?_
  intro n e h' hin
  rw [hI1] at hin
  obtain ⟨i,wv,A,h1',rfl,z,hinv,J,rfl⟩:=hin
  clear q0
  obtain ⟨rfl,hi,ow,hAP,q0⟩:=hinv
  have hwi:IntKind.i64.wrap ((i:Int)+1)=((i+1:Nat):Int):=by rw [zad (by omega) (by omega)]; omega
  have hvw:=zaR wv
  have hz:=z.size
  have hfl:((l.take i).filter (zaK d who)).length≤1000:=Nat.le_trans (List.length_filter_le _ _) (by rw [List.length_take]; omega)
  simp -implicitDefEqProofs only [syms,symx,seval,c34,hvv,hlv]
  refine zar (fun hlt=>?_) (fun hlt=>?_)
  · obtain ⟨r,hr,hr'⟩:=zaY (l:=l) (i:=i) (by omega)
    have hrm:=List.mem_of_getElem? hr'
    have htk:l.take (i+1)=l.take i++[r]:=by rw [List.take_add_one,hr']; rfl
    simp -implicitDefEqProofs only [syms,symx,seval,c34]
    with_reducible first | refine zcb (by simp only [c34]) (z.upW _ _ (by omega)) ?_
    simp -implicitDefEqProofs only [syms,symx,seval,c34,q0.lay,hva,hvv,zaq,↓zaJ,zaI,zaz]
    repeat' ((first | with_reducible_and_instances refine zcI (hl.mono z.inc) ds69 sz62 (by omega) hr (fun p hp=>?_) | with_reducible_and_instances refine ldS hp ag62 sz62 ?_) <;> simp -implicitDefEqProofs only [syms,symx,seval,c34,q0.lay,hva,hvv,zaq,↓zaJ,zaI,zaz])
    refine zi7 d who r _ _ _ _ _ _ _ _ hone ((hd.mono z.inc).lay _ _) hps hcl hrl (hpl r hrm) _ (fun h' x=>?_)
    (( ((with_reducible refine zav ?_ ?_ ?_); (· exact (by (try simp only [lsz]); have:=z.size; omega)); (·  exact x )) ); replace z:=z.overW x (by (try simp only [lsz]); omega); (try replace q0:=q0.over x); (try replace ow:=ow.over x); rw [zaa h'])
    have hzn:=z.size
    cases hkr:zaK d who r
    · have hf:(l.take (i+1)).filter (zaK d who)=(l.take i).filter (zaK d who):=by rw [htk,List.filter_append]; simp [hkr]
      rw [← hf] at ow
      clear hp
      repeat' (first | simp -implicitDefEqProofs only [syms,symx,seval,c34] | ((with_reducible refine ⟨z.grw.lay _ _,?_⟩); (intro _ h' zz x _); (try simp only [zat,List.append_nil] at x); (try replace q0:=q0.over x); (try replace ow:=ow.over x); (replace z:=zz); (clear zz); rw [zaa h']))
      rw [hwi]
      (rw [hI1]; with_reducible refine zac (m:=_) ?_ ⟨i+1,wv,A,_,rfl,z,⟨rfl,by omega,ow,hAP,q0⟩,junk (by kernel_rfl)⟩; omega)
    · have hf:(l.take (i+1)).filter (zaK d who)=(l.take i).filter (zaK d who)++[r]:=by rw [htk,List.filter_append]; simp [hkr]
      clear hp
      simp -implicitDefEqProofs only [syms,symx,seval,c34]
      repeat' ((first | with_reducible_and_instances refine zcI (hl.mono z.inc) ds69 sz62 (by omega) hr (fun p hp=>?_) | with_reducible_and_instances refine ldS hp ag62 sz62 ?_ | ((with_reducible refine ⟨z.grw.lay _ _,?_⟩); (intro _ h' zz x _); (try simp only [zat,List.append_nil] at x); (try replace q0:=q0.over x); (try replace ow:=ow.over x); (replace z:=zz); (clear zz); rw [zaa h'])) <;> simp -implicitDefEqProofs only [syms,symx,seval,c34,hvw,hvv,zea])
      simp -implicitDefEqProofs only [syms,symx,seval,c34,za3,znP]
      refine zdD (i:=0) (cs:=r.cells) (x:=r) ds69 zbH rfl (by decide) (by rfl) z.size ow rfl (by omega) (by omega) (fun w3 h3 A3 ow3 cg3 hA3=>?_)
      have hfA:=ow.fresh
      have hq0l:=q0.lt
      have q0':=q0.stepL cg3 (Ne.symm hAP)
      rw [← hf] at ow3
      replace z:=z.stepW cg3 hfA (by omega)
      clear ow q0
      rw [zaa h3]
      repeat' ( simp -implicitDefEqProofs only [syms,symx,seval,c34])
      rw [hwi]
      (rw [hI1]; with_reducible refine zac (m:=_) ?_ ⟨i+1,w3,A3,_,rfl,z,⟨rfl,by omega,ow3,by rcases hA3 with e | e <;> omega,q0'⟩,junk (by kernel_rfl)⟩; omega)
  · rw [List.take_of_length_le (by omega)] at ow
    repeat' ( simp -implicitDefEqProofs only [syms,symx,seval,c34,hvw])
    exact hk _ _ (z.upW _ _ (by omega)) ((ow.sl (by decide)).lay _ _)
theorem zo9 {T:Tab} {t e:TypeId} {kd:IntKind} {i:Int} {v:Value} {h1:Heap} {bs:List Blk} {w:Nat} {K:Value→Heap→Prop} {l:List SentD} {x:SentD} (f:Sl Rep.sent h1 v l) (hd:T.desc t=some (.slice e)) (hs:zaM T e=some 2) (h0:0≤i) (hx:l[i.toNat]? = some x) (hk:∀ p,AtP h1 p [.string x.sender,.string x.payload]→K p (h1.lay bs w)):valE (zau T t v (.int kd i)) (h1.lay bs w) K:=zcI f hd hs h0 hx hk
theorem zgi (d:PolicyD) (l:List SentD) (v:Value) (p0 p1 p2 p5 p6:Value) (q b:Int) (h:Heap) (hd:PolH h p0 p1 p2 p5 p6 d) (hl:Sl Rep.sent h v l) (K:Value→Heap→Prop)
    (h1k:d.principals.length≤70→d.clears.length≤70→(∀ c∈d.clears,c.reads.length≤40)→l.length≤30→(∀ s∈l,s.payload.size≤600)→∀ h',Ext h h'→K (.bool true) h') (h2k:∀ h',Ext h h'→K (.bool false) h'):Ok Tryz.prog tab ov 29 [zbZ p0 p1 p2 p5 p6 q b,v] h K:=by
  rw [zaa h]
  have z:=Ext.refl h
  have hva:∀ (s:ByteArray) (h:Heap) (K:Value→Heap→Prop),valE (some (.string s)) h K=K (.string s) h:=fun _ _ _=>rfl
  have hvv:=zaR v
  have hlv:=fun (hh:Heap)=>hl.lenA ds69 hh
  refine Ok.into rfl zwN (zaD N29) rfl (m:=34) rfl ?_
  repeat' ( simp -implicitDefEqProofs only [syms,symx,seval,c29,zaq,↓zaJ,zaI,zaz])
  refine zki d _ _ _ _ _ _ _ _ (hd.lay _ _) _ (fun b1 b2 b3 h' x=>?_) (fun h' x=>?_)
  rotate_left
  · ((skip); replace z:=z.overW x (by (try simp only [lsz]); omega); rw [zaa h'])
    repeat' (first | simp -implicitDefEqProofs only [syms,symx,seval,c29,Bool.not_false] | ((with_reducible_and_instances apply zap); (· rfl)))
    exact h2k _ (z.upW _ _ (by omega))
  ((skip); replace z:=z.overW x (by (try simp only [lsz]); omega); rw [zaa h'])
  simp -implicitDefEqProofs only [syms,symx,seval,c29,Bool.not_true,hvv,hlv]
  (with_reducible_and_instances apply zap); (· rfl)
  simp -implicitDefEqProofs only [syms,symx,seval,c29,Bool.not_true,hvv,hlv]
  refine zar (fun hgt=>?_) (fun hgt=>?_)
  · simp -implicitDefEqProofs only [syms,symx,seval,c29]
    exact h2k _ (z.upW _ _ (by omega))
  simp -implicitDefEqProofs only [syms,symx,seval,c29]
  obtain ⟨I1,hI1⟩:∃ I:Nat→Env→Heap→Prop,I=(fun n e h'=>∃ (i:Nat) (h1:Heap),h'=h1.lay [] h1.low∧Ext h h1∧(n=l.length - i∧i≤l.length∧(∀ s∈l.take i,s.payload.size≤600))∧∃ J:Nat→Value,e=(J 0::v::jr J 2 3 (.int .i64 i::jr J 6 30 ([])))):=⟨_,rfl⟩
  refine zaC I1 _ (by rw [hI1]; exact ⟨0,_,rfl,z,⟨rfl,by omega,by simp⟩,junk (by kernel_rfl)⟩) ?_
  intro n e h' hin
  rw [hI1] at hin
  obtain ⟨i,h1',rfl,z,hinv,J,rfl⟩:=hin
  obtain ⟨rfl,hi,hall⟩:=hinv
  have hwi:IntKind.i64.wrap ((i:Int)+1)=((i+1:Nat):Int):=by rw [zad (by omega) (by omega)]; omega
  simp -implicitDefEqProofs only [syms,symx,seval,c29,hvv,hlv]
  refine zar (fun hlt=>?_) (fun hlt=>?_)
  · obtain ⟨r,hr,hr'⟩:=zaY (l:=l) (i:=i) (by omega)
    simp -implicitDefEqProofs only [syms,symx,seval,c29,hvv]
    repeat' ((first | ((with_reducible  apply zar ) <;> intro _) | with_reducible_and_instances refine zo9 (hl.mono z.inc) ds69 sz62 (by omega) hr (fun p hp=>?_) | with_reducible_and_instances refine fdP0 hp zgq (fun qq hq=>?_) | with_reducible_and_instances refine fdP1 hp znL (fun qq hq=>?_) | with_reducible_and_instances refine zbF hq ag9 ?_) <;> simp -implicitDefEqProofs only [syms,symx,seval,c29,hvv,hva])
    all_goals first
      | exact h2k _ (z.upW _ _ (by omega))
      | (rw [hwi]
         (rw [hI1]; with_reducible refine zac (m:=_) ?_ ⟨i+1,_,rfl,z,⟨rfl,by omega,zci (i:=i) (P:=fun s:SentD=>s.payload.size≤600) hr' hall (by omega)⟩,junk (by kernel_rfl)⟩; omega))
  · rw [List.take_of_length_le (by omega)] at hall
    repeat' ( simp -implicitDefEqProofs only [syms,symx,seval,c29])
    exact h1k (by omega) (by omega) b3 (by omega) hall _ (z.upW _ _ (by omega))
end Go.Proofs.YtemapihoobmonaaGreatDoor

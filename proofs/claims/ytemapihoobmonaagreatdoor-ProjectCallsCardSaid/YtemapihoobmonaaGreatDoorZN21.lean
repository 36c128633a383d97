/- Walks: what is hidden; requests alike; mixed. Written out by fill2.py. No condition. -/
import Derived.Test.YtemapihoobmonaaGreatDoorG44
namespace Go.Proofs.YtemapihoobmonaaGreatDoor
open Go.Am
set_option linter.unusedSimpArgs false
set_option linter.unusedVariables false
set_option maxRecDepth 100000
set_option maxHeartbeats 0
theorem zrP (d:PolicyD) (who:ByteArray) (s:SentD) (A B:Nat) (p0 p1 p2 p5 p6:Value) (q b:Int) (h:Heap) (hsp:SpaceAt 1 h) (hone:(zaE p0 p1 p2 p5 p6 q b).all Am.one=true) (hd:PolK h p0 p1 p2 p5 p6 d) (hps:d.principals.length≤1000) (hcl:d.clears.length≤1000) (hrl:∀ c∈d.clears,c.reads.length≤40) (hpl:s.payload.size≤100000) (q0:Holds h A (.row (zaE p0 p1 p2 p5 p6 q b) 55 false)) (q1:Holds h B (.row [.string who] 9 false)) (K:Value→Heap→Prop)
    (hk:∀ h',Ext h h'→K (.bool (zaK d who s)) h'):Ok Tryz.prog tab ov 86 [s.val,.pointer (some ⟨A,0,none⟩),.pointer (some ⟨B,0,none⟩)] h K:=by
  rw [zaa h]
  have z:=Ext.refl h
  have hva:∀ (s:ByteArray) (h:Heap) (K:Value→Heap→Prop),valE (some (.string s)) h K=K (.string s) h:=fun _ _ _=>rfl
  refine Ok.into rfl zx5 (zaD N86) rfl (m:=6) rfl ?_
  repeat' ( simp -implicitDefEqProofs only [syms,symx,seval,c86,q0.lay,q1.lay,hva,zaq,↓zaJ,zaI,zaz,zkC,↓zfq,zez,zcV])
  refine zjf d who s _ _ _ _ _ _ _ _ (hsp.lay _ _) hone (hd.lay _ _) hps hcl hrl hpl _ (fun h' x=>?_)
  ((skip); replace z:=z.overW x (by (try simp only [lsz]); omega); rw [zaa h'])
  generalize zaK d who s=bb at hk ⊢
  cases bb
  all_goals
    repeat' ( simp -implicitDefEqProofs only [syms,symx,seval,c86])
    exact hk _ (z.upW _ _ (by omega))
theorem zk3 (d:PolicyD) (who:ByteArray) (l:List SentD) (v:Value) (p0 p1 p2 p5 p6:Value) (q b:Int) (h:Heap) (hsp:SpaceAt 1 h) (hone:(zaE p0 p1 p2 p5 p6 q b).all Am.one=true) (hd:PolK h p0 p1 p2 p5 p6 d) (hps:d.principals.length≤1000) (hcl:d.clears.length≤1000) (hrl:∀ c∈d.clears,c.reads.length≤40) (hl:Sl Rep.sent h v l) (hln:l.length≤1000) (hpl:∀ s∈l,s.payload.size≤100000) (K:Value→Heap→Prop)
    (hk:∀ h' w,Ext h h'→Sl Rep.sent h' w (l.filter (fun s => !zaK d who s))→K w h'):Ok Tryz.prog tab ov 39 [zbZ p0 p1 p2 p5 p6 q b,.string who,v] h K:=by
  rw [zaa h]
  have z:=Ext.refl h
  have hva:=zaR v
  refine Ok.into rfl zyq (zaD N39) rfl (m:=7) rfl ?_
  repeat' ( simp -implicitDefEqProofs only [syms,symx,seval,c39,zaq,↓zaJ,zaI,zaz,hva])
  refine zjZ l v _ (fun s=>zaK d who s) h _ (z.upW _ _ (by omega)) (hl.lay _ _) hln (fun x hx hc K' xe hk'=>?_) _ (fun h' w x hw=>?_)
  · rw [zhe]
    have q0:Holds hc (h.size+0) (.row (zaE p0 p1 p2 p5 p6 q b) 55 false):=Holds.top (i:=0) xe rfl
    have q1:Holds hc (h.size+1) (.row [.string who] 9 false):=Holds.top (i:=1) xe rfl
    have zz:Ext h hc:=z.overW xe (by omega)
    exact zrP d who x _ _ _ _ _ _ _ _ _ hc (hsp.ext zz) hone (hd.mono zz.inc) hps hcl hrl (hpl x hx) q0 q1 K' hk'
  ((skip); replace z:=z.overW x (by (try simp only [lsz]); omega); rw [zaa h'])
  have hvw:=zaR w
  repeat' ( simp -implicitDefEqProofs only [syms,symx,seval,c39,hvw])
  exact hk _ _ (z.upW _ _ (by omega)) (hw.lay _ _)
theorem zlW (l m:List SentD) (v u:Value) (h:Heap) (hl:Sl Rep.sent h v l) (hm:Sl Rep.sent h u m) (hs:l.length≤1000) (hs2:m.length≤1000) (K:Value→Heap→Prop)
    (hk:∀ h',Ext h h'→K (.bool (decide (l=m))) h'):Ok Tryz.prog tab ov 87 [v,u] h K:=by
  rw [zaa h]
  have z:=Ext.refl h
  have hln:=fun (hh:Heap)=>hl.lenA ds69 hh
  have hlm:=fun (hh:Heap)=>hm.lenA ds69 hh
  refine Ok.into rfl zx6 (zaD N87) rfl (m:=24) rfl ?_
  simp -implicitDefEqProofs only [syms,symx,seval,c87,hln,hlm]
  refine ze2 (fun hne=>?_) (fun heq=>?_)
  · rw [decide_eq_false (show ¬ l=m from fun e=>by subst e; exact hne rfl)] at hk
    repeat' ( simp -implicitDefEqProofs only [syms,symx,seval,c87])
    exact hk _ (z.upW _ _ (by omega))
  have hlen:l.length=m.length:=by omega
  repeat' ( simp -implicitDefEqProofs only [syms,symx,seval,c87,hln])
  obtain ⟨I1,hI1⟩:∃ I:Nat→Env→Heap→Prop,I=(fun n e h'=>∃ (i:Nat) (h1:Heap),h'=h1.lay [] h1.low∧Ext h h1∧(n=l.length - i∧i≤l.length∧l.take i=m.take i)∧∃ J:Nat→Value,e=(v::u::jr J 2 10 (.int .i64 l.length::.int .i64 i::jr J 14 12 ([])))):=⟨_,rfl⟩
  refine zaC I1 _ (by rw [hI1]; exact ⟨0,_,rfl,z,⟨rfl,by omega,rfl⟩,junk (by kernel_rfl)⟩) ?_
  intro n e h' hin
  rw [hI1] at hin
  obtain ⟨i,h1',rfl,z,hinv,J,rfl⟩:=hin
  obtain ⟨rfl,hi,htk⟩:=hinv
  have hw:IntKind.i64.wrap ((i:Int)+1)=((i+1:Nat):Int):=by rw [zad (by omega) (by omega)]; omega
  simp -implicitDefEqProofs only [syms,symx,seval,c87,hln]
  refine zar (fun hlt=>?_) (fun hlt=>?_)
  rotate_left
  · rw [List.take_of_length_le (by omega),List.take_of_length_le (by omega)] at htk
    rw [decide_eq_true htk] at hk
    repeat' ( simp -implicitDefEqProofs only [syms,symx,seval,c87])
    exact hk _ (z.upW _ _ (by omega))
  obtain ⟨r,hr,hr'⟩:=zaY (l:=l) (i:=i) (by omega)
  obtain ⟨s,hs,hs'⟩:=zaY (l:=m) (i:=i) (by omega)
  simp -implicitDefEqProofs only [syms,symx,seval,c87]
  repeat' ((first | with_reducible refine zcb (by simp only [c87]) (z.upW _ _ (by omega)) ?_ | ((with_reducible  apply zeP ) <;> intro _) | with_reducible_and_instances refine zcI (hl.mono z.inc) ds69 sz62 (by omega) hr (fun p hp=>?_) | with_reducible_and_instances refine zcI (hm.mono z.inc) ds69 sz62 (by omega) hs (fun p hp=>?_) | with_reducible_and_instances refine ldS hp ag62 sz62 ?_ | ((with_reducible refine ⟨z.grw.lay _ _,?_⟩); (intro _ h' zz x _); (try simp only [zat,List.append_nil] at x); (replace z:=zz); (clear zz); rw [zaa h'])) <;> simp -implicitDefEqProofs only [syms,symx,seval,c87,zi6])
  · have hne:¬ r=s:=by assumption
    rw [decide_eq_false (show ¬ l=m from fun e=>by
      subst e
      rw [hr'] at hs'
      exact hne (Option.some.inj hs'))] at hk
    exact hk _ (z.upW _ _ (by omega))
  · have he:r=s:=by assumption
    rw [hw]
    (rw [hI1]; with_reducible refine zac (m:=_) ?_ ⟨i+1,_,rfl,z,⟨rfl,by omega,by rw [List.take_add_one,List.take_add_one,hr',hs',htk,he]⟩,junk (by kernel_rfl)⟩; omega)
def modD (n m:Int):Int:=if n.tmod m < 0 then n.tmod m+m else n.tmod m
theorem zfX (n m:Int) (hm:1≤m):0≤modD n m∧modD n m < m:=by
  unfold modD
  have h1:=Int.tmod_lt_of_pos n (show 0 < m by omega)
  have h2:=Int.lt_tmod_of_pos n (show 0 < m by omega)
  split <;> omega
theorem ztm (n m:Int) (h:Heap) (K:Value→Heap→Prop) (hm:1≤m) (hm2:m≤1000000) (hk:K (.int .i64 (modD n m)) h):Ok Tryz.prog tab ov 83 [.int .i64 n,.int .i64 m] h K:=by
  have hb:=zfX n m hm
  have h1:=Int.tmod_lt_of_pos n (show 0 < m by omega)
  have h2:=Int.lt_tmod_of_pos n (show 0 < m by omega)
  have hd:modD n m=if n.tmod m < 0 then n.tmod m+m else n.tmod m:=rfl
  refine Ok.into rfl zxM (zaD N83) rfl (m:=13) rfl ?_
  simp -implicitDefEqProofs only [syms,symx,seval,c83]
  rw [zwe (by omega)]
  simp -implicitDefEqProofs only [syms,symx,seval,c83]
  refine zar (fun c2=>?_) (fun c2=>?_)
  · rw [if_pos c2] at hd
    rw [hd] at hk
    simp -implicitDefEqProofs only [syms,symx,seval,c83]
    rw [zad (by omega) (by omega)]
    exact hk
  · rw [if_neg c2] at hd
    rw [hd] at hk
    simp -implicitDefEqProofs only [syms,symx,seval,c83]
    exact hk
theorem zv2 (d:PolicyD) (who:ByteArray) (l m:List SentD) (v u:Value) (p0 p1 p2 p5 p6:Value) (q b:Int) (h:Heap) (hsp:SpaceAt 1 h) (hone:(zaE p0 p1 p2 p5 p6 q b).all Am.one=true) (hd:PolK h p0 p1 p2 p5 p6 d) (hps:d.principals.length≤1000) (hcl:d.clears.length≤1000) (hrl:∀ c∈d.clears,c.reads.length≤40) (hl:Sl Rep.sent h v l) (hln:l.length≤1000) (hpl:∀ s∈l,s.payload.size≤100000) (hm:Sl Rep.sent h u m) (hmn:m.length≤1000) (hpm:∀ s∈m,s.payload.size≤100000) (K:Value→Heap→Prop)
    (hk:∀ h',Ext h h'→K (.bool (decide (l.filter (zaK d who)=m.filter (zaK d who)))) h'):Ok Tryz.prog tab ov 40 [zbZ p0 p1 p2 p5 p6 q b,.string who,v,u] h K:=by
  rw [zaa h]
  have z:=Ext.refl h
  have hva:∀ (s:ByteArray) (h:Heap) (K:Value→Heap→Prop),valE (some (.string s)) h K=K (.string s) h:=fun _ _ _=>rfl
  have hvv:=zaR v
  have hvu:=zaR u
  have hf1:(l.filter (zaK d who)).length≤1000:=Nat.le_trans (List.length_filter_le _ _) hln
  have hf2:(m.filter (zaK d who)).length≤1000:=Nat.le_trans (List.length_filter_le _ _) hmn
  refine Ok.into rfl zwq (zaD N40) rfl (m:=14) rfl ?_
  simp -implicitDefEqProofs only [syms,symx,seval,c40,zaq]
  refine zjc (fun h' x hq=>?_)
  have q0:=hq 0 _ rfl
  clear hq
  (replace z:=z.overW x (by (try simp only [lsz]); omega); rw [zaa h'])
  with_reducible first | refine zcb (by simp only [c40]) (z.upW _ _ (by omega)) ?_
  simp -implicitDefEqProofs only [syms,symx,seval,c40,q0.lay,hva,hvv,hvu,zaq,↓zaJ,zaI,zaz]
  refine zfF d who l _ _ _ _ _ _ _ _ _ ((hsp.ext z).lay _ _) hone ((hd.mono z.inc).lay _ _) hps hcl hrl ((hl.mono z.inc).lay _ _) hln hpl _ (fun h' w1 x s1=>?_)
  (( ((with_reducible refine zav ?_ ?_ ?_); (· exact (by (try simp only [lsz]); have:=z.size; omega)); (·  exact x )) ); replace z:=z.overW x (by (try simp only [lsz]); omega); (try replace q0:=q0.over x); rw [zaa h'])
  simp -implicitDefEqProofs only [syms,symx,seval,c40,q0.lay,hva,hvv,hvu,zaq,↓zaJ,zaI,zaz]
  refine zfF d who m _ _ _ _ _ _ _ _ _ ((hsp.ext z).lay _ _) hone ((hd.mono z.inc).lay _ _) hps hcl hrl ((hm.mono z.inc).lay _ _) hmn hpm _ (fun h' w2 x s2=>?_)
  (( ((with_reducible refine zav ?_ ?_ ?_); (· exact (by (try simp only [lsz]); have:=z.size; omega)); (·  exact x )) ); replace z:=z.overW x (by (try simp only [lsz]); omega); (try replace q0:=q0.over x); (try replace s1:=s1.over x); rw [zaa h'])
  simp -implicitDefEqProofs only [syms,symx,seval,c40]
  refine zlW _ _ _ _ _ (s1.lay _ _) (s2.lay _ _) hf1 hf2 _ (fun h' x=>?_)
  (( ((with_reducible refine zav ?_ ?_ ?_); (· exact (by (try simp only [lsz]); have:=z.size; omega)); (·  exact x )) ); replace z:=z.overW x (by (try simp only [lsz]); omega); (try replace q0:=q0.over x); (try replace s1:=s1.over x); (try replace s2:=s2.over x); rw [zaa h'])
  generalize decide (l.filter (zaK d who)=m.filter (zaK d who))=bb at hk ⊢
  cases bb
  all_goals
    simp -implicitDefEqProofs only [syms,symx,seval,c40]
    ((with_reducible refine ⟨z.grw.lay _ _,?_⟩); (intro _ h' zz x _); (try simp only [zat,List.append_nil] at x); (try replace q0:=q0.over x); (try replace s1:=s1.over x); (try replace s2:=s2.over x); (replace z:=zz); (clear zz); rw [zaa h'])
    simp -implicitDefEqProofs only [syms,symx,seval,c40]
    exact hk _ (z.upW _ _ (by omega))
end Go.Proofs.YtemapihoobmonaaGreatDoor

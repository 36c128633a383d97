/- Walks: members gone through, with what is had of each. Written out by mka3.py and fill2.py. No condition. -/
import Derived.Test.YtkgojconmeeegaaGreatDoorG38
set_option linter.unusedSimpArgs false
set_option linter.unusedVariables false
set_option maxRecDepth 100000
set_option maxHeartbeats 0
namespace Go.Proofs.YtkgojconmeeegaaGreatDoor
open Go.Am
def db (E:List TypeId) (h h2:Heap):Prop:=h.size≤h2.size∧∀ B cs e ro,h.get B=some (.row cs e ro)→e∈E→h2.get B=h.get B
section
variable {E:List TypeId} {h h1 h2 h3:Heap} {A w:Nat} {bs:List bh}
theorem db.refl:db E h h:=⟨Nat.le_refl _,fun _ _ _ _ _ _=>rfl⟩
theorem db.trans (f:db E h h2) (g:db E h2 h3):db E h h3:=⟨Nat.le_trans f.1 g.1,fun B cs e ro hB he=>(g.2 B cs e ro ((f.2 B cs e ro hB he).trans hB) he).trans (f.2 B cs e ro hB he)⟩
theorem db.bX {D:List Nat} (x:aM D h h2) (hD:∀ B∈D,∀ cs e ro,h.get B=some (.row cs e ro)→e ∉ E):db E h h2:=⟨x.size,fun B cs e ro hB he=>x.get B (Heap.bD hB) (fun hm=>hD B hm cs e ro hB he)⟩
theorem db.holds {cs:List Value} {e:TypeId} {ro:Bool} (f:db E h h2) (q:Holds h A (.row cs e ro)) (he:e∈E):Holds h2 A (.row cs e ro):=⟨Nat.lt_of_lt_of_le q.lt f.1,(f.2 A cs e ro q.get he).trans q.get⟩
theorem db.over (f:db E h h1) (x:Ext (h1.lay bs w) h2):db E h h2:=f.trans (db.bX (D:=[]) ((aM.refl [] h1).over x) (fun _ h=>nomatch h))
theorem rD.keep {e:TypeId} {v:Value} {l:List ByteArray} (f:rD h h1 e v l) (k:db E h1 h2) (he:e∈E):Sl aJ.str h2 v l:=by
 rcases f with ⟨rfl,rfl⟩|⟨A,_,hn,c,e1,e2,q⟩
 ·exact .nil
 ·exact fw.sl ⟨c,e1,e2,k.holds q he⟩ hn
end
theorem CA (A:Nat) (h:Heap) (K:Value→Heap→Prop):aW (some (.func (.yield A) ⟨[]⟩ ⟨[]⟩)) h K=K (.func (.yield A) ⟨[]⟩ ⟨[]⟩) h:=rfl
theorem Jn:ae.desc 22=some (.slice 9):=by kernel_rfl
theorem zzr (p0 p1 p2 p5 p6:Value) (q b:Int) (who:ByteArray) (fv:Value) (h:Heap) (cf:fv.cells.toList=[fv]) (K:Value→Heap→Prop)
 (hk:∀ h' X1 X2 X3,Ext h h'→h.size≤X1→h.size≤X2→h.size≤X3→Holds h' X1 (.row (cX p0 p1 p2 p5 p6 q b) 28 false)→Holds h' X2 (.row [.string who] 9 false)→Holds h' X3 (.row [fv] 89 false)→K (.func (.func 64) ⟨[]⟩ ⟨[.pointer (some ⟨X1,0,none⟩),.pointer (some ⟨X2,0,none⟩),.pointer (some ⟨X3,0,none⟩)]⟩) h'):Ok Tryz.prog ae ov 34 [gi p0 p1 p2 p5 p6 q b,.string who,fv] h K:=by
 rw [ao h]
 have z:=Ext.refl h
 have jd:=bY fv
 refine Ok.aH rfl zDp (br Vw) rfl (m:=5) rfl ?_
 simp only [syms,aa,seval,c34,jd,cf,ek]
 refine hk _ (h.size+0) (h.size+1) (h.size+2) (z.aw _ _ (by omega)) (by omega) (by omega) (by omega) ?_ ?_ ?_
 ·exact ⟨by rw [bm];simp,by rw [iR];rfl⟩
 ·exact ⟨by rw [bm];simp,by rw [iR];rfl⟩
 ·exact ⟨by rw [bm];simp,by rw [iR];rfl⟩
theorem zvL (d:au) (who:ByteArray) (p0 p1 p2 p5 p6:Value) (q b:Int) (Y X1 X2 X3:Nat) (fv:Value) (h hs:Heap) (z:Ext h hs) (bf:(cX p0 p1 p2 p5 p6 q b).all Am.one=true) (hd:dD hs p0 p1 p2 p5 p6 d) (nj:d.ah.length≤1000) (ky:d.aF.length≤1000) (fS:vC d.ah d.aF) (kD:∀ c∈d.aF,c.reads.length≤40)
 (q1:Holds hs X1 (.row (cX p0 p1 p2 p5 p6 q b) 28 false)) (q2:Holds hs X2 (.row [.string who] 9 false)) (q3:Holds hs X3 (.row [fv] 89 false))
 (J:Nat→Heap→Prop) (hJ:∀ i h1 h2,J i h1→aM [] h1 h2→J i h2) (h0:J 0 hs) (R:ByteArray→Value→Heap→Heap→Prop)
 (has:∀ (m:ByteArray) (h':Heap) (K':Value→Heap→Prop),Ext h h'→(∀ v h2,Ext h' h2→R m v h' h2→K' v h2)→nW Tryz.prog ae ov [.string m] h' K' fv)
 (round:∀ (i:Nat) (m:ByteArray) (v:Value) (h1 h':Heap) (K':Value→Heap→Prop),(eP d who)[i]? = some m→Ext h h'→J i h1→aM [] h1 h'→R m v h1 h'→(∀ h2,Ext h h2→J (i+1) h2→db [9,89] h' h2→K' (.bool true) h2)→nW Tryz.prog ae ov [.string m,v] h' K' (.func (.yield Y) ⟨[]⟩ ⟨[]⟩))
 (K:Value→Heap→Prop) (hK:∀ h',Ext h h'→J (eP d who).length h'→K undef h'):Ok Tryz.prog ae ov 64 [.func (.yield Y) ⟨[]⟩ ⟨[]⟩,.pointer (some ⟨X1,0,none⟩),.pointer (some ⟨X2,0,none⟩),.pointer (some ⟨X3,0,none⟩)] hs K:=by
 rw [ao hs]
 have jd:=bY fv
 have pg:=RG (who:=who) kD
 have fr:aM [] hs hs:=aM.refl [] hs
 refine Ok.aH rfl zDN (br VW) rfl (m:=19) rfl ?_
 simp only [syms,aa,seval,zG,q1.lay,q2.lay,↓fm,eX,eG,cZ]
 refine TH d who p0 p1 p2 p5 p6 q b _ bf (hd.lay _ _) nj ky fS kD _ (fun w h' x ms=>?_)
 (replace z:=z.an x (by omega);(replace q3:=q3.over x);(replace fr:=fr.over x);rw [ao h'])
 have eR:=bY w
 have qv:=fun (hh:Heap)=>ms.sl.bc Jn hh
 have j0:=hJ _ _ _ h0 fr
 obtain ⟨hM,Gp⟩:∃ hM,hM=h':=⟨_,rfl⟩
 rw [← Gp] at ms
 have k0:db [9,89] hM h':=by rw [Gp];exact db.refl
 clear fr
 simp only [syms,aa,seval,zG,eR,qv]
 rw [← Gp] at q3
 obtain ⟨I1,aS⟩:∃ I:Nat→Env→Heap→Prop,I=(fun n e h'=>∃ (i:Nat) (h1:Heap),h'=h1.lay [] h1.low∧Ext h h1∧(n=(eP d who).length - i∧i≤(eP d who).length∧J i h1∧db [9,89] hM h1)∧∃ J:Nat→Value,e=(.func (.yield Y) ⟨[]⟩ ⟨[]⟩::jr J 1 2 (.pointer (some ⟨X3,0,none⟩)::jr J 4 5 (w::.int .i64 (eP d who).length::.int .i64 i::jr J 12 11 ([]))))):=⟨_,rfl⟩
 refine dj I1 _ (by rw [aS];exact ⟨0,_,rfl,z,⟨rfl,by omega,j0,k0⟩,aE (by kernel_rfl)⟩) ?_
 intro n e h' aL
 rw [aS] at aL
 obtain ⟨i,bH,rfl,z,hinv,J,rfl⟩:=aL
 clear j0 k0
 obtain ⟨rfl,hi,j,kp⟩:=hinv
 have gl:=eb i (by omega)
 have sw:=rD.keep ms kp (by simp)
 have q4:=kp.holds q3 (by simp)
 have hz:=z.size
 simp only [syms,aa,seval,zG]
 refine bt (fun aR=>?_) (fun kQ=>?_)
 rotate_left
 ·have he:i=(eP d who).length:=by omega
  subst he
  simp only [syms,aa,seval,zG]
  exact hK _ (z.aw _ _ (by omega)) (hJ _ _ _ j (aM.lay _ _ _ []))
 obtain ⟨r,hr,bz⟩:=eU (l:=eP d who) (i:=i) (by omega)
 simp only [syms,aa,seval,zG,eR]
 repeat' ((first|with_reducible_and_instances refine qV sw cY oq (by omega) hr (fun p hp=>?_)|with_reducible_and_instances refine hY hp kc ?_) <;> simp only [syms,aa,seval,zG,eR,q4.lay,jd,CA,cZ])
 have oR:aM [] bH (bH.lay [] bH.low):=aM.lay _ _ _ []
 refine has r _ _ (z.aw _ _ (by omega)) (fun v h' x hR=>?_)
 have Iz:=(aM.refl [] bH).over x
 have jl:=hJ _ _ _ j oR
 replace kp:=kp.over x
 have z2:=z.an x (by omega)
 have ej:=bY v
 rw [ao h']
 simp only [syms,aa,seval,zG,ej,CA,cZ]
 rw [← ao h']
 refine round i r v _ h' _ bz z2 jl (x.bX []) hR (fun h2 z3 j2 k2=>?_)
 replace kp:=kp.trans k2
 clear z
 have z:=z3
 rw [ao h2]
 simp only [syms,aa,seval,zG]
 (with_reducible_and_instances apply b8);(· rfl)
 simp only [syms,aa,seval,zG,Bool.not_true]
 rw [gl]
 (rw [aS];with_reducible refine cB (m:=_) ?_ ⟨i+1,_,rfl,z,⟨rfl,by omega,j2,kp⟩,aE (by kernel_rfl)⟩;omega)
theorem zqG {assign body:Code} {e:Env} {p q':Tmp} {hs:Heap} {Q:Ex→Env→Heap→Prop} (d:au) (who:ByteArray) (p0 p1 p2 p5 p6:Value) (q b:Int) (X1 X2 X3:Nat) (fv:Value) (h:Heap) (z:Ext h hs) (bf:(cX p0 p1 p2 p5 p6 q b).all Am.one=true) (hd:dD hs p0 p1 p2 p5 p6 d) (nj:d.ah.length≤1000) (ky:d.aF.length≤1000) (fS:vC d.ah d.aF) (kD:∀ c∈d.aF,c.reads.length≤40)
 (q1:Holds hs X1 (.row (cX p0 p1 p2 p5 p6 q b) 28 false)) (q2:Holds hs X2 (.row [.string who] 9 false)) (q3:Holds hs X3 (.row [fv] 89 false))
 (J:Nat→Heap→Prop) (hJ:∀ i h1 h2,J i h1→aM [hs.size] h1 h2→J i h2) (h0:J 0 hs) (R:ByteArray→Value→Heap→Heap→Prop)
 (has:∀ (m:ByteArray) (h':Heap) (K':Value→Heap→Prop),Ext h h'→(∀ v h2,Ext h' h2→R m v h' h2→K' v h2)→nW Tryz.prog ae ov [.string m] h' K' fv)
 (round:∀ (i:Nat) (m:ByteArray) (v:Value) (h1 h':Heap),(eP d who)[i]? = some m→Ext h h'→J i h1→aM [] h1 h'→R m v h1 h'→hs.size < h1.size→W Tryz.prog ae ov (some hs.size) assign ((e.set p (.string m)).set q' v) h' fun x e1 h2=>x=.normal∧Ext h' h2 ∧
  ∀ H bk,aM [hs.size] h' H→Ext h H→Holds H hs.size bk→(∀ cs u ro,bk≠.row cs u ro)→W Tryz.prog ae ov (some hs.size) body e1 H fun x _ h3=>x=.normal∧Ext h h3∧Holds h3 hs.size bk∧J (i+1) h3∧db [9,89] H h3)
 (kA:∀ h',Ext h h'→J (eP d who).length h'→Q .normal e h'):ze Tryz.prog ae ov none (.func (.func 64) ⟨[]⟩ ⟨[.pointer (some ⟨X1,0,none⟩),.pointer (some ⟨X2,0,none⟩),.pointer (some ⟨X3,0,none⟩)]⟩) [p,q'] assign body e hs Q:=by
 have oo:=z.size
 have F8:∀ (h1:Heap) (b:bh),hs.size < h1.size→fp hs.size h1 (h1.set hs.size b)∧Holds (h1.set hs.size b) hs.size b:=fun h1 b aR=>⟨⟨by rw [Heap.size_set];exact Nat.le_refl _,fun B hB aP=>by rw [Heap.aD _ _ _ _ aR,if_neg aP],by rw [Heap.bW];omega⟩,⟨by rw [Heap.size_set];exact aR,by rw [Heap.aD _ _ _ _ aR,if_pos rfl]⟩⟩
 have tX:Ext hs (hs.push (.loop e [p,q'] assign body .ready none)):=⟨by rw [Heap.size_push];omega,fun A hA=>by rw [Heap.bu,if_neg (by omega)],by rw [Heap.de];omega⟩
 have xd:Holds (hs.push (.loop e [p,q'] assign body .ready none)) hs.size (.loop e [p,q'] assign body .ready none):=⟨by rw [Heap.size_push];omega,by rw [Heap.bu,if_pos rfl]⟩
 refine zls (by kernel_rfl) ?_
 refine zvL d who p0 p1 p2 p5 p6 q b hs.size X1 X2 X3 fv h _ (z.trans tX) bf (hd.mono tX.inc) nj ky fS kD (q1.ext tX) (q2.ext tX) (q3.ext tX) (fun i h'=>J i h'∧Holds h' hs.size (.loop e [p,q'] assign body .ready none)) (fun i h1 h2 hj fr=>⟨hJ i h1 h2 hj.1 (fr.mono (fun _ h=>nomatch h)),hj.2.dq fr⟩) ⟨hJ _ _ _ h0 (tX.bX _),xd⟩ R has ?_ _ ?_
 ·rintro i m v h1 h' K' hm zz ⟨hj,IF⟩ fr hR hk
  have ha:=IF.dq fr
  refine zlK (env:=e) (ps:=[p,q']) (assign:=assign) (body:=body) ha.get rfl ?_
  refine W.mono assign _ _ _ _ ?_ (round i m v h1 h' hm zz hj fr hR IF.lt)
  rintro x e1 h2 ⟨hx,x2,hw⟩
  have IG:=ha.ext x2
  obtain ⟨c1,b1⟩:=F8 h2 (.loop e [p,q'] assign body .busy none) IG.lt
  refine ⟨hx,IG.get,W.mono body _ _ _ _ ?_ (hw _ _ ((x2.bX _).trans (c1.bX (D:=[hs.size]) (by simp)) (fun B hB=>.inl hB)) ((zz.trans x2).step c1 oo) b1 (by nofun))⟩
  rintro y e2 h3 ⟨rfl,z3,b3,j3,k3⟩
  refine ⟨b3.get,?_⟩
  obtain ⟨c3,b4⟩:=F8 h3 (.loop e [p,q'] assign body .ready none) b3.lt
  have MS:aM [hs.size] h3 _:=c3.bX (by simp)
  refine hk _ (z3.step c3 oo) ⟨hJ _ _ _ j3 MS,b4⟩ ?_
  have Gv:∀ (g:Heap) (bk:bh),Holds g hs.size bk→(∀ cs u ro,bk≠.row cs u ro)→∀ B∈[hs.size],∀ cs u ro,g.get B=some (.row cs u ro)→u ∉ [9,89]:=fun g bk hg hb B hB cs u ro he=>by
   rw [List.mem_singleton.1 hB,hg.get] at he
   exact absurd (Option.some.inj he) (hb cs u ro)
  exact ((db.bX (D:=[hs.size]) ((x2.bX _).trans (c1.bX (D:=[hs.size]) (by simp)) (fun B hB=>.inl hB)) (Gv _ _ ha (by nofun))).trans k3).trans (db.bX MS (Gv _ _ b3 (by nofun)))
 ·rintro h' zz ⟨hj,ha⟩
  refine ⟨_,_,ha.get,.inl ⟨rfl,rfl,?_⟩⟩
  obtain ⟨c3,_⟩:=F8 h' (.loop e [p,q'] assign body .exhausted none) ha.lt
  exact kA _ (zz.step c3 oo) (hJ _ _ _ hj (c3.bX (by simp)))
theorem zzs (p0 p1 p2 p5 p6:Value) (q b:Int) (who:ByteArray) (fv:Value) (h:Heap) (cf:fv.cells.toList=[fv]) (K:Value→Heap→Prop)
 (hk:∀ h' X1 X2 X3,Ext h h'→h.size≤X1→h.size≤X2→h.size≤X3→Holds h' X1 (.row (cX p0 p1 p2 p5 p6 q b) 28 false)→Holds h' X2 (.row [.string who] 9 false)→Holds h' X3 (.row [fv] 94 false)→K (.func (.func 67) ⟨[]⟩ ⟨[.pointer (some ⟨X1,0,none⟩),.pointer (some ⟨X2,0,none⟩),.pointer (some ⟨X3,0,none⟩)]⟩) h'):Ok Tryz.prog ae ov 37 [gi p0 p1 p2 p5 p6 q b,.string who,fv] h K:=by
 rw [ao h]
 have z:=Ext.refl h
 have jd:=bY fv
 refine Ok.aH rfl zDs (br Vz) rfl (m:=5) rfl ?_
 simp only [syms,aa,seval,c37,jd,cf,ek]
 refine hk _ (h.size+0) (h.size+1) (h.size+2) (z.aw _ _ (by omega)) (by omega) (by omega) (by omega) ?_ ?_ ?_
 ·exact ⟨by rw [bm];simp,by rw [iR];rfl⟩
 ·exact ⟨by rw [bm];simp,by rw [iR];rfl⟩
 ·exact ⟨by rw [bm];simp,by rw [iR];rfl⟩
theorem zvM (d:au) (who:ByteArray) (p0 p1 p2 p5 p6:Value) (q b:Int) (Y X1 X2 X3:Nat) (fv:Value) (h hs:Heap) (z:Ext h hs) (bf:(cX p0 p1 p2 p5 p6 q b).all Am.one=true) (hd:dD hs p0 p1 p2 p5 p6 d) (nj:d.ah.length≤1000) (ky:d.aF.length≤1000) (fS:vC d.ah d.aF) (kD:∀ c∈d.aF,c.reads.length≤40)
 (q1:Holds hs X1 (.row (cX p0 p1 p2 p5 p6 q b) 28 false)) (q2:Holds hs X2 (.row [.string who] 9 false)) (q3:Holds hs X3 (.row [fv] 94 false))
 (J:Nat→Heap→Prop) (hJ:∀ i h1 h2,J i h1→aM [] h1 h2→J i h2) (h0:J 0 hs) (R:ByteArray→Value→Heap→Heap→Prop)
 (has:∀ (m:ByteArray) (h':Heap) (K':Value→Heap→Prop),Ext h h'→(∀ v h2,Ext h' h2→R m v h' h2→K' v h2)→nW Tryz.prog ae ov [.string m] h' K' fv)
 (round:∀ (i:Nat) (m:ByteArray) (v:Value) (h1 h':Heap) (K':Value→Heap→Prop),(eP d who)[i]? = some m→Ext h h'→J i h1→aM [] h1 h'→R m v h1 h'→(∀ h2,Ext h h2→J (i+1) h2→db [9,94] h' h2→K' (.bool true) h2)→nW Tryz.prog ae ov [.string m,v] h' K' (.func (.yield Y) ⟨[]⟩ ⟨[]⟩))
 (K:Value→Heap→Prop) (hK:∀ h',Ext h h'→J (eP d who).length h'→K undef h'):Ok Tryz.prog ae ov 67 [.func (.yield Y) ⟨[]⟩ ⟨[]⟩,.pointer (some ⟨X1,0,none⟩),.pointer (some ⟨X2,0,none⟩),.pointer (some ⟨X3,0,none⟩)] hs K:=by
 rw [ao hs]
 have jd:=bY fv
 have pg:=RG (who:=who) kD
 have fr:aM [] hs hs:=aM.refl [] hs
 refine Ok.aH rfl zDP (br VY) rfl (m:=19) rfl ?_
 simp only [syms,aa,seval,zI,q1.lay,q2.lay,↓fm,eX,eG,cZ]
 refine TH d who p0 p1 p2 p5 p6 q b _ bf (hd.lay _ _) nj ky fS kD _ (fun w h' x ms=>?_)
 (replace z:=z.an x (by omega);(replace q3:=q3.over x);(replace fr:=fr.over x);rw [ao h'])
 have eR:=bY w
 have qv:=fun (hh:Heap)=>ms.sl.bc Jn hh
 have j0:=hJ _ _ _ h0 fr
 obtain ⟨hM,Gp⟩:∃ hM,hM=h':=⟨_,rfl⟩
 rw [← Gp] at ms
 have k0:db [9,94] hM h':=by rw [Gp];exact db.refl
 clear fr
 simp only [syms,aa,seval,zI,eR,qv]
 rw [← Gp] at q3
 obtain ⟨I1,aS⟩:∃ I:Nat→Env→Heap→Prop,I=(fun n e h'=>∃ (i:Nat) (h1:Heap),h'=h1.lay [] h1.low∧Ext h h1∧(n=(eP d who).length - i∧i≤(eP d who).length∧J i h1∧db [9,94] hM h1)∧∃ J:Nat→Value,e=(.func (.yield Y) ⟨[]⟩ ⟨[]⟩::jr J 1 2 (.pointer (some ⟨X3,0,none⟩)::jr J 4 5 (w::.int .i64 (eP d who).length::.int .i64 i::jr J 12 11 ([]))))):=⟨_,rfl⟩
 refine dj I1 _ (by rw [aS];exact ⟨0,_,rfl,z,⟨rfl,by omega,j0,k0⟩,aE (by kernel_rfl)⟩) ?_
 intro n e h' aL
 rw [aS] at aL
 obtain ⟨i,bH,rfl,z,hinv,J,rfl⟩:=aL
 clear j0 k0
 obtain ⟨rfl,hi,j,kp⟩:=hinv
 have gl:=eb i (by omega)
 have sw:=rD.keep ms kp (by simp)
 have q4:=kp.holds q3 (by simp)
 have hz:=z.size
 simp only [syms,aa,seval,zI]
 refine bt (fun aR=>?_) (fun kQ=>?_)
 rotate_left
 ·have he:i=(eP d who).length:=by omega
  subst he
  simp only [syms,aa,seval,zI]
  exact hK _ (z.aw _ _ (by omega)) (hJ _ _ _ j (aM.lay _ _ _ []))
 obtain ⟨r,hr,bz⟩:=eU (l:=eP d who) (i:=i) (by omega)
 simp only [syms,aa,seval,zI,eR]
 repeat' ((first|with_reducible_and_instances refine qV sw cY oq (by omega) hr (fun p hp=>?_)|with_reducible_and_instances refine hY hp kc ?_) <;> simp only [syms,aa,seval,zI,eR,q4.lay,jd,CA,cZ])
 have oR:aM [] bH (bH.lay [] bH.low):=aM.lay _ _ _ []
 refine has r _ _ (z.aw _ _ (by omega)) (fun v h' x hR=>?_)
 have Iz:=(aM.refl [] bH).over x
 have jl:=hJ _ _ _ j oR
 replace kp:=kp.over x
 have z2:=z.an x (by omega)
 have ej:=bY v
 rw [ao h']
 simp only [syms,aa,seval,zI,ej,CA,cZ]
 rw [← ao h']
 refine round i r v _ h' _ bz z2 jl (x.bX []) hR (fun h2 z3 j2 k2=>?_)
 replace kp:=kp.trans k2
 clear z
 have z:=z3
 rw [ao h2]
 simp only [syms,aa,seval,zI]
 (with_reducible_and_instances apply b8);(· rfl)
 simp only [syms,aa,seval,zI,Bool.not_true]
 rw [gl]
 (rw [aS];with_reducible refine cB (m:=_) ?_ ⟨i+1,_,rfl,z,⟨rfl,by omega,j2,kp⟩,aE (by kernel_rfl)⟩;omega)
theorem zqH {assign body:Code} {e:Env} {p q':Tmp} {hs:Heap} {Q:Ex→Env→Heap→Prop} (d:au) (who:ByteArray) (p0 p1 p2 p5 p6:Value) (q b:Int) (X1 X2 X3:Nat) (fv:Value) (h:Heap) (z:Ext h hs) (bf:(cX p0 p1 p2 p5 p6 q b).all Am.one=true) (hd:dD hs p0 p1 p2 p5 p6 d) (nj:d.ah.length≤1000) (ky:d.aF.length≤1000) (fS:vC d.ah d.aF) (kD:∀ c∈d.aF,c.reads.length≤40)
 (q1:Holds hs X1 (.row (cX p0 p1 p2 p5 p6 q b) 28 false)) (q2:Holds hs X2 (.row [.string who] 9 false)) (q3:Holds hs X3 (.row [fv] 94 false))
 (J:Nat→Heap→Prop) (hJ:∀ i h1 h2,J i h1→aM [hs.size] h1 h2→J i h2) (h0:J 0 hs) (R:ByteArray→Value→Heap→Heap→Prop)
 (has:∀ (m:ByteArray) (h':Heap) (K':Value→Heap→Prop),Ext h h'→(∀ v h2,Ext h' h2→R m v h' h2→K' v h2)→nW Tryz.prog ae ov [.string m] h' K' fv)
 (round:∀ (i:Nat) (m:ByteArray) (v:Value) (h1 h':Heap),(eP d who)[i]? = some m→Ext h h'→J i h1→aM [] h1 h'→R m v h1 h'→hs.size < h1.size→W Tryz.prog ae ov (some hs.size) assign ((e.set p (.string m)).set q' v) h' fun x e1 h2=>x=.normal∧Ext h' h2 ∧
  ∀ H bk,aM [hs.size] h' H→Ext h H→Holds H hs.size bk→(∀ cs u ro,bk≠.row cs u ro)→W Tryz.prog ae ov (some hs.size) body e1 H fun x _ h3=>x=.normal∧Ext h h3∧Holds h3 hs.size bk∧J (i+1) h3∧db [9,94] H h3)
 (kA:∀ h',Ext h h'→J (eP d who).length h'→Q .normal e h'):ze Tryz.prog ae ov none (.func (.func 67) ⟨[]⟩ ⟨[.pointer (some ⟨X1,0,none⟩),.pointer (some ⟨X2,0,none⟩),.pointer (some ⟨X3,0,none⟩)]⟩) [p,q'] assign body e hs Q:=by
 have oo:=z.size
 have F8:∀ (h1:Heap) (b:bh),hs.size < h1.size→fp hs.size h1 (h1.set hs.size b)∧Holds (h1.set hs.size b) hs.size b:=fun h1 b aR=>⟨⟨by rw [Heap.size_set];exact Nat.le_refl _,fun B hB aP=>by rw [Heap.aD _ _ _ _ aR,if_neg aP],by rw [Heap.bW];omega⟩,⟨by rw [Heap.size_set];exact aR,by rw [Heap.aD _ _ _ _ aR,if_pos rfl]⟩⟩
 have tX:Ext hs (hs.push (.loop e [p,q'] assign body .ready none)):=⟨by rw [Heap.size_push];omega,fun A hA=>by rw [Heap.bu,if_neg (by omega)],by rw [Heap.de];omega⟩
 have xd:Holds (hs.push (.loop e [p,q'] assign body .ready none)) hs.size (.loop e [p,q'] assign body .ready none):=⟨by rw [Heap.size_push];omega,by rw [Heap.bu,if_pos rfl]⟩
 refine zls (by kernel_rfl) ?_
 refine zvM d who p0 p1 p2 p5 p6 q b hs.size X1 X2 X3 fv h _ (z.trans tX) bf (hd.mono tX.inc) nj ky fS kD (q1.ext tX) (q2.ext tX) (q3.ext tX) (fun i h'=>J i h'∧Holds h' hs.size (.loop e [p,q'] assign body .ready none)) (fun i h1 h2 hj fr=>⟨hJ i h1 h2 hj.1 (fr.mono (fun _ h=>nomatch h)),hj.2.dq fr⟩) ⟨hJ _ _ _ h0 (tX.bX _),xd⟩ R has ?_ _ ?_
 ·rintro i m v h1 h' K' hm zz ⟨hj,IF⟩ fr hR hk
  have ha:=IF.dq fr
  refine zlK (env:=e) (ps:=[p,q']) (assign:=assign) (body:=body) ha.get rfl ?_
  refine W.mono assign _ _ _ _ ?_ (round i m v h1 h' hm zz hj fr hR IF.lt)
  rintro x e1 h2 ⟨hx,x2,hw⟩
  have IG:=ha.ext x2
  obtain ⟨c1,b1⟩:=F8 h2 (.loop e [p,q'] assign body .busy none) IG.lt
  refine ⟨hx,IG.get,W.mono body _ _ _ _ ?_ (hw _ _ ((x2.bX _).trans (c1.bX (D:=[hs.size]) (by simp)) (fun B hB=>.inl hB)) ((zz.trans x2).step c1 oo) b1 (by nofun))⟩
  rintro y e2 h3 ⟨rfl,z3,b3,j3,k3⟩
  refine ⟨b3.get,?_⟩
  obtain ⟨c3,b4⟩:=F8 h3 (.loop e [p,q'] assign body .ready none) b3.lt
  have MS:aM [hs.size] h3 _:=c3.bX (by simp)
  refine hk _ (z3.step c3 oo) ⟨hJ _ _ _ j3 MS,b4⟩ ?_
  have Gv:∀ (g:Heap) (bk:bh),Holds g hs.size bk→(∀ cs u ro,bk≠.row cs u ro)→∀ B∈[hs.size],∀ cs u ro,g.get B=some (.row cs u ro)→u ∉ [9,94]:=fun g bk hg hb B hB cs u ro he=>by
   rw [List.mem_singleton.1 hB,hg.get] at he
   exact absurd (Option.some.inj he) (hb cs u ro)
  exact ((db.bX (D:=[hs.size]) ((x2.bX _).trans (c1.bX (D:=[hs.size]) (by simp)) (fun B hB=>.inl hB)) (Gv _ _ ha (by nofun))).trans k3).trans (db.bX MS (Gv _ _ b3 (by nofun)))
 ·rintro h' zz ⟨hj,ha⟩
  refine ⟨_,_,ha.get,.inl ⟨rfl,rfl,?_⟩⟩
  obtain ⟨c3,_⟩:=F8 h' (.loop e [p,q'] assign body .exhausted none) ha.lt
  exact kA _ (zz.step c3 oo) (hJ _ _ _ hj (c3.bX (by simp)))
noncomputable def Yo:=bA Tryz.f15
noncomputable def Qc:=PLift.up (by have c:=bB Yo Tryz.f15;simp only [aK,Tryz.f15,seval] at c;exact nd c <| nd @j6 <| nd @ct <| nd @iu <| @aag)
theorem yg:type_of% Qc.down:=Qc.down
noncomputable def Lu:=bA Tryz.f190
noncomputable def QH:=PLift.up (by have c:=bB Lu Tryz.f190;simp only [aK,Tryz.f190,seval] at c;exact nd c <| @zMO)
theorem My:type_of% QH.down:=QH.down
noncomputable def LL:=bA Tryz.f226
noncomputable def Q0:=PLift.up (by have c:=bB LL Tryz.f226;simp only [aK,Tryz.f226,seval] at c;exact nd c <| @zM7)
theorem MC:type_of% Q0.down:=Q0.down
noncomputable def LJ:=bA Tryz.f224
noncomputable def QY:=PLift.up (by have c:=bB LJ Tryz.f224;simp only [aK,Tryz.f224,seval] at c;exact nd c <| @zM5)
theorem MB:type_of% QY.down:=QY.down
noncomputable def LC:=bA Tryz.f212
noncomputable def QS:=PLift.up (by have c:=bB LC Tryz.f212;simp only [aK,Tryz.f212,seval] at c;exact nd c <| nd @AQ <| @zMZ)
theorem nC:type_of% QS.down:=QS.down
noncomputable def LF:=bA Tryz.f214
noncomputable def QU:=PLift.up (by have c:=bB LF Tryz.f214;simp only [aK,Tryz.f214,seval] at c;exact nd c <| nd @AQ <| @zM1)
theorem nD:type_of% QU.down:=QU.down
noncomputable def LD:=bA Tryz.f213
noncomputable def QT:=PLift.up (by have c:=bB LD Tryz.f213;simp only [aK,Tryz.f213,seval] at c;exact nd c <| nd @j5 <| nd @gn <| nd @j7 <| @zM0)
theorem Fo:type_of% QT.down:=QT.down
noncomputable def LK:=bA Tryz.f225
noncomputable def QZ:=PLift.up (by have c:=bB LK Tryz.f225;simp only [aK,Tryz.f225,seval] at c;exact nd c <| nd @tA <| @zM6)
theorem Fq:type_of% QZ.down:=QZ.down
noncomputable def Lt:=bA Tryz.f189
noncomputable def QG:=PLift.up (by have c:=bB Lt Tryz.f189;simp only [aK,Tryz.f189,seval] at c;exact nd c <| @zMN)
theorem vW:type_of% QG.down:=QG.down
noncomputable def K4:=bA Tryz.f150
noncomputable def Qd:=PLift.up (by have c:=bB K4 Tryz.f150;simp only [aK,Tryz.f150,seval] at c;exact nd c <| @zMn)
theorem tD:type_of% Qd.down:=Qd.down
noncomputable def K5:=bA Tryz.f151
noncomputable def Qe:=PLift.up (by have c:=bB K5 Tryz.f151;simp only [aK,Tryz.f151,seval] at c;exact nd c <| @zMo)
theorem Fi:type_of% Qe.down:=Qe.down
noncomputable def E3:=bA Tryz.f192
noncomputable def QJ:=PLift.up (by have c:=bB E3 Tryz.f192;simp only [aK,Tryz.f192,seval] at c;exact nd c <| nd @Kg <| nd @HW <| nd @G9 <| nd @gn <| @zMQ)
theorem zC:type_of% QJ.down:=QJ.down
noncomputable def K9:=bA Tryz.f155
noncomputable def Qi:=PLift.up (by have c:=bB K9 Tryz.f155;simp only [aK,Tryz.f155,seval] at c;exact nd c <| nd @vI <| nd @HX <| nd @EC <| nd @Da <| nd @rY <| nd @mi <| nd @qI <| nd @gn <| @zMs)
theorem jO:type_of% Qi.down:=Qi.down
theorem zii (l m:List ab) (v u:Value) (h:Heap) (hl:Sl aJ.atom h v l) (hm:Sl aJ.atom h u m) (hs:l.length≤1000) (jc:m.length≤1000) (K:Value→Heap→Prop)
 (hk:∀ h',Ext h h'→K (.bool (decide (l=m))) h'):Ok Tryz.prog ae ov 15 [v,u] h K:=by
 rw [ao h]
 have z:=Ext.refl h
 have iq:=fun (hh:Heap)=>hl.bc bL hh
 have IU:=fun (hh:Heap)=>hm.bc bL hh
 refine Ok.aH rfl zr2 (br Yo) rfl (m:=24) rfl ?_
 simp only [syms,aa,seval,yg,iq,IU]
 refine iS (fun aP=>?_) (fun heq=>?_)
 ·rw [decide_eq_false (show ¬ l=m from fun e=>by subst e;exact aP rfl)] at hk
  repeat' (simp only [syms,aa,seval,yg])
  exact hk _ (z.aw _ _ (by omega))
 have hlen:l.length=m.length:=by omega
 repeat' (simp only [syms,aa,seval,yg])
 obtain ⟨I1,aS⟩:∃ I:Nat→Env→Heap→Prop,I=(fun n e h'=>∃ (i:Nat) (h1:Heap),h'=h1.lay [] h1.low∧Ext h h1∧(n=l.length - i∧i≤l.length∧l.take i=m.take i)∧∃ J:Nat→Value,e=(v::u::jr J 2 3 (.int .i64 i::jr J 6 20 ([])))):=⟨_,rfl⟩
 refine dj I1 _ (by rw [aS];exact ⟨0,_,rfl,z,⟨rfl,by omega,rfl⟩,aE (by kernel_rfl)⟩) ?_
 intro n e h' aL
 rw [aS] at aL
 obtain ⟨i,bH,rfl,z,hinv,J,rfl⟩:=aL
 obtain ⟨rfl,hi,kS⟩:=hinv
 have hw:=eb i (by omega)
 simp only [syms,aa,seval,yg,iq]
 refine bt (fun aR=>?_) (fun aR=>?_)
 rotate_left
 ·rw [List.take_of_length_le (by omega),List.take_of_length_le (by omega)] at kS
  rw [decide_eq_true kS] at hk
  repeat' (simp only [syms,aa,seval,yg])
  exact hk _ (z.aw _ _ (by omega))
 obtain ⟨r,hr,bz⟩:=eU (l:=l) (i:=i) (by omega)
 obtain ⟨s,hs,jH⟩:=eU (l:=m) (i:=i) (by omega)
 simp only [syms,aa,seval,yg]
 repeat' ((first|((with_reducible apply H3) <;> intro _)|with_reducible_and_instances refine pT (hl.mono z.inc) bL bO (by omega) hr (fun p hp=>?_)|with_reducible_and_instances refine pT (hm.mono z.inc) bL bO (by omega) hs (fun p hp=>?_)|with_reducible_and_instances refine mW hp fx bO ?_|with_reducible refine dH (by simp only [yg]) (z.aw _ _ (by omega)) ?_|((with_reducible refine ⟨z.cN.lay _ _,?_⟩);(intro _ h' zz x _);(simp only [el,List.append_nil] at x);(replace z:=zz);(clear zz);rw [ao h'])) <;> simp only [syms,aa,seval,yg,zuv])
 ·have aP:¬ r=s:=by assumption
  rw [decide_eq_false (show ¬ l=m from fun e=>by
   subst e
   rw [bz] at jH
   exact aP (Option.some.inj jH))] at hk
  exact hk _ (z.aw _ _ (by omega))
 ·have he:r=s:=by assumption
  rw [hw]
  (rw [aS];with_reducible refine cB (m:=_) ?_ ⟨i+1,_,rfl,z,⟨rfl,by omega,by rw [List.take_add_one,List.take_add_one,bz,jH,kS,he]⟩,aE (by kernel_rfl)⟩;omega)
end Go.Proofs.YtkgojconmeeegaaGreatDoor

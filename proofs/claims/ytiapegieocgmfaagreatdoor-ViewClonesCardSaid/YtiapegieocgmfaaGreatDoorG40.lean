/- Walks: members gone through, with what is had of each. Written out by mka3.py and fill2.py. No condition. -/
import Derived.Test.YtiapegieocgmfaaGreatDoorG39
set_option linter.unusedSimpArgs false
set_option linter.unusedVariables false
set_option maxRecDepth 100000
set_option maxHeartbeats 0
noncomputable section
namespace Go.Proofs.YtiapegieocgmfaaGreatDoor
open Go.Am Tryz
def dv (E:List TypeId) (h h2:Heap):Prop:=h.size<=h2.size/\∀ B cs e ro,h.get B=some (.row cs e ro)->e∈E->h2.get B=h.get B
section
variable {E:List TypeId} {h h1 h2 h3:Heap} {A w:Nat} {bs:List ba}
theorem dv.refl:dv E h h:=⟨bj _,λ_ _ _ _ _ _=>rfl⟩
theorem dv.trans (f:dv E h h2) (g:dv E h2 h3):dv E h h3:=⟨gn f.1 g.1,λB cs e ro hB he=>(g.2 B cs e ro ((f.2 B cs e ro hB he).trans hB) he).trans (f.2 B cs e ro hB he)⟩
theorem dv.bN {D:List Nat} (x:aL D h h2) (hD:∀ B∈D,∀ cs e ro,h.get B=some (.row cs e ro)->e ∉ E):dv E h h2:=⟨x.size,λB cs e ro hB he=>x.get B (Heap.bw hB) (λhm=>hD B hm cs e ro hB he)⟩
theorem dv.holds {cs:List ab} {e:TypeId} {ro:Bool} (f:dv E h h2) (q:Holds h A (.row cs e ro)) (he:e∈E):Holds h2 A (.row cs e ro):=⟨dB q.lt f.1,(f.2 A cs e ro q.get he).trans q.get⟩
theorem dv.over (f:dv E h h1) (x:Ext (h1.lay bs w) h2):dv E h h2:=f.trans (dv.bN (D:=[]) ((aL.refl [] h1).over x) (λ_ h=>nomatch h))
theorem sF.keep {e:TypeId} {v:ab} {l:List au} (f:sF h h1 e v l) (k:dv E h1 h2) (he:e∈E):Sl aM.str h2 v l:=by
 rcases f with ⟨rfl,rfl⟩|⟨A,_,hn,c,e1,e2,q⟩
 .exact .nil
 .exact fD.sl ⟨c,e1,e2,k.holds q he⟩ hn
end
theorem Ch (A:Nat) (h:Heap) (K:aF):aC (some (.func (.yield A) ⟨[]⟩ ⟨[]⟩)) h K=K (.func (.yield A) ⟨[]⟩ ⟨[]⟩) h:=rfl
theorem zCo:aD.desc 22=some (.slice 9):=by kernel_rfl
theorem zyR (p0 p1 p2 p5 p6:ab) (q b:Int) (who:au) (fv:ab) (h:Heap) (cf:fv.cells.toList=[fv]) (K:aF)
 (hk:∀ h' X1 X2 X3,Ext h h'->h.size<=X1->h.size<=X2->h.size<=X3->Holds h' X1 (.row (du p0 p1 p2 p5 p6 q b) 28 false)->Holds h' X2 (.row [.string who] 9 false)->Holds h' X3 (.row [fv] 90 false)->K (.func (.func 55) ⟨[]⟩ ⟨[.pointer (some ⟨X1,0,none⟩),.pointer (some ⟨X2,0,none⟩),.pointer (some ⟨X3,0,none⟩)]⟩) h'):Ok prog aD ov 29 [fI p0 p1 p2 p5 p6 q b,.string who,fv] h K:=by
 rw [ao h]
 have z:=Ext.refl h
 have BS:∀ (h:Heap) (K:aF),aC (some fv) h K=K fv h:=λ_ _=>rfl
 refine Ok.aw 5 (bq N29) ?_
 simp only [aa,seval,c29,BS,cf,gZ]
 refine hk _ (h.size+0) (h.size+1) (h.size+2) z.aA (by omega) (by omega) (by omega) ?_ ?_ ?_
 .exact ⟨by rw [bc];simp,by rw [iB];rfl⟩
 .exact ⟨by rw [bc];simp,by rw [iB];rfl⟩
 .exact ⟨by rw [bc];simp,by rw [iB];rfl⟩
theorem zwI (d:aq) (who:au) (p0 p1 p2 p5 p6:ab) (q b:Int) (Y X1 X2 X3:Nat) (fv:ab) (h hs:Heap) (z:Ext h hs) (bf:(du p0 p1 p2 p5 p6 q b).all Am.one=true) (hd:dR hs p0 p1 p2 p5 p6 d) (pq:d.ah.length<=1000) (lI:d.aR.length<=1000) (fT:zt d.ah d.aR) (lk:∀ c∈d.aR,c.reads.length<=40)
 (q1:Holds hs X1 (.row (du p0 p1 p2 p5 p6 q b) 28 false)) (q2:Holds hs X2 (.row [.string who] 9 false)) (q3:Holds hs X3 (.row [fv] 90 false))
 (J:Nat->Heap->Prop) (hJ:∀ i h1 h2,J i h1->aL [] h1 h2->J i h2) (h0:J 0 hs) (R:au->ab->Heap->Heap->Prop)
 (has:∀ (m:au) (h':Heap) (K':aF),Ext h h'->(∀ v h2,Ext h' h2->R m v h' h2->K' v h2)->oU prog aD ov [.string m] h' K' fv)
 (round:∀ (i:Nat) (m:au) (v:ab) (h1 h':Heap) (K':aF),(gl d who)[i]? = some m->Ext h h'->J i h1->aL [] h1 h'->R m v h1 h'->(∀ h2,Ext h h2->J (i+1) h2->dv [9,90] h' h2->K' (.bool true) h2)->oU prog aD ov [.string m,v] h' K' (.func (.yield Y) ⟨[]⟩ ⟨[]⟩))
 (K:aF) (hK:∀ h',Ext h h'->J (gl d who).length h'->K undef h'):Ok prog aD ov 55 [.func (.yield Y) ⟨[]⟩ ⟨[]⟩,.pointer (some ⟨X1,0,none⟩),.pointer (some ⟨X2,0,none⟩),.pointer (some ⟨X3,0,none⟩)] hs K:=by
 rw [ao hs]
 have BS:∀ (h:Heap) (K:aF),aC (some fv) h K=K fv h:=λ_ _=>rfl
 have qc:=Tw (who:=who) lk
 have fr:aL [] hs hs:=aL.refl [] hs
 refine Ok.aw 19 (bq N55) ?_
 simp only [aa,seval,Bi,q1.lay,q2.lay,↓fA,eV,eI,dm]
 refine zlE d who p0 p1 p2 p5 p6 q b _ bf (hd.lay _ _) pq lI fT lk _ (λw h' x ms=>?_)
 (replace z:=z.an x;replace q3:=q3.over x;replace fr:=fr.over x;rw [ao h'])
 have iZ:∀ (h:Heap) (K:aF),aC (some w) h K=K w h:=λ_ _=>rfl
 have ta:=λ(hh:Heap)=>ms.sl.bo zCo hh
 have j0:=hJ _ _ _ h0 fr
 obtain ⟨hM,Gb⟩:∃ hM,hM=h':=⟨_,rfl⟩
 rw [<- Gb] at ms
 have k0:dv [9,90] hM h':=by rw [Gb];exact dv.refl
 clear fr
 simp only [aa,seval,Bi,iZ,ta]
 rw [<- Gb] at q3
 obtain ⟨I1,aU⟩:∃ I:Nat->Env->Heap->Prop,I=(λn e h'=>∃ (i:Nat) (h1:Heap),h'=h1.lay [] h1.low/\Ext h h1/\(n=(gl d who).length - i/\i<=(gl d who).length/\J i h1/\dv [9,90] hM h1)/\∃ J:Nat->ab,e=(.func (.yield Y) ⟨[]⟩ ⟨[]⟩::jr J 1 2 (.pointer (some ⟨X3,0,none⟩)::jr J 4 5 (w::.int .i64 (gl d who).length::.int .i64 i::jr J 12 11 ([]))))):=⟨_,rfl⟩
 refine dA I1 _ (by rw [aU];exact ⟨0,_,rfl,z,⟨rfl,by omega,j0,k0⟩,bl⟩) ?_
 intro n e h' aO
 rw [aU] at aO
 obtain ⟨i,bC,rfl,z,hinv,J,rfl⟩:=aO
 clear j0 k0
 obtain ⟨rfl,hi,j,kp⟩:=hinv
 have fH:=ei i (by omega)
 have sw:=sF.keep ms kp (by simp)
 have q4:=kp.holds q3 (by simp)
 have hz:=z.size
 simp only [aa,seval,Bi]
 refine bn (λaT=>?_) (λka=>?_)
 rotate_left
 .have he:i=(gl d who).length:=by omega
  subst he
  simp only [aa,seval,Bi]
  exact hK _ z.aA (hJ _ _ _ j (aL.lay _ _ _ []))
 obtain ⟨r,hr,cw⟩:=eW (l:=gl d who) (i:=i) (by omega)
 simp only [aa,seval,Bi,iZ]
 repeat' ((first|with_reducible refine rK sw dr px (by omega) hr (λp hp=>?_)|with_reducible refine gj hp j9 ?_) <;> simp only [aa,seval,Bi,iZ,q4.lay,BS,Ch,dm])
 have o7:aL [] bC (bC.lay [] bC.low):=aL.lay _ _ _ []
 refine has r _ _ z.aA (λv h' x hR=>?_)
 have Iu:=(aL.refl [] bC).over x
 have jl:=hJ _ _ _ j o7
 replace kp:=kp.over x
 have z2:=z.an x
 have hZ:∀ (h:Heap) (K:aF),aC (some v) h K=K v h:=λ_ _=>rfl
 rw [ao h']
 simp only [aa,seval,Bi,hZ,Ch,dm]
 rw [<- ao h']
 refine round i r v _ h' _ cw z2 jl (x.bN []) hR (λh2 z3 j2 k2=>?_)
 replace kp:=kp.trans k2
 clear z
 have z:=z3
 rw [ao h2]
 simp only [aa,seval,Bi]
 (with_reducible apply bX);(· rfl)
 simp only [aa,seval,Bi,fQ]
 rw [fH]
 (rw [aU];with_reducible refine cy (m:=_) ?_ ⟨i+1,_,rfl,z,⟨rfl,by omega,j2,kp⟩,bl⟩;omega)
theorem zri {assign body:Code} {e:Env} {p q':Tmp} {hs:Heap} {Q:Ex->Env->Heap->Prop} (d:aq) (who:au) (p0 p1 p2 p5 p6:ab) (q b:Int) (X1 X2 X3:Nat) (fv:ab) (h:Heap) (z:Ext h hs) (bf:(du p0 p1 p2 p5 p6 q b).all Am.one=true) (hd:dR hs p0 p1 p2 p5 p6 d) (pq:d.ah.length<=1000) (lI:d.aR.length<=1000) (fT:zt d.ah d.aR) (lk:∀ c∈d.aR,c.reads.length<=40)
 (q1:Holds hs X1 (.row (du p0 p1 p2 p5 p6 q b) 28 false)) (q2:Holds hs X2 (.row [.string who] 9 false)) (q3:Holds hs X3 (.row [fv] 90 false))
 (J:Nat->Heap->Prop) (hJ:∀ i h1 h2,J i h1->aL [hs.size] h1 h2->J i h2) (h0:J 0 hs) (R:au->ab->Heap->Heap->Prop)
 (has:∀ (m:au) (h':Heap) (K':aF),Ext h h'->(∀ v h2,Ext h' h2->R m v h' h2->K' v h2)->oU prog aD ov [.string m] h' K' fv)
 (round:∀ (i:Nat) (m:au) (v:ab) (h1 h':Heap),(gl d who)[i]? = some m->Ext h h'->J i h1->aL [] h1 h'->R m v h1 h'->hs.size < h1.size->W prog aD ov (some hs.size) assign ((e.set p (.string m)).set q' v) h' λx e1 h2=>x=.normal/\Ext h' h2 /\
  ∀ H bk,aL [hs.size] h' H->Ext h H->Holds H hs.size bk->(∀ cs u ro,bk≠.row cs u ro)->W prog aD ov (some hs.size) body e1 H λx _ h3=>x=.normal/\Ext h h3/\Holds h3 hs.size bk/\J (i+1) h3/\dv [9,90] H h3)
 (k9:∀ h',Ext h h'->J (gl d who).length h'->Q .normal e h'):Cv prog aD ov none (.func (.func 55) ⟨[]⟩ ⟨[.pointer (some ⟨X1,0,none⟩),.pointer (some ⟨X2,0,none⟩),.pointer (some ⟨X3,0,none⟩)]⟩) [p,q'] assign body e hs Q:=by
 have oK:=z.size
 have FV:∀ (h1:Heap) (b:ba),hs.size < h1.size->eG hs.size h1 (h1.set hs.size b)/\Holds (h1.set hs.size b) hs.size b:=λh1 b aT=>⟨⟨by rw [Heap.size_set];exact bj _,λB hB aQ=>by rw [Heap.aJ _ _ _ _ aT,az aQ],by rw [Heap.bQ];omega⟩,⟨by rw [Heap.size_set];exact aT,by rw [Heap.aJ _ _ _ _ aT,aE rfl]⟩⟩
 have vy:Ext hs (hs.push (.loop e [p,q'] assign body .ready none)):=⟨by rw [Heap.size_push];omega,λA hA=>by rw [Heap.bg,az (by omega)],by rw [Heap.cR];omega⟩
 have yM:Holds (hs.push (.loop e [p,q'] assign body .ready none)) hs.size (.loop e [p,q'] assign body .ready none):=⟨by rw [Heap.size_push];omega,by rw [Heap.bg,aE rfl]⟩
 refine zlI (by kernel_rfl) ?_
 refine zwI d who p0 p1 p2 p5 p6 q b hs.size X1 X2 X3 fv h _ (z.trans vy) bf (hd.mono vy.inc) pq lI fT lk (q1.ext vy) (q2.ext vy) (q3.ext vy) (λi h'=>J i h'/\Holds h' hs.size (.loop e [p,q'] assign body .ready none)) (λi h1 h2 hj fr=>⟨hJ i h1 h2 hj.1 (fr.mono (λ_ h=>nomatch h)),hj.2.di fr⟩) ⟨hJ _ _ _ h0 (vy.bN _),yM⟩ R has ?_ _ ?_
 .rintro i m v h1 h' K' hm zz ⟨hj,IA⟩ fr hR hk
  have ha:=IA.di fr
  refine zl2 (env:=e) (ps:=[p,q']) (assign:=assign) (body:=body) ha.get rfl ?_
  refine W.mono assign _ _ _ _ ?_ (round i m v h1 h' hm zz hj fr hR IA.lt)
  rintro x e1 h2 ⟨hx,x2,hw⟩
  have IB:=ha.ext x2
  obtain ⟨c1,b1⟩:=FV h2 (.loop e [p,q'] assign body .busy none) IB.lt
  refine ⟨hx,IB.get,W.mono body _ _ _ _ ?_ (hw _ _ ((x2.bN _).trans (c1.bN (D:=[hs.size]) (by simp)) (λB hB=>.inl hB)) ((zz.trans x2).step c1 oK) b1 (by nofun))⟩
  rintro y e2 h3 ⟨rfl,z3,b3,j3,k3⟩
  refine ⟨b3.get,?_⟩
  obtain ⟨c3,b4⟩:=FV h3 (.loop e [p,q'] assign body .ready none) b3.lt
  have L3:aL [hs.size] h3 _:=c3.bN (by simp)
  refine hk _ (z3.step c3 oK) ⟨hJ _ _ _ j3 L3,b4⟩ ?_
  have Gj:∀ (g:Heap) (bk:ba),Holds g hs.size bk->(∀ cs u ro,bk≠.row cs u ro)->∀ B∈[hs.size],∀ cs u ro,g.get B=some (.row cs u ro)->u ∉ [9,90]:=λg bk hg hb B hB cs u ro he=>by
   rw [hU.1 hB,hg.get] at he
   exact absurd (Option.some.inj he) (hb cs u ro)
  exact ((dv.bN (D:=[hs.size]) ((x2.bN _).trans (c1.bN (D:=[hs.size]) (by simp)) (λB hB=>.inl hB)) (Gj _ _ ha (by nofun))).trans k3).trans (dv.bN L3 (Gj _ _ b3 (by nofun)))
 .rintro h' zz ⟨hj,ha⟩
  refine ⟨_,_,ha.get,.inl ⟨rfl,rfl,?_⟩⟩
  obtain ⟨c3,_⟩:=FV h' (.loop e [p,q'] assign body .exhausted none) ha.lt
  exact k9 _ (zz.step c3 oK) (hJ _ _ _ hj (c3.bN (by simp)))
theorem zyS (p0 p1 p2 p5 p6:ab) (q b:Int) (who:au) (fv:ab) (h:Heap) (cf:fv.cells.toList=[fv]) (K:aF)
 (hk:∀ h' X1 X2 X3,Ext h h'->h.size<=X1->h.size<=X2->h.size<=X3->Holds h' X1 (.row (du p0 p1 p2 p5 p6 q b) 28 false)->Holds h' X2 (.row [.string who] 9 false)->Holds h' X3 (.row [fv] 95 false)->K (.func (.func 57) ⟨[]⟩ ⟨[.pointer (some ⟨X1,0,none⟩),.pointer (some ⟨X2,0,none⟩),.pointer (some ⟨X3,0,none⟩)]⟩) h'):Ok prog aD ov 32 [fI p0 p1 p2 p5 p6 q b,.string who,fv] h K:=by
 rw [ao h]
 have z:=Ext.refl h
 have BS:∀ (h:Heap) (K:aF),aC (some fv) h K=K fv h:=λ_ _=>rfl
 refine Ok.aw 5 (bq N32) ?_
 simp only [aa,seval,c32,BS,cf,gZ]
 refine hk _ (h.size+0) (h.size+1) (h.size+2) z.aA (by omega) (by omega) (by omega) ?_ ?_ ?_
 .exact ⟨by rw [bc];simp,by rw [iB];rfl⟩
 .exact ⟨by rw [bc];simp,by rw [iB];rfl⟩
 .exact ⟨by rw [bc];simp,by rw [iB];rfl⟩
theorem zwJ (d:aq) (who:au) (p0 p1 p2 p5 p6:ab) (q b:Int) (Y X1 X2 X3:Nat) (fv:ab) (h hs:Heap) (z:Ext h hs) (bf:(du p0 p1 p2 p5 p6 q b).all Am.one=true) (hd:dR hs p0 p1 p2 p5 p6 d) (pq:d.ah.length<=1000) (lI:d.aR.length<=1000) (fT:zt d.ah d.aR) (lk:∀ c∈d.aR,c.reads.length<=40)
 (q1:Holds hs X1 (.row (du p0 p1 p2 p5 p6 q b) 28 false)) (q2:Holds hs X2 (.row [.string who] 9 false)) (q3:Holds hs X3 (.row [fv] 95 false))
 (J:Nat->Heap->Prop) (hJ:∀ i h1 h2,J i h1->aL [] h1 h2->J i h2) (h0:J 0 hs) (R:au->ab->Heap->Heap->Prop)
 (has:∀ (m:au) (h':Heap) (K':aF),Ext h h'->(∀ v h2,Ext h' h2->R m v h' h2->K' v h2)->oU prog aD ov [.string m] h' K' fv)
 (round:∀ (i:Nat) (m:au) (v:ab) (h1 h':Heap) (K':aF),(gl d who)[i]? = some m->Ext h h'->J i h1->aL [] h1 h'->R m v h1 h'->(∀ h2,Ext h h2->J (i+1) h2->dv [9,95] h' h2->K' (.bool true) h2)->oU prog aD ov [.string m,v] h' K' (.func (.yield Y) ⟨[]⟩ ⟨[]⟩))
 (K:aF) (hK:∀ h',Ext h h'->J (gl d who).length h'->K undef h'):Ok prog aD ov 57 [.func (.yield Y) ⟨[]⟩ ⟨[]⟩,.pointer (some ⟨X1,0,none⟩),.pointer (some ⟨X2,0,none⟩),.pointer (some ⟨X3,0,none⟩)] hs K:=by
 rw [ao hs]
 have BS:∀ (h:Heap) (K:aF),aC (some fv) h K=K fv h:=λ_ _=>rfl
 have qc:=Tw (who:=who) lk
 have fr:aL [] hs hs:=aL.refl [] hs
 refine Ok.aw 19 (bq N57) ?_
 simp only [aa,seval,Bj,q1.lay,q2.lay,↓fA,eV,eI,dm]
 refine zlE d who p0 p1 p2 p5 p6 q b _ bf (hd.lay _ _) pq lI fT lk _ (λw h' x ms=>?_)
 (replace z:=z.an x;replace q3:=q3.over x;replace fr:=fr.over x;rw [ao h'])
 have iZ:∀ (h:Heap) (K:aF),aC (some w) h K=K w h:=λ_ _=>rfl
 have ta:=λ(hh:Heap)=>ms.sl.bo zCo hh
 have j0:=hJ _ _ _ h0 fr
 obtain ⟨hM,Gb⟩:∃ hM,hM=h':=⟨_,rfl⟩
 rw [<- Gb] at ms
 have k0:dv [9,95] hM h':=by rw [Gb];exact dv.refl
 clear fr
 simp only [aa,seval,Bj,iZ,ta]
 rw [<- Gb] at q3
 obtain ⟨I1,aU⟩:∃ I:Nat->Env->Heap->Prop,I=(λn e h'=>∃ (i:Nat) (h1:Heap),h'=h1.lay [] h1.low/\Ext h h1/\(n=(gl d who).length - i/\i<=(gl d who).length/\J i h1/\dv [9,95] hM h1)/\∃ J:Nat->ab,e=(.func (.yield Y) ⟨[]⟩ ⟨[]⟩::jr J 1 2 (.pointer (some ⟨X3,0,none⟩)::jr J 4 5 (w::.int .i64 (gl d who).length::.int .i64 i::jr J 12 11 ([]))))):=⟨_,rfl⟩
 refine dA I1 _ (by rw [aU];exact ⟨0,_,rfl,z,⟨rfl,by omega,j0,k0⟩,bl⟩) ?_
 intro n e h' aO
 rw [aU] at aO
 obtain ⟨i,bC,rfl,z,hinv,J,rfl⟩:=aO
 clear j0 k0
 obtain ⟨rfl,hi,j,kp⟩:=hinv
 have fH:=ei i (by omega)
 have sw:=sF.keep ms kp (by simp)
 have q4:=kp.holds q3 (by simp)
 have hz:=z.size
 simp only [aa,seval,Bj]
 refine bn (λaT=>?_) (λka=>?_)
 rotate_left
 .have he:i=(gl d who).length:=by omega
  subst he
  simp only [aa,seval,Bj]
  exact hK _ z.aA (hJ _ _ _ j (aL.lay _ _ _ []))
 obtain ⟨r,hr,cw⟩:=eW (l:=gl d who) (i:=i) (by omega)
 simp only [aa,seval,Bj,iZ]
 repeat' ((first|with_reducible refine rK sw dr px (by omega) hr (λp hp=>?_)|with_reducible refine gj hp j9 ?_) <;> simp only [aa,seval,Bj,iZ,q4.lay,BS,Ch,dm])
 have o7:aL [] bC (bC.lay [] bC.low):=aL.lay _ _ _ []
 refine has r _ _ z.aA (λv h' x hR=>?_)
 have Iu:=(aL.refl [] bC).over x
 have jl:=hJ _ _ _ j o7
 replace kp:=kp.over x
 have z2:=z.an x
 have hZ:∀ (h:Heap) (K:aF),aC (some v) h K=K v h:=λ_ _=>rfl
 rw [ao h']
 simp only [aa,seval,Bj,hZ,Ch,dm]
 rw [<- ao h']
 refine round i r v _ h' _ cw z2 jl (x.bN []) hR (λh2 z3 j2 k2=>?_)
 replace kp:=kp.trans k2
 clear z
 have z:=z3
 rw [ao h2]
 simp only [aa,seval,Bj]
 (with_reducible apply bX);(· rfl)
 simp only [aa,seval,Bj,fQ]
 rw [fH]
 (rw [aU];with_reducible refine cy (m:=_) ?_ ⟨i+1,_,rfl,z,⟨rfl,by omega,j2,kp⟩,bl⟩;omega)
theorem zrj {assign body:Code} {e:Env} {p q':Tmp} {hs:Heap} {Q:Ex->Env->Heap->Prop} (d:aq) (who:au) (p0 p1 p2 p5 p6:ab) (q b:Int) (X1 X2 X3:Nat) (fv:ab) (h:Heap) (z:Ext h hs) (bf:(du p0 p1 p2 p5 p6 q b).all Am.one=true) (hd:dR hs p0 p1 p2 p5 p6 d) (pq:d.ah.length<=1000) (lI:d.aR.length<=1000) (fT:zt d.ah d.aR) (lk:∀ c∈d.aR,c.reads.length<=40)
 (q1:Holds hs X1 (.row (du p0 p1 p2 p5 p6 q b) 28 false)) (q2:Holds hs X2 (.row [.string who] 9 false)) (q3:Holds hs X3 (.row [fv] 95 false))
 (J:Nat->Heap->Prop) (hJ:∀ i h1 h2,J i h1->aL [hs.size] h1 h2->J i h2) (h0:J 0 hs) (R:au->ab->Heap->Heap->Prop)
 (has:∀ (m:au) (h':Heap) (K':aF),Ext h h'->(∀ v h2,Ext h' h2->R m v h' h2->K' v h2)->oU prog aD ov [.string m] h' K' fv)
 (round:∀ (i:Nat) (m:au) (v:ab) (h1 h':Heap),(gl d who)[i]? = some m->Ext h h'->J i h1->aL [] h1 h'->R m v h1 h'->hs.size < h1.size->W prog aD ov (some hs.size) assign ((e.set p (.string m)).set q' v) h' λx e1 h2=>x=.normal/\Ext h' h2 /\
  ∀ H bk,aL [hs.size] h' H->Ext h H->Holds H hs.size bk->(∀ cs u ro,bk≠.row cs u ro)->W prog aD ov (some hs.size) body e1 H λx _ h3=>x=.normal/\Ext h h3/\Holds h3 hs.size bk/\J (i+1) h3/\dv [9,95] H h3)
 (k9:∀ h',Ext h h'->J (gl d who).length h'->Q .normal e h'):Cv prog aD ov none (.func (.func 57) ⟨[]⟩ ⟨[.pointer (some ⟨X1,0,none⟩),.pointer (some ⟨X2,0,none⟩),.pointer (some ⟨X3,0,none⟩)]⟩) [p,q'] assign body e hs Q:=by
 have oK:=z.size
 have FV:∀ (h1:Heap) (b:ba),hs.size < h1.size->eG hs.size h1 (h1.set hs.size b)/\Holds (h1.set hs.size b) hs.size b:=λh1 b aT=>⟨⟨by rw [Heap.size_set];exact bj _,λB hB aQ=>by rw [Heap.aJ _ _ _ _ aT,az aQ],by rw [Heap.bQ];omega⟩,⟨by rw [Heap.size_set];exact aT,by rw [Heap.aJ _ _ _ _ aT,aE rfl]⟩⟩
 have vy:Ext hs (hs.push (.loop e [p,q'] assign body .ready none)):=⟨by rw [Heap.size_push];omega,λA hA=>by rw [Heap.bg,az (by omega)],by rw [Heap.cR];omega⟩
 have yM:Holds (hs.push (.loop e [p,q'] assign body .ready none)) hs.size (.loop e [p,q'] assign body .ready none):=⟨by rw [Heap.size_push];omega,by rw [Heap.bg,aE rfl]⟩
 refine zlI (by kernel_rfl) ?_
 refine zwJ d who p0 p1 p2 p5 p6 q b hs.size X1 X2 X3 fv h _ (z.trans vy) bf (hd.mono vy.inc) pq lI fT lk (q1.ext vy) (q2.ext vy) (q3.ext vy) (λi h'=>J i h'/\Holds h' hs.size (.loop e [p,q'] assign body .ready none)) (λi h1 h2 hj fr=>⟨hJ i h1 h2 hj.1 (fr.mono (λ_ h=>nomatch h)),hj.2.di fr⟩) ⟨hJ _ _ _ h0 (vy.bN _),yM⟩ R has ?_ _ ?_
 .rintro i m v h1 h' K' hm zz ⟨hj,IA⟩ fr hR hk
  have ha:=IA.di fr
  refine zl2 (env:=e) (ps:=[p,q']) (assign:=assign) (body:=body) ha.get rfl ?_
  refine W.mono assign _ _ _ _ ?_ (round i m v h1 h' hm zz hj fr hR IA.lt)
  rintro x e1 h2 ⟨hx,x2,hw⟩
  have IB:=ha.ext x2
  obtain ⟨c1,b1⟩:=FV h2 (.loop e [p,q'] assign body .busy none) IB.lt
  refine ⟨hx,IB.get,W.mono body _ _ _ _ ?_ (hw _ _ ((x2.bN _).trans (c1.bN (D:=[hs.size]) (by simp)) (λB hB=>.inl hB)) ((zz.trans x2).step c1 oK) b1 (by nofun))⟩
  rintro y e2 h3 ⟨rfl,z3,b3,j3,k3⟩
  refine ⟨b3.get,?_⟩
  obtain ⟨c3,b4⟩:=FV h3 (.loop e [p,q'] assign body .ready none) b3.lt
  have L3:aL [hs.size] h3 _:=c3.bN (by simp)
  refine hk _ (z3.step c3 oK) ⟨hJ _ _ _ j3 L3,b4⟩ ?_
  have Gj:∀ (g:Heap) (bk:ba),Holds g hs.size bk->(∀ cs u ro,bk≠.row cs u ro)->∀ B∈[hs.size],∀ cs u ro,g.get B=some (.row cs u ro)->u ∉ [9,95]:=λg bk hg hb B hB cs u ro he=>by
   rw [hU.1 hB,hg.get] at he
   exact absurd (Option.some.inj he) (hb cs u ro)
  exact ((dv.bN (D:=[hs.size]) ((x2.bN _).trans (c1.bN (D:=[hs.size]) (by simp)) (λB hB=>.inl hB)) (Gj _ _ ha (by nofun))).trans k3).trans (dv.bN L3 (Gj _ _ b3 (by nofun)))
 .rintro h' zz ⟨hj,ha⟩
  refine ⟨_,_,ha.get,.inl ⟨rfl,rfl,?_⟩⟩
  obtain ⟨c3,_⟩:=FV h' (.loop e [p,q'] assign body .exhausted none) ha.lt
  exact k9 _ (zz.step c3 oK) (hJ _ _ _ hj (c3.bN (by simp)))
def Ur:=bA f11
def Ox:=PLift.up (by have c:=bB Ur f11;simp only [aN,f11,seval] at c;exact nd c <| nd @j4 <| nd @cq <| nd @je <| @Vl)
theorem zQ:type_of% Ox.down:=Ox.down
def KN:=bA f163
def Pf:=PLift.up (by have c:=bB KN f163;simp only [aN,f163,seval] at c;exact nd c <| @zD7)
theorem LA:type_of% Pf.down:=Pf.down
def K4:=bA f192
def PC:=PLift.up (by have c:=bB K4 f192;simp only [aN,f192,seval] at c;exact nd c <| @zEr)
theorem LG:type_of% PC.down:=PC.down
def K1:=bA f190
def PA:=PLift.up (by have c:=bB K1 f190;simp only [aN,f190,seval] at c;exact nd c <| @zEp)
theorem LF:type_of% PA.down:=PA.down
def KV:=bA f179
def Pt:=PLift.up (by have c:=bB KV f179;simp only [aN,f179,seval] at c;exact nd c <| nd @Ca <| @zEj)
theorem oz:type_of% Pt.down:=Pt.down
def KX:=bA f181
def Pv:=PLift.up (by have c:=bB KX f181;simp only [aN,f181,seval] at c;exact nd c <| nd @Ca <| @zEl)
theorem oA:type_of% Pv.down:=Pv.down
def KW:=bA f180
def Pu:=PLift.up (by have c:=bB KW f180;simp only [aN,f180,seval] at c;exact nd c <| nd @kF <| nd @gA <| nd @kG <| @zEk)
theorem Fb:type_of% Pu.down:=Pu.down
def K3:=bA f191
def PB:=PLift.up (by have c:=bB K3 f191;simp only [aN,f191,seval] at c;exact nd c <| nd @sL <| @zEq)
theorem Fe:type_of% PB.down:=PB.down
def KM:=bA f162
def Pe:=PLift.up (by have c:=bB KM f162;simp only [aN,f162,seval] at c;exact nd c <| @zD6)
theorem Bd:type_of% Pe.down:=Pe.down
def Kk:=bA f126
def OJ:=PLift.up (by have c:=bB Kk f126;simp only [aN,f126,seval] at c;exact nd c <| @zDE)
theorem A8:type_of% OJ.down:=OJ.down
def Kl:=bA f127
def OK:=PLift.up (by have c:=bB Kl f127;simp only [aN,f127,seval] at c;exact nd c <| @zDF)
theorem Ls:type_of% OK.down:=OK.down
def EM:=bA f165
def Ph:=PLift.up (by have c:=bB EM f165;simp only [aN,f165,seval] at c;exact nd c <| nd @JO <| nd @HK <| nd @GV <| nd @gA <| @zD9)
theorem Be:type_of% Ph.down:=Ph.down
def Kq:=bA f131
def OP:=PLift.up (by have c:=bB Kq f131;simp only [aN,f131,seval] at c;exact nd c <| nd @zB <| nd @HL <| nd @En <| nd @CA <| nd @th <| nd @mZ <| nd @rp <| nd @gA <| @zDJ)
theorem kl:type_of% OP.down:=OP.down
theorem zpa (l m:aS) (v u:ab) (h:Heap) (hl:Sl aM.atom h v l) (hm:Sl aM.atom h u m) (hs:l.length<=1000) (gV:m.length<=1000) (K:aF)
 (hk:∀ h',Ext h h'->K (.bool (decide (l=m))) h'):Ok prog aD ov 11 [v,u] h K:=by
 rw [ao h]
 have z:=Ext.refl h
 have iF:=λ(hh:Heap)=>hl.bo bJ hh
 have Dr:=λ(hh:Heap)=>hm.bo bJ hh
 refine Ok.aw 24 (bq Ur) ?_
 simp only [aa,seval,zQ,iF,Dr]
 refine gg (λaQ=>?_) (λheq=>?_)
 .rw [tM (show ¬ l=m from λe=>by subst e;exact aQ rfl)] at hk
  repeat' (simp only [aa,seval,zQ])
  exact hk _ z.aA
 have hlen:l.length=m.length:=by omega
 repeat' (simp only [aa,seval,zQ])
 obtain ⟨I1,aU⟩:∃ I:Nat->Env->Heap->Prop,I=(λn e h'=>∃ (i:Nat) (h1:Heap),h'=h1.lay [] h1.low/\Ext h h1/\(n=l.length - i/\i<=l.length/\l.take i=m.take i)/\∃ J:Nat->ab,e=(v::u::jr J 2 3 (.int .i64 i::jr J 6 20 ([])))):=⟨_,rfl⟩
 refine dA I1 _ (by rw [aU];exact ⟨0,_,rfl,z,⟨rfl,by omega,rfl⟩,bl⟩) ?_
 intro n e h' aO
 rw [aU] at aO
 obtain ⟨i,bC,rfl,z,hinv,J,rfl⟩:=aO
 obtain ⟨rfl,hi,mX⟩:=hinv
 have hw:=ei i (by omega)
 simp only [aa,seval,zQ,iF]
 refine bn (λaT=>?_) (λaT=>?_)
 rotate_left
 .rw [gE (by omega),gE (by omega)] at mX
  rw [uN mX] at hk
  repeat' (simp only [aa,seval,zQ])
  exact hk _ z.aA
 obtain ⟨r,hr,cw⟩:=eW (l:=l) (i:=i) (by omega)
 obtain ⟨s,hs,kS⟩:=eW (l:=m) (i:=i) (by omega)
 simp only [aa,seval,zQ]
 repeat' ((first|((with_reducible apply rJ) <;> intro _)|with_reducible refine qI (hl.mono z.inc) bJ bH (by omega) hr (λp hp=>?_)|with_reducible refine qI (hm.mono z.inc) bJ bH (by omega) hs (λp hp=>?_)|with_reducible refine ma hp eP bH ?_|with_reducible refine dL (by simp only [zQ]) z.aA ?_|((with_reducible refine ⟨z.cn.lay _ _,?_⟩);(intro _ h' zz x _);(simp only [bM,bu] at x);(replace z:=zz);(clear zz);rw [ao h'])) <;> simp only [aa,seval,zQ,zvA])
 .have aQ:¬ r=s:=by assumption
  rw [tM (show ¬ l=m from λe=>by
   subst e
   rw [cw] at kS
   exact aQ (Option.some.inj kS))] at hk
  exact hk _ z.aA
 .have he:r=s:=by assumption
  rw [hw]
  (rw [aU];with_reducible refine cy (m:=_) ?_ ⟨i+1,_,rfl,z,⟨rfl,by omega,by rw [oW,oW,cw,kS,mX,he]⟩,bl⟩;omega)
end Go.Proofs.YtiapegieocgmfaaGreatDoor

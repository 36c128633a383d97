/- The code of some functions, node by node, for simp. Written by a program (mkcode.py). No condition. -/
import Derived.Test.YtkgojconmeeegaaGreatDoorG39
set_option linter.unusedSimpArgs false
set_option linter.unusedVariables false
set_option maxRecDepth 100000
set_option maxHeartbeats 0
namespace Go.Proofs.YtkgojconmeeegaaGreatDoor
open Go.Am
noncomputable def Vy:=bA Tryz.f36
noncomputable def Zo:=PLift.up (by have c:=bB Vy Tryz.f36;simp only [aK,Tryz.f36,seval] at c;exact nd c <| nd @ads <| nd @mV <| nd @adE <| @aaw)
theorem zE:type_of% Zo.down:=Zo.down
theorem zzx (ls:List (List ab)) (v:Value) (h:Heap) (hl:Sl aJ.atoms h v ls) (hn:ls.length≤100) (Ob:ls.flatten.length≤9000) (aR:∀ x∈ls.flatten,x.aT=true) (K:Value→Heap→Prop)
 (hk:∀ h' w,Ext h h'→dw h h' 34 w (eg ls.flatten)→K w h'):Ok Tryz.prog ae ov 36 [v] h K:=by
 rw [ao h]
 have z:=Ext.refl h
 refine Ok.aH rfl zDr (br Vy) rfl (m:=17) rfl ?_
 simp only [syms,aa,seval,zE]
 repeat' ((with_reducible_and_instances refine HH hl wh ?_) <;> simp only [syms,aa,seval,zE])
 obtain ⟨I1,aS⟩:∃ I:Nat→Env→Heap→Prop,I=(fun n e h'=>∃ (i:Nat) (w:Value) (A:Nat) (h1:Heap),h'=h1.lay [] h1.low∧Ext h h1∧(n=ls.length - i∧i≤ls.length∧Ow aJ.atom h h1 34 A w (ls.take i).flatten)∧∃ J:Nat→Value,e=(jr J 0 3 (w::jr J 4 2 (v::.int .i64 ls.length::.int .i64 i::jr J 9 9 ([]))))):=⟨_,rfl⟩
 refine dj I1 _ (by rw [aS];exact ⟨0,.slice none 0 0,h.size,_,rfl,z,⟨rfl,by omega,Ow.nil (Nat.le_refl _)⟩,aE (by kernel_rfl)⟩) ?_
 intro n e h' aL
 rw [aS] at aL
 obtain ⟨i,w,A,bH,rfl,z,hinv,J,rfl⟩:=aL
 obtain ⟨rfl,hi,ho⟩:=hinv
 have hw:=eb i (by omega)
 have hz:=z.size
 have bx:=bY w
 simp only [syms,aa,seval,zE,bx]
 refine bt (fun i6=>?_) (fun i6=>?_)
 rotate_left
 ·rw [List.take_of_length_le (by omega)] at ho
  repeat' (simp only [syms,aa,seval,zE,bx])
  refine zow ls.flatten w _ ((ho.sl (by decide)).lay _ _) (by omega) aR _ (fun h' w x ho=>?_)
  replace ho:=ho.down (h0:=h) (by rw [bm];omega)
  (replace z:=z.an x (by omega);rw [ao h'])
  have bx:=bY w
  repeat' (simp only [syms,aa,seval,zE,bx])
  exact hk _ _ (z.aw _ _ (by omega)) (ho.lay _ _)
 obtain ⟨r,hr,bz⟩:=eU (l:=ls) (i:=i) (by omega)
 simp only [syms,aa,seval,zE,bx]
 repeat' ((first|with_reducible_and_instances refine zHQ (hl.mono z.inc) wh aed (by omega) hr (fun p b hsb hp=>?_)|with_reducible_and_instances refine hY hp rG ?_) <;> simp only [syms,aa,seval,zE,bx])
 have sQ:=bY b
 simp only [syms,aa,seval,zE,bx,sQ,lG,vL]
 have sJ:(ls.take (i+1)).flatten=(ls.take i).flatten++r:=by rw [List.take_add_one,bz,List.flatten_append];simp
 have hle:(ls.take i).flatten.length+r.length≤9000:=by
  have h1:ls.flatten.length=(ls.take (i+1)).flatten.length+(ls.drop (i+1)).flatten.length:=by rw [← List.length_append,← List.flatten_append,List.take_append_drop]
  rw [sJ,List.length_append] at h1
  omega
 obtain ⟨news,hs,mR⟩:=tk (A:=A) (r:=aJ.atom) (by decide) (hsb.lay [] bH.low) (fun cs y hr=>hr)
 have df:=ho.fresh
 refine Eu (r:=aJ.atom) bL se rfl (by decide) hz ho hs mR (by omega) (by omega) (fun w' h2 A' o2 c2 IB=>?_)
 replace z:=(z.aw _ _ (by omega)).step c2 (by omega)
 rw [← sJ] at o2
 rw [ao h2]
 have xq:∀ (h:Heap) (K:Value→Heap→Prop),aW (some w') h K=K w' h:=fun _ _=>rfl
 repeat' (simp only [syms,aa,seval,zE,xq])
 rw [hw]
 (rw [aS];with_reducible refine cB (m:=_) ?_ ⟨i+1,w',A',_,rfl,z,⟨rfl,by omega,o2⟩,aE (by kernel_rfl)⟩;omega)
theorem cJ.Cx {h:Heap} {u:TypeId} {A:Nat} {lw:Value} {lr:List Value} {ls:List (List ab)} (f:cJ 1 (fun v:Value=>[v]) h u A lw lr) (hl:lr.length=ls.length) (hv:∀ (j:Nat) v l,lr[j]? = some v→ls[j]? = some l→Sl aJ.atom h v l):Sl aJ.atoms h lw ls:=by
 rcases f with ⟨rfl,rfl⟩|⟨q,row,rfl,e2,e3,e4,e5,e6⟩
 ·have:ls=[]:=List.eq_nil_of_length_eq_zero (by simpa using hl.symm)
  subst this
  exact .nil
 ·obtain ⟨c1,c2,c3⟩:=TS (k:=1) (q:=q) (by decide) e5
  have hM:(1000000000:Nat)≤maxLen:=by decide
  refine .inr ⟨A,0,G*1+q,row,u,false,by rw [hl],by omega,.inr ⟨c3,c2,by omega⟩,e2.lt,e2.get,fun i x hx=>?_⟩
  have hi:=(List.getElem?_eq_some_iff.1 hx).1
  obtain ⟨v,ej⟩:∃ v,lr[i]? = some v:=⟨_,List.getElem?_eq_getElem (by omega)⟩
  exact ⟨[v],by rw [Nat.zero_add];exact e6 i v ej,v,rfl,hv i v x ej hx⟩
theorem dP (a) (n c:Nat) (h:Heap) (K:Value→Heap→Prop):aW (some (.slice a n c)) h K=K (.slice a n c) h:=rfl
theorem zLK:ae.desc 85=some (.slice 44):=by kernel_rfl
theorem zIp:bJ ae 85=some 1:=by kernel_rfl
theorem zIg:pU ae 85 85=true:=by kernel_rfl
theorem Uw {α:Type} {n:Nat}:∀ {ls:List (List α)},(∀ l∈ls,l.length≤n)→ls.flatten.length≤ls.length*n
 | [],_=>by simp
 |l::r,h=>by
  have ih:=Uw (ls:=r) (fun x hx=>h x (List.mem_cons_of_mem _ hx))
  have h1:=h l List.mem_cons_self
  rw [List.flatten_cons,List.length_append,List.length_cons,Nat.succ_mul]
  omega
def JA (h:Heap) (X L:Nat) (ms:List ByteArray) (facts:ByteArray→List ab) (i:Nat) (h2:Heap):Prop :=
 ∃ A lw lr,cJ 1 (fun v:Value=>[v]) h2 44 A lw lr∧Holds h2 X (.row [lw] 85 false)∧lr.length=i∧(∀ (j:Nat) v m,lr[j]? = some v→ms[j]? = some m→Sl aJ.atom (aI [L,X,A] h2) v (facts m))∧A≠X∧A≠L∧h.size≤A∧A < h2.size
theorem JA.bX {h h1 h2:Heap} {X L i:Nat} {ms:List ByteArray} {facts:ByteArray→List ab} (f:JA h X L ms facts i h1) (fr:aM [L] h1 h2) (hX:X≠L):JA h X L ms facts i h2:=by
 obtain ⟨A,lw,lr,e1,e2,e3,e4,e5,e6,e7,e8⟩:=f
 exact ⟨A,lw,lr,e1.bX fr (by simpa using e6),e2.bX fr (by simpa using hX),e3,fun j v m h1 h2=>(e4 j v m h1 h2).mono ((fr.mono (D':=[L,X,A]) (by simp)).inc (fun B hB=>.inl hB)),e5,e6,e7,Nat.lt_of_lt_of_le e8 fr.size⟩
theorem zij (d:au) (who:ByteArray) (p0 p1 p2 p5 p6:Value) (q b:Int) (h:Heap) (bf:(cX p0 p1 p2 p5 p6 q b).all Am.one=true) (hd:dD h p0 p1 p2 p5 p6 d) (nj:d.ah.length≤1000) (ky:d.aF.length≤1000) (fS:vC d.ah d.aF) (kD:∀ c∈d.aF,c.reads.length≤40)
 (X:List Nat) (N bb S0:Nat) (E:List Nat) (dd:au) (qq:Int) (facts:ByteArray→List ab) (aA us:ByteArray→Nat) (B2:gE X N bb h S0 E dd qq facts aA us) (iq:∀ w,(facts w).length≤100) (aR:∀ w,∀ x∈facts w,x.aT=true) (K:Value→Heap→Prop)
 (hk:∀ h' w,Ext h h'→dw h h' 34 w (eg ((eP d who).map facts).flatten)→K w h'):Ok Tryz.prog ae ov 9 [gi p0 p1 p2 p5 p6 q b,.pointer (some ⟨S0,0,none⟩),.string who] h K:=by
 have pg:=RG (who:=who) kD
 have sJ:((eP d who).map facts).flatten.length≤4100:=by
  have:=Uw (n:=100) (ls:=(eP d who).map facts) (fun l hl=>by obtain ⟨w,_,rfl⟩:=List.mem_map.1 hl;exact iq w)
  rw [List.length_map] at this
  omega
 have o7:∀ x∈((eP d who).map facts).flatten,x.aT=true:=fun x hx=>by
  obtain ⟨l,hl,uo⟩:=List.mem_flatten.1 hx
  obtain ⟨w,_,rfl⟩:=List.mem_map.1 hl
  exact aR w x uo
 rw [ao h]
 have z:=Ext.refl h
 refine Ok.aH rfl zGW (br N9) rfl (m:=20) rfl ?_
 simp only [syms,aa,seval,c9,ek,↓fm,eX,eG,cZ,cy]
 refine zzr p0 p1 p2 p5 p6 q b who _ _ rfl _ (fun h' X1 X2 X3 x hX1 hX2 hX3 q1 q2 q3=>?_)
 have qX:=Holds.top (i:=1) x rfl
 (replace z:=z.an x (by omega);rw [ao h'])
 obtain ⟨P,hP⟩:∃ P,P=h.size+0:=⟨_,rfl⟩
 obtain ⟨XX,Nd⟩:∃ XX,XX=h.size+1:=⟨_,rfl⟩
 rw [← Nd] at qX
 rw [← Nd]
 have Dy:=qX.lt
 simp only [syms,aa,seval,c9]
 rw [← ao h']
 obtain ⟨L,hL⟩:∃ L,L=h'.size:=⟨_,rfl⟩
 have zS:XX≠L:=by omega
 have oo:=z.size
 have A9:P < h'.size:=by omega
 refine zqG d who p0 p1 p2 p5 p6 q b X1 X2 X3 _ h z bf (hd.mono z.inc) nj ky fS kD q1 q2 q3 (JA h XX L (eP d who) facts) (fun i h1 h2 hj fr=>hj.bX (by rw [hL];exact fr) zS) ⟨P,.slice none 0 0,[],cJ.nil,qX,rfl,fun j v m h1=>by simp at h1,by omega,by omega,by omega,A9⟩ (fun m v h1 h2=>∃ A,Ow aJ.atom h1 h2 34 A v (facts m)) (fun m hh K' zz jW=>?_) (fun i m v g1 g2 hm zz hj fr hR AX=>?_) (fun h3 zz hj=>?_)
 ·rw [uC]
  exact zvN m dd qq facts aA us hh N bb S0 E (B2.bX (zz.bX [])).un (by have:=iq m;omega) K' (fun h2 w A x o=>jW w h2 x ⟨A,o⟩)
 ·obtain ⟨Av,o⟩:=hR
  obtain ⟨va,vn,vc,rfl⟩:=uI (o.sl (by decide))
  rw [ao g2]
  simp only [syms,aa,seval,c9,dP]
  refine ⟨(Ext.refl _),fun H bk IA zH qL zU=>?_⟩
  rw [← hL] at AX qL IA
  have oR:aM [L] g1 H:=(fr.mono (D':=[L]) (fun _ h=>nomatch h)).trans IA (fun B hB=>.inl hB)
  obtain ⟨A,lw,lr,u1,u2,u3,u4,u5,u6,u7,u8⟩:=hj
  have e1:=u1.bX oR (by simpa using u6)
  have e2:=u2.bX oR (by simpa using zS)
  have e4:∀ (j:Nat) v m,lr[j]? = some v→(eP d who)[j]? = some m→Sl aJ.atom (aI [L,XX,A] H) v (facts m):=fun j v m h1 h2=>(u4 j v m h1 h2).mono ((oR.mono (D':=[L,XX,A]) (by simp)).inc (fun B hB=>.inl hB))
  have jx:Sl aJ.atom (aI [L,XX,A] H) (.slice va vn vc) (facts m):=(o.aI (D:=[L,XX,A]) (fun _ _ _ _ q=>q) (by decide) (fun B hB=>by
   simp only [List.mem_cons,List.not_mem_nil,or_false] at hB
   have:=u2.lt
   rcases hB with rfl|rfl|rfl <;> omega)).mono ((IA.mono (D':=[L,XX,A]) (by simp)).inc (fun B hB=>.inl hB))
  have r6:A < H.size:=Nat.lt_of_lt_of_le u8 oR.size
  have hLH:=qL.lt
  have iK:=(List.getElem?_eq_some_iff.1 hm).1
  obtain ⟨la,lb,lc,rfl⟩:=e1.shape
  clear u1 u2 u4 o zz z
  have z:=zH
  have hzH:=z.size
  rw [ao H]
  simp only [syms,aa,seval,c9,e2.lay,dP,lG,zIg]
  refine cJ.app (k:=1) (cell:=fun v:Value=>[v]) (x:=Value.slice va vn vc) (j:=0) (fun _=>rfl) rfl (by decide) zLK zlB e1 rfl (by omega) (by omega) (fun v3 h3 A3 f3 uZ D9 qZ=>?_)
  have c3:=qZ r6
  have z3:=z.cM c3 u7 (by omega)
  have lC:=c3.size
  rw [bm] at lC
  simp only [List.length_cons,List.length_nil] at lC
  have Hh:=e2.bE c3 (Ne.symm u5)
  have Po:=qL.bE c3 (Ne.symm u6)
  have wm:A3≠XX:=fun e=>by
   rcases f3 with ⟨_,h0⟩|⟨qq,row,_,rV,_⟩
   ·simp at h0
   ·have:=rV.get.symm.trans (e ▸ Hh.get)
    simp only [Option.some.injEq,bh.row.injEq] at this
    exact absurd this.2.1 (by decide)
  have FU:A3≠L:=fun e=>by
   rcases f3 with ⟨_,h0⟩|⟨qq,row,_,rV,_⟩
   ·simp at h0
   ·exact zU _ _ _ (Option.some.inj (Po.get.symm.trans (e ▸ rV.get)))
  have zQ:h.size≤A3∧(A3=A∨H.size≤A3):=by
   rcases uZ with ⟨e,_⟩|e
   ·exact ⟨by omega,.inl e⟩
   ·rw [bm] at e
    exact ⟨by omega,.inr (by omega)⟩
  have BQ:db [9,89] H h3:=by
   by_cases gL:Value.slice la lb lc=.slice none 0 0
   ·exact db.bX (D:=[]) ((aM.refl [] H).over (D9 gL)) (fun _ h=>nomatch h)
   ·refine db.bX (D:=[A]) ((aM.refl [A] H).iJ c3 (.inl (by simp))) (fun B hB cs e ro he=>?_)
    rw [List.mem_singleton.1 hB] at he
    rcases e1 with ⟨h0,_⟩|⟨qq,row,_,rV,_⟩
    ·exact absurd h0 gL
    ·have:=rV.get.symm.trans he
     simp only [Option.some.injEq,bh.row.injEq] at this
     rw [← this.2.1]
     decide
  have fL:aM [L,XX,A] H h3:=(aM.refl [L,XX,A] H).iJ c3 (.inl (by simp))
  obtain ⟨xa,xn,xc,rfl⟩:=f3.shape
  clear z D9 qZ
  have z:=z3
  rw [ao h3]
  simp only [syms,aa,seval,c9,dP]
  refine HB (o:=0) Hh zIp rfl rfl (by show 0+1≤1;decide) rfl (fun h4 Hi c4=>?_)
  replace Hi:Holds h4 XX (.row [.slice xa xn xc] 85 false):=Hi
  have z4:=z.cM c4 (by omega) (by omega)
  have f4:=f3.bE c4 wm
  have BZ:=Po.bE c4 (Ne.symm zS)
  have vp:=c4.size
  rw [bm] at vp
  have S6:aM [XX] h3 h4:=(aM.refl [XX] h3).iJ c4 (.inl (by simp))
  have ju:aM [L,XX,A] H h4:=fL.trans S6 (fun B hB=>.inl (by rw [List.mem_singleton.1 hB];simp))
  have BR:db [9,89] H h4:=BQ.trans (db.bX S6 (fun B hB cs e ro he=>by
   rw [List.mem_singleton.1 hB,Hh.get] at he
   simp only [Option.some.injEq,bh.row.injEq] at he
   rw [← he.2.1]
   decide))
  have tH:∀ B∈[L,XX,A3],B∈[L,XX,A]∨H.size≤B:=fun B hB=>by
   simp only [List.mem_cons,List.not_mem_nil,or_false] at hB ⊢
   rcases hB with rfl|rfl|rfl
   ·exact .inl (.inl rfl)
   ·exact .inl (.inr (.inl rfl))
   ·exact zQ.2.imp (fun e=>.inr (.inr e)) id
  have Nt:∀ {v:Value} {l:List ab},Sl aJ.atom (aI [L,XX,A] H) v l→Sl aJ.atom (aI [L,XX,A3] h4) v l:=fun s=>s.mono (ju.inc tH)
  have hj:JA h XX L (eP d who) facts (i+1) h4:=⟨A3,_,_,f4,Hi,by rw [List.length_append,u3];rfl,fun j v m' h1 h2=>by
   rw [List.getElem?_append] at h1
   split at h1
   ·exact Nt (e4 j v m' h1 h2)
   ·have Yh:=(List.getElem?_eq_some_iff.1 h1).1
    simp only [List.length_singleton] at Yh
    have ke:j=i:=by omega
    subst ke
    rw [u3,Nat.sub_self,List.getElem?_cons_zero] at h1
    cases h1
    rw [hm] at h2
    cases h2
    exact Nt jx,wm,FU,zQ.1,Nat.lt_of_lt_of_le (f3.lt (by simp)) (by omega)⟩
  rw [ao h4]
  simp only [syms,aa,seval,c9]
  have fl:aM [] h4 (h4.lay [] h4.low):=aM.lay _ _ _ _
  exact ⟨z4.aw _ _ (by omega),hL ▸ BZ.on _ _,hj.bX (fl.mono (fun _ h=>nomatch h)) zS,BR.trans (db.bX fl (fun _ h=>nomatch h))⟩
 ·obtain ⟨A,lw,lr,e1,e2,e3,e4,e5,e6,e7,e8⟩:=hj
  obtain ⟨la,lb,lc,rfl⟩:=e1.shape
  have rW:Sl aJ.atoms h3 (.slice la lb lc) ((eP d who).map facts):=cJ.Cx e1 (by rw [List.length_map];exact e3) (fun j v l h1 h2=>by
   rw [List.getElem?_map] at h2
   cases h5:(eP d who)[j]? with
   |none=>rw [h5] at h2;cases h2
   |some m =>
    rw [h5] at h2
    cases h2
    exact (e4 j v m h1 h5).mono (rn _ _))
  clear z
  have z:=zz
  have yA:=z.size
  rw [ao h3]
  simp only [syms,aa,seval,c9,e2.lay,dP]
  refine zzx ((eP d who).map facts) _ _ (rW.lay _ _) (by rw [List.length_map];omega) (by omega) o7 _ (fun h' w x ho=>?_)
  replace ho:=ho.down (h0:=h) (by rw [bm];omega)
  (replace z:=z.an x (by omega);rw [ao h'])
  have eR:=bY w
  simp only [syms,aa,seval,c9,eR]
  exact hk _ _ (z.aw _ _ (by omega)) (ho.lay _ _)
theorem zLJ:ae.desc 46=some (.slice 55):=by kernel_rfl
theorem zIo:bJ ae 46=some 1:=by kernel_rfl
theorem zIf:pU ae 46 46=true:=by kernel_rfl
def SM (n:Nat):List Value:=[.int .u64 n]
def JU (h:Heap) (X L:Nat) (ms:List ByteArray) (aA:ByteArray→Nat) (i:Nat) (h2:Heap):Prop :=
 ∃ A lw,cJ 1 SM h2 55 A lw ((ms.take i).map aA)∧Holds h2 X (.row [lw] 46 false)∧A≠X∧A≠L∧h.size≤A∧A < h2.size
theorem JU.bX {h h1 h2:Heap} {X L i:Nat} {ms:List ByteArray} {aA:ByteArray→Nat} (f:JU h X L ms aA i h1) (fr:aM [L] h1 h2) (hX:X≠L):JU h X L ms aA i h2:=by
 obtain ⟨A,lw,e1,e2,e5,e6,e7,e8⟩:=f
 exact ⟨A,lw,e1.bX fr (by simpa using e6),e2.bX fr (by simpa using hX),e5,e6,e7,Nat.lt_of_lt_of_le e8 fr.size⟩
theorem zik (d:au) (who:ByteArray) (p0 p1 p2 p5 p6:Value) (q b:Int) (h:Heap) (bf:(cX p0 p1 p2 p5 p6 q b).all Am.one=true) (hd:dD h p0 p1 p2 p5 p6 d) (nj:d.ah.length≤1000) (ky:d.aF.length≤1000) (fS:vC d.ah d.aF) (kD:∀ c∈d.aF,c.reads.length≤40)
 (X:List Nat) (N bb S0:Nat) (E:List Nat) (dd:au) (qq:Int) (facts:ByteArray→List ab) (aA us:ByteArray→Nat) (B2:gE X N bb h S0 E dd qq facts aA us) (K:Value→Heap→Prop)
 (hk:∀ h' w A,Ext h h'→cJ 1 SM h' 55 A w ((eP d who).map aA)→h.size≤A→K w h'):Ok Tryz.prog ae ov 10 [gi p0 p1 p2 p5 p6 q b,.pointer (some ⟨S0,0,none⟩),.string who] h K:=by
 have pg:=RG (who:=who) kD
 rw [ao h]
 have z:=Ext.refl h
 refine Ok.aH rfl zC9 (br Vf) rfl (m:=21) rfl ?_
 simp only [syms,aa,seval,Fg,ek,↓fm,eX,eG,cZ,cy,zN]
 refine zzs p0 p1 p2 p5 p6 q b who _ _ rfl _ (fun h' X1 X2 X3 x hX1 hX2 hX3 q1 q2 q3=>?_)
 have qX:=Holds.top (i:=1) x rfl
 (replace z:=z.an x (by omega);rw [ao h'])
 obtain ⟨P,hP⟩:∃ P,P=h.size+0:=⟨_,rfl⟩
 obtain ⟨XX,Nd⟩:∃ XX,XX=h.size+1:=⟨_,rfl⟩
 rw [← Nd] at qX
 rw [← Nd]
 have Dy:=qX.lt
 simp only [syms,aa,seval,Fg]
 rw [← ao h']
 obtain ⟨L,hL⟩:∃ L,L=h'.size:=⟨_,rfl⟩
 have zS:XX≠L:=by omega
 have oo:=z.size
 have A9:P < h'.size:=by omega
 refine zqH d who p0 p1 p2 p5 p6 q b X1 X2 X3 _ h z bf (hd.mono z.inc) nj ky fS kD q1 q2 q3 (JU h XX L (eP d who) aA) (fun i h1 h2 hj fr=>hj.bX (by rw [hL];exact fr) zS) ⟨P,.slice none 0 0,by rw [List.take_zero];exact cJ.nil,qX,by omega,by omega,by omega,A9⟩ (fun m v h1 h2=>v=.int .u64 (aA m:Int)) (fun m hh K' zz jW=>?_) (fun i m v g1 g2 hm zz hj fr hR AX=>?_) (fun h3 zz hj=>?_)
 ·rw [uC]
  exact zqC m dd qq facts aA us hh N bb S0 E (B2.bX (zz.bX [])).un K' (fun h2 x=>jW _ h2 x rfl)
 ·subst hR
  rw [ao g2]
  simp only [syms,aa,seval,Fg,bl]
  refine ⟨(Ext.refl _),fun H bk IA zH qL zU=>?_⟩
  rw [← hL] at AX qL IA
  have oR:aM [L] g1 H:=(fr.mono (D':=[L]) (fun _ h=>nomatch h)).trans IA (fun B hB=>.inl hB)
  obtain ⟨A,lw,u1,u2,u5,u6,u7,u8⟩:=hj
  have e1:=u1.bX oR (by simpa using u6)
  have e2:=u2.bX oR (by simpa using zS)
  have r6:A < H.size:=Nat.lt_of_lt_of_le u8 oR.size
  have hLH:=qL.lt
  have iK:=(List.getElem?_eq_some_iff.1 hm).1
  have xo:((eP d who).take i).length=i:=by rw [List.length_take];omega
  obtain ⟨la,lb,lc,rfl⟩:=e1.shape
  clear u1 u2 zz z
  have z:=zH
  have hzH:=z.size
  rw [ao H]
  simp only [syms,aa,seval,Fg,e2.lay,dP,bl,lG,zIf]
  refine cJ.app (k:=1) (cell:=SM) (x:=aA m) (j:=0) (fun _=>rfl) rfl (by decide) zLJ zlC e1 rfl (by rw [List.length_map];omega) (by rw [List.length_map];omega) (fun v3 h3 A3 f3 uZ D9 qZ=>?_)
  have c3:=qZ r6
  have z3:=z.cM c3 u7 (by omega)
  have lC:=c3.size
  rw [bm] at lC
  simp only [List.length_cons,List.length_nil] at lC
  have Hh:=e2.bE c3 (Ne.symm u5)
  have Po:=qL.bE c3 (Ne.symm u6)
  have wm:A3≠XX:=fun e=>by
   rcases f3 with ⟨_,h0⟩|⟨qq,row,_,rV,_⟩
   ·simp at h0
   ·have:=rV.get.symm.trans (e ▸ Hh.get)
    simp only [Option.some.injEq,bh.row.injEq] at this
    exact absurd this.2.1 (by decide)
  have FU:A3≠L:=fun e=>by
   rcases f3 with ⟨_,h0⟩|⟨qq,row,_,rV,_⟩
   ·simp at h0
   ·exact zU _ _ _ (Option.some.inj (Po.get.symm.trans (e ▸ rV.get)))
  have zQ:h.size≤A3:=by
   rcases uZ with ⟨e,_⟩|e
   ·omega
   ·rw [bm] at e
    omega
  have BQ:db [9,94] H h3:=by
   by_cases gL:Value.slice la lb lc=.slice none 0 0
   ·exact db.bX (D:=[]) ((aM.refl [] H).over (D9 gL)) (fun _ h=>nomatch h)
   ·refine db.bX (D:=[A]) ((aM.refl [A] H).iJ c3 (.inl (by simp))) (fun B hB cs e ro he=>?_)
    rw [List.mem_singleton.1 hB] at he
    rcases e1 with ⟨h0,_⟩|⟨qq,row,_,rV,_⟩
    ·exact absurd h0 gL
    ·have:=rV.get.symm.trans he
     simp only [Option.some.injEq,bh.row.injEq] at this
     rw [← this.2.1]
     decide
  obtain ⟨xa,xn,xc,rfl⟩:=f3.shape
  clear z D9 qZ
  have z:=z3
  rw [ao h3]
  simp only [syms,aa,seval,Fg,dP]
  refine HB (o:=0) Hh zIo rfl rfl (by show 0+1≤1;decide) rfl (fun h4 Hi c4=>?_)
  replace Hi:Holds h4 XX (.row [.slice xa xn xc] 46 false):=Hi
  have z4:=z.cM c4 (by omega) (by omega)
  have f4:=f3.bE c4 wm
  have BZ:=Po.bE c4 (Ne.symm zS)
  have vp:=c4.size
  rw [bm] at vp
  have S6:aM [XX] h3 h4:=(aM.refl [XX] h3).iJ c4 (.inl (by simp))
  have BR:db [9,94] H h4:=BQ.trans (db.bX S6 (fun B hB cs e ro he=>by
   rw [List.mem_singleton.1 hB,Hh.get] at he
   simp only [Option.some.injEq,bh.row.injEq] at he
   rw [← he.2.1]
   decide))
  have cP:((eP d who).take (i+1)).map aA=((eP d who).take i).map aA++[aA m]:=by rw [List.take_add_one,hm,List.map_append];rfl
  rw [← cP] at f4
  have hj:JU h XX L (eP d who) aA (i+1) h4:=⟨A3,_,f4,Hi,wm,FU,zQ,Nat.lt_of_lt_of_le (f3.lt (by simp)) (by omega)⟩
  rw [ao h4]
  simp only [syms,aa,seval,Fg]
  have fl:aM [] h4 (h4.lay [] h4.low):=aM.lay _ _ _ _
  exact ⟨z4.aw _ _ (by omega),hL ▸ BZ.on _ _,hj.bX (fl.mono (fun _ h=>nomatch h)) zS,BR.trans (db.bX fl (fun _ h=>nomatch h))⟩
 ·obtain ⟨A,lw,e1,e2,e5,e6,e7,e8⟩:=hj
  obtain ⟨la,lb,lc,rfl⟩:=e1.shape
  rw [List.take_of_length_le (Nat.le_refl _)] at e1
  clear z
  have z:=zz
  have yA:=z.size
  rw [ao h3]
  simp only [syms,aa,seval,Fg,e2.lay,dP]
  exact hk _ _ A (z.aw _ _ (by omega)) (e1.lay _ _) e7
theorem Up (c:Int) (h:Heap) (K:Value→Heap→Prop) (h1:(97≤c∧c≤122)→K (.bool true) h) (h2:¬ (97≤c∧c≤122)→K (.bool false) h):Ok Tryz.prog ae ov 190 [.int .u8 c] h K:=by
 refine Ok.aH rfl zxC (br Lu) rfl (m:=8) rfl ?_
 simp only [syms,aa,seval,My]
 repeat' (refine bt (fun c=>?_) (fun c=>?_) <;> simp only [syms,aa,seval,My])
 all_goals first|exact h1 (by omega)|exact h2 (by omega)
theorem zrH (c:Int) (h:Heap) (K:Value→Heap→Prop) (h1:(65≤c∧c≤90)→K (.bool true) h) (h2:¬ (65≤c∧c≤90)→K (.bool false) h):Ok Tryz.prog ae ov 226 [.int .u8 c] h K:=by
 refine Ok.aH rfl zxS (br LL) rfl (m:=8) rfl ?_
 simp only [syms,aa,seval,MC]
 repeat' (refine bt (fun c=>?_) (fun c=>?_) <;> simp only [syms,aa,seval,MC])
 all_goals first|exact h1 (by omega)|exact h2 (by omega)
theorem zrF (c:Int) (h:Heap) (K:Value→Heap→Prop) (h1:(48≤c∧c≤57)→K (.bool true) h) (h2:¬ (48≤c∧c≤57)→K (.bool false) h):Ok Tryz.prog ae ov 224 [.int .u8 c] h K:=by
 refine Ok.aH rfl zxQ (br LJ) rfl (m:=8) rfl ?_
 simp only [syms,aa,seval,MB]
 repeat' (refine bt (fun c=>?_) (fun c=>?_) <;> simp only [syms,aa,seval,MB])
 all_goals first|exact h1 (by omega)|exact h2 (by omega)
theorem Rl (s:ByteArray) (h:Heap) (K:Value→Heap→Prop) (h1:J6 s→∀ h',Ext h h'→K (.bool true) h') (h2:∀ h',Ext h h'→K (.bool false) h'):Ok Tryz.prog ae ov 212 [.string s] h K:=by
 rw [ao h]
 have z:=Ext.refl h
 refine Ok.aH rfl zxK (br LC) rfl (m:=40) rfl ?_
 simp only [syms,aa,seval,nC]
 refine bt (fun c=>?_) (fun c1=>?_)
 ·simp only [syms,aa,seval,nC]
  exact h2 _ (z.aw _ _ (by omega))
 simp only [syms,aa,seval,nC]
 refine bt (fun c=>?_) (fun c2=>?_)
 ·simp only [syms,aa,seval,nC]
  exact h2 _ (z.aw _ _ (by omega))
 simp only [syms,aa,seval,nC]
 refine Hy Tryz.underlying9 rfl rfl (by omega) (by omega) ?_
 simp only [syms,aa,seval,nC]
 refine nX (fun c=>?_) (fun c=>?_)
 ·simp only [syms,aa,seval,nC]
  exact h2 _ (z.aw _ _ (by omega))
 repeat' (simp only [syms,aa,seval,nC])
 obtain ⟨I1,aS⟩:∃ I:Nat→Env→Heap→Prop,I=(fun n e h'=>∃ (i:Nat) (h1:Heap),h'=h1.lay [] h1.low∧Ext h h1∧(n=s.size - i∧i≤s.size∧∀ j,j < i→pW (lu s j))∧∃ J:Nat→Value,e=(.string s::jr J 1 2 (.int .i64 i::jr J 4 37 ([])))):=⟨_,rfl⟩
 refine dj I1 _ (by rw [aS];exact ⟨0,_,rfl,z,⟨rfl,by omega,fun j hj=>by omega⟩,aE (by kernel_rfl)⟩) ?_
 intro n e h' aL
 rw [aS] at aL
 obtain ⟨i,bH,rfl,z,hinv,J,rfl⟩:=aL
 obtain ⟨rfl,hi,aB⟩:=hinv
 have hw:=eb i (by omega)
 simp only [syms,aa,seval,nC,hw]
 repeat' ((first|((with_reducible first|apply bt|apply iS) <;> intro _)|with_reducible_and_instances refine Up _ _ _ (fun _=>?_) (fun _=>?_)|with_reducible_and_instances refine zrF _ _ _ (fun _=>?_) (fun _=>?_)|((with_reducible_and_instances apply Hy);(· exact Tryz.underlying9);(· rfl);(· rfl);(· omega);(· omega))|((with_reducible_and_instances apply b8);(· rfl))) <;> simp only [syms,aa,seval,nC,hw])
 all_goals first
  |with_reducible exact h2 _ (z.aw _ _ (by omega))
  |(with_reducible refine h1 ?_ _ (z.aw _ _ (by omega))
    exact ⟨by omega,fun j hj=>aB j (by omega)⟩)
  |(have w9:∀ j,j < i+1→pW (lu s j):=by
     intro j hj
     by_cases ke:j < i
     ·exact aB j ke
     ·have:j=i:=by omega
      subst this
      unfold pW
      omega
    (rw [aS];with_reducible refine cB (m:=_) ?_ ⟨i+1,_,rfl,z,⟨rfl,by omega,w9⟩,aE (by kernel_rfl)⟩;omega))
theorem WT (s:ByteArray) (h:Heap) (K:Value→Heap→Prop) (h1:r5 s→∀ h',Ext h h'→K (.bool true) h') (h2:∀ h',Ext h h'→K (.bool false) h'):Ok Tryz.prog ae ov 214 [.string s] h K:=by
 rw [ao h]
 have z:=Ext.refl h
 refine Ok.aH rfl zxM (br LF) rfl (m:=48) rfl ?_
 simp only [syms,aa,seval,nD]
 refine bt (fun c=>?_) (fun c1=>?_)
 ·simp only [syms,aa,seval,nD]
  exact h2 _ (z.aw _ _ (by omega))
 simp only [syms,aa,seval,nD]
 refine bt (fun c=>?_) (fun c2=>?_)
 ·simp only [syms,aa,seval,nD]
  exact h2 _ (z.aw _ _ (by omega))
 simp only [syms,aa,seval,nD]
 refine Hy Tryz.underlying9 rfl rfl (by omega) (by omega) ?_
 simp only [syms,aa,seval,nD]
 refine zrH _ _ _ (fun cg=>?_) (fun cg=>?_)
 rotate_left
 ·repeat' (first|simp only [syms,aa,seval,nD]|((with_reducible_and_instances apply b8);(· rfl)))
  exact h2 _ (z.aw _ _ (by omega))
 repeat' (first|simp only [syms,aa,seval,nD]|((with_reducible_and_instances apply b8);(· rfl)))
 obtain ⟨I1,aS⟩:∃ I:Nat→Env→Heap→Prop,I=(fun n e h'=>∃ (i:Nat) (h1:Heap),h'=h1.lay [] h1.low∧Ext h h1∧(n=s.size - i∧i≤s.size∧∀ j,j < i→kJ (lu s j))∧∃ J:Nat→Value,e=(.string s::jr J 1 2 (.int .i64 i::jr J 4 45 ([])))):=⟨_,rfl⟩
 refine dj I1 _ (by rw [aS];exact ⟨0,_,rfl,z,⟨rfl,by omega,fun j hj=>by omega⟩,aE (by kernel_rfl)⟩) ?_
 intro n e h' aL
 rw [aS] at aL
 obtain ⟨i,bH,rfl,z,hinv,J,rfl⟩:=aL
 obtain ⟨rfl,hi,aB⟩:=hinv
 have hw:=eb i (by omega)
 simp only [syms,aa,seval,nD,hw]
 repeat' ((first|((with_reducible first|apply bt|apply iS) <;> intro _)|with_reducible_and_instances refine Up _ _ _ (fun _=>?_) (fun _=>?_)|with_reducible_and_instances refine zrF _ _ _ (fun _=>?_) (fun _=>?_)|with_reducible_and_instances refine zrH _ _ _ (fun _=>?_) (fun _=>?_)|((with_reducible_and_instances apply Hy);(· exact Tryz.underlying9);(· rfl);(· rfl);(· omega);(· omega))|((with_reducible_and_instances apply b8);(· rfl))) <;> simp only [syms,aa,seval,nD,hw])
 all_goals first
  |with_reducible exact h2 _ (z.aw _ _ (by omega))
  |(with_reducible refine h1 ?_ _ (z.aw _ _ (by omega))
    exact ⟨by omega,by simpa using cg,fun j hj=>aB j (by omega)⟩)
  |(have w9:∀ j,j < i+1→kJ (lu s j):=by
     intro j hj
     by_cases ke:j < i
     ·exact aB j ke
     ·have:j=i:=by omega
      subst this
      unfold kJ
      omega
    (rw [aS];with_reducible refine cB (m:=_) ?_ ⟨i+1,_,rfl,z,⟨rfl,by omega,w9⟩,aE (by kernel_rfl)⟩;omega))
theorem JC (s:ByteArray) (h:Heap) (K:Value→Heap→Prop) (hk:∀ b h',Ext h h'→K (.bool b) h'):Ok Tryz.prog ae ov 213 [.string s] h K:=by
 rw [ao h]
 have z:=Ext.refl h
 refine Ok.aH rfl zxL (br LD) rfl (m:=17) rfl ?_
 simp only [syms,aa,seval,Fo,Fq]
 refine Ok.aH rfl zxR (br LK) rfl (m:=2) rfl ?_
 simp only [syms,aa,seval,Fo,Fq]
 repeat' ((first|((with_reducible apply bt) <;> intro _)|with_reducible_and_instances refine RN ?_) <;> simp only [syms,aa,seval,Fo,Fq])
 all_goals exact hk _ _ (z.aw _ _ (by omega))
theorem HF (s:ByteArray) (h:Heap) (K:Value→Heap→Prop) (h1:J6 s→∀ h',Ext h h'→K (.bool true) h') (h2:∀ h',Ext h h'→K (.bool false) h'):Ok Tryz.prog ae ov 189 [.string s] h K:=by
 rw [ao h]
 have z:=Ext.refl h
 refine Ok.aH rfl zxB (br Lt) rfl (m:=9) rfl ?_
 simp only [syms,aa,seval,vW]
 refine Rl _ _ _ (fun hs h' x=>?_) (fun h' x=>?_)
 ·(replace z:=z.an x (by omega);rw [ao h'])
  simp only [syms,aa,seval,vW]
  refine JC _ _ _ (fun b h' x=>?_)
  (replace z:=z.an x (by omega);rw [ao h'])
  cases b
  all_goals
   repeat' (first|simp only [syms,aa,seval,vW]|((with_reducible_and_instances apply b8);(· rfl)))
   first
    |with_reducible exact h1 hs _ (z.aw _ _ (by omega))
    |with_reducible exact h2 _ (z.aw _ _ (by omega))
 ·(replace z:=z.an x (by omega);rw [ao h'])
  simp only [syms,aa,seval,vW]
  exact h2 _ (z.aw _ _ (by omega))
theorem eN (s:ByteArray) (h:Heap) (K:Value→Heap→Prop) (h1:J6 s→∀ h',Ext h h'→K (.bool true) h') (h2:∀ h',Ext h h'→K (.bool false) h'):Ok Tryz.prog ae ov 150 [.string s] h K:=by
 rw [ao h]
 have z:=Ext.refl h
 refine Ok.aH rfl zxc (br K4) rfl (m:=9) rfl ?_
 simp only [syms,aa,seval,tD]
 refine HF _ _ _ (fun hs h' x=>?_) (fun h' x=>?_)
 ·(replace z:=z.an x (by omega);rw [ao h'])
  have:=hs.1
  simp only [syms,aa,seval,tD]
  repeat' ((first|with_reducible_and_instances refine Up _ _ _ (fun _=>?_) (fun _=>?_)|((with_reducible_and_instances apply Hy);(· exact Tryz.underlying9);(· rfl);(· rfl);(· omega);(· omega))) <;> simp only [syms,aa,seval,tD])
  all_goals first
   |with_reducible exact h1 hs _ (z.aw _ _ (by omega))
   |with_reducible exact h2 _ (z.aw _ _ (by omega))
 ·(replace z:=z.an x (by omega);rw [ao h'])
  simp only [syms,aa,seval,tD]
  exact h2 _ (z.aw _ _ (by omega))
theorem s8 (s:ByteArray) (h:Heap) (K:Value→Heap→Prop) (h1:J6 s→∀ h',Ext h h'→K (.bool true) h') (h2:∀ h',Ext h h'→K (.bool false) h'):Ok Tryz.prog ae ov 151 [.string s] h K:=by
 rw [ao h]
 have z:=Ext.refl h
 refine Ok.aH rfl zxd (br K5) rfl (m:=4) rfl ?_
 simp only [syms,aa,seval,Fi]
 refine eN _ _ _ (fun hs h' x=>?_) (fun h' x=>?_)
 all_goals
  (replace z:=z.an x (by omega);rw [ao h'])
  simp only [syms,aa,seval,Fi]
  first
   |with_reducible exact h1 hs _ (z.aw _ _ (by omega))
   |with_reducible exact h2 _ (z.aw _ _ (by omega))
end Go.Proofs.YtkgojconmeeegaaGreatDoor

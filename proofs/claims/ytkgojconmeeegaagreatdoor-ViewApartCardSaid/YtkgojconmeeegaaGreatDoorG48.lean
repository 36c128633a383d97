/- What a view has: its facts are those of its members, as many as they have together, and a call of one principal turns its own alone. No condition. -/
import Derived.Test.YtkgojconmeeegaaGreatDoorG46
import Derived.Test.YtkgojconmeeegaaGreatDoorZV6
set_option linter.unusedSimpArgs false
set_option linter.unusedVariables false
namespace Go.Am

def SC (l:List ab):Prop:=l.Pairwise (fun x y=>cI x≠cI y)
theorem dR.diff {s:List ab} (h:dR s):SC s:=h.imp fun h e=>by rw [bT.2 e] at h;exact absurd h (by decide)
theorem zis:∀ (m:List ab) {l:List ab},SC (l++m)→(eg (l++m)).length=(eg l).length+m.length
 | [],l,_=>by rw [List.append_nil,List.length_nil,Nat.add_zero]
 |a::m,l,h=>by
  have e:l++a::m=(l++[a])++m:=by rw [List.append_assoc];rfl
  rw [e] at h ⊢
  rw [zis m h]
  have hd:SC (l++[a]):=(List.pairwise_append.1 h).1
  have hh:bC (eg l) a=false:=by
   cases hc:bC (eg l) a
   ·rfl
   ·obtain ⟨x,hx,ex⟩:=cR.1 hc
    exact absurd ex ((List.pairwise_append.1 hd).2.2 x ((ri l).mem hx) a (List.mem_singleton.2 rfl))
  rw [zlw,(JZ hh).length_eq,List.length_cons,List.length_cons]
  omega
theorem zoW {l:List ab} (h:SC l):(eg l).length=l.length:=by
 have:=zis l (l:=[]) h
 rw [List.nil_append] at this
 rw [this]
 exact Nat.zero_add _
section
variable {d:au} {k:Nat} {facts:ByteArray→List ab} {aA us:ByteArray→Nat}
theorem cQ.diff (i:cQ d k facts aA us):∀ {m:List ByteArray},m.Nodup→SC (m.map facts).flatten
 | [],_=>List.Pairwise.nil
 |w::r,hn=>by
  rw [List.nodup_cons] at hn
  rw [List.map_cons,List.flatten_cons]
  refine List.pairwise_append.2 ⟨(i.iI w).diff,i.diff hn.2,fun x hx y hy e=>?_⟩
  obtain ⟨l,hl,YQ⟩:=List.mem_flatten.1 hy
  obtain ⟨w2,re,rfl⟩:=List.mem_map.1 hl
  have cW:=Uv (Ki (i.ok w x hx)) (Ki (i.ok w2 y YQ)) e
  have h1:=(Es (i.ok w x hx)).2.2.2
  have h2:=(Es (i.ok w2 y YQ)).2.2.2
  rw [cW] at h1
  have:w=w2:=by rw [← h1,← h2]
  rw [this] at hn
  exact hn.1 re
theorem cQ.s7 (i:cQ d k facts aA us) {m:List ByteArray} (hn:m.Nodup):(eg (m.map facts).flatten).length=(m.map fun w=>(facts w).length).sum:=by
 rw [zoW (i.diff hn),List.length_flatten,List.map_map]
 rfl
end
theorem zr1 {f:ByteArray→Nat} {s:ByteArray} {n:Nat}:∀ {m:List ByteArray},m.Nodup→s∈m→(m.map fun w=>if w=s then n else f w).sum+f s=(m.map f).sum+n
 | [],_,h=>by cases h
 |w::r,hn,h=>by
  rw [List.nodup_cons] at hn
  rw [List.map_cons,List.map_cons,List.sum_cons,List.sum_cons]
  by_cases hw:w=s
  ·subst hw
   have hr:(r.map fun x=>if x=w then n else f x)=r.map f:=List.map_congr_left fun x hx=>by rw [if_neg (fun e=>by rw [e] at hx;exact hn.1 hx)]
   rw [if_pos rfl,hr]
   omega
  ·have ih:=zr1 (f:=f) (n:=n) hn.2 ((List.mem_cons.1 h).resolve_left (fun e=>hw e.symm))
   rw [if_neg hw]
   omega
theorem zrD {α:Type} {f:ByteArray→α} {s:ByteArray} {n:α} {m:List ByteArray} (h:s ∉ m):(m.map fun w=>if w=s then n else f w)=m.map f:=List.map_congr_left fun x hx=>by rw [if_neg (fun e=>by rw [e] at hx;exact h hx)]
theorem zqn {α:Type} {f:ByteArray→α} {s:ByteArray} {n:α} {m:List ByteArray} (h:s∈m) (hn:n≠f s):(m.map fun w=>if w=s then n else f w)≠m.map f:=fun e=>by
 have:=List.map_inj_left.1 e s h
 rw [if_pos rfl] at this
 exact hn this
theorem cQ.xN {d:au} {k k2:Nat} {facts:ByteArray→List ab} {aA us v2 u2:ByteArray→Nat} {s:ByteArray} {l:List ab} {m:List ByteArray} (i:cQ d k facts aA us) (i2:cQ d k2 (oD facts s (some l)) v2 u2) (hn:m.Nodup) (hs:s∈m):(eg (m.map (oD facts s (some l))).flatten).length+(facts s).length=(eg (m.map facts).flatten).length+l.length:=by
 rw [i.s7 hn,i2.s7 hn]
 have e:(m.map fun w=>(oD facts s (some l) w).length)=m.map fun w=>if w=s then l.length else (facts w).length:=List.map_congr_left fun w _=>by
  unfold oD
  by_cases hw:w=s
  ·rw [if_pos hw,if_pos hw];rfl
  ·rw [if_neg hw,if_neg hw]
 rw [e]
 exact zr1 (f:=fun w=>(facts w).length) hn hs
theorem zyo {facts:ByteArray→List ab} {s:ByteArray} {o:Option (List ab)} {m:List ByteArray} (h:s ∉ m):m.map (oD facts s o)=m.map facts:=zrD h
theorem ztL {aA:ByteArray→Nat} {s:ByteArray} {o:Option (List ab)} {m:List ByteArray} (h:s ∉ m):m.map (pG aA s o)=m.map aA:=zrD h
theorem ztM {aA:ByteArray→Nat} {s:ByteArray} {l:List ab} {m:List ByteArray} (h:s∈m):m.map (pG aA s (some l))≠m.map aA:=zqn h (by rw [Option.isSome_some,if_pos rfl];omega)
theorem zFH {s:List ab} {a:ab} (hs:dR s) (h:bC s a=true):s.length=(eW a s).length+1:=by
 obtain ⟨x,_,_,hp⟩:=Uh hs h
 exact hp.length_eq
end Go.Am
namespace Go.Am
theorem T4 {α β:Type} [DecidableEq β] {f:List α→α→Int} {l:List α} (h:eO f [] l=0) {i:Nat} {x:α} (hx:l[i]? = some x):f (l.take i) x=0:=by
 have:=im.1 h i x hx
 rwa [List.nil_append] at this
theorem zrU {ps:List ByteArray} {c:aZ} (h:ny ps c=0):c.reads.Nodup∧c.reads.length≤16∧∀ x∈c.reads,x∈ps∧x≠c.who:=by
 unfold ny at h
 split at h
 ·cases h
 ·rename_i hl
  refine ⟨List.pairwise_iff_getElem.2 fun i j hi hj di e=>?_,by omega,fun x hx=>?_⟩
  ·have h2:=T4 (β:=ByteArray) h (i:=j) (List.getElem?_eq_getElem hj)
   have h3:=(yZ (by decide)).1 (bU.1 h2 (bd (ba (c.reads.take j) c.reads[j]) 5) (by simp))
   have h4:ba (c.reads.take j) c.reads[j]=true:=cp.2 (by
    rw [← e]
    refine List.mem_of_getElem? (i:=i) ?_
    rw [List.getElem?_take,if_pos di,List.getElem?_eq_getElem hi])
   rw [h3] at h4
   cases h4
  ·obtain ⟨j,hj⟩:=List.mem_iff_getElem?.1 hx
   have h2:=T4 (β:=ByteArray) h hj
   have h3:=(yZ (by decide)).1 (bU.1 h2 (bd (!ba ps x) 6) (by simp))
   have h4:=(yZ (by decide)).1 (bU.1 h2 (bd (decide (x=c.who)) 11) (by simp))
   exact ⟨cp.1 (by simpa using h3),by simpa using h4⟩
theorem zuI {ps:List ByteArray} {l:List aZ} (h:td ps l=0):vC ps l∧∀ c∈l,c.reads.length≤16:=by
 unfold td at h
 have hc:∀ {i:Nat} {c:aZ},l[i]? = some c→c.who∈ps∧¬ c.who∈(l.take i).map aZ.who∧ny ps c=0:=fun {i c} hi=>by
  have h2:=bU.1 (T4 (β:=ByteArray) h hi)
  have h3:=(yZ (by decide)).1 (h2 (bd (!ba ps c.who) 6) (by simp))
  have h4:=(yZ (by decide)).1 (h2 (bd (ba ((l.take i).map aZ.who) c.who) 5) (by simp))
  exact ⟨cp.1 (by simpa using h3),fun hm=>absurd ((cp.2 hm).symm.trans h4) (by decide),h2 (ny ps c) (by simp)⟩
 have aR:∀ (i k:Nat) (c e:aZ),l[i]? = some c→l[k]? = some e→c.who=e.who→¬ i < k:=fun i k c e hi hk hw aR=>by
  refine (hc hk).2.1 (List.mem_map.2 ⟨c,List.mem_of_getElem? (i:=i) ?_,hw⟩)
  rw [List.getElem?_take,if_pos aR,hi]
 refine ⟨⟨fun i k c e hi hk hw=>?_,fun c hm=>?_⟩,fun c hm=>?_⟩
 ·have h1:=aR i k c e hi hk hw
  have h2:=aR k i e c hk hi hw.symm
  omega
 ·obtain ⟨i,hi⟩:=List.mem_iff_getElem?.1 hm
  obtain ⟨h1,_,h3⟩:=hc hi
  obtain ⟨h4,_,h5⟩:=zrU h3
  exact ⟨h1,h4,h5⟩
 ·obtain ⟨i,hi⟩:=List.mem_iff_getElem?.1 hm
  exact (zrU (hc hi).2.2).2.1
open Classical in
theorem zzd {k1 k2:List ByteArray} (n1:k1.Nodup) (n2:k2.Nodup) (h:∀ t∈k1,t∈k2):k1.length≤k2.length:=by
 have hp:(k2.filter fun t=>decide (t∈k1)).Perm k1:=(List.perm_ext_iff_of_nodup (n2.sublist List.filter_sublist) n1).2 fun t=>by
  rw [List.mem_filter]
  simp only [decide_eq_true_eq]
  exact ⟨fun x=>x.2,fun x=>⟨h t x,x⟩⟩
 rw [← hp.length_eq]
 exact List.length_filter_le _ _
theorem zh4 {d:au} (h:lY d=0):vC d.ah d.aF:=by
 unfold lY at h
 exact (zuI (bU.1 h (td d.ah d.aF) (by simp))).1
theorem zsW {d:au} {who:ByteArray} (h:lY d=0) (hw:who∈d.ah):(uG d who).Nodup∧(uG d who).length≤16:=by
 have fS:=zh4 h
 obtain ⟨fU,kR⟩:=WN h
 have hn:=FF (who:=who) fS
 refine ⟨hn,Nat.le_trans ?_ kR⟩
 have hs:∀ x∈uG d who,x∈d.ah:=fun x hx=>by
  rcases pn.1 hx with rfl|hx
  ·exact hw
  ·exact ((zoJ fS).2 x hx).1
 exact zzd hn fU hs
end Go.Am
namespace Go.Proofs.YtkgojconmeeegaaGreatDoor
open Go.Am
set_option maxRecDepth 100000
set_option maxHeartbeats 0
theorem ztG {c:fH} {h:Heap} {w:Nat}:Sl aJ.act (h.lay [.row c.cells 36 false] w) (.slice (some ⟨h.size+0,0,none⟩) 1 1) [c] :=
 .inr ⟨h.size+0,0,1,c.cells,36,false,rfl,(by decide:1≤maxLen),.inl ⟨by unfold G;omega,Nat.le_refl _⟩,by rw [bm];simp,by rw [iR];rfl,fun i x hx=>by
  cases i with
  |zero=>simp at hx;subst hx;exact ⟨c.cells,rfl,rfl⟩
  |succ i=>simp at hx⟩
theorem zzg {d:au} {k:Nat} {q:Int} {facts:ByteArray→List ab} {aA us:ByteArray→Nat} {a:fH} {m:List ab} (i:cQ d k facts aA us) (h:rZ d q a (facts a.s)=some m):m.length=(facts a.s).length+1∨(facts a.s).length=m.length+1:=by
 unfold rZ at h
 split at h
 ·obtain ⟨_,hh,rfl,_⟩:=zGs h
  exact .inl (zrT hh)
 ·obtain ⟨_,hh,rfl⟩:=zGt h
  exact .inr (zFH (i.iI _) hh)
theorem zyU (a:fH) (z0 z1 z2 z3 z4 z5 z6 z7 z8 z9 xP Q9 z12:Value):mb (fun i=>some (i*13,13)) [z0,z1,z2,z3,z4,z5,z6,z7,z8,z9,xP,Q9,z12] [(0,.agg ⟨a.cells⟩)]=some a.cells:=rfl
theorem zjo (c:fH):cut c.cells 0 13=some c.cells:=rfl
theorem zEZ (c:fH):Value.agg c.cells.toArray=.agg ⟨c.cells⟩:=rfl
theorem zrm (c:fH):cut c.cells 2 11=some c.a.cells:=rfl
theorem zoy (d0:au) (l:List fH) (a:fH) (who:ByteArray) (v lv:Value) (h:Heap) (cF:bj 1 h) (hx:LV h v d0) (hl:Sl aJ.act h lv l) (K:Value→Heap→Prop)
 (hk:∀ h',Ext h h'→K (.bool true) h'):Ok Tryz.prog ae ov 3 [v,lv,.agg ⟨a.cells⟩,.string who] h K:=by
 obtain ⟨p0,p1,p2,p5,p6,q,b,rfl,DF⟩:=hx
 obtain ⟨d,hd,hq,hb⟩:∃ d:au,dD h p0 p1 p2 p5 p6 d∧d.dB=q∧d.cG=b:=⟨{ d0 with dB:=q,cG:=b },⟨DF.s0,DF.s1,DF.s2,DF.s5,DF.s6⟩,rfl,rfl⟩
 clear DF
 have bf:=hd.one q b
 rw [ao h]
 have z:=Ext.refl h
 have pg:=bY lv
 refine Ok.aH rfl zGR (br N3) rfl (m:=126) rfl ?_
 simp only [syms,aa,seval,c3,ek,zni,cZ,pg]
 refine Ok.over (g:=Kv 1) rfl (zEd (cF.lay _ _)) ?_
 repeat' (first|simp only [syms,aa,seval,c3,Bool.not_true,ek,↓fm,eX,eG,pg]|((with_reducible_and_instances apply b8);(· rfl)))
 refine zjK d _ _ _ _ _ _ _ _ (hd.lay _ _) _ (fun b0 b1 b2 b3 b4 b5 b6 b7 h' x=>?_) (fun h' x=>?_)
 rotate_left
 ·(replace z:=z.an x (by omega);rw [ao h'])
  repeat' (first|simp only [syms,aa,seval,c3,Bool.not_false]|((with_reducible_and_instances apply b8);(· rfl)))
  exact hk _ (z.aw _ _ (by omega))
 have qP:=Holds.top (i:=0) x rfl
 have qA:=Holds.top (i:=1) x rfl
 (replace z:=z.an x (by omega);rw [ao h'])
 obtain ⟨P0,XT⟩:∃ P0,P0=h.size+0:=⟨_,rfl⟩
 rw [← XT] at qP
 rw [← XT]
 obtain ⟨P1,XU⟩:∃ P1,P1=h.size+1:=⟨_,rfl⟩
 rw [← XU] at qA
 rw [← XU]
 repeat' (first|simp only [syms,aa,seval,c3,Bool.not_true,pg]|((with_reducible_and_instances apply b8);(· rfl)))
 refine zgp l _ _ ((hl.mono z.inc).lay _ _) _ (fun Gt aR h' x=>?_) (fun h' x=>?_)
 rotate_left
 ·(replace z:=z.an x (by omega);( replace qP:=qP.over x );( replace qA:=qA.over x );rw [ao h'])
  repeat' (first|simp only [syms,aa,seval,c3,Bool.not_false]|((with_reducible_and_instances apply b8);(· rfl)))
  exact hk _ (z.aw _ _ (by omega))
 (replace z:=z.an x (by omega);(replace qP:=qP.over x);(replace qA:=qA.over x);rw [ao h'])
 simp only [syms,aa,seval,c3,Bool.not_true]
 (with_reducible_and_instances apply b8);(· rfl)
 repeat' (simp only [syms,aa,seval,c3,Bool.not_true,qA.lay,zni,↓zjo,zEZ,j9,zyU])
 refine zgp [a] _ _ ztG _ (fun _ DL h' x=>?_) (fun h' x=>?_)
 rotate_left
 ·(replace z:=z.an x (by omega);( replace qP:=qP.over x );( replace qA:=qA.over x );rw [ao h'])
  repeat' (first|simp only [syms,aa,seval,c3,Bool.not_false]|((with_reducible_and_instances apply b8);(· rfl)))
  exact hk _ (z.aw _ _ (by omega))
 (replace z:=z.an x (by omega);(replace qP:=qP.over x);(replace qA:=qA.over x);rw [ao h'])
 have IH:=(DL a (by simp)).2
 simp only [syms,aa,seval,c3,Bool.not_true]
 (with_reducible_and_instances apply b8);(· rfl)
 repeat' (first|simp only [syms,aa,seval,c3,Bool.not_true,cZ]|((with_reducible apply bt) <;> intro _))
 ·exact hk _ (z.aw _ _ (by omega))
 simp only [syms,aa,seval,c3,qP.lay,ek,↓fm,eX,eG,pg]
 have Ba:zn d:=⟨by omega,by omega,by omega,fun r hr=>by have:=b5 r hr;omega,by omega,fun g hg=>by have:=b7 g hg;omega⟩
 refine zGw d l _ _ _ _ _ lv q b _ ((cF.ext z).lay _ _) ((hd.mono z.inc).lay _ _) hq hb Ba (by omega) (by omega) (by omega) ((hl.mono z.inc).lay _ _) Gt aR _ (fun h' x=>?_) (fun heq h' S0 S2 E facts aA us x eL inv=>?_)
 ·(replace z:=z.an x (by omega);( replace qP:=qP.over x );( replace qA:=qA.over x );rw [ao h'])
  simp only [syms,aa,seval,c3,gP,cy,gO]
  (with_reducible_and_instances apply b8);(· rfl)
  simp only [syms,aa,seval,c3,Bool.not_false]
  exact hk _ (z.aw _ _ (by omega))
 have fS:=zh4 heq
 obtain ⟨fU,kR⟩:=WN heq
 have ai1:∀ c∈d.aF,c.reads.length≤40:=b3
 have Tb:∀ B∈E,P0 < B∧P1 < B:=fun B hB=>by
  have h1:=(eL.lt.2 B hB).1
  have h2:=qP.lt
  have h3:=qA.lt
  rw [bm] at h1
  omega
 replace eL:=eL.down (N2:=h.size) (by rw [bm];have:=z.size;omega)
 (replace z:=z.an x (by omega);(replace qP:=qP.over x);(replace qA:=qA.over x);rw [ao h'])
 obtain ⟨lf,NX⟩:∃ lf,lf=eg ((eP d who).map facts).flatten:=⟨_,rfl⟩
 have gj:(eP d who).Nodup∧(eP d who).length≤16:=by
  unfold eP
  split
  ·exact zsW heq (fY.1 (by assumption))
  ·exact ⟨List.nodup_nil,Nat.zero_le _⟩
 simp only [syms,aa,seval,c3,gP,cy,gO]
 (with_reducible_and_instances apply b8);(· rfl)
 simp only [syms,aa,seval,c3,Bool.not_true]
 with_reducible first|refine dH (by simp only [c3]) (z.aw _ _ (by omega)) ?_
 simp only [syms,aa,seval,c3,cy,qP.lay,↓fm,eX,eG,cZ]
 refine zij d who _ _ _ _ _ q b _ bf ((hd.mono z.inc).lay _ _) (by omega) (by omega) fS b3 [] _ _ S0 E d q facts aA us (eL.lay _ _) (fun w=>by have:=inv.len w;omega) (fun w x hx=>inv.aT hx) _ (fun h' f x of=>?_)
 rw [← NX] at of
 have hEb:∀ B∈E,B < h'.size:=fun B hB=>Nat.lt_of_lt_of_le ((eL.lt.2 B hB).2) (aM.size ((aM.refl [] _).over x))
 obtain ⟨⟨fa,fc,Gf⟩,fk⟩:=dw.Wn of
 subst Gf
 have fs:lf≠[]→Sl aJ.atom (aI E h') (.slice fa lf.length fc) lf:=fun aP=>fk aP E (fun B hB=>by rw [bm];exact (eL.lt.2 B hB).2)
 clear of fk
 (((with_reducible refine dv ?_ ?_ ?_);(· exact (by (simp only [dx]);have:=z.size;omega));(· exact x));replace z:=z.an x (by omega);(replace qP:=qP.over x);(replace qA:=qA.over x);(replace eL:=eL.over x);rw [ao h'])
 simp only [syms,aa,seval,c3,dP,cy,qP.lay,↓fm,eX,eG,cZ]
 refine zik d who _ _ _ _ _ q b _ bf ((hd.mono z.inc).lay _ _) (by omega) (by omega) fS b3 [] _ _ S0 E d q facts aA us (eL.lay _ _) _ (fun h' v Av x gv hAv=>?_)
 have MZ:∀ B∈E,B≠Av:=fun B hB e=>by
  rw [bm] at hAv
  have:=hEb B hB
  omega
 replace fs:lf≠[]→Sl aJ.atom (aI E h') (.slice fa lf.length fc) lf:=fun aP=>(fs aP).mono ((((aM.refl [] _).over x).mono (D':=E) (fun _ h=>nomatch h)).inc (fun B hB=>.inl hB))
 obtain ⟨va,vn,vc,rfl⟩:=gv.shape
 (((with_reducible refine dv ?_ ?_ ?_);(· exact (by (simp only [dx]);have:=z.size;omega));(· exact x));replace z:=z.an x (by omega);(replace qP:=qP.over x);(replace qA:=qA.over x);(replace eL:=eL.over x);rw [ao h'])
 simp only [syms,aa,seval,c3,dP,cy]
 ((with_reducible refine ⟨z.cN.lay _ _,?_⟩);(intro _ h' zz x _);(simp only [el,List.append_nil] at x);(replace qP:=qP.over x);(replace qA:=qA.over x);(replace eL:=eL.over x);(replace gv:=gv.over x);(replace z:=zz);(clear zz);rw [ao h'])
 replace fs:lf≠[]→Sl aJ.atom (aI E h') (.slice fa lf.length fc) lf:=fun aP=>(fs aP).mono ((((aM.refl [] _).over x).mono (D':=E) (fun _ h=>nomatch h)).inc (fun B hB=>.inl hB))
 simp only [syms,aa,seval,c3,dP,cy,qA.lay,Yv,bl]
 refine zvY a.k 2 _ _ (by decide) ?_
 simp only [syms,aa,seval,c3,bl]
 have hEl:=fun B hB=>(eL.lt.2 B hB).2
 refine bt (fun hp=>?_) (fun hp=>?_)
 focus
  have oc:rZ d q a (facts a.s)=eD d q a.s a.a (facts a.s):=if_pos ((Xs a.k).1 hp)
  simp only [syms,aa,seval,c3,cy,cZ,qA.lay,E9,↓zrm,eh,dC]
  refine zlj d q a.s a.a facts aA us h _ (z.aw _ _ (by omega)) h.size _ l.length S0 E rfl [] (eL.lay _ _) inv fU kR ((cF.ext z).lay _ _) IH (by omega) (by omega) _ (fun h3 E2 lF z2 f2 wx eT inv2=>?_)
  rw [← oc] at eT inv2 ⊢
  have f3:=(aM.lay _ [] _ E).trans f2 (fun B hB=>.inl hB)
  have kh:=qP.bX f3 (fun hm=>by have:=Tb _ hm;omega)
  have kU:=qA.bX f3 (fun hm=>by have:=Tb _ hm;omega)
  have jv:=gv.bX f3 (fun hm=>MZ _ hm rfl)
  have wk:lf≠[]→Sl aJ.atom h3 (.slice fa lf.length fc) lf:=fun aP=>((fs aP).mono (f3.inc (D':=E2) (fun B hB=>(wx B hB).imp id (fun e=>by rw [bm] at e;simpa using e)))).mono (rn _ _)
  clear z eL qP qA gv fs oc hp
  have z:=z2
  rw [ao h3]
  simp only [syms,aa,seval,c3,gP,gO,bl]
 rotate_left
 focus
  have oc:rZ d q a (facts a.s)=fF d a.s a.a (facts a.s):=if_neg (fun e=>hp ((Xs a.k).2 e))
  simp only [syms,aa,seval,c3,cy,cZ,qA.lay,E9,↓zrm,eh,dC]
  refine zjM d q a.s a.a facts aA us h _ (z.aw _ _ (by omega)) h.size _ l.length S0 E rfl [] (eL.lay _ _) inv fU kR ((cF.ext z).lay _ _) IH (by omega) (by omega) _ (fun h3 E2 lF z2 f2 wx eT inv2=>?_)
  rw [← oc] at eT inv2 ⊢
  have f3:=(aM.lay _ [] _ E).trans f2 (fun B hB=>.inl hB)
  have kh:=qP.bX f3 (fun hm=>by have:=Tb _ hm;omega)
  have kU:=qA.bX f3 (fun hm=>by have:=Tb _ hm;omega)
  have jv:=gv.bX f3 (fun hm=>MZ _ hm rfl)
  have wk:lf≠[]→Sl aJ.atom h3 (.slice fa lf.length fc) lf:=fun aP=>((fs aP).mono (f3.inc (D':=E2) (fun B hB=>(wx B hB).imp id (fun e=>by rw [bm] at e;simpa using e)))).mono (rn _ _)
  clear z eL qP qA gv fs oc hp
  have z:=z2
  rw [ao h3]
  simp only [syms,aa,seval,c3,gP,gO,bl]
 rotate_left
 all_goals
  obtain ⟨lx,oc⟩:∃ lx,lx=rZ d q a (facts a.s):=⟨_,rfl⟩
  rw [← oc] at eT inv2
  try rw [← oc]
  have ar6:=inv2.len
  have ar3:lf.length≤640:=by
   rw [NX,zoW (inv.diff gj.1)]
   have:=Uw (n:=40) (ls:=(eP d who).map facts) (fun l hl=>by obtain ⟨w,_,rfl⟩:=List.mem_map.1 hl;exact Nat.le_trans (inv.len w) Gt)
   rw [List.length_map] at this
   omega
  obtain ⟨lg,vl⟩:∃ lg,lg=eg ((eP d who).map (oD facts a.s lx)).flatten:=⟨_,rfl⟩
  rcases lx with _|m
  all_goals
   simp only [syms,aa,seval,c3,Option.isSome_none,Option.isSome_some]
   with_reducible first|refine dH (by simp only [c3]) (z.aw _ _ (by omega)) ?_
   simp only [syms,aa,seval,c3,cy,kh.lay,↓fm,eX,eG,cZ]
   refine zij d who _ _ _ _ _ q b _ bf ((hd.mono z.inc).lay _ _) (by omega) (by omega) fS b3 [] _ _ S0 E2 d q _ _ lF (eT.lay _ _) (fun w=>by have:=inv2.len w;omega) (fun w x hx=>inv2.aT hx) _ (fun h' g x og=>?_)
   rw [← vl] at og
   obtain ⟨⟨ga,gc,kQ⟩,gk⟩:=dw.Wn og
   subst kQ
   have gs:lg≠[]→Sl aJ.atom h' (.slice ga lg.length gc) lg:=fun aP=>gk aP [] (fun _ h=>nomatch h)
   replace wk:lf≠[]→Sl aJ.atom h' (.slice fa lf.length fc) lf:=fun aP=>(wk aP).mono x.inc.gg
   clear og gk
   (((with_reducible refine dv ?_ ?_ ?_);(· exact (by (simp only [dx]);have:=z.size;omega));(· exact x));replace z:=z.an x (by omega);(replace eT:=eT.over x);(replace kh:=kh.over x);(replace kU:=kU.over x);(replace jv:=jv.over x);rw [ao h'])
   simp only [syms,aa,seval,c3,dP,cy,kh.lay,↓fm,eX,eG,cZ]
   refine zik d who _ _ _ _ _ q b _ bf ((hd.mono z.inc).lay _ _) (by omega) (by omega) fS b3 [] _ _ S0 E2 d q _ _ lF (eT.lay _ _) _ (fun h' w Aw x gw hAw=>?_)
   replace wk:lf≠[]→Sl aJ.atom h' (.slice fa lf.length fc) lf:=fun aP=>(wk aP).mono x.inc.gg
   replace gs:lg≠[]→Sl aJ.atom h' (.slice ga lg.length gc) lg:=fun aP=>(gs aP).mono x.inc.gg
   obtain ⟨wa,wn,wc,rfl⟩:=gw.shape
   (((with_reducible refine dv ?_ ?_ ?_);(· exact (by (simp only [dx]);have:=z.size;omega));(· exact x));replace z:=z.an x (by omega);(replace eT:=eT.over x);(replace kh:=kh.over x);(replace kU:=kU.over x);(replace jv:=jv.over x);rw [ao h'])
   simp only [syms,aa,seval,c3,dP,cy]
   ((with_reducible refine ⟨z.cN.lay _ _,?_⟩);(intro _ h' zz x _);(simp only [el,List.append_nil] at x);(replace eT:=eT.over x);(replace kh:=kh.over x);(replace kU:=kU.over x);(replace jv:=jv.over x);(replace gw:=gw.over x);(replace z:=zz);(clear zz);rw [ao h'])
   replace wk:lf≠[]→Sl aJ.atom h' (.slice fa lf.length fc) lf:=fun aP=>(wk aP).mono x.inc.gg
   replace gs:lg≠[]→Sl aJ.atom h' (.slice ga lg.length gc) lg:=fun aP=>(gs aP).mono x.inc.gg
   have cz:=fun (hh:Heap)=>jv.bc Kq hh
   have qv:=fun (hh:Heap)=>gw.bc Kq hh
  ·have o7:lf=lg:=by rw [NX,vl,y6]
   have dA:(eP d who).map aA=(eP d who).map (pG aA a.s none):=by rw [y7]
   simp only [syms,aa,seval,c3,Option.isSome_none]
   (with_reducible_and_instances apply b8);(· rfl)
   simp only [syms,aa,seval,c3,Bool.not_false,dP]
   by_cases gL:lf=[]
   ·have h0:lf.length=0:=by rw [gL];rfl
    have h1:lg.length=0:=by rw [← o7];exact h0
    rw [h0,h1]
    refine zln _ _ _ _ _ _ (fun h' x=>?_)
    (replace z:=z.an x (by omega);(replace eT:=eT.over x);(replace kh:=kh.over x);(replace kU:=kU.over x);(replace jv:=jv.over x);(replace gw:=gw.over x);rw [ao h'])
    simp only [syms,aa,seval,c3,dP,bl]
    refine RT _ _ _ _ _ _ _ _ _ (jv.lay _ _) (gw.lay _ _) (by rw [List.length_map];omega) _ (fun h' x=>?_)
    rw [decide_eq_true dA]
    (replace z:=z.an x (by omega);(replace eT:=eT.over x);(replace kh:=kh.over x);(replace kU:=kU.over x);(replace jv:=jv.over x);(replace gw:=gw.over x);rw [ao h'])
    simp only [syms,aa,seval,c3]
    exact hk _ (z.aw _ _ (by omega))
   ·refine zii _ _ _ _ _ ((wk gL).lay _ _) ((gs (by rw [← o7];exact gL)).lay _ _) (by omega) (by rw [← o7];omega) _ (fun h' x=>?_)
    rw [decide_eq_true o7]
    (replace z:=z.an x (by omega);(replace eT:=eT.over x);(replace kh:=kh.over x);(replace kU:=kU.over x);(replace jv:=jv.over x);(replace gw:=gw.over x);rw [ao h'])
    simp only [syms,aa,seval,c3,dP,bl]
    refine RT _ _ _ _ _ _ _ _ _ (jv.lay _ _) (gw.lay _ _) (by rw [List.length_map];omega) _ (fun h' x=>?_)
    rw [decide_eq_true dA]
    (replace z:=z.an x (by omega);(replace eT:=eT.over x);(replace kh:=kh.over x);(replace kU:=kU.over x);(replace jv:=jv.over x);(replace gw:=gw.over x);rw [ao h'])
    simp only [syms,aa,seval,c3]
    exact hk _ (z.aw _ _ (by omega))
  ·simp only [syms,aa,seval,c3,Option.isSome_some]
   (with_reducible_and_instances apply b8);(· rfl)
   simp only [syms,aa,seval,c3,Bool.not_true,cy,kh.lay,↓fm,eX,eG,cZ,kU.lay,E9]
   refine zGC d who a.s _ _ _ _ _ q b _ bf ((hd.mono z.inc).lay _ _) (by omega) (by omega) fS b3 _ (fun h' x=>?_)
   replace wk:lf≠[]→Sl aJ.atom h' (.slice fa lf.length fc) lf:=fun aP=>(wk aP).mono x.inc.gg
   replace gs:lg≠[]→Sl aJ.atom h' (.slice ga lg.length gc) lg:=fun aP=>(gs aP).mono x.inc.gg
   (replace z:=z.an x (by omega);(replace eT:=eT.over x);(replace kh:=kh.over x);(replace kU:=kU.over x);(replace jv:=jv.over x);(replace gw:=gw.over x);rw [ao h'])
   cases GL:jw (eP d who) a.s
   ·have Oe:a.s ∉ eP d who:=fun hm=>by rw [fY.2 hm] at GL;cases GL
    have o7:lf=lg:=by rw [NX,vl,zyo Oe]
    have dA:(eP d who).map aA=(eP d who).map (pG aA a.s (some m)):=(ztL Oe).symm
    simp only [syms,aa,seval,c3]
    (with_reducible_and_instances apply b8);(· rfl)
    simp only [syms,aa,seval,c3,Bool.not_false,dP]
    by_cases gL:lf=[]
    ·have h0:lf.length=0:=by rw [gL];rfl
     have h1:lg.length=0:=by rw [← o7];exact h0
     rw [h0,h1]
     refine zln _ _ _ _ _ _ (fun h' x=>?_)
     (replace z:=z.an x (by omega);(replace eT:=eT.over x);(replace kh:=kh.over x);(replace kU:=kU.over x);(replace jv:=jv.over x);(replace gw:=gw.over x);rw [ao h'])
     simp only [syms,aa,seval,c3,dP,bl]
     refine RT _ _ _ _ _ _ _ _ _ (jv.lay _ _) (gw.lay _ _) (by rw [List.length_map];omega) _ (fun h' x=>?_)
     rw [decide_eq_true dA]
     (replace z:=z.an x (by omega);(replace eT:=eT.over x);(replace kh:=kh.over x);(replace kU:=kU.over x);(replace jv:=jv.over x);(replace gw:=gw.over x);rw [ao h'])
     simp only [syms,aa,seval,c3]
     exact hk _ (z.aw _ _ (by omega))
    ·refine zii _ _ _ _ _ ((wk gL).lay _ _) ((gs (by rw [← o7];exact gL)).lay _ _) (by omega) (by rw [← o7];omega) _ (fun h' x=>?_)
     rw [decide_eq_true o7]
     (replace z:=z.an x (by omega);(replace eT:=eT.over x);(replace kh:=kh.over x);(replace kU:=kU.over x);(replace jv:=jv.over x);(replace gw:=gw.over x);rw [ao h'])
     simp only [syms,aa,seval,c3,dP,bl]
     refine RT _ _ _ _ _ _ _ _ _ (jv.lay _ _) (gw.lay _ _) (by rw [List.length_map];omega) _ (fun h' x=>?_)
     rw [decide_eq_true dA]
     (replace z:=z.an x (by omega);(replace eT:=eT.over x);(replace kh:=kh.over x);(replace kU:=kU.over x);(replace jv:=jv.over x);(replace gw:=gw.over x);rw [ao h'])
     simp only [syms,aa,seval,c3]
     exact hk _ (z.aw _ _ (by omega))
   ·have aL:a.s∈eP d who:=fY.1 GL
    have dA:¬ (eP d who).map aA=(eP d who).map (pG aA a.s (some m)):=fun e=>ztM (l:=m) aL e.symm
    have BI:=inv.xN inv2 gj.1 aL
    rw [← NX,← vl] at BI
    have hml:=zzg inv oc.symm
    simp only [syms,aa,seval,c3]
    (with_reducible_and_instances apply b8);(· rfl)
    simp only [syms,aa,seval,c3,Bool.not_true,dP]
    refine RT _ _ _ _ _ _ _ _ _ (jv.lay _ _) (gw.lay _ _) (by rw [List.length_map];omega) _ (fun h' x=>?_)
    rw [decide_eq_false dA]
    (replace z:=z.an x (by omega);(replace eT:=eT.over x);(replace kh:=kh.over x);(replace kU:=kU.over x);(replace jv:=jv.over x);(replace gw:=gw.over x);rw [ao h'])
    simp only [syms,aa,seval,c3]
    (with_reducible_and_instances apply b8);(· rfl)
    simp only [syms,aa,seval,c3,Bool.not_false,dP,cz,qv,List.length_map,xB,bl]
    have uj:IntKind.i64.wrap ((lf.length:Int)+1)=(lf.length:Int)+1:=wrap_i64 (by omega) (by omega)
    have re:IntKind.i64.wrap ((lf.length:Int) - 1)=(lf.length:Int) - 1:=wrap_i64 (by omega) (by omega)
    rw [uj]
    refine nX (fun he=>?_) (fun aP=>?_)
    ·simp only [syms,aa,seval,c3,xB,dP,bl]
     exact hk _ (z.aw _ _ (by omega))
    ·simp only [syms,aa,seval,c3,xB,dP,bl]
     rw [re]
     refine nX (fun he=>?_) (fun Oc=>?_)
     ·simp only [syms,aa,seval,c3]
      exact hk _ (z.aw _ _ (by omega))
     ·exfalso;omega
end Go.Proofs.YtkgojconmeeegaaGreatDoor

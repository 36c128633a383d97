/- Frames beside blocks that another thing turns. No condition. -/
import Derived.Test.YtdplfgoifjjniaaGreatDoorG39
import Derived.Test.YtdplfgoifjjniaaGreatDoorG41
set_option linter.unusedSimpArgs false
set_option linter.unusedVariables false
set_option maxRecDepth 100000
set_option maxHeartbeats 0
namespace Go.Am
theorem zhF:∀ (D X:List Nat) (h:Heap),aN (D++X) h=aN D (aN X h)
 | [],_,_=>rfl
 |A::D,X,h=>by
  show kill A (aN (D++X) h)=kill A (aN D (aN X h))
  rw [zhF D X h]
section
variable {D E X:List Nat} {a b h:Heap} {B:Nat} {k:bh}
theorem aT.kill (f:aT D a b) (X:List Nat):aT D (aN X a) (aN X b):=by
 refine ⟨by rw [jn,jn];exact f.size,fun B hB hn=>?_⟩
 rw [jn] at hB
 by_cases hx:B∈X
 ·rw [vY hx hB,vY hx (Nat.lt_of_lt_of_le hB f.size)]
 ·rw [n9 hx,n9 hx]
  exact f.get B hB hn
theorem aT.dead (X:List Nat) (h:Heap):aT X h (aN X h):=⟨by rw [jn];exact Nat.le_refl _,fun B _ hn=>n9 hn⟩
theorem aT.kc (X:List Nat) (h:Heap):aT X (aN X h) h:=⟨by rw [jn];exact Nat.le_refl _,fun B _ hn=>(n9 hn).symm⟩
theorem Holds.alive (q:Holds (aN X h) B k) (hk:k≠.dead):B ∉ X:=fun hx=>by
 have h1:=q.lt
 rw [jn] at h1
 have h2:=q.get
 rw [vY hx h1] at h2
 cases h2
 exact hk rfl
theorem Holds.uT (q:Holds h B k) (hB:B ∉ X):Holds (aN X h) B k:=q.dL (aT.dead X h) hB
theorem zEB (E X:List Nat) (h:Heap):cP (aN E (aN X h)) (aN E h):=by
 refine ⟨by rw [jn,jn,jn];exact Nat.le_refl _,fun B hB hd=>?_⟩
 rw [jn,jn] at hB
 have hE:B ∉ E:=fun hh=>hd (vY hh (by rw [jn];exact hB))
 have hX:B ∉ X:=fun hh=>hd (by rw [n9 hE];exact vY hh hB)
 rw [n9 hE,n9 hE,n9 hX]
end
end Go.Am
namespace Go.Proofs.YtdplfgoifjjniaaGreatDoor
open Go.Am
def Bx (T0:Nat) (v0 v1:Value) (q:Int) (NM:Nat):List Value:=[.pointer (some ⟨T0,0,none⟩),v0,v1,.slice none 0 0,.int .i64 q,.int .i64 0,.slice none 0 0,.slice none 0 0,.map (some NM)]
def mX (N b:Nat) (h:Heap) (S0:Nat) (E:List Nat) (d:au) (q:Int) (facts:ByteArray→List ab) (aI:ByteArray→Nat) (us:ByteArray→Nat):Prop :=
 ∃ T0 D NM v0 v1 nv,E=NM::D∧Holds h S0 (.row (Bx T0 v0 v1 q NM) 81 false)∧dN N b h D T0 us∧cC h NM nv∧Sl aK.str (aN E h) v0 d.aj∧Sl aK.pred (aN E h) v1 d.bA ∧
   (∀ bt,cZ nv bt=none→facts bt=[]∧aI bt=0)∧(∀ bt x,cZ nv bt=some x→∃ s,x=.agg #[s,.int .u64 (aI bt:Int)]∧Sl aK.atom (aN E h) s (facts bt))∧S0 ∉ E∧NM ∉ D∧N≤S0∧N≤NM
def fZ (X:List Nat) (N b:Nat) (h:Heap) (S0:Nat) (E:List Nat) (d:au) (q:Int) (facts:ByteArray→List ab) (aI:ByteArray→Nat) (us:ByteArray→Nat):Prop:=mX N b (aN X h) S0 E d q facts aI us∧(∀ B∈E,B ∉ X)∧∀ B∈X,B < h.size
theorem zGB (A:Nat):nR ae 78 [(0,.pointer (some ⟨A,0,none⟩))]=some (.agg #[.pointer (some ⟨A,0,none⟩)]):=by kernel_rfl
theorem zGA (A M:Nat) (a0 a1) (n0 n1 c0 c1:Nat) (q:Int):nR ae 81 [(0,.agg #[.pointer (some ⟨A,0,none⟩)]),(1,gQ (.slice a0 n0 c0) (.slice a1 n1 c1) (.slice none 0 0) (.slice none 0 0) (.slice none 0 0) q 0),(2,.map (some M))]=some (.agg ⟨Bx A (.slice a0 n0 c0) (.slice a1 n1 c1) q M⟩):=by kernel_rfl
theorem Mp {α:Type} {r:aK α} {h:Heap} {v:Value} {l:List α} (f:Sl r h v l):∃ a n c,v=.slice a n c:=by
 rcases f with ⟨rfl,_⟩|⟨A,o,c,row,u,ro,rfl,_⟩ <;> exact ⟨_,_,_,rfl⟩
theorem zw2 (N:Nat) (d:au) (v0 v1:Value) (q:Int) (h:Heap) (G0:Nat) (hN:N≤h.size) (hG:N≤G0∧G0 < h.size) (X:List Nat) (hX:∀ B∈X,B < N) (s0:Sl aK.str (aN [G0] (aN X h)) v0 d.aj) (s1:Sl aK.pred (aN [G0] (aN X h)) v1 d.bA) (K:Value→Heap→Prop)
 (hk:∀ h' S0 E,Ext h h'→fZ X N 0 h' S0 E d q (fun _=>[]) (fun _=>0) (fun _=>0)→K (.pointer (some ⟨S0,0,none⟩)) h'):Ok Tryz.prog ae ov 30 [gQ v0 v1 (.slice none 0 0) (.slice none 0 0) (.slice none 0 0) q 0] h K:=by
 have AA:=Mp s0
 have ua:=Mp s1
 obtain ⟨a0,n0,c0,rfl⟩:=AA
 obtain ⟨a1,n1,c1,rfl⟩:=ua
 rw [ao h]
 have z:=Ext.refl h
 refine Ok.aD rfl zzL (br N30) rfl (m:=8) rfl ?_
 simp -implicitDefEqProofs only [syms,aa,seval,Cn,eQ]
 with_reducible first|refine eu (by simp only [Cn]) (z.aw _ _ (by omega)) ?_
 simp -implicitDefEqProofs only [syms,aa,seval,Cn,eQ]
 refine zCS N _ h.size G0 ⟨hN,by rw [bB];simp⟩ ⟨hG.1,by rw [bB];omega⟩ (by omega) _ (fun h' T0 FM x st hT hF=>?_)
 have q0:=Holds.top (i:=0) x rfl
 rw [bB] at hT hF
 simp only [List.length_cons,List.length_nil] at hT hF
 (((with_reducible refine dK ?_ ?_ ?_);(· exact (by (simp only [dM]);have:=z.size;omega));(· exact x));replace z:=z.an x (by omega);rw [ao h'])
 simp -implicitDefEqProofs only [syms,aa,seval,Cn,q0.lay,eQ,↓im,gP,gk,zGB,jK,Gl]
 have hz:=z.size
 refine Ep (by omega) (by omega) ?_
 simp -implicitDefEqProofs only [syms,aa,seval,Cn,zGA,jK]
 refine zl3 (by simp) (by omega) (by simp) ?_
 simp -implicitDefEqProofs only [syms,aa,seval,Cn]
 ((with_reducible refine ⟨z.cW.lay _ _,?_⟩);(intro _ h4 zz x _);(simp only [cq,List.append_nil] at x))
 have fr:aT [] h' h4:=(aT.refl [] h').over x
 have qm:=Holds.top (i:=0) x rfl
 have qs:=Holds.top (i:=1) x rfl
 have kT:=st.hi
 replace st:=st.over x
 clear z
 have z:=zz
 rw [ao h4]
 simp -implicitDefEqProofs only [syms,aa,seval,Cn,dP]
 have hf4:=fr.size
 have cN:aT [G0] h h4:=z.dL [G0]
 have hE:∀ B∈[h'.size+0,T0,h.size,G0,FM],B∈[G0]∨h.size≤B:=by
  intro B hB
  simp only [List.mem_cons,List.not_mem_nil,or_false] at hB ⊢
  omega
 have hS:h'.size+1 ∉ [h'.size+0,T0,h.size,G0,FM]:=by
  simp only [List.mem_cons,List.not_mem_nil,or_false]
  omega
 have Vn:h'.size+0 ∉ [T0,h.size,G0,FM]:=by
  simp only [List.mem_cons,List.not_mem_nil,or_false]
  omega
 have hI:=((cN.trans (aT.lay h4 [] h4.low []) (fun _ h=>nomatch h)).kill X).inc (D':=[h'.size+0,T0,h.size,G0,FM]) (fun B hB=>by rw [jn];exact hE B hB)
 have cR:∀ B∈[h'.size+0,T0,h.size,G0,FM],N≤B:=by
  intro B hB
  simp only [List.mem_cons,List.not_mem_nil,or_false] at hB
  omega
 have mD:∀ B∈[h'.size+0,T0,h.size,G0,FM],B ∉ X:=fun B hB hx=>by
  have h1:=cR B hB
  have h2:=hX B hx
  omega
 have Vs:h'.size+1 ∉ X:=fun hx=>by
  have h2:=hX _ hx
  omega
 have A8:=z.size
 exact hk _ (h'.size+1) [h'.size+0,T0,h.size,G0,FM] (z.aw _ _ (by omega)) ⟨⟨T0,[T0,h.size,G0,FM],h'.size+0,_,_,[],rfl,(qs.on _ _).uT Vs,dN.dL (D:=[T0,h.size,G0,FM]) ⟨h.size,G0,FM,[],[],[],rfl,st.lay _ _,cK.empty,Nat.le_refl 0,Nat.le_refl 0⟩ (aT.dead X _) (fun B hB=>mD B (List.mem_cons_of_mem _ hB)),(cC.new (qm.on _ _)).hold (fun _ q=>q.uT (mD _ (by simp))),s0.mono hI,s1.mono hI,fun _ _=>⟨rfl,rfl⟩,fun bt x hx=>by simp [cZ] at hx,hS,Vn,by omega,by omega⟩,mD,fun B hB=>by have:=hX B hB;rw [bB];omega⟩
theorem mX.dL {N b:Nat} {h h2:Heap} {S0:Nat} {E:List Nat} {d:au} {q:Int} {facts:ByteArray→List ab} {aI us:ByteArray→Nat} (s:mX N b h S0 E d q facts aI us) (f:aT [] h h2):mX N b h2 S0 E d q facts aI us:=by
 obtain ⟨T0,D,NM,v0,v1,nv,rfl,g1,g2,g3,g4,g5,g6,g7,g8⟩:=s
 have hi:cP (aN (NM::D) h) (aN (NM::D) h2):=(f.mono (D':=NM::D) (fun _ h=>nomatch h)).inc (fun B hB=>.inl hB)
 exact ⟨T0,D,NM,v0,v1,nv,rfl,g1.dL f (by simp),g2.dL f (fun B hB=>by simp),g3.hold (fun b q=>q.dL f (by simp)),g4.mono hi,g5.mono hi,g6,fun bt x hx=>(g7 bt x hx).imp fun s hs=>⟨hs.1,hs.2.mono hi⟩,g8⟩
section
variable {X:List Nat} {N b:Nat} {h h2:Heap} {S0:Nat} {E:List Nat} {d:au} {q:Int} {facts:ByteArray→List ab} {aI us:ByteArray→Nat}
theorem fZ.dL (s:fZ X N b h S0 E d q facts aI us) (f:aT [] h h2):fZ X N b h2 S0 E d q facts aI us:=⟨s.1.dL (f.kill X),s.2.1,fun B hB=>Nat.lt_of_lt_of_le (s.2.2 B hB) f.size⟩
theorem fZ.lay (s:fZ X N b h S0 E d q facts aI us) (bs:List bh) (w:Nat):fZ X N b (h.lay bs w) S0 E d q facts aI us:=s.dL (aT.lay _ _ _ _)
theorem fZ.over {bs:List bh} {w:Nat} (s:fZ X N b h S0 E d q facts aI us) (x:Ext (h.lay bs w) h2):fZ X N b h2 S0 E d q facts aI us:=s.dL ((aT.refl [] h).over x)
theorem fZ.un (s:fZ X N b h S0 E d q facts aI us):mX N b h S0 E d q facts aI us:=by
 obtain ⟨⟨T0,D,NM,v0,v1,nv,rfl,g1,g2,g3,g4,g5,g6,g7,g8⟩,mD,hX⟩:=s
 have u:=aT.kc X h
 have hi:=zEB (NM::D) X h
 exact ⟨T0,D,NM,v0,v1,nv,rfl,g1.dL u (g1.alive (by simp)),g2.dL u (fun B hB=>mD B (List.mem_cons_of_mem _ hB)),g3.hold (fun b q=>q.dL u (mD _ (by simp))),g4.mono hi,g5.mono hi,g6,fun bt x hx=>(g7 bt x hx).imp fun s hs=>⟨hs.1,hs.2.mono hi⟩,g8⟩
theorem fZ.lt (s:fZ X N b h S0 E d q facts aI us):S0 < h.size∧∀ B∈E,N≤B∧B < h.size:=by
 obtain ⟨T0,D,NM,v0,v1,nv,rfl,g1,g2,g3,g4,g5,g6,g7,g8,g9,g10,g11⟩:=s.un
 refine ⟨g1.lt,fun B hB=>?_⟩
 rcases List.mem_cons.1 hB with rfl|hB
 ·exact ⟨g11,g3.lt⟩
 ·exact g2.lo B hB
end
theorem zCT (d:au) (p0 p1 p2 p5 p6:Value) (q b:Int) (h:Heap) (cA:aY 1 h) (bw:(dw p0 p1 p2 p5 p6 q b).all Am.one=true) (hd:fO h p0 p1 p2 p5 p6 d) (hq:d.du=q) (hb:d.cD=b) (hn:B1 d) (nX:d.aj.length≤100000) (Dl:d.bA.length≤100000) (X:List Nat) (hX:∀ B∈X,B < h.size) (K:Value→Heap→Prop)
 (uk:mT d≠0→∀ h',Ext h h'→K (.tuple #[.pointer none,.int .i64 (mT d)]) h')
 (fp:mT d=0→∀ h' S0 E,Ext h h'→fZ X h.size 0 h' S0 E d q (fun _=>[]) (fun _=>0) (fun _=>0)→K (.tuple #[.pointer (some ⟨S0,0,none⟩),.int .i64 0]) h'):Ok Tryz.prog ae ov 10 [gQ p0 p1 p2 p5 p6 q b] h K:=by
 rw [ao h]
 have z:=Ext.refl h
 refine Ok.aD rfl zzu (br N10) rfl (m:=12) rfl ?_
 simp -implicitDefEqProofs only [syms,aa,seval,Fi,eQ,↓im,gP,gk]
 refine zt2 d p0 p1 p2 p5 p6 q b _ (cA.lay _ _) bw (hd.lay _ _) hq hb hn _ (fun h' x=>?_)
 have q0:=Holds.top (i:=0) x rfl
 (replace z:=z.an x (by omega);(replace hd:=hd.over x);rw [ao h'])
 have gr:=mn
 simp -implicitDefEqProofs only [syms,aa,seval,Fi,bj]
 refine iK (fun aO=>?_) (fun heq=>?_)
 ·simp -implicitDefEqProofs only [syms,aa,seval,Fi,bj]
  exact uk aO _ (z.aw _ _ (by omega))
 simp -implicitDefEqProofs only [syms,aa,seval,Fi,q0.lay,eQ,↓im,gP,gk]
 have NJ:=q0.lt
 refine zua d p0 p1 p2 p5 p6 q b _ bw (hd.lay _ _).s0 (hd.lay _ _).s1 nX Dl _ (fun h' v0 v1 A0 A1 x o0 o1=>?_)
 have hXl:∀ B∈h.size::X,B < h.size+1:=fun B hB=>by
  rcases List.mem_cons.1 hB with rfl|hB
  ·omega
  ·have:=hX B hB;omega
 have s0:=(o0.lay [] h'.low).aN (D:=h.size::X) (fun _ _ _ _ q=>q) (by decide) (fun B hB=>by have:=hXl B hB;rw [bB];simp only [List.length_cons,List.length_nil];omega)
 have s1:=(o1.lay [] h'.low).aN (D:=h.size::X) (fun _ _ _ _ q=>q) (by decide) (fun B hB=>by have:=hXl B hB;rw [bB];simp only [List.length_cons,List.length_nil];omega)
 (replace z:=z.an x (by omega);(replace q0:=q0.over x);(replace hd:=hd.over x);rw [ao h'])
 have hq1:=q0.lt
 simp -implicitDefEqProofs only [syms,aa,seval,Fi,gk]
 refine zw2 h.size d v0 v1 q _ h.size (by rw [bB];omega) ⟨Nat.le_refl _,by rw [bB];omega⟩ X hX s0 s1 _ (fun h' S0 E x cF=>?_)
 (replace z:=z.an x (by omega);(replace q0:=q0.over x);(replace hd:=hd.over x);rw [ao h'])
 simp -implicitDefEqProofs only [syms,aa,seval,Fi,dP,bj]
 exact fp heq _ S0 E (z.aw _ _ (by omega)) (cF.lay _ _)
theorem pV (x):bU Tryz.prog ae .eql 32 (.pointer (some x)) (.pointer none)=some (.bool false):=by kernel_rfl
theorem Kq (x):bU Tryz.prog ae .neq 32 (.pointer (some x)) (.pointer none)=some (.bool true):=by kernel_rfl
theorem zGK (T0:Nat) (v0 v1:Value) (q:Int) (NM:Nat):cut (Bx T0 v0 v1 q NM) 1 7=some (dw v0 v1 (.slice none 0 0) (.slice none 0 0) (.slice none 0 0) q 0):=rfl
theorem GW (T0:Nat) (v0 v1:Value) (q:Int) (NM:Nat):(Bx T0 v0 v1 q NM)[8]? = some (.map (some NM)):=rfl
theorem zIa (T0:Nat) (v0 v1:Value) (q:Int) (NM:Nat):(Bx T0 v0 v1 q NM)[0]? = some (.pointer (some ⟨T0,0,none⟩)):=rfl
theorem zEs (T0:Nat) (v0 v1:Value) (q:Int) (NM:Nat):(Bx T0 v0 v1 q NM)[4]? = some (.int .i64 q):=rfl
theorem rB:ae.desc 79=some (.map 9 87):=by kernel_rfl
theorem vE:ae.zero 87=some (.agg #[.slice none 0 0,.int .u64 0]):=by kernel_rfl
theorem XY:bO ae 87=some 2:=by kernel_rfl
theorem dU (b:Bool) (h:Heap) (K:Value→Heap→Prop):aU (some (.bool b)) h K=K (.bool b) h:=rfl
theorem zD8 (a) (n c:Nat) (h:Heap):bd ae 52 (.slice a n c) h=some (.int .i64 n):=by kernel_rfl
theorem zGz (a) (n c:Nat) (v:Int):nR ae 87 [(0,.slice a n c),(1,.int .u64 v)]=some (.agg #[.slice a n c,.int .u64 v]):=by kernel_rfl
theorem zEI {n:Nat} (h:n < 1000000000):IntKind.u64.wrap ((n:Int)+1)=((n+1:Nat):Int):=by
 unfold IntKind.wrap
 simp [IntKind.signed,IntKind.bits]
 omega
def qp (f:ByteArray→List ab) (s:ByteArray) (l:List ab):ByteArray→List ab:=fun x=>if x=s then l else f x
theorem Xp {h:Heap} {v0 v1:Value} {d:au} (s0:Sl aK.str h v0 d.aj) (s1:Sl aK.pred h v1 d.bA) (q:Int):(dw v0 v1 (.slice none 0 0) (.slice none 0 0) (.slice none 0 0) q 0).all Am.one=true:=by
 have h0:=s0.one
 have h1:=s1.one
 simp only [dw,List.all_cons,List.all_nil,h0,h1]
 rfl
theorem zkC (d:au) (q:Int) (s:ByteArray) (a:ab) (room:Int) (fv:Value) (is:List ab→Bool) (tn:List ab→List ab) (facts:ByteArray→List ab) (aI us:ByteArray→Nat) (h hc:Heap) (z:Ext h hc) (N b:Nat) (S0:Nat) (E:List Nat) (hN:N=h.size) (X:List Nat) (cF:fZ X N b hc S0 E d q facts aI us) (cA:aY 1 hc) (JT:d.aj.length≤1000) (iO:(facts s).length≤800) (aS:∀ x∈facts s,x.ba=true) (hv:aI s < 1000000000)
 (htn:(tn (facts s)).length≤900)
 (ht:∀ (h2:Heap) (v:Value) (K:Value→Heap→Prop),Sl aK.atom h2 v (facts s)→(∀ h' w,Ext h2 h'→(∃ a n c,w=.slice a n c)→(is (facts s)=true→kp h2 h' 42 w (tn (facts s)))→K (.tuple #[w,.bool (is (facts s))]) h')→so Tryz.prog ae ov [v,a.val] h2 K fv)
 (K:Value→Heap→Prop)
 (uk:gl d s a≠0→∀ h',Ext h h'→aT [] hc h'→K (.tuple #[.bool false,.int .i64 (gl d s a)]) h')
 (fp:gl d s a=0→is (facts s)=false→∀ h',Ext h h'→aT [] hc h'→K (.tuple #[.bool false,.int .i64 0]) h')
 (nA:gl d s a=0→is (facts s)=true→room < (tn (facts s)).length→∀ h',Ext h h'→aT [] hc h'→K (.tuple #[.bool false,.int .i64 12]) h')
 (um:gl d s a=0→is (facts s)=true→((tn (facts s)).length:Int)≤room→∀ h',Ext h h'→aT E hc h'→fZ X N b h' S0 E d q (qp facts s (tn (facts s))) (gg aI s (aI s+1)) us→K (.tuple #[.bool true,.int .i64 0]) h'):Ok Tryz.prog ae ov 32 [.pointer (some ⟨S0,0,none⟩),.string s,a.val,.int .i64 room,fv] hc K:=by
 obtain ⟨⟨T0,D,NM,v0,v1,nv,rfl,x1,x2,x3,x4,x5,g6,x7,g8,g9,g10,g11⟩,mD,Ny⟩:=cF
 have ux:=aT.kc X hc
 have ui:=zEB (NM::D) X hc
 have Vs:=x1.alive (by simp)
 have hNX:NM ∉ X:=mD _ (by simp)
 have CG:∀ B∈D,B ∉ X:=fun B hB=>mD B (List.mem_cons_of_mem _ hB)
 have g1:=x1.dL ux Vs
 have g2:=x2.dL ux CG
 have g3:=x3.hold (fun b q=>q.dL ux hNX)
 have g4:=x4.mono ui
 have g5:=x5.mono ui
 have g7:∀ bt x,cZ nv bt=some x→∃ s,x=.agg #[s,.int .u64 (aI bt:Int)]∧Sl aK.atom (aN (NM::D) hc) s (facts bt):=fun bt x hx=>(x7 bt x hx).imp fun s hs=>⟨hs.1,hs.2.mono ui⟩
 have bw:=Xp g4 g5 q
 have t4:=g4.mono (qt _ _)
 have t5:=g5.mono (qt _ _)
 rw [ao hc]
 refine Ok.aD rfl zzN (br N32) rfl (m:=55) rfl ?_
 simp -implicitDefEqProofs only [syms,aa,seval,nc,eW,pV]
 with_reducible first|refine eu (by simp only [nc]) (z.aw _ _ (by omega)) ?_
 simp -implicitDefEqProofs only [syms,aa,seval,nc,dJ,g1.lay,↓zGK,gP,gk,eW,↓ff,eR,dQ]
 refine zw0 d s a v0 v1 _ _ _ q 0 _ (cA.lay _ _) bw (t4.lay _ _) (t5.lay _ _) JT _ (fun h' x=>?_)
 have q0:=Holds.top (i:=0) x rfl
 have fr:aT [] hc h':=(aT.refl [] hc).over x
 (((with_reducible refine dK ?_ ?_ ?_);(· exact (by (simp only [dM]);have:=z.size;omega));(· exact x));replace z:=z.an x (by omega);(replace g1:=g1.over x);rw [ao h'])
 simp -implicitDefEqProofs only [syms,aa,seval,nc,bj]
 ((with_reducible refine ⟨z.cW.lay _ _,?_⟩);(intro _ h' zz x _);(simp only [cq,List.append_nil] at x);(replace g1:=g1.over x);(replace q0:=q0.over x);(replace fr:=fr.over x);(replace z:=zz);(clear zz);rw [ao h'])
 simp -implicitDefEqProofs only [syms,aa,seval,nc,bj]
 refine iK (fun aO=>?_) (fun heq=>?_)
 ·simp -implicitDefEqProofs only [syms,aa,seval,nc,bj]
  exact uk aO _ (z.aw _ _ (by omega)) (fr.trans (aT.lay _ _ _ []) (fun _ h=>nomatch h))
 have g3':=g3.hold (fun b q=>q.dL fr (by simp))
 have DI:=fr.size
 have NJ:=q0.lt
 have AE:=g1.lt
 obtain ⟨sv,dE,pz⟩:∃ sv,(cZ nv s).getD (.agg #[.slice none 0 0,.int .u64 0])=.agg #[sv,.int .u64 (aI s:Int)]∧Sl aK.atom (aN (NM::D) hc) sv (facts s):=by
  cases hl:cZ nv s with
  |none =>
   obtain ⟨e1,e2⟩:=g6 s hl
   rw [e1,e2]
   exact ⟨_,rfl,.nil⟩
  |some x=>exact g7 s x hl
 obtain ⟨sa,sn,zD,rfl⟩:=Mp pz
 simp -implicitDefEqProofs only [syms,aa,seval,nc,ec,g1.lay,GW,v8]
 refine Eo g3' rB vC vE ?_
 simp only [dE,Bool.false_eq_true,if_false]
 simp -implicitDefEqProofs only [syms,aa,seval,nc,jK]
 have hA:Sl aK.atom h' (.slice sa sn zD) (facts s):=(pz.mono (qt _ _)).mono fr.all
 have WW:∀ (h:Heap) (K:Value→Heap→Prop),aU (some (.slice sa sn zD)) h K=K (.slice sa sn zD) h:=fun _ _=>rfl
 have qn:=z.size
 refine zuL (i:=0) rfl XY rfl rfl rfl rfl ?_
 simp only [List.set_cons_zero]
 simp -implicitDefEqProofs only [syms,aa,seval,nc,WW,q0.lay,eW,↓ff,eR,dQ]
 have hNl:∀ B∈NM::D,B < h'.size:=fun B hB=>by
  rcases List.mem_cons.1 hB with rfl|hB
  ·have:=g3.lt;omega
  ·have:=(g2.lo B hB).2;omega
 refine ht _ _ _ (hA.lay _ _) (fun h' w x rW ho=>?_)
 have q2:=Holds.top (i:=0) x rfl
 (replace z:=z.an x (by omega);(replace g1:=g1.over x);(replace q0:=q0.over x);(replace fr:=fr.over x);rw [ao h'])
 obtain ⟨wa,wn,wc,rfl⟩:=rW
 have NO:∀ (h:Heap) (K:Value→Heap→Prop),aU (some (.slice wa wn wc)) h K=K (.slice wa wn wc) h:=fun _ _=>rfl
 cases px:is (facts s)
 ·simp -implicitDefEqProofs only [syms,aa,seval,nc,ij,NO,dU]
  (with_reducible_and_instances apply cm);(· rfl)
  simp -implicitDefEqProofs only [syms,aa,seval,nc]
  exact fp heq px _ (z.aw _ _ (by omega)) (fr.trans (aT.lay _ _ _ []) (fun _ h=>nomatch h))
 replace ho:=ho px
 have Wx:=ho
 obtain ⟨AW,tw,NP,hwq,hwA,hwl⟩:=ho
 simp only [Value.slice.injEq] at NP
 obtain ⟨W1,FU,hwc⟩:=NP
 simp -implicitDefEqProofs only [syms,aa,seval,nc,ij,NO,dU]
 (with_reducible_and_instances apply cm);(· rfl)
 simp -implicitDefEqProofs only [syms,aa,seval,nc,NO,zD8,bj]
 refine bp (fun qd=>?_) (fun hle=>?_)
 ·simp -implicitDefEqProofs only [syms,aa,seval,nc,bj]
  exact nA heq px (by rw [← FU];omega) _ (z.aw _ _ (by omega)) (fr.trans (aT.lay _ _ _ []) (fun _ h=>nomatch h))
 have FV:IntKind.u64.wrap ((aI s:Int)+1)=((aI s+1:Nat):Int):=zEI (by omega)
 simp -implicitDefEqProofs only [syms,aa,seval,nc]
 with_reducible first|refine eu (by simp only [nc]) (z.aw _ _ (by omega)) ?_
 simp -implicitDefEqProofs only [syms,aa,seval,nc,ec,bj,dJ,jK,NO,g1.lay,GW,q2.lay,XZ,FV,zGz,LW]
 have gm:=g3.hold (fun b q=>q.dL fr (by simp))
 refine zqH gm rB vC (fun h3 m3 c3=>?_)
 have hz:=z.size
 have Vn:h.size≤NM:=by omega
 have hg3:=g3.lt
 refine nM (A:=NM) (by kernel_rfl) (by rw [bB];omega) (by omega) (by simpa only [cq,bB,List.append_nil,List.length_cons,List.length_nil,Nat.add_zero] using c3) ?_
 have z3:=(z.aw [] (h'.size+0) (by omega)).step c3 Vn
 have f3:aT [NM] h' h3:=(aT.refl [NM] h').ku c3 (.inl (by simp))
 have hSN:S0≠NM:=fun e=>g8 (by rw [e];simp)
 have k1:=Wx.kill (D:=(NM::D)++X) (fun B hB=>by
  rw [bB]
  rcases List.mem_append.1 hB with hB|hB
  ·have:=hNl B hB;omega
  ·have:=Ny B hB;omega)
 rw [zhF] at k1
 clear z q0 q2
 have z:=z3
 rw [ao h3]
 simp -implicitDefEqProofs only [syms,aa,seval,nc]
 ((with_reducible refine ⟨z.cW.lay _ _,?_⟩);(intro _ h4 zz x _);(simp only [cq,List.append_nil] at x))
 replace f3:=f3.over x
 replace m3:=m3.over x
 clear z
 have z:=zz
 rw [ao h4]
 simp -implicitDefEqProofs only [syms,aa,seval,nc,bj,dU]
 have f4:aT [NM] h' (h4.lay [] h4.low):=f3.trans (aT.lay _ _ _ []) (fun _ h=>nomatch h)
 have f5:aT [NM] hc (h4.lay [] h4.low):=fr.mono (D':=[NM]) (fun _ h=>nomatch h) |>.trans f4 (fun B hB=>.inl hB)
 have DH:∀ B∈[NM],B∈NM::D:=fun B hB=>by rw [List.mem_singleton.1 hB];simp
 have i1:cP (aN (NM::D) (aN X hc)) (aN (NM::D) (aN X (h4.lay [] h4.low))):=((f5.kill X).mono DH).inc (fun B hB=>.inl hB)
 have i2:cP (aN (NM::D) (aN X h')) (aN (NM::D) (aN X (h4.lay [] h4.low))):=((f4.kill X).mono DH).inc (fun B hB=>.inl hB)
 refine um heq px (by rw [← FU];omega) _ (z.aw _ _ (by omega)) (f5.mono DH) ⟨⟨T0,D,NM,v0,v1,fo nv s (.agg #[.slice wa wn wc,.int .u64 ((aI s+1:Nat):Int)]),rfl,x1.dL (f5.kill X) (by simpa using hSN),x2.dL (f5.kill X) (fun B hB hm=>g9 (by rw [← List.mem_singleton.1 hm];exact hB)),(m3.lay _ _).hold (fun _ q=>q.uT hNX),x4.mono i1,x5.mono i1,fun bt hw=>?_,fun bt y hw=>?_,g8,g9,g10,g11⟩,mD,fun B hB=>Nat.lt_of_lt_of_le (Ny B hB) f5.size⟩
 ·rw [Gh] at hw
  by_cases rW:bt=s
  ·rw [if_pos rW] at hw;cases hw
  ·rw [if_neg rW] at hw
   unfold qp
   rw [if_neg rW,sg rW]
   exact g6 bt hw
 ·rw [Gh] at hw
  by_cases rW:bt=s
  ·rw [if_pos rW] at hw
   cases hw
   subst rW
   unfold qp
   rw [if_pos rfl,vf]
   exact ⟨_,rfl,k1.mono i2⟩
  ·rw [if_neg rW] at hw
   unfold qp
   rw [if_neg rW,sg rW]
   exact (x7 bt y hw).imp fun v hv=>⟨hv.1,hv.2.mono i1⟩
theorem mX.turn {N b2:Nat} {h h2:Heap} {S0 T0 NM:Nat} {D D2:List Nat} {d:au} {q:Int} {facts:ByteArray→List ab} {aI ko:ByteArray→Nat} {v0 v1:Value} {nv:List (ByteArray × Value)} (q1:Holds h S0 (.row (Bx T0 v0 v1 q NM) 81 false)) (m:cC h NM nv) (s0:Sl aK.str (aN (NM::D) h) v0 d.aj) (s1:Sl aK.pred (aN (NM::D) h) v1 d.bA)
 (g6:∀ bt,cZ nv bt=none→facts bt=[]∧aI bt=0) (g7:∀ bt x,cZ nv bt=some x→∃ s,x=.agg #[s,.int .u64 (aI bt:Int)]∧Sl aK.atom (aN (NM::D) h) s (facts bt)) (g8:S0 ∉ NM::D) (g9:NM ∉ D) (g10:N≤S0) (g11:N≤NM)
 (f:aT D h h2) (t:dN N b2 h2 D2 T0 ko) (hD:∀ B∈D2,B∈D∨h.size≤B):mX N b2 h2 S0 (NM::D2) d q facts aI ko:=by
 have hi:cP (aN (NM::D) h) (aN (NM::D2) h2):=(f.mono (D':=NM::D) (fun B hB=>List.mem_cons_of_mem _ hB)).inc (fun B hB=>by
  rcases List.mem_cons.1 hB with rfl|hB
  ·exact .inl (by simp)
  ·exact (hD B hB).imp (List.mem_cons_of_mem _) id)
 have hS:S0 ∉ NM::D2:=fun hm=>by
  rcases List.mem_cons.1 hm with e|hm
  ·exact g8 (by rw [e];simp)
  ·rcases hD _ hm with e|e
   ·exact g8 (List.mem_cons_of_mem _ e)
   ·have:=q1.lt;omega
 have hM:NM ∉ D2:=fun hm=>by
  rcases hD _ hm with e|e
  ·exact g9 e
  ·have:=m.lt;omega
 exact ⟨T0,D2,NM,v0,v1,nv,rfl,q1.dL f (fun hm=>g8 (List.mem_cons_of_mem _ hm)),t,m.hold (fun b q=>q.dL f g9),s0.mono hi,s1.mono hi,g6,fun bt x hx=>(g7 bt x hx).imp fun s hs=>⟨hs.1,hs.2.mono hi⟩,hS,hM,g10,g11⟩
theorem zDO (T0:Nat) (v0 v1:Value) (q:Int) (NM:Nat):cut (Bx T0 v0 v1 q NM) 0 1=some [.pointer (some ⟨T0,0,none⟩)]:=rfl
theorem zCZ (a:ab) (l:List ab):cB a l≠[]:=by
 cases l with
 |nil=>simp [cB]
 |cons x r =>
  unfold cB
  split
  ·simp
  ·split <;> simp
theorem zrx (d:au) (q:Int) (s:ByteArray) (a:ab) (facts:ByteArray→List ab) (aI us:ByteArray→Nat) (h hc:Heap) (z:Ext h hc) (N b:Nat) (S0:Nat) (E:List Nat) (hN:N=h.size) (X:List Nat) (cF:fZ X N b hc S0 E d q facts aI us) (cA:aY 1 hc) (JT:d.aj.length≤1000) (iO:(facts s).length≤800) (aS:∀ x∈facts s,x.ba=true) (ha:a.ba=true) (hv:aI s < 1000000000) (xA:jT (facts s)=facts s) (hb:b < 50000) (jE:∀ x,us x < 1000000000)
 (dB:gl d s a=0→∀ x,vq a x→x.size≠0∧x.size≤255) (qk:(cB a (facts s)).length≤900)
 (K:Value→Heap→Prop)
 (uk:gl d s a≠0→∀ h',Ext h h'→aT [] hc h'→K (.tuple #[.bool false,.int .i64 (gl d s a)]) h')
 (fp:gl d s a=0→bV (facts s) a=true→∀ h',Ext h h'→aT [] hc h'→K (.tuple #[.bool false,.int .i64 0]) h')
 (nA:gl d s a=0→bV (facts s) a=false→q < (cB a (facts s)).length→∀ h',Ext h h'→aT [] hc h'→K (.tuple #[.bool false,.int .i64 12]) h')
 (um:gl d s a=0→bV (facts s) a=false→((cB a (facts s)).length:Int)≤q→∀ h' cs E2,Ext h h'→aT E hc h'→(∀ B∈E2,B∈E∨hc.size≤B)→cs.length≤4→cs.Nodup→(∀ x,x∈cs↔vq a x)→fZ X N (b+4) h' S0 E2 d q (qp facts s (cB a (facts s))) (gg aI s (aI s+1)) (jt us cs)→K (.tuple #[.bool true,.int .i64 0]) h'):Ok Tryz.prog ae ov 11 [.pointer (some ⟨S0,0,none⟩),.string s,a.val] hc K:=by
 subst hN
 have Ny:=cF.2.2
 obtain ⟨⟨T0,D,NM,v0,v1,nv,rfl,x1,g2,g3,_⟩,_⟩:=id cF
 have g1:=x1.dL (aT.kc X hc) (x1.alive (by simp))
 have C9:=cF.lt
 rw [ao hc]
 refine Ok.aD rfl zzv (br N11) rfl (m:=32) rfl ?_
 simp -implicitDefEqProofs only [syms,aa,seval,wJ,Kq,g1.lay,zEs,bj,dJ,eW,↓ff,eR,dQ]
 refine zkC d q s a q _ (fun l => !bV l a) (fun l=>cB a (jT l)) facts aI us h _ (z.aw _ _ (by omega)) h.size b S0 (NM::D) rfl X (cF.lay _ _) (cA.lay _ _) JT iO aS hv (by rw [xA];exact qk) (fun h2 v K2 j7 hk=>?_) _ (fun he h' z2 fr=>?_) (fun he px h' z2 fr=>?_) (fun he px qR h' z2 fr=>?_) (fun he px qR h' z2 fr gx=>?_)
 ·rw [pA]
  refine zEf (facts s) a v h2 j7 (by omega) aS ha K2 (fun h' w x ho=>hk h' w x ?_ (fun hi=>eh.b ho (zCZ _ _)))
  exact Mp ho.sl
 ·rw [ao h']
  simp -implicitDefEqProofs only [syms,aa,seval,wJ,ij,dU,bj]
  exact uk he _ (z2.aw _ _ (by omega)) (((aT.lay hc _ _ []).trans fr (fun _ h=>nomatch h)).trans (aT.lay _ _ _ []) (fun _ h=>nomatch h))
 ·rw [ao h']
  simp -implicitDefEqProofs only [syms,aa,seval,wJ,ij,dU,bj]
  exact fp he (by simpa using px) _ (z2.aw _ _ (by omega)) (((aT.lay hc _ _ []).trans fr (fun _ h=>nomatch h)).trans (aT.lay _ _ _ []) (fun _ h=>nomatch h))
 ·rw [ao h']
  simp -implicitDefEqProofs only [syms,aa,seval,wJ,ij,dU,bj]
  simp only [xA] at qR
  exact nA he (by simpa using px) qR _ (z2.aw _ _ (by omega)) (((aT.lay hc _ _ []).trans fr (fun _ h=>nomatch h)).trans (aT.lay _ _ _ []) (fun _ h=>nomatch h))
 ·simp only [xA] at qR gx
  have V9:bV (facts s) a=false:=by simpa using px
  have kC:=dB he
  obtain ⟨⟨T1,D1,NM1,w0,w1,nw,IQ,y1,y2,e3,e4,e5,e6,e7,e8,e9,To,Tp⟩,mD,tQ⟩:=gx
  simp only [List.cons.injEq] at IQ
  obtain ⟨rfl,rfl⟩:=IQ
  have ux:=aT.kc X h'
  have CG:∀ B∈D,B ∉ X:=fun B hB=>mD B (List.mem_cons_of_mem _ hB)
  have e1:=y1.dL ux (y1.alive (by simp))
  have e2:=y2.dL ux CG
  have q0:Holds h' (hc.size+0) (.row a.cells 42 false):=(Holds.mk (by rw [bB];simp) (by rw [kX];rfl):Holds (hc.lay [.row a.cells 42 false] hc.low) (hc.size+0) (.row a.cells 42 false)).dL fr (by
   intro hm
   rcases List.mem_cons.1 hm with e|hm
   ·have:=(C9.2 _ (List.mem_cons_self)).2;omega
   ·have:=(C9.2 _ (List.mem_cons_of_mem _ hm)).2;omega)
  have II:aT (NM::D) hc h':=(aT.lay hc _ _ _).trans fr (fun B hB=>.inl hB)
  rw [ao h']
  have z:=z2
  simp -implicitDefEqProofs only [syms,aa,seval,wJ,ij,dU,bj]
  with_reducible first|refine eu (by simp only [wJ]) (z.aw _ _ (by omega)) ?_
  simp -implicitDefEqProofs only [syms,aa,seval,wJ,dJ,e1.lay,↓zDO,q0.lay,eW,↓ff,eR,dQ,jK]
  refine zw5 a h _ (z.aw _ _ (by omega)) D T1 b us (e2.lay _ _) (by omega) kC jE _ (fun h5 cs D2 z5 nT vQ iw b8 u6 tM=>?_)
  have AX:=nT.size
  rw [bB] at AX
  refine OK (by kernel_rfl) z5.low (by rw [bB];exact AX) ?_
  have tJ:aT D h' h5:=(aT.lay h' [] _ D).trans nT (fun B hB=>.inl hB)
  clear z
  have z:=z5
  rw [ao h5]
  simp -implicitDefEqProofs only [syms,aa,seval,wJ]
  ((with_reducible refine ⟨z.cW.lay _ _,?_⟩);(intro _ h6 zz x _);(simp only [cq,List.append_nil] at x))
  replace tJ:=tJ.over x
  replace u6:=u6.over x
  clear z
  have z:=zz
  rw [ao h6]
  simp -implicitDefEqProofs only [syms,aa,seval,wJ,ij,dU,bj]
  have sC:aT D h' (h6.lay [] h6.low):=tJ.trans (aT.lay _ _ _ []) (fun _ h=>nomatch h)
  have tO:∀ B∈D2,B∈D∨h'.size≤B:=fun B hB=>(tM B hB).imp id (fun e=>by rw [bB] at e;simpa using e)
  have hfh:=II.size
  have tN:∀ B∈D2,B ∉ X:=fun B hB hx=>by
   rcases tO B hB with e|e
   ·exact CG B e hx
   ·have:=tQ B hx;omega
  refine um he V9 qR _ cs (NM::D2) (z.aw _ _ (by omega)) (II.trans sC (fun B hB=>.inl (List.mem_cons_of_mem _ hB))) (fun B hB=>?_) vQ iw b8 ⟨mX.turn y1 e3 e4 e5 e6 e7 e8 e9 To Tp (sC.kill X) ((u6.lay _ _).dL (aT.dead X _) tN) (fun B hB=>by rw [jn];exact tO B hB),fun B hB=>?_,fun B hB=>Nat.lt_of_lt_of_le (tQ B hB) sC.size⟩
  ·rcases List.mem_cons.1 hB with rfl|hB
   ·exact .inl (by simp)
   ·exact (tO B hB).imp (List.mem_cons_of_mem _) (fun e=>by omega)
  ·rcases List.mem_cons.1 hB with rfl|hB
   ·exact mD _ (by simp)
   ·exact tN B hB
theorem zpi (d:au) (q:Int) (s:ByteArray) (a:ab) (facts:ByteArray→List ab) (aI us:ByteArray→Nat) (h hc:Heap) (z:Ext h hc) (N b:Nat) (S0:Nat) (E:List Nat) (hN:N=h.size) (X:List Nat) (cF:fZ X N b hc S0 E d q facts aI us) (cA:aY 1 hc) (JT:d.aj.length≤1000) (iO:(facts s).length≤800) (aS:∀ x∈facts s,x.ba=true) (ha:a.ba=true) (hv:aI s < 1000000000) (xA:jT (facts s)=facts s) (hb:b < 50000) (jE:∀ x,us x < 1000000000)
 (jB:gl d s a=0→bV (facts s) a=true→∀ x,vq a x→0 < us x)
 (K:Value→Heap→Prop)
 (uk:gl d s a≠0→∀ h',Ext h h'→aT [] hc h'→K (.tuple #[.bool false,.int .i64 (gl d s a)]) h')
 (fp:gl d s a=0→bV (facts s) a=false→∀ h',Ext h h'→aT [] hc h'→K (.tuple #[.bool false,.int .i64 0]) h')
 (um:gl d s a=0→bV (facts s) a=true→∀ h' cs E2,Ext h h'→aT E hc h'→(∀ B∈E2,B∈E∨hc.size≤B)→cs.length≤4→cs.Nodup→(∀ x,x∈cs↔vq a x)→fZ X N b h' S0 E2 d q (qp facts s (fB a (facts s))) (gg aI s (aI s+1)) (iI us cs)→K (.tuple #[.bool true,.int .i64 0]) h'):Ok Tryz.prog ae ov 16 [.pointer (some ⟨S0,0,none⟩),.string s,a.val] hc K:=by
 subst hN
 have Ny:=cF.2.2
 obtain ⟨⟨T0,D,NM,v0,v1,nv,rfl,x1,g2,g3,_⟩,_⟩:=id cF
 have g1:=x1.dL (aT.kc X hc) (x1.alive (by simp))
 have C9:=cF.lt
 rw [ao hc]
 refine Ok.aD rfl zzy (br N16) rfl (m:=23) rfl ?_
 simp -implicitDefEqProofs only [syms,aa,seval,Ad,Kq,g1.lay,zEs,bj,dJ,eW,↓ff,eR,dQ]
 refine zkC d q s a 1000 _ (fun l=>bV l a) (fun l=>fB a (jT l)) facts aI us h _ (z.aw _ _ (by omega)) h.size b S0 (NM::D) rfl X (cF.lay _ _) (cA.lay _ _) JT iO aS hv (by rw [xA];exact Nat.le_trans (List.length_filter_le _ _) (by omega)) (fun h2 v K2 j7 hk=>?_) _ (fun he h' z2 fr=>?_) (fun he px h' z2 fr=>?_) (fun he px qR h' z2 fr=>?_) (fun he px qR h' z2 fr gx=>?_)
 ·rw [pA]
  refine zrV (facts s) a v h2 j7 (by omega) aS ha K2 (fun h' w x hw ho=>hk h' w x hw (fun hi=>ho hi))
 ·rw [ao h']
  simp -implicitDefEqProofs only [syms,aa,seval,Ad,ij,dU,bj]
  exact uk he _ (z2.aw _ _ (by omega)) (((aT.lay hc _ _ []).trans fr (fun _ h=>nomatch h)).trans (aT.lay _ _ _ []) (fun _ h=>nomatch h))
 ·rw [ao h']
  simp -implicitDefEqProofs only [syms,aa,seval,Ad,ij,dU,bj]
  exact fp he px _ (z2.aw _ _ (by omega)) (((aT.lay hc _ _ []).trans fr (fun _ h=>nomatch h)).trans (aT.lay _ _ _ []) (fun _ h=>nomatch h))
 ·exfalso
  have h1:((fB a (jT (facts s))).length:Int)≤800:=by rw [xA];exact Int.ofNat_le.2 (Nat.le_trans (List.length_filter_le _ _) iO)
  omega
 ·simp only [xA] at gx
  have kC:=jB he px
  obtain ⟨⟨T1,D1,NM1,w0,w1,nw,IQ,y1,y2,e3,e4,e5,e6,e7,e8,e9,To,Tp⟩,mD,tQ⟩:=gx
  simp only [List.cons.injEq] at IQ
  obtain ⟨rfl,rfl⟩:=IQ
  have ux:=aT.kc X h'
  have CG:∀ B∈D,B ∉ X:=fun B hB=>mD B (List.mem_cons_of_mem _ hB)
  have e1:=y1.dL ux (y1.alive (by simp))
  have e2:=y2.dL ux CG
  have q0:Holds h' (hc.size+0) (.row a.cells 42 false):=(Holds.mk (by rw [bB];simp) (by rw [kX];rfl):Holds (hc.lay [.row a.cells 42 false] hc.low) (hc.size+0) (.row a.cells 42 false)).dL fr (by
   intro hm
   rcases List.mem_cons.1 hm with e|hm
   ·have:=(C9.2 _ (List.mem_cons_self)).2;omega
   ·have:=(C9.2 _ (List.mem_cons_of_mem _ hm)).2;omega)
  have II:aT (NM::D) hc h':=(aT.lay hc _ _ _).trans fr (fun B hB=>.inl hB)
  rw [ao h']
  have z:=z2
  simp -implicitDefEqProofs only [syms,aa,seval,Ad,ij,dU,bj]
  with_reducible first|refine eu (by simp only [Ad]) (z.aw _ _ (by omega)) ?_
  simp -implicitDefEqProofs only [syms,aa,seval,Ad,dJ,e1.lay,↓zDO,q0.lay,eW,↓ff,eR,dQ,jK]
  refine zwX a h _ (z.aw _ _ (by omega)) D T1 b us (e2.lay _ _) (by omega) kC jE _ (fun h5 cs D2 z5 nT vQ iw b8 u6 tM=>?_)
  have AX:=nT.size
  rw [bB] at AX
  refine OK (by kernel_rfl) z5.low (by rw [bB];exact AX) ?_
  have tJ:aT D h' h5:=(aT.lay h' [] _ D).trans nT (fun B hB=>.inl hB)
  clear z
  have z:=z5
  rw [ao h5]
  simp -implicitDefEqProofs only [syms,aa,seval,Ad]
  ((with_reducible refine ⟨z.cW.lay _ _,?_⟩);(intro _ h6 zz x _);(simp only [cq,List.append_nil] at x))
  replace tJ:=tJ.over x
  replace u6:=u6.over x
  clear z
  have z:=zz
  rw [ao h6]
  simp -implicitDefEqProofs only [syms,aa,seval,Ad,ij,dU,bj]
  have sC:aT D h' (h6.lay [] h6.low):=tJ.trans (aT.lay _ _ _ []) (fun _ h=>nomatch h)
  have tO:∀ B∈D2,B∈D∨h'.size≤B:=fun B hB=>(tM B hB).imp id (fun e=>by rw [bB] at e;simpa using e)
  have hfh:=II.size
  have tN:∀ B∈D2,B ∉ X:=fun B hB hx=>by
   rcases tO B hB with e|e
   ·exact CG B e hx
   ·have:=tQ B hx;omega
  refine um he px _ cs (NM::D2) (z.aw _ _ (by omega)) (II.trans sC (fun B hB=>.inl (List.mem_cons_of_mem _ hB))) (fun B hB=>?_) vQ iw b8 ⟨mX.turn y1 e3 e4 e5 e6 e7 e8 e9 To Tp (sC.kill X) ((u6.lay _ _).dL (aT.dead X _) tN) (fun B hB=>by rw [jn];exact tO B hB),fun B hB=>?_,fun B hB=>Nat.lt_of_lt_of_le (tQ B hB) sC.size⟩
  ·rcases List.mem_cons.1 hB with rfl|hB
   ·exact .inl (by simp)
   ·exact (tO B hB).imp (List.mem_cons_of_mem _) (fun e=>by omega)
  ·rcases List.mem_cons.1 hB with rfl|hB
   ·exact mD _ (by simp)
   ·exact tN B hB
def wD (us:ByteArray→Nat) (n:Nat):Prop:=∃ keys:List ByteArray,keys.Nodup∧(∀ t,t∈keys↔0 < us t)∧n=keys.length
theorem wD.same {us vs:ByteArray→Nat} {n m:Nat} (f:wD us n) (g:wD vs m) (h:∀ t,0 < us t↔0 < vs t):n=m:=by
 obtain ⟨k1,n1,m1,rfl⟩:=f
 obtain ⟨k2,n2,m2,rfl⟩:=g
 exact ((List.perm_ext_iff_of_nodup n1 n2).2 fun t=>by rw [m1,m2];exact h t).length_eq
theorem mX.name {N b:Nat} {h:Heap} {S0:Nat} {E:List Nat} {d:au} {q:Int} {facts:ByteArray→List ab} {aI us:ByteArray→Nat} {nv:List (ByteArray × Value)} (g6:∀ bt,cZ nv bt=none→facts bt=[]∧aI bt=0) (g7:∀ bt x,cZ nv bt=some x→∃ s,x=.agg #[s,.int .u64 (aI bt:Int)]∧Sl aK.atom (aN E h) s (facts bt)) (s:ByteArray):∃ sa sn sc,(cZ nv s).getD (.agg #[.slice none 0 0,.int .u64 0])=.agg #[.slice sa sn sc,.int .u64 (aI s:Int)]∧Sl aK.atom (aN E h) (.slice sa sn sc) (facts s):=by
 cases hl:cZ nv s with
 |none =>
  obtain ⟨e1,e2⟩:=g6 s hl
  rw [e1,e2]
  exact ⟨_,_,_,rfl,.nil⟩
 |some x =>
  obtain ⟨v,rfl,f⟩:=g7 s x hl
  obtain ⟨sa,sn,sc,rfl⟩:=Mp f
  exact ⟨sa,sn,sc,rfl,f⟩
theorem O0 (bt:ByteArray) (d:au) (q:Int) (facts:ByteArray→List ab) (aI us:ByteArray→Nat) (h:Heap) (N b:Nat) (S0:Nat) (E:List Nat) (cF:mX N b h S0 E d q facts aI us) (iO:(facts bt).length≤100000) (K:Value→Heap→Prop)
 (hk:∀ h' w A,Ext h h'→Ow aK.atom h h' 42 A w (facts bt)→K w h'):Ok Tryz.prog ae ov 20 [.pointer (some ⟨S0,0,none⟩),.string bt] h K:=by
 obtain ⟨T0,D,NM,v0,v1,nv,rfl,g1,g2,g3,g4,g5,g6,g7,g8,g9,g10,g11⟩:=id cF
 obtain ⟨sa,sn,zD,dE,pz⟩:=mX.name (N:=N) (b:=b) (S0:=S0) (d:=d) (q:=q) (us:=us) g6 g7 bt
 have z:=Ext.refl h
 rw [ao h]
 refine Ok.aD rfl zzC (br N20) rfl (m:=13) rfl ?_
 simp -implicitDefEqProofs only [syms,aa,seval,Tj,pV,ec,g1.lay,GW,v8]
 refine Eo g3 rB vC vE ?_
 simp only [dE,Bool.false_eq_true,if_false]
 simp -implicitDefEqProofs only [syms,aa,seval,Tj,jK]
 have hA:Sl aK.atom h (.slice sa sn zD) (facts bt):=pz.mono (qt _ _)
 refine zrG (facts bt) _ _ (hA.lay _ _) iO _ (fun h' w A x o=>?_)
 replace o:=o.down (h0:=h) (by rw [bB];omega)
 (replace z:=z.an x (by omega);rw [ao h'])
 have jm:=cJ w
 simp -implicitDefEqProofs only [syms,aa,seval,Tj,jm]
 exact hk _ _ _ (z.aw _ _ (by omega)) (o.lay _ _)
theorem YV (bt:ByteArray) (d:au) (q:Int) (facts:ByteArray→List ab) (aI us:ByteArray→Nat) (h:Heap) (N b:Nat) (S0:Nat) (E:List Nat) (cF:mX N b h S0 E d q facts aI us) (K:Value→Heap→Prop)
 (hk:∀ h',Ext h h'→K (.int .u64 (aI bt:Int)) h'):Ok Tryz.prog ae ov 21 [.pointer (some ⟨S0,0,none⟩),.string bt] h K:=by
 obtain ⟨T0,D,NM,v0,v1,nv,rfl,g1,g2,g3,g4,g5,g6,g7,g8,g9,g10,g11⟩:=id cF
 obtain ⟨sa,sn,zD,dE,pz⟩:=mX.name (N:=N) (b:=b) (S0:=S0) (d:=d) (q:=q) (us:=us) g6 g7 bt
 have z:=Ext.refl h
 rw [ao h]
 refine Ok.aD rfl zzD (br N21) rfl (m:=12) rfl ?_
 simp -implicitDefEqProofs only [syms,aa,seval,c21,pV,ec,g1.lay,GW,v8]
 refine Eo g3 rB vC vE ?_
 simp only [dE,Bool.false_eq_true,if_false]
 simp -implicitDefEqProofs only [syms,aa,seval,c21,jK,bj]
 exact hk _ (z.aw _ _ (by omega))
theorem znk (bt:ByteArray) (d:au) (q:Int) (facts:ByteArray→List ab) (aI us:ByteArray→Nat) (h:Heap) (N b:Nat) (S0:Nat) (E:List Nat) (cF:mX N b h S0 E d q facts aI us) (K:Value→Heap→Prop)
 (hk:∀ h',Ext h h'→K (.int .i64 (facts bt).length) h'):Ok Tryz.prog ae ov 14 [.pointer (some ⟨S0,0,none⟩),.string bt] h K:=by
 obtain ⟨T0,D,NM,v0,v1,nv,rfl,g1,g2,g3,g4,g5,g6,g7,g8,g9,g10,g11⟩:=id cF
 obtain ⟨sa,sn,zD,dE,pz⟩:=mX.name (N:=N) (b:=b) (S0:=S0) (d:=d) (q:=q) (us:=us) g6 g7 bt
 have rQ:=fun (hh:Heap)=>pz.bd cf hh
 have z:=Ext.refl h
 rw [ao h]
 refine Ok.aD rfl zzw (br N14) rfl (m:=13) rfl ?_
 simp -implicitDefEqProofs only [syms,aa,seval,c14,pV,ec,g1.lay,GW,v8]
 refine Eo g3 rB vC vE ?_
 simp only [dE,Bool.false_eq_true,if_false]
 simp -implicitDefEqProofs only [syms,aa,seval,c14,jK,bj,rQ]
 exact hk _ (z.aw _ _ (by omega))
theorem zun (d:au) (q:Int) (facts:ByteArray→List ab) (aI us:ByteArray→Nat) (h:Heap) (N b:Nat) (S0:Nat) (E:List Nat) (cF:mX N b h S0 E d q facts aI us) (K:Value→Heap→Prop)
 (hk:∀ h' n,Ext h h'→wD us n→n≤b→K (.int .i64 (n:Nat)) h'):Ok Tryz.prog ae ov 15 [.pointer (some ⟨S0,0,none⟩)] h K:=by
 obtain ⟨T0,D,NM,v0,v1,nv,rfl,g1,g2,g3,g4,g5,g6,g7,g8,g9,g10,g11⟩:=id cF
 obtain ⟨FI,FE,FM,free,aJ,kv,rfl,ts,tp,ub,pt⟩:=g2
 have z:=Ext.refl h
 rw [ao h]
 refine Ok.aD rfl zzx (br N15) rfl (m:=10) rfl ?_
 simp -implicitDefEqProofs only [syms,aa,seval,c15,pV,dP,g1.lay,zIa]
 refine zCR _ T0 FI FE FM N free aJ kv (ts.lay _ _) _ (fun h' x=>?_)
 (replace z:=z.an x (by omega);rw [ao h'])
 simp -implicitDefEqProofs only [syms,aa,seval,c15,bj]
 refine hk _ _ (z.aw _ _ (by omega)) ⟨kv.map Prod.fst,tp.kn,fun t=>?_,by rw [List.length_map]⟩ pt
 rw [← tp.has t]
 cases hl:cZ kv t with
 |none=>simp [dq.1 hl]
 |some v =>
  simp only [Option.isSome_some,iff_true]
  refine Classical.byContradiction fun hn=>?_
  rw [dq.2 hn] at hl
  cases hl
theorem zBB (a:ab):a.cells[0]? = some (.string a.says):=rfl
theorem zCQ (a:ab) (d:au) (q:Int) (facts:ByteArray→List ab) (aI us:ByteArray→Nat) (h:Heap) (N b:Nat) (S0:Nat) (E:List Nat) (cF:mX N b h S0 E d q facts aI us) (iO:(facts a.says).length≤1000) (K:Value→Heap→Prop)
 (hk:∀ h',Ext h h'→K (.bool (decide (a∈facts a.says))) h'):Ok Tryz.prog ae ov 23 [.pointer (some ⟨S0,0,none⟩),a.val] h K:=by
 obtain ⟨T0,D,NM,v0,v1,nv,rfl,g1,g2,g3,g4,g5,g6,g7,g8,g9,g10,g11⟩:=id cF
 obtain ⟨sa,sn,zD,dE,pz⟩:=mX.name (N:=N) (b:=b) (S0:=S0) (d:=d) (q:=q) (us:=us) g6 g7 a.says
 have hA:Sl aK.atom h (.slice sa sn zD) (facts a.says):=pz.mono (qt _ _)
 have z:=Ext.refl h
 rw [ao h]
 refine Ok.aD rfl zzF (br N23) rfl (m:=15) rfl ?_
 simp -implicitDefEqProofs only [syms,aa,seval,Fj,pV,eW]
 with_reducible first|refine eu (by simp only [Fj]) (z.aw _ _ (by omega)) ?_
 simp -implicitDefEqProofs only [syms,aa,seval,Fj,pV,ec,dJ,g1.lay,GW,v8,eW,zBB]
 refine Eo g3 rB vC vE ?_
 simp only [dE,Bool.false_eq_true,if_false]
 simp -implicitDefEqProofs only [syms,aa,seval,Fj,jK,eW,↓ff,eR,dQ]
 refine ziV (facts a.says) _ a _ (hA.lay _ _) iO _ (fun h' x=>?_)
 (((with_reducible refine dK ?_ ?_ ?_);(· exact (by (simp only [dM]);have:=z.size;omega));(· exact x));replace z:=z.an x (by omega);rw [ao h'])
 have qT:∀ (b:Bool) (h:Heap) (K:Value→Heap→Prop),aU (some (.bool b)) h K=K (.bool b) h:=fun _ _ _=>rfl
 generalize FA:decide (a∈facts a.says)=db at hk ⊢
 simp -implicitDefEqProofs only [syms,aa,seval,Fj,qT]
 ((with_reducible refine ⟨z.cW.lay _ _,?_⟩);(intro _ h' zz x _);(simp only [cq,List.append_nil] at x);(replace z:=zz);(clear zz);rw [ao h'])
 simp -implicitDefEqProofs only [syms,aa,seval,Fj,qT]
 exact hk _ (z.aw _ _ (by omega))
section
variable {X:List Nat} {N b b2 k:Nat} {h h2:Heap} {S0:Nat} {E:List Nat} {d:au} {q:Int} {facts:ByteArray→List ab} {aI us:ByteArray→Nat} {s:ByteArray} {a:ab} {l:List ab} {cs:List ByteArray}
theorem fZ.more (s:fZ X N b h S0 E d q facts aI us) (hb:b≤b2):fZ X N b2 h S0 E d q facts aI us:=by
 obtain ⟨⟨T0,D,NM,v0,v1,nv,e,g1,g2,g3⟩,s2⟩:=s
 exact ⟨⟨T0,D,NM,v0,v1,nv,e,g1,g2.le hb,g3⟩,s2⟩
theorem dN.down {N2 b T0:Nat} {D:List Nat} (t:dN N b h D T0 us) (hN:N2≤N):dN N2 b h D T0 us:=by
 obtain ⟨FI,FE,FM,free,aJ,kv,e,⟨a1,a2,a3,lo,hi⟩,p⟩:=t
 exact ⟨FI,FE,FM,free,aJ,kv,e,⟨a1,a2,a3,⟨by omega,by omega,by omega,by omega⟩,hi⟩,p⟩
theorem fZ.down {N2:Nat} (s:fZ X N b h S0 E d q facts aI us) (hN:N2≤N):fZ X N2 b h S0 E d q facts aI us:=by
 obtain ⟨⟨T0,D,NM,v0,v1,nv,e,g1,g2,g3,g4,g5,g6,g7,g8,g9,g10,g11⟩,s2⟩:=s
 exact ⟨⟨T0,D,NM,v0,v1,nv,e,g1,g2.down hN,g3,g4,g5,g6,g7,g8,g9,by omega,by omega⟩,s2⟩
theorem fZ.fresh (s:fZ [] N b h S0 E d q facts aI us) (f:aT [] h h2) (hX:∀ B∈X,h.size≤B∧B < h2.size):fZ X N b h2 S0 E d q facts aI us:=by
 have hl:=s.lt
 obtain ⟨⟨T0,D,NM,v0,v1,nv,rfl,g1,g2,g3,g4,g5,g6,g7,g8⟩,_⟩:=s
 have mD:∀ B∈NM::D,B ∉ X:=fun B hB hx=>by
  have h1:=(hl.2 B hB).2
  have h2:=(hX B hx).1
  omega
 have u:aT X h (aN X h2):=(f.mono (D':=X) (fun _ h=>nomatch h)).trans (aT.dead X h2) (fun B hB=>.inl hB)
 have hi:cP (aN (NM::D) h) (aN (NM::D) (aN X h2)):=by
  refine ⟨by rw [jn,jn,jn];exact f.size,fun B hB hd=>?_⟩
  rw [jn] at hB
  have hE:B ∉ NM::D:=fun hh=>hd (vY hh hB)
  have hx:B ∉ X:=fun hh=>by have:=(hX B hh).1;omega
  rw [n9 hE,n9 hE]
  exact u.get B hB hx
 exact ⟨⟨T0,D,NM,v0,v1,nv,rfl,g1.dL u (fun hx=>by have:=(hX _ hx).1;have:=hl.1;omega),g2.dL u (fun B hB=>mD B (List.mem_cons_of_mem _ hB)),g3.hold (fun b q=>q.dL u (mD _ (by simp))),g4.mono hi,g5.mono hi,g6,fun bt x hx=>(g7 bt x hx).imp fun s hs=>⟨hs.1,hs.2.mono hi⟩,g8⟩,mD,fun B hB=>(hX B hB).2⟩
theorem zkW:sx facts s (some l)=qp facts s l:=rfl
theorem zkX:vD aI s (some l)=gg aI s (aI s+1):=rfl
theorem zDA (h:∀ x,x∈cs↔vq a x) (t:ByteArray):jt us cs t=us t+(if jQ a t then 1 else 0):=by
 unfold jt
 by_cases ht:jQ a t=true
 ·rw [if_pos ht,if_pos ((h t).2 (iy.1 ht))]
 ·rw [if_neg ht,if_neg (fun hm=>ht (iy.2 ((h t).1 hm)))]
  rfl
theorem zEy (h:∀ x,x∈cs↔vq a x) (t:ByteArray):iI us cs t=us t - (if jQ a t then 1 else 0):=by
 unfold iI
 by_cases ht:jQ a t=true
 ·rw [if_pos ht,if_pos ((h t).2 (iy.1 ht))]
 ·rw [if_neg ht,if_neg (fun hm=>ht (iy.2 ((h t).1 hm)))]
  rfl
end
theorem zry (d:au) (q:Int) (s:ByteArray) (a:ab) (facts:ByteArray→List ab) (aI us:ByteArray→Nat) (h hc:Heap) (z:Ext h hc) (N b k:Nat) (S0:Nat) (E:List Nat) (hN:N=h.size) (X:List Nat) (cF:fZ X N b hc S0 E d q facts aI us) (inv:da d k facts aI us) (iw:d.aj.Nodup) (nB:d.aj.length≤16) (cA:aY 1 hc) (ha:a.ba=true) (hk:k≤700) (hb:b < 50000) (K:Value→Heap→Prop)
 (hK:∀ h' E2 ko,Ext h h'→aT E hc h'→(∀ B∈E2,B∈E∨hc.size≤B)→fZ X N (b+4) h' S0 E2 d q (sx facts s (fG d q s a (facts s))) (vD aI s (fG d q s a (facts s))) ko→da d (k+1) (sx facts s (fG d q s a (facts s))) (vD aI s (fG d q s a (facts s))) ko→K (.tuple #[.bool (fG d q s a (facts s)).isSome,.int .i64 (jZ d q s a (facts s))]) h'):Ok Tryz.prog ae ov 11 [.pointer (some ⟨S0,0,none⟩),.string s,a.val] hc K:=by
 have jE:∀ x,us x < 1000000000:=fun x=>by
  have h1:=inv.Bd x
  have h2:d.aj.length*k≤16*700:=Nat.mul_le_mul nB hk
  omega
 have hl:=inv.len s
 have hv:=inv.Be s
 have stay:fG d q s a (facts s)=none→∀ h',Ext h h'→aT [] hc h'→K (.tuple #[.bool (fG d q s a (facts s)).isSome,.int .i64 (jZ d q s a (facts s))]) h':=fun e h' z f=>by
  refine hK h' E us z (f.mono (fun _ h=>nomatch h)) (fun B hB=>.inl hB) ?_ ?_
  ·rw [e,El,Mb]
   exact (cF.dL f).more (by omega)
  ·rw [e,El,Mb]
   exact inv.more (by omega)
 refine zrx d q s a facts aI us h hc z N b S0 E hN X cF cA (by omega) (by omega) (fun x hx=>inv.ba hx) ha (by omega) (inv.sort s) hb jE (fun he=>zoQ he) (by have:=zuB a (facts s);omega) K (fun he h' z f=>?_) (fun he hh h' z f=>?_) (fun he hh hq h' z f=>?_) (fun he hh hq h' cs E2 z f hE vQ Dm b8 gx=>?_)
 ·have e1:fG d q s a (facts s)=none:=if_neg he
  have e2:jZ d q s a (facts s)=gl d s a:=if_neg he
  have:=stay e1 h' z f
  rw [e1,e2] at this
  exact this
 ·have e1:fG d q s a (facts s)=none:=by unfold fG;rw [if_pos he,if_pos hh]
  have e2:jZ d q s a (facts s)=0:=by unfold jZ;rw [if_pos he,if_pos hh]
  have:=stay e1 h' z f
  rw [e1,e2] at this
  exact this
 ·have e1:fG d q s a (facts s)=none:=by unfold fG;rw [if_pos he,if_neg (by rw [hh];decide),if_neg (by omega)]
  have e2:jZ d q s a (facts s)=12:=by unfold jZ;rw [if_pos he,if_neg (by rw [hh];decide),if_neg (by omega)]
  have:=stay e1 h' z f
  rw [e1,e2] at this
  exact this
 ·have e1:fG d q s a (facts s)=some (cB a (facts s)):=by unfold fG;rw [if_pos he,if_neg (by rw [hh];decide),if_pos hq]
  have e2:jZ d q s a (facts s)=0:=by unfold jZ;rw [if_pos he,if_neg (by rw [hh];decide),if_pos hq]
  have fp:=hK h' E2 (jt us cs) z f hE
  rw [e1,e2,zkW,zkX] at fp
  exact fp gx (inv.Xv iw he hh (zDA b8))
theorem zpj (d:au) (q:Int) (s:ByteArray) (a:ab) (facts:ByteArray→List ab) (aI us:ByteArray→Nat) (h hc:Heap) (z:Ext h hc) (N b k:Nat) (S0:Nat) (E:List Nat) (hN:N=h.size) (X:List Nat) (cF:fZ X N b hc S0 E d q facts aI us) (inv:da d k facts aI us) (iw:d.aj.Nodup) (nB:d.aj.length≤16) (cA:aY 1 hc) (ha:a.ba=true) (hk:k≤700) (hb:b < 50000) (K:Value→Heap→Prop)
 (hK:∀ h' E2 ko,Ext h h'→aT E hc h'→(∀ B∈E2,B∈E∨hc.size≤B)→fZ X N (b+4) h' S0 E2 d q (sx facts s (gu d s a (facts s))) (vD aI s (gu d s a (facts s))) ko→da d (k+1) (sx facts s (gu d s a (facts s))) (vD aI s (gu d s a (facts s))) ko→K (.tuple #[.bool (gu d s a (facts s)).isSome,.int .i64 (gl d s a)]) h'):Ok Tryz.prog ae ov 16 [.pointer (some ⟨S0,0,none⟩),.string s,a.val] hc K:=by
 have jE:∀ x,us x < 1000000000:=fun x=>by
  have h1:=inv.Bd x
  have h2:d.aj.length*k≤16*700:=Nat.mul_le_mul nB hk
  omega
 have hl:=inv.len s
 have hv:=inv.Be s
 have stay:gu d s a (facts s)=none→∀ h',Ext h h'→aT [] hc h'→K (.tuple #[.bool (gu d s a (facts s)).isSome,.int .i64 (gl d s a)]) h':=fun e h' z f=>by
  refine hK h' E us z (f.mono (fun _ h=>nomatch h)) (fun B hB=>.inl hB) ?_ ?_
  ·rw [e,El,Mb]
   exact (cF.dL f).more (by omega)
  ·rw [e,El,Mb]
   exact inv.more (by omega)
 refine zpi d q s a facts aI us h hc z N b S0 E hN X cF cA (by omega) (by omega) (fun x hx=>inv.ba hx) ha (by omega) (inv.sort s) hb jE (fun he hh x hx=>inv.pos he hh (iy.2 hx)) K (fun he h' z f=>?_) (fun he hh h' z f=>?_) (fun he hh h' cs E2 z f hE vQ Dm b8 gx=>?_)
 ·have e1:gu d s a (facts s)=none:=if_neg he
  have:=stay e1 h' z f
  rw [e1] at this
  exact this
 ·have e1:gu d s a (facts s)=none:=by unfold gu;rw [if_pos he,if_neg (by rw [hh];decide)]
  have:=stay e1 h' z f
  rw [e1,he] at this
  exact this
 ·have e1:gu d s a (facts s)=some (fB a (facts s)):=by unfold gu;rw [if_pos he,if_pos hh]
  have fp:=hK h' E2 (iI us cs) z f hE
  rw [e1,he,zkW,zkX] at fp
  exact fp (gx.more (by omega)) (inv.Tn iw he hh (zEy b8))
end Go.Proofs.YtdplfgoifjjniaaGreatDoor

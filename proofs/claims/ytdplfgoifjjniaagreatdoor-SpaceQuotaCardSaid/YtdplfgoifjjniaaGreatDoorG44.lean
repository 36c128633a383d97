/- Frames beside blocks that another thing turns. No condition. -/
import Derived.Test.YtdplfgoifjjniaaGreatDoorG41
import Derived.Test.YtdplfgoifjjniaaGreatDoorG43
set_option linter.unusedSimpArgs false
set_option linter.unusedVariables false
set_option maxRecDepth 100000
set_option maxHeartbeats 0
namespace Go.Am
theorem ze5:∀ (D X:List Nat) (h:Heap),killL (D++X) h=killL D (killL X h)
 | [],_,_=>rfl
 |A::D,X,h=>by
  show kill A (killL (D++X) h)=kill A (killL D (killL X h))
  rw [ze5 D X h]
section
variable {D E X:List Nat} {a b h:Heap} {B:Nat} {k:Blk}
theorem Frs.kill (f:Frs D a b) (X:List Nat):Frs D (killL X a) (killL X b):=by
 refine ⟨by rw [zaz,zaz];exact f.size,fun B hB hn=>?_⟩
 rw [zaz] at hB
 by_cases hx:B∈X
 ·rw [zco hx hB,zco hx (Nat.lt_of_lt_of_le hB f.size)]
 ·rw [zbh hx,zbh hx]
  exact f.get B hB hn
theorem Frs.dead (X:List Nat) (h:Heap):Frs X h (killL X h):=⟨by rw [zaz];exact Nat.le_refl _,fun B _ hn=>zbh hn⟩
theorem Frs.undead (X:List Nat) (h:Heap):Frs X (killL X h) h:=⟨by rw [zaz];exact Nat.le_refl _,fun B _ hn=>(zbh hn).symm⟩
theorem Holds.alive (q:Holds (killL X h) B k) (hk:k≠.dead):B ∉ X:=fun hx=>by
 have h1:=q.lt
 rw [zaz] at h1
 have h2:=q.get
 rw [zco hx h1] at h2
 cases h2
 exact hk rfl
theorem Holds.killX (q:Holds h B k) (hB:B ∉ X):Holds (killL X h) B k:=q.frs (Frs.dead X h) hB
theorem zA4 (E X:List Nat) (h:Heap):Inc (killL E (killL X h)) (killL E h):=by
 refine ⟨by rw [zaz,zaz,zaz];exact Nat.le_refl _,fun B hB hd=>?_⟩
 rw [zaz,zaz] at hB
 have hE:B ∉ E:=fun hh=>hd (zco hh (by rw [zaz];exact hB))
 have hX:B ∉ X:=fun hh=>hd (by rw [zbh hE];exact zco hh hB)
 rw [zbh hE,zbh hE,zbh hX]
end
end Go.Am
namespace Go.Proofs.YtdplfgoifjjniaaGreatDoor
open Go.Am
def zfk (T0:Nat) (v0 v1:Value) (q:Int) (NM:Nat):List Value:=[.pointer (some ⟨T0,0,none⟩),v0,v1,.slice none 0 0,.int .i64 q,.int .i64 0,.slice none 0 0,.slice none 0 0,.map (some NM)]
def SpS (N b:Nat) (h:Heap) (S0:Nat) (E:List Nat) (d:PolicyD) (q:Int) (facts:ByteArray→List AtomD) (vers:ByteArray→Nat) (us:ByteArray→Nat):Prop :=
 ∃ T0 D NM v0 v1 nv,E=NM::D∧Holds h S0 (.row (zfk T0 v0 v1 q NM) 81 false)∧TabD N b h D T0 us∧MapV h NM nv∧Sl Rep.str (killL E h) v0 d.principals∧Sl Rep.pred (killL E h) v1 d.preds ∧
   (∀ who,zaK nv who=none→facts who=[]∧vers who=0)∧(∀ who x,zaK nv who=some x→∃ s,x=.agg #[s,.int .u64 (vers who:Int)]∧Sl Rep.atom (killL E h) s (facts who))∧S0 ∉ E∧NM ∉ D∧N≤S0∧N≤NM
def SpX (X:List Nat) (N b:Nat) (h:Heap) (S0:Nat) (E:List Nat) (d:PolicyD) (q:Int) (facts:ByteArray→List AtomD) (vers:ByteArray→Nat) (us:ByteArray→Nat):Prop:=SpS N b (killL X h) S0 E d q facts vers us∧(∀ B∈E,B ∉ X)∧∀ B∈X,B < h.size
theorem zC4 (A:Nat):zbZ tab 78 [(0,.pointer (some ⟨A,0,none⟩))]=some (.agg #[.pointer (some ⟨A,0,none⟩)]):=by kernel_rfl
theorem zC3 (A M:Nat) (a0 a1) (n0 n1 c0 c1:Nat) (q:Int):zbZ tab 81 [(0,.agg #[.pointer (some ⟨A,0,none⟩)]),(1,zbN (.slice a0 n0 c0) (.slice a1 n1 c1) (.slice none 0 0) (.slice none 0 0) (.slice none 0 0) q 0),(2,.map (some M))]=some (.agg ⟨zfk A (.slice a0 n0 c0) (.slice a1 n1 c1) q M⟩):=by kernel_rfl
theorem zgG {α:Type} {r:Rep α} {h:Heap} {v:Value} {l:List α} (f:Sl r h v l):∃ a n c,v=.slice a n c:=by
 rcases f with ⟨rfl,_⟩|⟨A,o,c,row,u,ro,rfl,_⟩ <;> exact ⟨_,_,_,rfl⟩
theorem zvC (N:Nat) (d:PolicyD) (v0 v1:Value) (q:Int) (h:Heap) (G0:Nat) (hN:N≤h.size) (hG:N≤G0∧G0 < h.size) (X:List Nat) (hX:∀ B∈X,B < N) (s0:Sl Rep.str (killL [G0] (killL X h)) v0 d.principals) (s1:Sl Rep.pred (killL [G0] (killL X h)) v1 d.preds) (K:Value→Heap→Prop)
 (hk:∀ h' S0 E,Ext h h'→SpX X N 0 h' S0 E d q (fun _=>[]) (fun _=>0) (fun _=>0)→K (.pointer (some ⟨S0,0,none⟩)) h'):Ok Tryz.prog tab ov 30 [zbN v0 v1 (.slice none 0 0) (.slice none 0 0) (.slice none 0 0) q 0] h K:=by
 have hd0:=zgG s0
 have hd1:=zgG s1
 obtain ⟨a0,n0,c0,rfl⟩:=hd0
 obtain ⟨a1,n1,c1,rfl⟩:=hd1
 rw [zaa h]
 have z:=Ext.refl h
 refine Ok.into rfl zwf (zaw N30) rfl (m:=8) rfl ?_
 simp -implicitDefEqProofs only [syms,symx,seval,c30,zat]
 with_reducible first|refine zb9 (by simp only [c30]) (z.upW _ _ (by omega)) ?_
 simp -implicitDefEqProofs only [syms,symx,seval,c30,zat]
 refine zza N _ h.size G0 ⟨hN,by rw [zad];simp⟩ ⟨hG.1,by rw [zad];omega⟩ (by omega) _ (fun h' T0 FM x st hT hF=>?_)
 have q0:=Holds.top (i:=0) x rfl
 rw [zad] at hT hF
 simp only [List.length_cons,List.length_nil] at hT hF
 (((with_reducible refine zah ?_ ?_ ?_);(· exact (by (simp only [lsz]);have:=z.size;omega));(· exact x));replace z:=z.overW x (by omega);rw [zaa h'])
 simp -implicitDefEqProofs only [syms,symx,seval,c30,q0.lay,zat,↓zbI,zbz,za0,zC4,valA,zfn]
 have hz:=z.size
 refine zci (by omega) (by omega) ?_
 simp -implicitDefEqProofs only [syms,symx,seval,c30,zC3,valA]
 refine zlx (by simp) (by omega) (by simp) ?_
 simp -implicitDefEqProofs only [syms,symx,seval,c30]
 ((with_reducible refine ⟨z.grw.lay _ _,?_⟩);(intro _ h4 zz x _);(simp only [zan,List.append_nil] at x))
 have fr:Frs [] h' h4:=(Frs.refl [] h').over x
 have qm:=Holds.top (i:=0) x rfl
 have qs:=Holds.top (i:=1) x rfl
 have hhi:=st.hi
 replace st:=st.over x
 clear z
 have z:=zz
 rw [zaa h4]
 simp -implicitDefEqProofs only [syms,symx,seval,c30,valP]
 have hf4:=fr.size
 have hfr:Frs [G0] h h4:=z.frs [G0]
 have hE:∀ B∈[h'.size+0,T0,h.size,G0,FM],B∈[G0]∨h.size≤B:=by
  intro B hB
  simp only [List.mem_cons,List.not_mem_nil,or_false] at hB ⊢
  omega
 have hS:h'.size+1 ∉ [h'.size+0,T0,h.size,G0,FM]:=by
  simp only [List.mem_cons,List.not_mem_nil,or_false]
  omega
 have hNM:h'.size+0 ∉ [T0,h.size,G0,FM]:=by
  simp only [List.mem_cons,List.not_mem_nil,or_false]
  omega
 have hI:=((hfr.trans (Frs.lay h4 [] h4.low []) (fun _ h=>nomatch h)).kill X).inc (D':=[h'.size+0,T0,h.size,G0,FM]) (fun B hB=>by rw [zaz];exact hE B hB)
 have hlo:∀ B∈[h'.size+0,T0,h.size,G0,FM],N≤B:=by
  intro B hB
  simp only [List.mem_cons,List.not_mem_nil,or_false] at hB
  omega
 have hEX:∀ B∈[h'.size+0,T0,h.size,G0,FM],B ∉ X:=fun B hB hx=>by
  have h1:=hlo B hB
  have h2:=hX B hx
  omega
 have hSX:h'.size+1 ∉ X:=fun hx=>by
  have h2:=hX _ hx
  omega
 have hzs:=z.size
 exact hk _ (h'.size+1) [h'.size+0,T0,h.size,G0,FM] (z.upW _ _ (by omega)) ⟨⟨T0,[T0,h.size,G0,FM],h'.size+0,_,_,[],rfl,(qs.on _ _).killX hSX,TabD.frs (D:=[T0,h.size,G0,FM]) ⟨h.size,G0,FM,[],[],[],rfl,st.lay _ _,TabP.empty,Nat.le_refl 0,Nat.le_refl 0⟩ (Frs.dead X _) (fun B hB=>hEX B (List.mem_cons_of_mem _ hB)),(MapV.new (qm.on _ _)).hold (fun _ q=>q.killX (hEX _ (by simp))),s0.mono hI,s1.mono hI,fun _ _=>⟨rfl,rfl⟩,fun who x hx=>by simp [zaK] at hx,hS,hNM,by omega,by omega⟩,hEX,fun B hB=>by have:=hX B hB;rw [zad];omega⟩
theorem SpS.frs {N b:Nat} {h h2:Heap} {S0:Nat} {E:List Nat} {d:PolicyD} {q:Int} {facts:ByteArray→List AtomD} {vers us:ByteArray→Nat} (s:SpS N b h S0 E d q facts vers us) (f:Frs [] h h2):SpS N b h2 S0 E d q facts vers us:=by
 obtain ⟨T0,D,NM,v0,v1,nv,rfl,g1,g2,g3,g4,g5,g6,g7,g8⟩:=s
 have hi:Inc (killL (NM::D) h) (killL (NM::D) h2):=(f.mono (D':=NM::D) (fun _ h=>nomatch h)).inc (fun B hB=>.inl hB)
 exact ⟨T0,D,NM,v0,v1,nv,rfl,g1.frs f (by simp),g2.frs f (fun B hB=>by simp),g3.hold (fun b q=>q.frs f (by simp)),g4.mono hi,g5.mono hi,g6,fun who x hx=>(g7 who x hx).imp fun s hs=>⟨hs.1,hs.2.mono hi⟩,g8⟩
theorem SpS.lay {N b:Nat} {h:Heap} {S0:Nat} {E:List Nat} {d:PolicyD} {q:Int} {facts:ByteArray→List AtomD} {vers us:ByteArray→Nat} (s:SpS N b h S0 E d q facts vers us) (bs:List Blk) (w:Nat):SpS N b (h.lay bs w) S0 E d q facts vers us:=s.frs (Frs.lay _ _ _ _)
theorem SpS.over {N b:Nat} {h h2:Heap} {bs:List Blk} {w:Nat} {S0:Nat} {E:List Nat} {d:PolicyD} {q:Int} {facts:ByteArray→List AtomD} {vers us:ByteArray→Nat} (s:SpS N b h S0 E d q facts vers us) (x:Ext (h.lay bs w) h2):SpS N b h2 S0 E d q facts vers us:=s.frs ((Frs.refl [] h).over x)
section
variable {X:List Nat} {N b:Nat} {h h2:Heap} {S0:Nat} {E:List Nat} {d:PolicyD} {q:Int} {facts:ByteArray→List AtomD} {vers us:ByteArray→Nat}
theorem SpX.frs (s:SpX X N b h S0 E d q facts vers us) (f:Frs [] h h2):SpX X N b h2 S0 E d q facts vers us:=⟨s.1.frs (f.kill X),s.2.1,fun B hB=>Nat.lt_of_lt_of_le (s.2.2 B hB) f.size⟩
theorem SpX.lay (s:SpX X N b h S0 E d q facts vers us) (bs:List Blk) (w:Nat):SpX X N b (h.lay bs w) S0 E d q facts vers us:=s.frs (Frs.lay _ _ _ _)
theorem SpX.over {bs:List Blk} {w:Nat} (s:SpX X N b h S0 E d q facts vers us) (x:Ext (h.lay bs w) h2):SpX X N b h2 S0 E d q facts vers us:=s.frs ((Frs.refl [] h).over x)
theorem SpX.un (s:SpX X N b h S0 E d q facts vers us):SpS N b h S0 E d q facts vers us:=by
 obtain ⟨⟨T0,D,NM,v0,v1,nv,rfl,g1,g2,g3,g4,g5,g6,g7,g8⟩,hEX,hX⟩:=s
 have u:=Frs.undead X h
 have hi:=zA4 (NM::D) X h
 exact ⟨T0,D,NM,v0,v1,nv,rfl,g1.frs u (g1.alive (by simp)),g2.frs u (fun B hB=>hEX B (List.mem_cons_of_mem _ hB)),g3.hold (fun b q=>q.frs u (hEX _ (by simp))),g4.mono hi,g5.mono hi,g6,fun who x hx=>(g7 who x hx).imp fun s hs=>⟨hs.1,hs.2.mono hi⟩,g8⟩
theorem SpX.lt (s:SpX X N b h S0 E d q facts vers us):S0 < h.size∧∀ B∈E,N≤B∧B < h.size:=by
 obtain ⟨T0,D,NM,v0,v1,nv,rfl,g1,g2,g3,g4,g5,g6,g7,g8,g9,g10,g11⟩:=s.un
 refine ⟨g1.lt,fun B hB=>?_⟩
 rcases List.mem_cons.1 hB with rfl|hB
 ·exact ⟨g11,g3.lt⟩
 ·exact g2.lo B hB
theorem SpX.by (s:SpX X N b h S0 E d q facts vers us) (f:Frs X h h2):SpX [] N b h2 S0 E d q facts vers us:=by
 obtain ⟨⟨T0,D,NM,v0,v1,nv,rfl,g1,g2,g3,g4,g5,g6,g7,g8⟩,hEX,hX⟩:=s
 have u:Frs X (killL X h) h2:=(Frs.undead X h).trans f (fun B hB=>.inl hB)
 have hi:Inc (killL (NM::D) (killL X h)) (killL (NM::D) h2):=by
  rw [← ze5]
  exact (Frs.mono f (D':=(NM::D)++X) (fun B hB=>List.mem_append_right _ hB)).inc (fun B hB=>.inl (List.mem_append_left _ hB))
 exact ⟨⟨T0,D,NM,v0,v1,nv,rfl,g1.frs u (g1.alive (by simp)),g2.frs u (fun B hB=>hEX B (List.mem_cons_of_mem _ hB)),g3.hold (fun b q=>q.frs u (hEX _ (by simp))),g4.mono hi,g5.mono hi,g6,fun who x hx=>(g7 who x hx).imp fun s hs=>⟨hs.1,hs.2.mono hi⟩,g8⟩,fun _ _=>by simp,fun _ h=>by simp at h⟩
end
theorem zzb (d:PolicyD) (p0 p1 p2 p5 p6:Value) (q b:Int) (h:Heap) (hsp:SpaceAt 1 h) (hone:(zaq p0 p1 p2 p5 p6 q b).all Am.one=true) (hd:PolH h p0 p1 p2 p5 p6 d) (hq:d.quota=q) (hb:d.budget=b) (hn:PolN d) (hn0:d.principals.length≤100000) (hn1:d.preds.length≤100000) (X:List Nat) (hX:∀ B∈X,B < h.size) (K:Value→Heap→Prop)
 (hk1:zgg d≠0→∀ h',Ext h h'→K (.tuple #[.pointer none,.int .i64 (zgg d)]) h')
 (hk2:zgg d=0→∀ h' S0 E,Ext h h'→SpX X h.size 0 h' S0 E d q (fun _=>[]) (fun _=>0) (fun _=>0)→K (.tuple #[.pointer (some ⟨S0,0,none⟩),.int .i64 0]) h'):Ok Tryz.prog tab ov 10 [zbN p0 p1 p2 p5 p6 q b] h K:=by
 rw [zaa h]
 have z:=Ext.refl h
 refine Ok.into rfl zv7 (zaw N10) rfl (m:=12) rfl ?_
 simp -implicitDefEqProofs only [syms,symx,seval,c10,zat,↓zbI,zbz,za0]
 refine zsN d p0 p1 p2 p5 p6 q b _ (hsp.lay _ _) hone (hd.lay _ _) hq hb hn _ (fun h' x=>?_)
 have q0:=Holds.top (i:=0) x rfl
 (replace z:=z.overW x (by omega);(replace hd:=hd.over x);rw [zaa h'])
 have hvn:=vInt
 simp -implicitDefEqProofs only [syms,symx,seval,c10,valN]
 refine zdS (fun hne=>?_) (fun heq=>?_)
 ·simp -implicitDefEqProofs only [syms,symx,seval,c10,valN]
  exact hk1 hne _ (z.upW _ _ (by omega))
 simp -implicitDefEqProofs only [syms,symx,seval,c10,q0.lay,zat,↓zbI,zbz,za0]
 have hq0:=q0.lt
 refine zsT d p0 p1 p2 p5 p6 q b _ hone (hd.lay _ _).s0 (hd.lay _ _).s1 hn0 hn1 _ (fun h' v0 v1 A0 A1 x o0 o1=>?_)
 have hXl:∀ B∈h.size::X,B < h.size+1:=fun B hB=>by
  rcases List.mem_cons.1 hB with rfl|hB
  ·omega
  ·have:=hX B hB;omega
 have s0:=(o0.lay [] h'.low).killL (D:=h.size::X) (fun _ _ _ _ q=>q) (by decide) (fun B hB=>by have:=hXl B hB;rw [zad];simp only [List.length_cons,List.length_nil];omega)
 have s1:=(o1.lay [] h'.low).killL (D:=h.size::X) (fun _ _ _ _ q=>q) (by decide) (fun B hB=>by have:=hXl B hB;rw [zad];simp only [List.length_cons,List.length_nil];omega)
 (replace z:=z.overW x (by omega);(replace q0:=q0.over x);(replace hd:=hd.over x);rw [zaa h'])
 have hq1:=q0.lt
 simp -implicitDefEqProofs only [syms,symx,seval,c10,za0]
 refine zvC h.size d v0 v1 q _ h.size (by rw [zad];omega) ⟨Nat.le_refl _,by rw [zad];omega⟩ X hX s0 s1 _ (fun h' S0 E x sps=>?_)
 (replace z:=z.overW x (by omega);(replace q0:=q0.over x);(replace hd:=hd.over x);rw [zaa h'])
 simp -implicitDefEqProofs only [syms,symx,seval,c10,valP,valN]
 exact hk2 heq _ S0 E (z.upW _ _ (by omega)) (sps.lay _ _)
theorem eqSp (x):binA Tryz.prog tab .eql 32 (.pointer (some x)) (.pointer none)=some (.bool false):=by kernel_rfl
theorem neSp (x):binA Tryz.prog tab .neq 32 (.pointer (some x)) (.pointer none)=some (.bool true):=by kernel_rfl
theorem zC9 (T0:Nat) (v0 v1:Value) (q:Int) (NM:Nat):cut (zfk T0 v0 v1 q NM) 1 7=some (zaq v0 v1 (.slice none 0 0) (.slice none 0 0) (.slice none 0 0) q 0):=rfl
theorem zzo (T0:Nat) (v0 v1:Value) (q:Int) (NM:Nat):(zfk T0 v0 v1 q NM)[8]? = some (.map (some NM)):=rfl
theorem zGf (T0:Nat) (v0 v1:Value) (q:Int) (NM:Nat):(zfk T0 v0 v1 q NM)[0]? = some (.pointer (some ⟨T0,0,none⟩)):=rfl
theorem zAW (T0:Nat) (v0 v1:Value) (q:Int) (NM:Nat):(zfk T0 v0 v1 q NM)[4]? = some (.int .i64 q):=rfl
theorem dmMN:tab.desc 79=some (.map 9 87):=by kernel_rfl
theorem zrNM:tab.zero 87=some (.agg #[.slice none 0 0,.int .u64 0]):=by kernel_rfl
theorem szNM:zau tab 87=some 2:=by kernel_rfl
theorem valB (b:Bool) (h:Heap) (K:Value→Heap→Prop):valE (some (.bool b)) h K=K (.bool b) h:=rfl
theorem zAC (a) (n c:Nat) (h:Heap):lenA tab 52 (.slice a n c) h=some (.int .i64 n):=by kernel_rfl
theorem zC2 (a) (n c:Nat) (v:Int):zbZ tab 87 [(0,.slice a n c),(1,.int .u64 v)]=some (.agg #[.slice a n c,.int .u64 v]):=by kernel_rfl
theorem zGO {n:Nat} (h:n < 1000000000):IntKind.u64.wrap ((n:Int)+1)=((n+1:Nat):Int):=by
 unfold IntKind.wrap
 simp [IntKind.signed,IntKind.bits]
 omega
def updF (f:ByteArray→List AtomD) (s:ByteArray) (l:List AtomD):ByteArray→List AtomD:=fun x=>if x=s then l else f x
theorem oneW {h:Heap} {v0 v1:Value} {d:PolicyD} (s0:Sl Rep.str h v0 d.principals) (s1:Sl Rep.pred h v1 d.preds) (q:Int):(zaq v0 v1 (.slice none 0 0) (.slice none 0 0) (.slice none 0 0) q 0).all Am.one=true:=by
 have h0:=s0.one
 have h1:=s1.one
 simp only [zaq,List.all_cons,List.all_nil,h0,h1]
 rfl
theorem zj6 (d:PolicyD) (q:Int) (s:ByteArray) (a:AtomD) (room:Int) (fv:Value) (is:List AtomD→Bool) (tn:List AtomD→List AtomD) (facts:ByteArray→List AtomD) (vers us:ByteArray→Nat) (h hc:Heap) (z:Ext h hc) (N b:Nat) (S0:Nat) (E:List Nat) (hN:N=h.size) (X:List Nat) (sps:SpX X N b hc S0 E d q facts vers us) (hsp:SpaceAt 1 hc) (hpn:d.principals.length≤1000) (hln:(facts s).length≤800) (hlt:∀ x∈facts s,x.light=true) (hv:vers s < 1000000000)
 (htn:(tn (facts s)).length≤900)
 (ht:∀ (h2:Heap) (v:Value) (K:Value→Heap→Prop),Sl Rep.atom h2 v (facts s)→(∀ h' w,Ext h2 h'→(∃ a n c,w=.slice a n c)→(is (facts s)=true→OwnB h2 h' 42 w (tn (facts s)))→K (.tuple #[w,.bool (is (facts s))]) h')→zgS Tryz.prog tab ov [v,a.val] h2 K fv)
 (K:Value→Heap→Prop)
 (hk1:zbF d s a≠0→∀ h',Ext h h'→Frs [] hc h'→K (.tuple #[.bool false,.int .i64 (zbF d s a)]) h')
 (hk2:zbF d s a=0→is (facts s)=false→∀ h',Ext h h'→Frs [] hc h'→K (.tuple #[.bool false,.int .i64 0]) h')
 (hk3:zbF d s a=0→is (facts s)=true→room < (tn (facts s)).length→∀ h',Ext h h'→Frs [] hc h'→K (.tuple #[.bool false,.int .i64 12]) h')
 (hk4:zbF d s a=0→is (facts s)=true→((tn (facts s)).length:Int)≤room→∀ h',Ext h h'→Frs E hc h'→SpX X N b h' S0 E d q (updF facts s (tn (facts s))) (updU vers s (vers s+1)) us→K (.tuple #[.bool true,.int .i64 0]) h'):Ok Tryz.prog tab ov 32 [.pointer (some ⟨S0,0,none⟩),.string s,a.val,.int .i64 room,fv] hc K:=by
 obtain ⟨⟨T0,D,NM,v0,v1,nv,rfl,x1,x2,x3,x4,x5,g6,x7,g8,g9,g10,g11⟩,hEX,hXs⟩:=sps
 have ux:=Frs.undead X hc
 have ui:=zA4 (NM::D) X hc
 have hSX:=x1.alive (by simp)
 have hNX:NM ∉ X:=hEX _ (by simp)
 have hDX:∀ B∈D,B ∉ X:=fun B hB=>hEX B (List.mem_cons_of_mem _ hB)
 have g1:=x1.frs ux hSX
 have g2:=x2.frs ux hDX
 have g3:=x3.hold (fun b q=>q.frs ux hNX)
 have g4:=x4.mono ui
 have g5:=x5.mono ui
 have g7:∀ who x,zaK nv who=some x→∃ s,x=.agg #[s,.int .u64 (vers who:Int)]∧Sl Rep.atom (killL (NM::D) hc) s (facts who):=fun who x hx=>(x7 who x hx).imp fun s hs=>⟨hs.1,hs.2.mono ui⟩
 have hone:=oneW g4 g5 q
 have t4:=g4.mono (zd4 _ _)
 have t5:=g5.mono (zd4 _ _)
 rw [zaa hc]
 refine Ok.into rfl zwh (zaw N32) rfl (m:=55) rfl ?_
 simp -implicitDefEqProofs only [syms,symx,seval,c32,zas,eqSp]
 with_reducible first|refine zb9 (by simp only [c32]) (z.upW _ _ (by omega)) ?_
 simp -implicitDefEqProofs only [syms,symx,seval,c32,valS,g1.lay,↓zC9,zbz,za0,zas,↓zaF,zaA,zal]
 refine zvA d s a v0 v1 _ _ _ q 0 _ (hsp.lay _ _) hone (t4.lay _ _) (t5.lay _ _) hpn _ (fun h' x=>?_)
 have q0:=Holds.top (i:=0) x rfl
 have fr:Frs [] hc h':=(Frs.refl [] hc).over x
 (((with_reducible refine zah ?_ ?_ ?_);(· exact (by (simp only [lsz]);have:=z.size;omega));(· exact x));replace z:=z.overW x (by omega);(replace g1:=g1.over x);rw [zaa h'])
 simp -implicitDefEqProofs only [syms,symx,seval,c32,valN]
 ((with_reducible refine ⟨z.grw.lay _ _,?_⟩);(intro _ h' zz x _);(simp only [zan,List.append_nil] at x);(replace g1:=g1.over x);(replace q0:=q0.over x);(replace fr:=fr.over x);(replace z:=zz);(clear zz);rw [zaa h'])
 simp -implicitDefEqProofs only [syms,symx,seval,c32,valN]
 refine zdS (fun hne=>?_) (fun heq=>?_)
 ·simp -implicitDefEqProofs only [syms,symx,seval,c32,valN]
  exact hk1 hne _ (z.upW _ _ (by omega)) (fr.trans (Frs.lay _ _ _ []) (fun _ h=>nomatch h))
 have g3':=g3.hold (fun b q=>q.frs fr (by simp))
 have hsz0:=fr.size
 have hq0:=q0.lt
 have hg1:=g1.lt
 obtain ⟨sv,hval,hsl⟩:∃ sv,(zaK nv s).getD (.agg #[.slice none 0 0,.int .u64 0])=.agg #[sv,.int .u64 (vers s:Int)]∧Sl Rep.atom (killL (NM::D) hc) sv (facts s):=by
  cases hl:zaK nv s with
  |none =>
   obtain ⟨e1,e2⟩:=g6 s hl
   rw [e1,e2]
   exact ⟨_,rfl,.nil⟩
  |some x=>exact g7 s x hl
 obtain ⟨sa,sn,scp,rfl⟩:=zgG hsl
 simp -implicitDefEqProofs only [syms,symx,seval,c32,valM,g1.lay,zzo,zeE]
 refine zfx g3' dmMN znO zrNM ?_
 simp only [hval,Bool.false_eq_true,if_false]
 simp -implicitDefEqProofs only [syms,symx,seval,c32,valA]
 have hA:Sl Rep.atom h' (.slice sa sn scp) (facts s):=(hsl.mono (zd4 _ _)).mono fr.all
 have hvSl:∀ (h:Heap) (K:Value→Heap→Prop),valE (some (.slice sa sn scp)) h K=K (.slice sa sn scp) h:=fun _ _=>rfl
 have hz1:=z.size
 refine zgJ (i:=0) rfl szNM rfl rfl rfl rfl ?_
 simp only [List.set_cons_zero]
 simp -implicitDefEqProofs only [syms,symx,seval,c32,hvSl,q0.lay,zas,↓zaF,zaA,zal]
 have hNl:∀ B∈NM::D,B < h'.size:=fun B hB=>by
  rcases List.mem_cons.1 hB with rfl|hB
  ·have:=g3.lt;omega
  ·have:=(g2.lo B hB).2;omega
 refine ht _ _ _ (hA.lay _ _) (fun h' w x hws ho=>?_)
 have q2:=Holds.top (i:=0) x rfl
 (replace z:=z.overW x (by omega);(replace g1:=g1.over x);(replace q0:=q0.over x);(replace fr:=fr.over x);rw [zaa h'])
 obtain ⟨wa,wn,wc,rfl⟩:=hws
 have hvW:∀ (h:Heap) (K:Value→Heap→Prop),valE (some (.slice wa wn wc)) h K=K (.slice wa wn wc) h:=fun _ _=>rfl
 cases his:is (facts s)
 ·simp -implicitDefEqProofs only [syms,symx,seval,c32,valT,hvW,valB]
  (with_reducible_and_instances apply zar);(· rfl)
  simp -implicitDefEqProofs only [syms,symx,seval,c32]
  exact hk2 heq his _ (z.upW _ _ (by omega)) (fr.trans (Frs.lay _ _ _ []) (fun _ h=>nomatch h))
 replace ho:=ho his
 have howl:=ho
 obtain ⟨AW,tw,hwe,hwq,hwA,hwl⟩:=ho
 simp only [Value.slice.injEq] at hwe
 obtain ⟨hwa,hwn,hwc⟩:=hwe
 simp -implicitDefEqProofs only [syms,symx,seval,c32,valT,hvW,valB]
 (with_reducible_and_instances apply zar);(· rfl)
 simp -implicitDefEqProofs only [syms,symx,seval,c32,hvW,zAC,valN]
 refine zaD (fun hgt=>?_) (fun hle=>?_)
 ·simp -implicitDefEqProofs only [syms,symx,seval,c32,valN]
  exact hk3 heq his (by rw [← hwn];omega) _ (z.upW _ _ (by omega)) (fr.trans (Frs.lay _ _ _ []) (fun _ h=>nomatch h))
 have hwr:IntKind.u64.wrap ((vers s:Int)+1)=((vers s+1:Nat):Int):=zGO (by omega)
 simp -implicitDefEqProofs only [syms,symx,seval,c32]
 with_reducible first|refine zb9 (by simp only [c32]) (z.upW _ _ (by omega)) ?_
 simp -implicitDefEqProofs only [syms,symx,seval,c32,valM,valN,valS,valA,hvW,g1.lay,zzo,q2.lay,tsnd,hwr,zC2,zeF]
 have gm:=g3.hold (fun b q=>q.frs fr (by simp))
 refine zw8 gm dmMN znO (fun h3 m3 c3=>?_)
 have hz:=z.size
 have hNM:h.size≤NM:=by omega
 have hg3:=g3.lt
 refine zaU (A:=NM) (by kernel_rfl) (by rw [zad];omega) (by omega) (by simpa only [zan,zad,List.append_nil,List.length_cons,List.length_nil,Nat.add_zero] using c3) ?_
 have z3:=(z.upW [] (h'.size+0) (by omega)).step c3 hNM
 have f3:Frs [NM] h' h3:=(Frs.refl [NM] h').chg c3 (.inl (by simp))
 have hSN:S0≠NM:=fun e=>g8 (by rw [e];simp)
 have k1:=howl.kill (D:=(NM::D)++X) (fun B hB=>by
  rw [zad]
  rcases List.mem_append.1 hB with hB|hB
  ·have:=hNl B hB;omega
  ·have:=hXs B hB;omega)
 rw [ze5] at k1
 clear z q0 q2
 have z:=z3
 rw [zaa h3]
 simp -implicitDefEqProofs only [syms,symx,seval,c32]
 ((with_reducible refine ⟨z.grw.lay _ _,?_⟩);(intro _ h4 zz x _);(simp only [zan,List.append_nil] at x))
 replace f3:=f3.over x
 replace m3:=m3.over x
 clear z
 have z:=zz
 rw [zaa h4]
 simp -implicitDefEqProofs only [syms,symx,seval,c32,valN,valB]
 have f4:Frs [NM] h' (h4.lay [] h4.low):=f3.trans (Frs.lay _ _ _ []) (fun _ h=>nomatch h)
 have f5:Frs [NM] hc (h4.lay [] h4.low):=fr.mono (D':=[NM]) (fun _ h=>nomatch h) |>.trans f4 (fun B hB=>.inl hB)
 have hsub:∀ B∈[NM],B∈NM::D:=fun B hB=>by rw [List.mem_singleton.1 hB];simp
 have i1:Inc (killL (NM::D) (killL X hc)) (killL (NM::D) (killL X (h4.lay [] h4.low))):=((f5.kill X).mono hsub).inc (fun B hB=>.inl hB)
 have i2:Inc (killL (NM::D) (killL X h')) (killL (NM::D) (killL X (h4.lay [] h4.low))):=((f4.kill X).mono hsub).inc (fun B hB=>.inl hB)
 refine hk4 heq his (by rw [← hwn];omega) _ (z.upW _ _ (by omega)) (f5.mono hsub) ⟨⟨T0,D,NM,v0,v1,setV nv s (.agg #[.slice wa wn wc,.int .u64 ((vers s+1:Nat):Int)]),rfl,x1.frs (f5.kill X) (by simpa using hSN),x2.frs (f5.kill X) (fun B hB hm=>g9 (by rw [← List.mem_singleton.1 hm];exact hB)),(m3.lay _ _).hold (fun _ q=>q.killX hNX),x4.mono i1,x5.mono i1,fun who hw=>?_,fun who y hw=>?_,g8,g9,g10,g11⟩,hEX,fun B hB=>Nat.lt_of_lt_of_le (hXs B hB) f5.size⟩
 ·rw [ze6] at hw
  by_cases hws:who=s
  ·rw [if_pos hws] at hw;cases hw
  ·rw [if_neg hws] at hw
   unfold updF
   rw [if_neg hws,zcS hws]
   exact g6 who hw
 ·rw [ze6] at hw
  by_cases hws:who=s
  ·rw [if_pos hws] at hw
   cases hw
   subst hws
   unfold updF
   rw [if_pos rfl,zb3]
   exact ⟨_,rfl,k1.mono i2⟩
  ·rw [if_neg hws] at hw
   unfold updF
   rw [if_neg hws,zcS hws]
   exact (x7 who y hw).imp fun v hv=>⟨hv.1,hv.2.mono i1⟩
theorem SpS.turn {N b2:Nat} {h h2:Heap} {S0 T0 NM:Nat} {D D2:List Nat} {d:PolicyD} {q:Int} {facts:ByteArray→List AtomD} {vers us2:ByteArray→Nat} {v0 v1:Value} {nv:List (ByteArray × Value)} (q1:Holds h S0 (.row (zfk T0 v0 v1 q NM) 81 false)) (m:MapV h NM nv) (s0:Sl Rep.str (killL (NM::D) h) v0 d.principals) (s1:Sl Rep.pred (killL (NM::D) h) v1 d.preds)
 (g6:∀ who,zaK nv who=none→facts who=[]∧vers who=0) (g7:∀ who x,zaK nv who=some x→∃ s,x=.agg #[s,.int .u64 (vers who:Int)]∧Sl Rep.atom (killL (NM::D) h) s (facts who)) (g8:S0 ∉ NM::D) (g9:NM ∉ D) (g10:N≤S0) (g11:N≤NM)
 (f:Frs D h h2) (t:TabD N b2 h2 D2 T0 us2) (hD:∀ B∈D2,B∈D∨h.size≤B):SpS N b2 h2 S0 (NM::D2) d q facts vers us2:=by
 have hi:Inc (killL (NM::D) h) (killL (NM::D2) h2):=(f.mono (D':=NM::D) (fun B hB=>List.mem_cons_of_mem _ hB)).inc (fun B hB=>by
  rcases List.mem_cons.1 hB with rfl|hB
  ·exact .inl (by simp)
  ·exact (hD B hB).imp (List.mem_cons_of_mem _) id)
 have hS:S0 ∉ NM::D2:=fun hm=>by
  rcases List.mem_cons.1 hm with e|hm
  ·exact g8 (by rw [e];simp)
  ·rcases hD _ hm with e|e
   ·exact g8 (List.mem_cons_of_mem _ e)
   ·have:=q1.lt;omega
 have hM:NM ∉ D2:=fun hm=>by
  rcases hD _ hm with e|e
  ·exact g9 e
  ·have:=m.lt;omega
 exact ⟨T0,D2,NM,v0,v1,nv,rfl,q1.frs f (fun hm=>g8 (List.mem_cons_of_mem _ hm)),t,m.hold (fun b q=>q.frs f g9),s0.mono hi,s1.mono hi,g6,fun who x hx=>(g7 who x hx).imp fun s hs=>⟨hs.1,hs.2.mono hi⟩,hS,hM,g10,g11⟩
theorem zAb (T0:Nat) (v0 v1:Value) (q:Int) (NM:Nat):cut (zfk T0 v0 v1 q NM) 0 1=some [.pointer (some ⟨T0,0,none⟩)]:=rfl
theorem zzg (a:AtomD) (l:List AtomD):putA a l≠[]:=by
 cases l with
 |nil=>simp [putA]
 |cons x r =>
  unfold putA
  split
  ·simp
  ·split <;> simp
theorem zqt (d:PolicyD) (q:Int) (s:ByteArray) (a:AtomD) (facts:ByteArray→List AtomD) (vers us:ByteArray→Nat) (h hc:Heap) (z:Ext h hc) (N b:Nat) (S0:Nat) (E:List Nat) (hN:N=h.size) (X:List Nat) (sps:SpX X N b hc S0 E d q facts vers us) (hsp:SpaceAt 1 hc) (hpn:d.principals.length≤1000) (hln:(facts s).length≤800) (hlt:∀ x∈facts s,x.light=true) (ha:a.light=true) (hv:vers s < 1000000000) (hso:zcF (facts s)=facts s) (hb:b < 50000) (hus:∀ x,us x < 1000000000)
 (hsz:zbF d s a=0→∀ x,zds a x→x.size≠0∧x.size≤255) (hput:(putA a (facts s)).length≤900)
 (K:Value→Heap→Prop)
 (hk1:zbF d s a≠0→∀ h',Ext h h'→Frs [] hc h'→K (.tuple #[.bool false,.int .i64 (zbF d s a)]) h')
 (hk2:zbF d s a=0→hasA (facts s) a=true→∀ h',Ext h h'→Frs [] hc h'→K (.tuple #[.bool false,.int .i64 0]) h')
 (hk3:zbF d s a=0→hasA (facts s) a=false→q < (putA a (facts s)).length→∀ h',Ext h h'→Frs [] hc h'→K (.tuple #[.bool false,.int .i64 12]) h')
 (hk4:zbF d s a=0→hasA (facts s) a=false→((putA a (facts s)).length:Int)≤q→∀ h' cs E2,Ext h h'→Frs E hc h'→(∀ B∈E2,B∈E∨hc.size≤B)→cs.length≤4→cs.Nodup→(∀ x,x∈cs↔zds a x)→SpX X N (b+4) h' S0 E2 d q (updF facts s (putA a (facts s))) (updU vers s (vers s+1)) (addU us cs)→K (.tuple #[.bool true,.int .i64 0]) h'):Ok Tryz.prog tab ov 11 [.pointer (some ⟨S0,0,none⟩),.string s,a.val] hc K:=by
 subst hN
 have hXs:=sps.2.2
 obtain ⟨⟨T0,D,NM,v0,v1,nv,rfl,x1,g2,g3,_⟩,_⟩:=id sps
 have g1:=x1.frs (Frs.undead X hc) (x1.alive (by simp))
 have hgl:=sps.lt
 rw [zaa hc]
 refine Ok.into rfl zv8 (zaw N11) rfl (m:=32) rfl ?_
 simp -implicitDefEqProofs only [syms,symx,seval,c11,neSp,g1.lay,zAW,valN,valS,zas,↓zaF,zaA,zal]
 refine zj6 d q s a q _ (fun l => !hasA l a) (fun l=>putA a (zcF l)) facts vers us h _ (z.upW _ _ (by omega)) h.size b S0 (NM::D) rfl X (sps.lay _ _) (hsp.lay _ _) hpn hln hlt hv (by rw [hso];exact hput) (fun h2 v K2 hs2 hk=>?_) _ (fun he h' z2 fr=>?_) (fun he his h' z2 fr=>?_) (fun he his hro h' z2 fr=>?_) (fun he his hro h' z2 fr sp2=>?_)
 ·rw [za1]
  refine zAK (facts s) a v h2 hs2 (by omega) hlt ha K2 (fun h' w x ho=>hk h' w x ?_ (fun hi=>OwnA.b ho (zzg _ _)))
  exact zgG ho.sl
 ·rw [zaa h']
  simp -implicitDefEqProofs only [syms,symx,seval,c11,valT,valB,valN]
  exact hk1 he _ (z2.upW _ _ (by omega)) (((Frs.lay hc _ _ []).trans fr (fun _ h=>nomatch h)).trans (Frs.lay _ _ _ []) (fun _ h=>nomatch h))
 ·rw [zaa h']
  simp -implicitDefEqProofs only [syms,symx,seval,c11,valT,valB,valN]
  exact hk2 he (by simpa using his) _ (z2.upW _ _ (by omega)) (((Frs.lay hc _ _ []).trans fr (fun _ h=>nomatch h)).trans (Frs.lay _ _ _ []) (fun _ h=>nomatch h))
 ·rw [zaa h']
  simp -implicitDefEqProofs only [syms,symx,seval,c11,valT,valB,valN]
  simp only [hso] at hro
  exact hk3 he (by simpa using his) hro _ (z2.upW _ _ (by omega)) (((Frs.lay hc _ _ []).trans fr (fun _ h=>nomatch h)).trans (Frs.lay _ _ _ []) (fun _ h=>nomatch h))
 ·simp only [hso] at hro sp2
  have his':hasA (facts s) a=false:=by simpa using his
  have hcs:=hsz he
  obtain ⟨⟨T1,D1,NM1,w0,w1,nw,hE1,y1,y2,e3,e4,e5,e6,e7,e8,e9,e10,e11⟩,hEX,hXs2⟩:=sp2
  simp only [List.cons.injEq] at hE1
  obtain ⟨rfl,rfl⟩:=hE1
  have ux:=Frs.undead X h'
  have hDX:∀ B∈D,B ∉ X:=fun B hB=>hEX B (List.mem_cons_of_mem _ hB)
  have e1:=y1.frs ux (y1.alive (by simp))
  have e2:=y2.frs ux hDX
  have q0:Holds h' (hc.size+0) (.row a.cells 42 false):=(Holds.mk (by rw [zad];simp) (by rw [zbd];rfl):Holds (hc.lay [.row a.cells 42 false] hc.low) (hc.size+0) (.row a.cells 42 false)).frs fr (by
   intro hm
   rcases List.mem_cons.1 hm with e|hm
   ·have:=(hgl.2 _ (List.mem_cons_self)).2;omega
   ·have:=(hgl.2 _ (List.mem_cons_of_mem _ hm)).2;omega)
  have frh:Frs (NM::D) hc h':=(Frs.lay hc _ _ _).trans fr (fun B hB=>.inl hB)
  rw [zaa h']
  have z:=z2
  simp -implicitDefEqProofs only [syms,symx,seval,c11,valT,valB,valN]
  with_reducible first|refine zb9 (by simp only [c11]) (z.upW _ _ (by omega)) ?_
  simp -implicitDefEqProofs only [syms,symx,seval,c11,valS,e1.lay,↓zAb,q0.lay,zas,↓zaF,zaA,zal,valA]
  refine zvG a h _ (z.upW _ _ (by omega)) D T1 b us (e2.lay _ _) (by omega) hcs hus _ (fun h5 cs D2 z5 fr5 hl4 hnd hmem st5 hD2=>?_)
  have hs5:=fr5.size
  rw [zad] at hs5
  refine zhX (by kernel_rfl) z5.low (by rw [zad];exact hs5) ?_
  have fr6:Frs D h' h5:=(Frs.lay h' [] _ D).trans fr5 (fun B hB=>.inl hB)
  clear z
  have z:=z5
  rw [zaa h5]
  simp -implicitDefEqProofs only [syms,symx,seval,c11]
  ((with_reducible refine ⟨z.grw.lay _ _,?_⟩);(intro _ h6 zz x _);(simp only [zan,List.append_nil] at x))
  replace fr6:=fr6.over x
  replace st5:=st5.over x
  clear z
  have z:=zz
  rw [zaa h6]
  simp -implicitDefEqProofs only [syms,symx,seval,c11,valT,valB,valN]
  have fr7:Frs D h' (h6.lay [] h6.low):=fr6.trans (Frs.lay _ _ _ []) (fun _ h=>nomatch h)
  have hD3:∀ B∈D2,B∈D∨h'.size≤B:=fun B hB=>(hD2 B hB).imp id (fun e=>by rw [zad] at e;simpa using e)
  have hfh:=frh.size
  have hD2X:∀ B∈D2,B ∉ X:=fun B hB hx=>by
   rcases hD3 B hB with e|e
   ·exact hDX B e hx
   ·have:=hXs2 B hx;omega
  refine hk4 he his' hro _ cs (NM::D2) (z.upW _ _ (by omega)) (frh.trans fr7 (fun B hB=>.inl (List.mem_cons_of_mem _ hB))) (fun B hB=>?_) hl4 hnd hmem ⟨SpS.turn y1 e3 e4 e5 e6 e7 e8 e9 e10 e11 (fr7.kill X) ((st5.lay _ _).frs (Frs.dead X _) hD2X) (fun B hB=>by rw [zaz];exact hD3 B hB),fun B hB=>?_,fun B hB=>Nat.lt_of_lt_of_le (hXs2 B hB) fr7.size⟩
  ·rcases List.mem_cons.1 hB with rfl|hB
   ·exact .inl (by simp)
   ·exact (hD3 B hB).imp (List.mem_cons_of_mem _) (fun e=>by omega)
  ·rcases List.mem_cons.1 hB with rfl|hB
   ·exact hEX _ (by simp)
   ·exact hD2X B hB
theorem zop (d:PolicyD) (q:Int) (s:ByteArray) (a:AtomD) (facts:ByteArray→List AtomD) (vers us:ByteArray→Nat) (h hc:Heap) (z:Ext h hc) (N b:Nat) (S0:Nat) (E:List Nat) (hN:N=h.size) (X:List Nat) (sps:SpX X N b hc S0 E d q facts vers us) (hsp:SpaceAt 1 hc) (hpn:d.principals.length≤1000) (hln:(facts s).length≤800) (hlt:∀ x∈facts s,x.light=true) (ha:a.light=true) (hv:vers s < 1000000000) (hso:zcF (facts s)=facts s) (hb:b < 50000) (hus:∀ x,us x < 1000000000)
 (hpos:zbF d s a=0→hasA (facts s) a=true→∀ x,zds a x→0 < us x)
 (K:Value→Heap→Prop)
 (hk1:zbF d s a≠0→∀ h',Ext h h'→Frs [] hc h'→K (.tuple #[.bool false,.int .i64 (zbF d s a)]) h')
 (hk2:zbF d s a=0→hasA (facts s) a=false→∀ h',Ext h h'→Frs [] hc h'→K (.tuple #[.bool false,.int .i64 0]) h')
 (hk4:zbF d s a=0→hasA (facts s) a=true→∀ h' cs E2,Ext h h'→Frs E hc h'→(∀ B∈E2,B∈E∨hc.size≤B)→cs.length≤4→cs.Nodup→(∀ x,x∈cs↔zds a x)→SpX X N b h' S0 E2 d q (updF facts s (delA a (facts s))) (updU vers s (vers s+1)) (subU us cs)→K (.tuple #[.bool true,.int .i64 0]) h'):Ok Tryz.prog tab ov 16 [.pointer (some ⟨S0,0,none⟩),.string s,a.val] hc K:=by
 subst hN
 have hXs:=sps.2.2
 obtain ⟨⟨T0,D,NM,v0,v1,nv,rfl,x1,g2,g3,_⟩,_⟩:=id sps
 have g1:=x1.frs (Frs.undead X hc) (x1.alive (by simp))
 have hgl:=sps.lt
 rw [zaa hc]
 refine Ok.into rfl zwd (zaw N16) rfl (m:=23) rfl ?_
 simp -implicitDefEqProofs only [syms,symx,seval,c16,neSp,g1.lay,zAW,valN,valS,zas,↓zaF,zaA,zal]
 refine zj6 d q s a 1000 _ (fun l=>hasA l a) (fun l=>delA a (zcF l)) facts vers us h _ (z.upW _ _ (by omega)) h.size b S0 (NM::D) rfl X (sps.lay _ _) (hsp.lay _ _) hpn hln hlt hv (by rw [hso];exact Nat.le_trans (List.length_filter_le _ _) (by omega)) (fun h2 v K2 hs2 hk=>?_) _ (fun he h' z2 fr=>?_) (fun he his h' z2 fr=>?_) (fun he his hro h' z2 fr=>?_) (fun he his hro h' z2 fr sp2=>?_)
 ·rw [za1]
  refine zqK (facts s) a v h2 hs2 (by omega) hlt ha K2 (fun h' w x hw ho=>hk h' w x hw (fun hi=>ho hi))
 ·rw [zaa h']
  simp -implicitDefEqProofs only [syms,symx,seval,c16,valT,valB,valN]
  exact hk1 he _ (z2.upW _ _ (by omega)) (((Frs.lay hc _ _ []).trans fr (fun _ h=>nomatch h)).trans (Frs.lay _ _ _ []) (fun _ h=>nomatch h))
 ·rw [zaa h']
  simp -implicitDefEqProofs only [syms,symx,seval,c16,valT,valB,valN]
  exact hk2 he his _ (z2.upW _ _ (by omega)) (((Frs.lay hc _ _ []).trans fr (fun _ h=>nomatch h)).trans (Frs.lay _ _ _ []) (fun _ h=>nomatch h))
 ·exfalso
  have h1:((delA a (zcF (facts s))).length:Int)≤800:=by rw [hso];exact Int.ofNat_le.2 (Nat.le_trans (List.length_filter_le _ _) hln)
  omega
 ·simp only [hso] at sp2
  have hcs:=hpos he his
  obtain ⟨⟨T1,D1,NM1,w0,w1,nw,hE1,y1,y2,e3,e4,e5,e6,e7,e8,e9,e10,e11⟩,hEX,hXs2⟩:=sp2
  simp only [List.cons.injEq] at hE1
  obtain ⟨rfl,rfl⟩:=hE1
  have ux:=Frs.undead X h'
  have hDX:∀ B∈D,B ∉ X:=fun B hB=>hEX B (List.mem_cons_of_mem _ hB)
  have e1:=y1.frs ux (y1.alive (by simp))
  have e2:=y2.frs ux hDX
  have q0:Holds h' (hc.size+0) (.row a.cells 42 false):=(Holds.mk (by rw [zad];simp) (by rw [zbd];rfl):Holds (hc.lay [.row a.cells 42 false] hc.low) (hc.size+0) (.row a.cells 42 false)).frs fr (by
   intro hm
   rcases List.mem_cons.1 hm with e|hm
   ·have:=(hgl.2 _ (List.mem_cons_self)).2;omega
   ·have:=(hgl.2 _ (List.mem_cons_of_mem _ hm)).2;omega)
  have frh:Frs (NM::D) hc h':=(Frs.lay hc _ _ _).trans fr (fun B hB=>.inl hB)
  rw [zaa h']
  have z:=z2
  simp -implicitDefEqProofs only [syms,symx,seval,c16,valT,valB,valN]
  with_reducible first|refine zb9 (by simp only [c16]) (z.upW _ _ (by omega)) ?_
  simp -implicitDefEqProofs only [syms,symx,seval,c16,valS,e1.lay,↓zAb,q0.lay,zas,↓zaF,zaA,zal,valA]
  refine zvx a h _ (z.upW _ _ (by omega)) D T1 b us (e2.lay _ _) (by omega) hcs hus _ (fun h5 cs D2 z5 fr5 hl4 hnd hmem st5 hD2=>?_)
  have hs5:=fr5.size
  rw [zad] at hs5
  refine zhX (by kernel_rfl) z5.low (by rw [zad];exact hs5) ?_
  have fr6:Frs D h' h5:=(Frs.lay h' [] _ D).trans fr5 (fun B hB=>.inl hB)
  clear z
  have z:=z5
  rw [zaa h5]
  simp -implicitDefEqProofs only [syms,symx,seval,c16]
  ((with_reducible refine ⟨z.grw.lay _ _,?_⟩);(intro _ h6 zz x _);(simp only [zan,List.append_nil] at x))
  replace fr6:=fr6.over x
  replace st5:=st5.over x
  clear z
  have z:=zz
  rw [zaa h6]
  simp -implicitDefEqProofs only [syms,symx,seval,c16,valT,valB,valN]
  have fr7:Frs D h' (h6.lay [] h6.low):=fr6.trans (Frs.lay _ _ _ []) (fun _ h=>nomatch h)
  have hD3:∀ B∈D2,B∈D∨h'.size≤B:=fun B hB=>(hD2 B hB).imp id (fun e=>by rw [zad] at e;simpa using e)
  have hfh:=frh.size
  have hD2X:∀ B∈D2,B ∉ X:=fun B hB hx=>by
   rcases hD3 B hB with e|e
   ·exact hDX B e hx
   ·have:=hXs2 B hx;omega
  refine hk4 he his _ cs (NM::D2) (z.upW _ _ (by omega)) (frh.trans fr7 (fun B hB=>.inl (List.mem_cons_of_mem _ hB))) (fun B hB=>?_) hl4 hnd hmem ⟨SpS.turn y1 e3 e4 e5 e6 e7 e8 e9 e10 e11 (fr7.kill X) ((st5.lay _ _).frs (Frs.dead X _) hD2X) (fun B hB=>by rw [zaz];exact hD3 B hB),fun B hB=>?_,fun B hB=>Nat.lt_of_lt_of_le (hXs2 B hB) fr7.size⟩
  ·rcases List.mem_cons.1 hB with rfl|hB
   ·exact .inl (by simp)
   ·exact (hD3 B hB).imp (List.mem_cons_of_mem _) (fun e=>by omega)
  ·rcases List.mem_cons.1 hB with rfl|hB
   ·exact hEX _ (by simp)
   ·exact hD2X B hB
def CntU (us:ByteArray→Nat) (n:Nat):Prop:=∃ keys:List ByteArray,keys.Nodup∧(∀ t,t∈keys↔0 < us t)∧n=keys.length
theorem CntU.same {us vs:ByteArray→Nat} {n m:Nat} (f:CntU us n) (g:CntU vs m) (h:∀ t,0 < us t↔0 < vs t):n=m:=by
 obtain ⟨k1,n1,m1,rfl⟩:=f
 obtain ⟨k2,n2,m2,rfl⟩:=g
 exact ((List.perm_ext_iff_of_nodup n1 n2).2 fun t=>by rw [m1,m2];exact h t).length_eq
theorem SpS.name {N b:Nat} {h:Heap} {S0:Nat} {E:List Nat} {d:PolicyD} {q:Int} {facts:ByteArray→List AtomD} {vers us:ByteArray→Nat} {nv:List (ByteArray × Value)} (g6:∀ who,zaK nv who=none→facts who=[]∧vers who=0) (g7:∀ who x,zaK nv who=some x→∃ s,x=.agg #[s,.int .u64 (vers who:Int)]∧Sl Rep.atom (killL E h) s (facts who)) (s:ByteArray):∃ sa sn sc,(zaK nv s).getD (.agg #[.slice none 0 0,.int .u64 0])=.agg #[.slice sa sn sc,.int .u64 (vers s:Int)]∧Sl Rep.atom (killL E h) (.slice sa sn sc) (facts s):=by
 cases hl:zaK nv s with
 |none =>
  obtain ⟨e1,e2⟩:=g6 s hl
  rw [e1,e2]
  exact ⟨_,_,_,rfl,.nil⟩
 |some x =>
  obtain ⟨v,rfl,f⟩:=g7 s x hl
  obtain ⟨sa,sn,sc,rfl⟩:=zgG f
  exact ⟨sa,sn,sc,rfl,f⟩
theorem zmz (who:ByteArray) (d:PolicyD) (q:Int) (facts:ByteArray→List AtomD) (vers us:ByteArray→Nat) (h:Heap) (N b:Nat) (S0:Nat) (E:List Nat) (sps:SpS N b h S0 E d q facts vers us) (K:Value→Heap→Prop)
 (hk:∀ h',Ext h h'→K (.int .i64 (facts who).length) h'):Ok Tryz.prog tab ov 14 [.pointer (some ⟨S0,0,none⟩),.string who] h K:=by
 obtain ⟨T0,D,NM,v0,v1,nv,rfl,g1,g2,g3,g4,g5,g6,g7,g8,g9,g10,g11⟩:=id sps
 obtain ⟨sa,sn,scp,hval,hsl⟩:=SpS.name (N:=N) (b:=b) (S0:=S0) (d:=d) (q:=q) (us:=us) g6 g7 who
 have hlw:=fun (hh:Heap)=>hsl.lenA ds52 hh
 have z:=Ext.refl h
 rw [zaa h]
 refine Ok.into rfl zwb (zaw N14) rfl (m:=13) rfl ?_
 simp -implicitDefEqProofs only [syms,symx,seval,c14,eqSp,valM,g1.lay,zzo,zeE]
 refine zfx g3 dmMN znO zrNM ?_
 simp only [hval,Bool.false_eq_true,if_false]
 simp -implicitDefEqProofs only [syms,symx,seval,c14,valA,valN,hlw]
 exact hk _ (z.upW _ _ (by omega))
theorem zs7 (d:PolicyD) (q:Int) (facts:ByteArray→List AtomD) (vers us:ByteArray→Nat) (h:Heap) (N b:Nat) (S0:Nat) (E:List Nat) (sps:SpS N b h S0 E d q facts vers us) (K:Value→Heap→Prop)
 (hk:∀ h' n,Ext h h'→CntU us n→n≤b→K (.int .i64 (n:Nat)) h'):Ok Tryz.prog tab ov 15 [.pointer (some ⟨S0,0,none⟩)] h K:=by
 obtain ⟨T0,D,NM,v0,v1,nv,rfl,g1,g2,g3,g4,g5,g6,g7,g8,g9,g10,g11⟩:=id sps
 obtain ⟨FI,FE,FM,free,ents,kv,rfl,ts,tp,he1,he2⟩:=g2
 have z:=Ext.refl h
 rw [zaa h]
 refine Ok.into rfl zwc (zaw N15) rfl (m:=10) rfl ?_
 simp -implicitDefEqProofs only [syms,symx,seval,c15,eqSp,valP,g1.lay,zGf]
 refine zy9 _ T0 FI FE FM N free ents kv (ts.lay _ _) _ (fun h' x=>?_)
 (replace z:=z.overW x (by omega);rw [zaa h'])
 simp -implicitDefEqProofs only [syms,symx,seval,c15,valN]
 refine hk _ _ (z.upW _ _ (by omega)) ⟨kv.map Prod.fst,tp.kn,fun t=>?_,by rw [List.length_map]⟩ he2
 rw [← tp.has t]
 cases hl:zaK kv t with
 |none=>simp [lookV_none.1 hl]
 |some v =>
  simp only [Option.isSome_some,iff_true]
  refine Classical.byContradiction fun hn=>?_
  rw [lookV_none.2 hn] at hl
  cases hl
end Go.Proofs.YtdplfgoifjjniaaGreatDoor

/- Walks: what is gone through of a policy, all bounds. Written out by fill2.py. No condition. -/
import Derived.Test.YtdplfgoifjjniaaGreatDoorG47
set_option linter.unusedSimpArgs false
set_option linter.unusedVariables false
set_option maxRecDepth 100000
set_option maxHeartbeats 0
namespace Go.Proofs.YtdplfgoifjjniaaGreatDoor
open Go.Am
theorem zz1 (s:ByteArray) (n:Int):zbZ tab 67 [(0,.string s),(1,.int .i64 n)]=some (.agg ⟨[.string s,.int .i64 n]⟩):=by kernel_rfl
theorem zye (s:ByteArray):zbZ tab 67 [(0,.string s)]=some (.agg ⟨[.string s,.int .i64 0]⟩):=by kernel_rfl
theorem zzY (s:ByteArray) (b:Option Addr) (n c:Nat):zbZ tab 69 [(0,.string s),(1,.slice b n c)]=some (.agg ⟨[.string s,.slice b n c]⟩):=by kernel_rfl
theorem zz2 (a:AtomD) (b:Option Addr) (n c:Nat):zbZ tab 71 [(0,a.val),(1,.slice b n c)]=some (.agg ⟨a.cells++[.slice b n c]⟩):=by kernel_rfl
theorem zzZ (s:ByteArray) (a:AtomD) (b:Option Addr) (n c:Nat):zbZ tab 73 [(0,.string s),(1,a.val),(2,.slice b n c)]=some (.agg ⟨.string s::(a.cells++[.slice b n c])⟩):=by kernel_rfl
theorem zyd (a0 a1 a2 a5 a6:Option Addr) (n0 n1 n2 n5 n6 c0 c1 c2 c5 c6:Nat) (q b:Int):zbZ tab 29 [(0,.slice a0 n0 c0),(1,.slice a1 n1 c1),(2,.slice a2 n2 c2),(3,.int .i64 q),(4,.int .i64 b),(5,.slice a5 n5 c5),(6,.slice a6 n6 c6)]=some (zbN (.slice a0 n0 c0) (.slice a1 n1 c1) (.slice a2 n2 c2) (.slice a5 n5 c5) (.slice a6 n6 c6) q b):=by kernel_rfl
theorem zeM {α:Type} {r:Rep α} {h:Heap} {A:Nat} {row:List Value} {u:TypeId} {ro:Bool} {l:List α} (q:Holds h A (.row row u ro)) (hn:l.length≤1000) (he:∀ (i:Nat) (x:α),l[i]? = some x→∃ cs,cut row (0+i*r.k) r.k=some cs∧r.R h cs x):Sl r h (.slice (some ⟨A,0,none⟩) l.length l.length) l :=
 .inr ⟨A,0,l.length,row,u,ro,rfl,by unfold maxLen;omega,.inl ⟨by unfold G;omega,Nat.le_refl _⟩,q.lt,q.get,he⟩
theorem zu8 (a b:AtomD) (z0 z1 z2 z3 z4 z5 z6 z7 z8 z9 z10 z11 z12 z13 z14 z15 z16 z17 z18 z19 z20 z21:Value):zcP (fun i=>some (i*11,11)) [z0,z1,z2,z3,z4,z5,z6,z7,z8,z9,z10,z11,z12,z13,z14,z15,z16,z17,z18,z19,z20,z21] [(0,a.val),(1,b.val)]=some (a.cells++b.cells):=rfl
theorem zu7 (a:AtomD) (z0 z1 z2 z3 z4 z5 z6 z7 z8 z9 z10:Value):zcP (fun i=>some (i*11,11)) [z0,z1,z2,z3,z4,z5,z6,z7,z8,z9,z10] [(0,a.val)]=some a.cells:=rfl
theorem zva (a:AtomD) (v z0 z1 z2 z3 z4 z5 z6 z7 z8 z9 z10 z11:Value):zcP (fun i=>some (i*12,12)) [z0,z1,z2,z3,z4,z5,z6,z7,z8,z9,z10,z11] [(0,.agg ⟨a.cells++[v]⟩)]=some (a.cells++[v]):=rfl
theorem zu9 (s:ByteArray) (a:AtomD) (v z0 z1 z2 z3 z4 z5 z6 z7 z8 z9 z10 z11 z12:Value):zcP (fun i=>some (i*13,13)) [z0,z1,z2,z3,z4,z5,z6,z7,z8,z9,z10,z11,z12] [(0,.agg ⟨.string s::(a.cells++[v])⟩)]=some (.string s::(a.cells++[v])):=rfl
theorem zxO (l:List Value) (h:Heap) (K:Value→Heap→Prop):valE (some (.agg ⟨l⟩)) h K=K (.agg ⟨l⟩) h:=rfl
theorem zzm {h:Heap} {A:Nat} {x:ByteArray} {u:TypeId} {ro:Bool} (q:Holds h A (.row [.string x] u ro)):Sl Rep.str h (.slice (some ⟨A,0,none⟩) 1 1) [x] :=
 zeM (l:=[x]) q (by show 1≤1000;omega) (fun i y hy=>by
  match i,hy with
  |0,hy=>cases hy;exact ⟨_,rfl,rfl⟩
  |i+1,hy=>simp at hy)
theorem ztw {h:Heap} {A:Nat} {x y:ByteArray} {u:TypeId} {ro:Bool} (q:Holds h A (.row [.string x,.string y] u ro)):Sl Rep.str h (.slice (some ⟨A,0,none⟩) 2 2) [x,y] :=
 zeM (l:=[x,y]) q (by show 2≤1000;omega) (fun i y hy=>by
  match i,hy with
  |0,hy=>cases hy;exact ⟨_,rfl,rfl⟩
  |1,hy=>cases hy;exact ⟨_,rfl,rfl⟩
  |i+2,hy=>simp at hy)
theorem zzn {h:Heap} {A:Nat} {x y w:ByteArray} {u:TypeId} {ro:Bool} (q:Holds h A (.row [.string x,.string y,.string w] u ro)):Sl Rep.str h (.slice (some ⟨A,0,none⟩) 3 3) [x,y,w] :=
 zeM (l:=[x,y,w]) q (by show 3≤1000;omega) (fun i y hy=>by
  match i,hy with
  |0,hy=>cases hy;exact ⟨_,rfl,rfl⟩
  |1,hy=>cases hy;exact ⟨_,rfl,rfl⟩
  |2,hy=>cases hy;exact ⟨_,rfl,rfl⟩
  |i+3,hy=>simp at hy)
theorem zfN {h:Heap} {bs:List Blk} {w i:Nat} {b:Blk} (hb:bs[i]? = some b):Holds (h.lay bs w) (h.size+i) b:=⟨by rw [zad];have:=(List.getElem?_eq_some_iff.1 hb).1;omega,by rw [zbd];exact hb⟩
theorem _root_.Go.Am.Holds.chgS {h h2:Heap} {A B:Nat} {k:Blk} (q:Holds h B k) (c:Chg A h h2) (hne:B≠A):Holds h2 B k:=⟨Nat.lt_of_lt_of_le q.lt c.size,(c.get B q.lt hne).trans q.get⟩
theorem zqs (w p x:ByteArray) (A:Nat) (h:Heap) (q:Holds h A (.row [.string x] 9 false)) (K:Value→Heap→Prop) (hk:∀ h',Ext h h'→K (at1 w p x).val h'):Ok Tryz.prog tab ov 12 [.string w,.string p,.slice (some ⟨A,0,none⟩) 1 1] h K:=ok_A w p [x] _ h (zzm q) (by show 1≤2;omega) K hk
theorem zAJ (w p x y:ByteArray) (A:Nat) (h:Heap) (q:Holds h A (.row [.string x,.string y] 9 false)) (K:Value→Heap→Prop) (hk:∀ h',Ext h h'→K (at2 w p x y).val h'):Ok Tryz.prog tab ov 12 [.string w,.string p,.slice (some ⟨A,0,none⟩) 2 2] h K:=ok_A w p [x,y] _ h (ztw q) (by show 2≤2;omega) K hk
theorem zvF (h:Heap) (K:Value→Heap→Prop) (hk:∀ h' p0 p1 p2 p5 p6,Ext h h'→(∀ q,PolH h' p0 p1 p2 p5 p6 (zaN q))→K (zbN p0 p1 p2 p5 p6 3 100) h'):Ok Tryz.prog tab ov 8 [] h K:=by
 rw [zaa h]
 have z:=Ext.refl h
 refine Ok.into rfl zzx (zaw N8) rfl (m:=26) rfl ?_
 simp -implicitDefEqProofs only [syms,symx,seval,c8,valS,valN,zz1,zye,zzY]
 refine zqs zbO sP sX _ _ (zfN (i:=5) rfl) _ (fun h' x=>?_)
 have q0:=Holds.top (i:=0) x rfl
 have q1:=Holds.top (i:=1) x rfl
 have q2:=Holds.top (i:=2) x rfl
 have q3:=Holds.top (i:=3) x rfl
 have q4:=Holds.top (i:=4) x rfl
 ((skip);replace z:=z.overW x (by (try simp only [lsz]);omega);rw [zaa h'])
 simp -implicitDefEqProofs only [syms,symx,seval,c8,valS,valN,zal]
 refine zAJ sBob sQ sX sY _ _ (zfN (i:=0) rfl) _ (fun h' x=>?_)
 ((skip);replace z:=z.overW x (by (try simp only [lsz]);omega);(try replace q0:=q0.over x);(try replace q1:=q1.over x);(try replace q2:=q2.over x);(try replace q3:=q3.over x);(try replace q4:=q4.over x);rw [zaa h'])
 simp -implicitDefEqProofs only [syms,symx,seval,c8,valS,valN,zal]
 refine zqs zbk sP sY _ _ (zfN (i:=0) rfl) _ (fun h' x=>?_)
 ((skip);replace z:=z.overW x (by (try simp only [lsz]);omega);(try replace q0:=q0.over x);(try replace q1:=q1.over x);(try replace q2:=q2.over x);(try replace q3:=q3.over x);(try replace q4:=q4.over x);rw [zaa h'])
 have e5:=q0.lt
 simp -implicitDefEqProofs only [syms,symx,seval,c8,valS,valN,zal,zu8,zz2,zxO,zva]
 refine zAJ zbO sQ sX sY _ _ (zfN (i:=2) rfl) _ (fun h' x=>?_)
 have q5:=Holds.top (i:=0) x rfl
 have q6:=Holds.top (i:=1) x rfl
 ((skip);replace z:=z.overW x (by (try simp only [lsz]);omega);(try replace q0:=q0.over x);(try replace q1:=q1.over x);(try replace q2:=q2.over x);(try replace q3:=q3.over x);(try replace q4:=q4.over x);rw [zaa h'])
 simp -implicitDefEqProofs only [syms,symx,seval,c8,valS,valN,zal]
 refine zqs zbk sP sX _ _ (zfN (i:=0) rfl) _ (fun h' x=>?_)
 ((skip);replace z:=z.overW x (by (try simp only [lsz]);omega);(try replace q0:=q0.over x);(try replace q1:=q1.over x);(try replace q2:=q2.over x);(try replace q3:=q3.over x);(try replace q4:=q4.over x);(try replace q5:=q5.over x);(try replace q6:=q6.over x);rw [zaa h'])
 have e7:=q0.lt
 simp -implicitDefEqProofs only [syms,symx,seval,c8,valS,valN,zal,zu7,zzZ,zxO,zu9,zyd,za0]
 refine zjj q0 sz29 rfl rfl rfl (fun h3 q0 c3=>?_)
 have hz:=z.size
 have q7:=Holds.chgS (zfN (i:=0) rfl) c3 (by omega)
 have q8:=Holds.chgS (zfN (i:=1) rfl) c3 (by omega)
 replace z:=z.stepW c3 (by omega) (by omega)
 replace q0:Holds h3 (h.size+0) (.row (zaq _ _ _ _ _ 3 100) 29 false):=q0
 replace q1:=q1.stepL c3 (by omega)
 replace q2:=q2.stepL c3 (by omega)
 replace q3:=q3.stepL c3 (by omega)
 replace q4:=q4.stepL c3 (by omega)
 replace q5:=q5.stepL c3 (by omega)
 replace q6:=q6.stepL c3 (by omega)
 rw [zaa h3]
 simp -implicitDefEqProofs only [syms,symx,seval,c8,q0.lay,zat,↓zbI,zbz,za0]
 refine hk _ _ _ _ _ _ (z.upW _ _ (by omega)) (fun q=>PolH.lay ⟨zzn q1,?_,?_,?_,?_⟩ _ _)
 ·exact zeM (r:=Rep.pred) (l:=[⟨sP,1⟩,⟨sQ,2⟩,⟨zzh,0⟩]) q2 (by show 3≤1000;omega) (fun i y hy=>by
   match i,hy with
   |0,hy=>cases hy;exact ⟨_,rfl,rfl⟩
   |1,hy=>cases hy;exact ⟨_,rfl,rfl⟩
   |2,hy=>cases hy;exact ⟨_,rfl,rfl⟩
   |i+3,hy=>simp at hy)
 ·exact zeM (r:=Rep.clear) (l:=[⟨zbO,[zbk,sBob]⟩]) q4 (by show 1≤1000;omega) (fun i y hy=>by
   match i,hy with
   |0,hy=>cases hy;exact ⟨_,rfl,_,rfl,ztw q3⟩
   |i+1,hy=>simp at hy)
 ·have hb:Sl Rep.atom h3 (.slice (some ⟨_,0,none⟩) 2 2) [at2 sBob sQ sX sY,at1 zbk sP sY]:=zeM (r:=Rep.atom) (l:=[at2 sBob sQ sX sY,at1 zbk sP sY]) q5 (by show 2≤1000;omega) (fun i y hy=>by
   match i,hy with
   |0,hy=>cases hy;exact ⟨_,rfl,rfl⟩
   |1,hy=>cases hy;exact ⟨_,rfl,rfl⟩
   |i+2,hy=>simp at hy)
  exact zeM (r:=Rep.clause) (l:=[⟨at1 zbO sP sX,[at2 sBob sQ sX sY,at1 zbk sP sY]⟩]) q6 (by show 1≤1000;omega) (fun i y hy=>by
   match i,hy with
   |0,hy=>cases hy;exact ⟨_,rfl,_,rfl,hb⟩
   |i+1,hy=>simp at hy)
 ·have hb:Sl Rep.atom h3 (.slice (some ⟨_,0,none⟩) 1 1) [at1 zbk sP sX]:=zeM (r:=Rep.atom) (l:=[at1 zbk sP sX]) q7 (by show 1≤1000;omega) (fun i y hy=>by
   match i,hy with
   |0,hy=>cases hy;exact ⟨_,rfl,rfl⟩
   |i+1,hy=>simp at hy)
  exact zeM (r:=Rep.grant) (l:=[⟨sBob,at2 zbO sQ sX sY,[at1 zbk sP sX]⟩]) q8 (by show 1≤1000;omega) (fun i y hy=>by
   match i,hy with
   |0,hy=>cases hy;exact ⟨_,rfl,_,rfl,hb⟩
   |i+1,hy=>simp at hy)
theorem zpw (n:Int) {m:Int} (hm:1≤m):∃ k:Nat,zjt n m=k∧(k:Int) < m:=by
 obtain ⟨h1,h2⟩:=zpv n m hm
 exact ⟨(zjt n m).toNat,by omega,by omega⟩
theorem zy5:binA Tryz.prog tab .neq 4 (.bool true) (.bool true)=some (.bool false):=by kernel_rfl
theorem zy4:binA Tryz.prog tab .neq 4 (.bool true) (.bool false)=some (.bool true):=by kernel_rfl
theorem zy3:binA Tryz.prog tab .neq 4 (.bool false) (.bool true)=some (.bool true):=by kernel_rfl
theorem zy2:binA Tryz.prog tab .neq 4 (.bool false) (.bool false)=some (.bool false):=by kernel_rfl
theorem zm4 (p0 p1 p2 p5 p6:Value) (q q2 b:Int):splice (zaq p0 p1 p2 p5 p6 q b) 3 [.int .i64 q2]=zaq p0 p1 p2 p5 p6 q2 b:=rfl
theorem zv1 {T:Tab} {t u:TypeId} {hh:Heap} {n w o:Nat} {cs vs:List Value} {v:Value} (hs:zau T t=some n) (hv:v.cells.toList=vs) (hl:vs.length=n) (hc:o+n≤cs.length) (h1':vs.all Am.one=true) :
 zaZ T t (.pointer (some ⟨hh.size+0,o,none⟩)) v (hh.lay [.row cs u false] w)=some (hh.lay [.row (splice cs o vs) u false] (min w (hh.size+0))):=by
 have hg:(hh.lay [.row cs u false] w).get (hh.size+0)=some (.row cs u false):=by rw [zbd];rfl
 have hsz:v.cells.size=n:=by rw [← hl,← hv];simp
 unfold zaZ
 simp only [hs,Option.bind_some]
 rw [if_pos hsz,hv]
 unfold zbQ
 rw [hg]
 simp only
 rw [if_pos (by simp only [Bool.and_eq_true,decide_eq_true_eq];exact ⟨by omega,h1'⟩),zbA _ _ _ _ _ (by simp)]
 rfl
theorem zle (quota n0:Int) (h:Heap) (hsp:SpaceAt 1 h) (K:Value→Heap→Prop)
 (hk:∀ h',Ext h h'→K (.bool true) h'):Ok Tryz.prog tab ov 3 [.int .i64 quota,.int .i64 n0] h K:=by
 obtain ⟨Q,hQ,hQ2⟩:=zpw quota (m:=20) (by omega)
 obtain ⟨M,hM,hM2⟩:=zpw n0 (m:=25) (by omega)
 rw [zaa h]
 have z:=Ext.refl h
 refine Ok.into rfl zzv (zaw N3) rfl (m:=123) rfl ?_
 simp -implicitDefEqProofs only [syms,symx,seval,c3]
 refine Ok.over (g:=zrk 1) rfl (zw2 (hsp.lay _ _)) ?_
 repeat' (first|simp -implicitDefEqProofs only [syms,symx,seval,c3,Bool.not_true]|((with_reducible first|apply zaD|apply zeR|apply zdS|apply zhq|apply zg6) <;> intro _)|((with_reducible_and_instances apply zar);(· rfl))|((with_reducible_and_instances apply zf4);(· rfl);(· rfl))|((with_reducible refine ⟨z.grw.lay _ _,?_⟩);(intro _ h' zz x _);(try simp only [zan,List.append_nil] at x);(replace z:=zz);(clear zz);rw [zaa h']))
 refine zvF _ _ (fun h' p0 p1 p2 p5 p6 x hd=>?_)
 have hone:=(hd 0).one 3 100
 ((first|((with_reducible refine zah ?_ ?_ ?_);(· exact (by (try simp only [lsz]);have:=z.size;omega));(· first|exact x|simpa only [lla] using x))|skip);replace z:=z.overW x (by (try simp only [lsz]);omega);rw [zaa h'])
 simp -implicitDefEqProofs only [syms,symx,seval,c3,zat]
 refine zgJ (i:=0) (vs:=zaq p0 p1 p2 p5 p6 3 100) rfl sz29 rfl rfl rfl hone ?_
 simp only [List.set_cons_zero]
 simp -implicitDefEqProofs only [syms,symx,seval,c3]
 refine zsU quota 20 _ _ (by decide) ?_
 rw [hQ]
 simp -implicitDefEqProofs only [syms,symx,seval,c3]
 refine zsU n0 25 _ _ (by decide) ?_
 rw [hM]
 simp -implicitDefEqProofs only [syms,symx,seval,c3]
 rw [zv1 (n:=1) (vs:=[.int .i64 Q]) (by kernel_rfl) rfl rfl (by rw [zyZ];decide) rfl,zm4]
 simp -implicitDefEqProofs only [syms,symx,seval,c3,zat,↓zbI,zbz,za0]
 have hone2:=(hd Q).one Q 100
 have hchk:=zoE Q (by omega) (by omega)
 have hPN:PolN (zaN Q):=⟨by show 3≤1000;omega,by show 1≤1000;omega,by show 1≤1000;omega,fun r hr=>by
  obtain rfl:=List.mem_singleton.1 hr
  show 2≤200;omega,by show 1≤1000;omega,fun g hg=>by
  obtain rfl:=List.mem_singleton.1 hg
  show 1≤200;omega⟩
 refine zzb (zaN Q) _ _ _ _ _ Q 100 _ ((hsp.ext z).lay _ _) hone2 ((hd Q).lay _ _) rfl rfl hPN (by show 3≤100000;omega) (by show 3≤100000;omega) [] (fun _ h=>nomatch h) _ (fun hne=>absurd hchk hne) (fun _ hT S0 E0 x sps=>?_)
 have qP:=Holds.top (i:=0) x rfl
 have hz:=z.size
 obtain ⟨P0,hP0⟩:∃ P0,P0=h'.size+0:=⟨_,rfl⟩
 rw [← hP0] at qP
 rw [← hP0]
 have hPE0:∀ B∈E0,P0 < B:=fun B hB=>by
  have h1:=(sps.lt.2 B hB).1
  rw [zad] at h1
  simp only [List.length_cons,List.length_nil] at h1
  omega
 replace sps:=sps.down (N2:=h.size) (by rw [zad];omega)
 have inv0:=InvS.empty (zaN Q)
 obtain ⟨hnd,hpl⟩:=znF hchk
 replace z:=z.overW x (by omega)
 have hPT:=qP.lt
 rw [zaa hT]
 simp -implicitDefEqProofs only [syms,symx,seval,c3,valP,valN]
 obtain ⟨I1,hI1⟩:∃ I:Nat→Env→Heap→Prop,I=(fun n e h'=>∃ (i:Nat) (E:List Nat) (facts:ByteArray→List AtomD) (vers us:ByteArray→Nat) (h1:Heap),h'=h1.lay [] h1.low∧Ext h h1∧(n=M - i∧i≤M∧SpX [] h.size (4*i) h1 S0 E (zaN Q) Q facts vers us∧InvS (zaN Q) i facts vers us∧(facts sBob).Perm (zfH (min i Q))∧(∀ w,w≠sBob→facts w=[])∧Frs E0 hT h1∧(∀ B∈E,B∈E0∨hT.size≤B))∧∃ J:Nat→Value,e=(J 0::.int .i64 M::jr J 2 3 (.pointer (some ⟨P0,0,none⟩)::.pointer (some ⟨S0,0,none⟩)::J 7::.int .i64 i::jr J 9 116 ([])))):=⟨_,rfl⟩
 refine zaE I1 _ (by rw [hI1];exact ⟨0,E0,_,_,_,_,rfl,z,⟨rfl,by omega,sps,inv0,by rw [Nat.zero_min];exact List.Perm.refl _,fun _ _=>rfl,Frs.refl _ _,fun B hB=>.inl hB⟩,junk (by kernel_rfl)⟩) ?_
 intro n e h' hin
 rw [hI1] at hin
 obtain ⟨i,E,facts,vers,us,h1',rfl,z,hinv,J,rfl⟩:=hin
 clear sps inv0
 obtain ⟨rfl,hi,sps,inv,hp,ho,fr,hE⟩:=hinv
 have hwi:=zcl i (by omega)
 have hz:=z.size
 have hrq:at1 sBob sP (repB sA (i+1))=rowQ i:=rfl
 simp -implicitDefEqProofs only [syms,symx,seval,c3]
 refine zaD (fun hlt=>?_) (fun hge=>?_)
 ·simp -implicitDefEqProofs only [syms,symx,seval,c3,valP,hwi]
  refine zvK sA (i+1) (by omega) (by show 1≤1000;omega) _ _ (fun h' x=>?_)
  ((first|((with_reducible refine zah ?_ ?_ ?_);(· exact (by (try simp only [lsz]);have:=z.size;omega));(· first|exact x|simpa only [lla] using x))|skip);replace z:=z.overW x (by (try simp only [lsz]);omega);(try replace sps:=sps.over x);(try replace fr:=fr.over x);rw [zaa h'])
  simp -implicitDefEqProofs only [syms,symx,seval,c3,valP,valS]
  refine zqs sBob sP (repB sA (i+1)) _ _ (zfN (i:=0) rfl) _ (fun h' x=>?_)
  rw [hrq]
  ((first|((with_reducible refine zah ?_ ?_ ?_);(· exact (by (try simp only [lsz]);have:=z.size;omega));(· first|exact x|simpa only [lla] using x))|skip);replace z:=z.overW x (by (try simp only [lsz]);omega);(try replace sps:=sps.over x);(try replace fr:=fr.over x);rw [zaa h'])
  simp -implicitDefEqProofs only [syms,symx,seval,c3,valP,valS,zal]
  have hla:=zfq (zea Q (j:=i) (by omega))
  refine zj5 (zaN Q) Q sBob (rowQ i) facts vers us h _ (z.upW _ _ (by omega)) h.size (4*i) i S0 E rfl [] (sps.lay _ _) inv hnd hpl ((hsp.ext z).lay _ _) hla (by omega) (by omega) _ (fun h3 E2 us2 z2 f2 hE2 sp2 inv2=>?_)
  obtain ⟨l1,l2⟩:=ztn inv hp (by omega) (j:=i) (by omega) (by omega)
  have hfs:=fr.size
  have fr2:Frs E0 hT h3:=(fr.trans (Frs.lay _ [] _ []) (fun _ h=>by simp at h)).trans f2 hE
  have hE3:∀ B∈E2,B∈E0∨hT.size≤B:=fun B hB=>(hE2 B hB).elim (hE B) (fun e=>.inr (by rw [zad] at e;omega))
  have qP2:=qP.frs fr2 (fun hm=>by have:=hPE0 _ hm;omega)
  clear z
  have z:=z2
  rw [zaa h3]
  by_cases hiQ:i < Q
  ·rw [if_pos (by omega)] at l1 l2
   rw [l1] at sp2 inv2
   rw [l1,l2]
   have hp2:(zeS facts sBob (some (putA (rowQ i) (facts sBob))) sBob).Perm (zfH (min (i+1) Q)):=by
    have hmi:min i Q=i:=by omega
    rw [hmi] at hp
    rw [zfE,show min (i+1) Q=i+1 by omega]
    exact zto inv hp (by omega)
   have ho2:∀ w,w≠sBob→zeS facts sBob (some (putA (rowQ i) (facts sBob))) w=[]:=fun w hw=>by rw [zpG (fun e=>hw e.symm)];exact ho w hw
   simp -implicitDefEqProofs only [syms,symx,seval,c3,Option.isSome_some,valT,valB,valN,qP2.lay,pol3]
   repeat' ((first|((with_reducible first|apply zaD|apply zeR|apply zdS|apply zhq|apply zg6) <;> intro _)|((with_reducible_and_instances apply zar);(· rfl))|((with_reducible_and_instances apply zf4);(· rfl);(· rfl))|((with_reducible refine ⟨z.grw.lay _ _,?_⟩);(intro _ h' zz x _);(try simp only [zan,List.append_nil] at x);(try replace sps:=sps.over x);(try replace fr:=fr.over x);(replace z:=zz);(clear zz);rw [zaa h'])) <;> simp -implicitDefEqProofs only [syms,symx,seval,c3,valT,valB,valN,qP2.lay,pol3,zy5,zy4,zy3,zy2])
   all_goals first
    |(exfalso;omega)
    |(rw [hwi]
      (rw [hI1];with_reducible refine zae (m:=_) ?_ ⟨i+1,E2,_,_,us2,_,rfl,z,⟨rfl,by omega,sp2,inv2,hp2,ho2,fr2,hE3⟩,junk (by kernel_rfl)⟩;omega))
  ·rw [if_neg (by omega)] at l1 l2
   rw [l1,zeh,zei] at sp2 inv2
   rw [l1,l2]
   have hmi:min (i+1) Q=min i Q:=by omega
   rw [← hmi] at hp
   simp -implicitDefEqProofs only [syms,symx,seval,c3,Option.isSome_none,valT,valB,valN,qP2.lay,pol3,zy5,zy4,zy3,zy2]
   repeat' ((first|((with_reducible first|apply zaD|apply zeR|apply zdS|apply zhq|apply zg6) <;> intro _)|((with_reducible_and_instances apply zar);(· rfl))|((with_reducible_and_instances apply zf4);(· rfl);(· rfl))|((with_reducible refine ⟨z.grw.lay _ _,?_⟩);(intro _ h' zz x _);(try simp only [zan,List.append_nil] at x);(try replace sps:=sps.over x);(try replace fr:=fr.over x);(replace z:=zz);(clear zz);rw [zaa h'])) <;> simp -implicitDefEqProofs only [syms,symx,seval,c3,valT,valB,valN,qP2.lay,pol3,zy5,zy4,zy3,zy2])
   all_goals first
    |(exfalso;omega)
    |(rw [hwi]
      (rw [hI1];with_reducible refine zae (m:=_) ?_ ⟨i+1,E2,_,_,us2,_,rfl,z,⟨rfl,by omega,sp2,inv2,hp,ho,fr2,hE3⟩,junk (by kernel_rfl)⟩;omega))
 have hiM:i=M:=by omega
 clear hge hi hwi hrq
 subst hiM
 have qPU:=qP.frs fr (fun hm=>by have:=hPE0 _ hm;omega)
 have hfu:=fr.size
 obtain ⟨m,hm⟩:∃ m,m=min i Q:=⟨_,rfl⟩
 rw [← hm] at hp
 have hmin:(if (Q:Int) < (i:Int) then (Q:Int) else (i:Int))=(m:Int):=by split <;> omega
 have hlen:(facts sBob).length=m:=by rw [hp.length_eq,ziT]
 have hcnt:CntU us m:=⟨(List.range m).map fun j=>repB sA (j+1),zou m,fun t=>by rw [ztp inv hp (by omega) ho t,List.mem_map];simp only [List.mem_range],by simp⟩
 simp -implicitDefEqProofs only [syms,symx,seval,c3]
 with_reducible first|refine zb9 (by simp only [c3]) (z.upW _ _ (by omega)) ?_
 simp -implicitDefEqProofs only [syms,symx,seval,c3,valP,valS]
 refine zmz sBob (zaN Q) Q facts vers us _ _ _ S0 E (sps.lay _ _).un _ (fun h' x=>?_)
 rw [hlen]
 ((first|((with_reducible refine zah ?_ ?_ ?_);(· exact (by (try simp only [lsz]);have:=z.size;omega));(· first|exact x|simpa only [lla] using x))|skip);replace z:=z.overW x (by (try simp only [lsz]);omega);(try replace sps:=sps.over x);(try replace qPU:=qPU.over x);rw [zaa h'])
 simp -implicitDefEqProofs only [syms,symx,seval,c3,valP,valS,valN,qPU.lay,pol3]
 (with_reducible_and_instances apply zf4);(· rfl);(· rfl)
 simp -implicitDefEqProofs only [syms,symx,seval,c3,hmin]
 refine zdS (fun e=>absurd rfl e) (fun _=>?_)
 simp -implicitDefEqProofs only [syms,symx,seval,c3,valP]
 refine zs7 (zaN Q) Q facts vers us _ _ _ S0 E (sps.lay _ _).un _ (fun h' n1 x c1 _=>?_)
 have hn1:=c1.same hcnt (fun t=>Iff.rfl)
 subst hn1
 ((first|((with_reducible refine zah ?_ ?_ ?_);(· exact (by (try simp only [lsz]);have:=z.size;omega));(· first|exact x|simpa only [lla] using x))|skip);replace z:=z.overW x (by (try simp only [lsz]);omega);(try replace sps:=sps.over x);(try replace qPU:=qPU.over x);rw [zaa h'])
 simp -implicitDefEqProofs only [syms,symx,seval,c3,valP,valS,valN,qPU.lay,pol3]
 (with_reducible_and_instances apply zf4);(· rfl);(· rfl)
 simp -implicitDefEqProofs only [syms,symx,seval,c3,hmin]
 refine zdS (fun e=>absurd rfl e) (fun _=>?_)
 simp -implicitDefEqProofs only [syms,symx,seval,c3]
 ((with_reducible refine ⟨z.grw.lay _ _,?_⟩);(intro _ h' zz x _);(try simp only [zan,List.append_nil] at x);(try replace sps:=sps.over x);(try replace qPU:=qPU.over x);(replace z:=zz);(clear zz);rw [zaa h'])
 simp -implicitDefEqProofs only [syms,symx,seval,c3,valN]
 refine zeR (fun _=>?_) (fun hi0=>?_)
 ·simp -implicitDefEqProofs only [syms,symx,seval,c3]
  exact hk _ (z.upW _ _ (by omega))
 simp -implicitDefEqProofs only [syms,symx,seval,c3,valN,qPU.lay,pol3]
 refine zeR (fun _=>?_) (fun hQ0=>?_)
 ·simp -implicitDefEqProofs only [syms,symx,seval,c3]
  exact hk _ (z.upW _ _ (by omega))
 simp -implicitDefEqProofs only [syms,symx,seval,c3,valP,valS]
 refine zqs sBob sP sA _ _ (zfN (i:=0) rfl) _ (fun h' x=>?_)
 rw [← ztt]
 ((first|((with_reducible refine zah ?_ ?_ ?_);(· exact (by (try simp only [lsz]);have:=z.size;omega));(· first|exact x|simpa only [lla] using x))|skip);replace z:=z.overW x (by (try simp only [lsz]);omega);(try replace sps:=sps.over x);(try replace qPU:=qPU.over x);rw [zaa h'])
 simp -implicitDefEqProofs only [syms,symx,seval,c3,valP,valS,zal]
 have hm0:0 < n1:=by omega
 obtain ⟨g1,g2⟩:=zqT inv hp hm0
 have hsz:=z.size
 have hE0:∀ B∈E,P0 < B:=fun B hB=>(hE B hB).elim (hPE0 B) (fun e=>by omega)
 refine zoq (zaN Q) Q sBob (rowQ 0) facts vers us h _ (z.upW _ _ (by omega)) h.size (4*i) i S0 E rfl [] (sps.lay _ _) inv hnd hpl ((hsp.ext z).lay _ _) (zfq (zea Q (j:=0) (by omega))) (by omega) (by omega) _ (fun h3 E2 us2 z2 f2 hE2 sp2 inv2=>?_)
 rw [g1] at sp2 inv2
 rw [g1,zea Q (j:=0) (by omega)]
 have qP2:=qPU.frs ((Frs.lay _ [] _ E).trans f2 (fun B hB=>.inl hB)) (fun hm=>by have:=hE0 _ hm;omega)
 have hf2:=f2.size
 rw [zad] at hf2
 have hE20:∀ B∈E2,P0 < B:=fun B hB=>(hE2 B hB).elim (hE0 B) (fun e=>by rw [zad] at e;have:=qPU.lt;omega)
 have hF2:zeS facts sBob (some (delA (rowQ 0) (facts sBob))) sBob=delA (rowQ 0) (facts sBob):=zfE _ _ _
 generalize zeS facts sBob (some (delA (rowQ 0) (facts sBob)))=F2 at sp2 inv2 hF2
 generalize zgM vers sBob (some (delA (rowQ 0) (facts sBob)))=V2 at sp2 inv2
 obtain ⟨y1,y2,y3⟩:=zvS (m:=n1) inv2 (fun a ha=>by rw [hF2] at ha;exact hp.mem_iff.1 (List.filter_sublist.subset ha)) (by omega) (by rw [hF2];omega)
 clear z
 have z:=z2
 rw [zaa h3]
 simp -implicitDefEqProofs only [syms,symx,seval,c3,Option.isSome_some,valT,valB,valN,valP,valS]
 refine zqs sBob sP sZz _ _ (zfN (i:=0) rfl) _ (fun h' x=>?_)
 ((first|((with_reducible refine zah ?_ ?_ ?_);(· exact (by (try simp only [lsz]);have:=z.size;omega));(· first|exact x|simpa only [lla] using x))|skip);replace z:=z.overW x (by (try simp only [lsz]);omega);(try replace sp2:=sp2.over x);(try replace qP2:=qP2.over x);rw [zaa h'])
 simp -implicitDefEqProofs only [syms,symx,seval,c3,valP,valS,zal]
 refine zj5 (zaN Q) Q sBob (at1 sBob sP sZz) F2 V2 us2 h _ (z.upW _ _ (by omega)) h.size _ (i+1) S0 E2 rfl [] (sp2.lay _ _) inv2 hnd hpl ((hsp.ext z).lay _ _) (zfq (zuI Q)) (by omega) (by omega) _ (fun h4 E3 us3 z3 f3 hE3 sp3 inv3=>?_)
 rw [y1] at sp3 inv3
 rw [y1,y2]
 have qP3:=qP2.frs ((Frs.lay _ [] _ E2).trans f3 (fun B hB=>.inl hB)) (fun hm=>by have:=hE20 _ hm;omega)
 have hF3:(zeS F2 sBob (some (putA (at1 sBob sP sZz) (F2 sBob))) sBob).length=n1:=by rw [zfE];show (putA (at1 sBob sP sZz) (F2 sBob)).length=n1;rw [y3,hF2];omega
 generalize zeS F2 sBob (some (putA (at1 sBob sP sZz) (F2 sBob)))=F3 at sp3 inv3 hF3
 generalize zgM V2 sBob (some (putA (at1 sBob sP sZz) (F2 sBob)))=V3 at sp3 inv3
 clear z
 have z:=z3
 rw [zaa h4]
 simp -implicitDefEqProofs only [syms,symx,seval,c3,Option.isSome_some,valT,valB,valN,valP,valS]
 with_reducible first|refine zb9 (by simp only [c3]) (z.upW _ _ (by omega)) ?_
 simp -implicitDefEqProofs only [syms,symx,seval,c3,valB,valN,valP,valS]
 refine zmz sBob (zaN Q) Q F3 V3 us3 _ _ _ S0 E3 (sp3.lay _ _).un _ (fun h' x=>?_)
 rw [hF3]
 ((first|((with_reducible refine zah ?_ ?_ ?_);(· exact (by (try simp only [lsz]);have:=z.size;omega));(· first|exact x|simpa only [lla] using x))|skip);replace z:=z.overW x (by (try simp only [lsz]);omega);(try replace sp3:=sp3.over x);(try replace qP3:=qP3.over x);rw [zaa h'])
 simp -implicitDefEqProofs only [syms,symx,seval,c3,valP,valS,valN,qP3.lay,pol3]
 (with_reducible_and_instances apply zf4);(· rfl);(· rfl)
 simp -implicitDefEqProofs only [syms,symx,seval,c3,hmin]
 ((with_reducible refine ⟨z.grw.lay _ _,?_⟩);(intro _ h' zz x _);(try simp only [zan,List.append_nil] at x);(try replace sp3:=sp3.over x);(try replace qP3:=qP3.over x);(replace z:=zz);(clear zz);rw [zaa h'])
 simp -implicitDefEqProofs only [syms,symx,seval,c3,hmin]
 exact hk _ (z.upW _ _ (by omega))
end Go.Proofs.YtdplfgoifjjniaaGreatDoor

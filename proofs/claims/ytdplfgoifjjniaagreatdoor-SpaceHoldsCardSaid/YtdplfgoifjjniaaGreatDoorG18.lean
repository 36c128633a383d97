/- Policies: data, their cells. No condition. -/
import Derived.Test.YtdplfgoifjjniaaGreatDoorG17
set_option linter.unusedSimpArgs false
set_option linter.unusedVariables false
namespace Go.Am
structure bx where
 name:ByteArray
 arity:Int
structure bF where
 bt:ByteArray
 reads:List ByteArray
structure dC where
 «to»:ByteArray
 head:ab
 body:List ab
structure au where
 aj:List ByteArray
 bA:List bx
 aV:List bF
 du:Int
 cD:Int
 rules:List bP
 bc:List dC
abbrev aK.pred:aK bx:={ k:=2,R:=fun _ cs x=>cs=[.string x.name,.int .i64 x.arity],len:=by rintro _ _ _ rfl;rfl,mono:=fun _ _ _ _ _ h=>h,gK:=by rintro _ _ _ rfl;rfl }
abbrev aK.clear:aK bF :=
 { k:=2,R:=fun h cs x=>∃ v,cs=[.string x.bt,v]∧Sl aK.str h v x.reads
   len:=by rintro h cs x ⟨v,rfl,_⟩;rfl
   mono:=by rintro h h' cs x i ⟨v,e,f⟩;exact ⟨v,e,f.mono i⟩
   gK:=by rintro h cs x ⟨v,rfl,f⟩;have:=f.one;simp only [List.all_cons,List.all_nil,this];rfl }
abbrev aK.oA:aK dC :=
 { k:=13,R:=fun h cs x=>∃ v,cs=.string x.to::(x.head.cells++[v])∧Sl aK.atom h v x.body
   len:=by rintro h cs x ⟨v,rfl,_⟩;rfl
   mono:=by rintro h h' cs x i ⟨v,e,f⟩;exact ⟨v,e,f.mono i⟩
   gK:=by rintro h cs x ⟨v,rfl,f⟩;have:=f.one;simp only [List.all_append,ab.cells,List.all_cons,List.all_nil,this];rfl }
def dw (p0 p1 p2 p5 p6:Value) (q b:Int):List Value:=[p0,p1,p2,.int .i64 q,.int .i64 b,p5,p6]
def gQ (p0 p1 p2 p5 p6:Value) (q b:Int):Value:=.agg ⟨dw p0 p1 p2 p5 p6 q b⟩
structure fO (h:Heap) (p0 p1 p2 p5 p6:Value) (d:au):Prop where
 s0:Sl aK.str h p0 d.aj
 s1:Sl aK.pred h p1 d.bA
 s2:Sl aK.clear h p2 d.aV
 s5:Sl aK.clause h p5 d.rules
 s6:Sl aK.oA h p6 d.bc
theorem fO.mono {h h':Heap} {p0 p1 p2 p5 p6:Value} {d:au} (f:fO h p0 p1 p2 p5 p6 d) (i:cP h h'):fO h' p0 p1 p2 p5 p6 d:=⟨f.s0.mono i,f.s1.mono i,f.s2.mono i,f.s5.mono i,f.s6.mono i⟩
theorem fO.lay {h:Heap} {p0 p1 p2 p5 p6:Value} {d:au} (f:fO h p0 p1 p2 p5 p6 d) (bs:List bh) (w:Nat):fO (h.lay bs w) p0 p1 p2 p5 p6 d:=f.mono (cP.lay h bs w)
theorem fO.over {h1 h2:Heap} {bs:List bh} {w:Nat} {p0 p1 p2 p5 p6:Value} {d:au} (f:fO h1 p0 p1 p2 p5 p6 d) (x:Ext (h1.lay bs w) h2):fO h2 p0 p1 p2 p5 p6 d:=f.mono x.inc.jh
theorem fO.one {h:Heap} {p0 p1 p2 p5 p6:Value} {d:au} (f:fO h p0 p1 p2 p5 p6 d) (q b:Int):(dw p0 p1 p2 p5 p6 q b).all Am.one=true:=by
 have h0:=f.s0.one
 have h1:=f.s1.one
 have h2:=f.s2.one
 have h5:=f.s5.one
 have h6:=f.s6.one
 simp only [dw,List.all_cons,List.all_nil,h0,h1,h2,h5,h6]
 rfl
theorem im (p0 p1 p2 p5 p6:Value) (q b:Int):cut (dw p0 p1 p2 p5 p6 q b) 0 7=some (dw p0 p1 p2 p5 p6 q b):=rfl
theorem dy (p0 p1 p2 p5 p6:Value) (q b:Int):(dw p0 p1 p2 p5 p6 q b)[0]? = some p0:=rfl
theorem eo (p0 p1 p2 p5 p6:Value) (q b:Int):(dw p0 p1 p2 p5 p6 q b)[1]? = some p1:=rfl
theorem fV (p0 p1 p2 p5 p6:Value) (q b:Int):(dw p0 p1 p2 p5 p6 q b)[2]? = some p2:=rfl
theorem xT (p0 p1 p2 p5 p6:Value) (q b:Int):(dw p0 p1 p2 p5 p6 q b)[3]? = some (.int .i64 q):=rfl
theorem Ea (p0 p1 p2 p5 p6:Value) (q b:Int):(dw p0 p1 p2 p5 p6 q b)[4]? = some (.int .i64 b):=rfl
theorem fH (p0 p1 p2 p5 p6:Value) (q b:Int):(dw p0 p1 p2 p5 p6 q b)[5]? = some p5:=rfl
theorem fW (p0 p1 p2 p5 p6:Value) (q b:Int):(dw p0 p1 p2 p5 p6 q b)[6]? = some p6:=rfl
theorem gP (p0 p1 p2 p5 p6:Value) (q b:Int):Value.agg (dw p0 p1 p2 p5 p6 q b).toArray=gQ p0 p1 p2 p5 p6 q b:=rfl
theorem eQ (p0 p1 p2 p5 p6:Value) (q b:Int):(gQ p0 p1 p2 p5 p6 q b).cells.toList=dw p0 p1 p2 p5 p6 q b:=rfl
theorem gk (p0 p1 p2 p5 p6:Value) (q b:Int) (h:Heap) (K:Value→Heap→Prop):aU (some (gQ p0 p1 p2 p5 p6 q b)) h K=K (gQ p0 p1 p2 p5 p6 q b) h:=rfl
section
variable {h1:Heap} {bs:List bh} {w:Nat} {T:bD} {K:Value→Heap→Prop} {t e s:TypeId} {v p:Value} {kd:IntKind} {i:Int}
theorem MU {l:List bx} {x:bx} (f:Sl aK.pred h1 v l) (hd:T.desc t=some (.slice e)) (hs:bO T e=some 2) (h0:0≤i) (hx:l[i.toNat]? = some x) (hk:∀ p,eC h1 p [.string x.name,.int .i64 x.arity]→K p (h1.lay bs w)):aU (fM T t v (.int kd i)) (h1.lay bs w) K:=by
 have hi:=(List.getElem?_eq_some_iff.1 hx).1
 refine zO f hd hs h0 (by omega) (fun x' p cs lO hr hp=>?_)
 rw [hx] at lO
 cases lO
 exact hk p (hr ▸ hp)
theorem GO {l:List bF} {x:bF} (f:Sl aK.clear h1 v l) (hd:T.desc t=some (.slice e)) (hs:bO T e=some 2) (h0:0≤i) (hx:l[i.toNat]? = some x) (hk:∀ p b,Sl aK.str h1 b x.reads→eC h1 p [.string x.bt,b]→K p (h1.lay bs w)):aU (fM T t v (.int kd i)) (h1.lay bs w) K:=by
 have hi:=(List.getElem?_eq_some_iff.1 hx).1
 refine zO f hd hs h0 (by omega) (fun x' p cs lO hr hp=>?_)
 rw [hx] at lO
 cases lO
 obtain ⟨b,rfl,hb⟩:=hr
 exact hk p b hb hp
theorem PC {l:List dC} {x:dC} (f:Sl aK.oA h1 v l) (hd:T.desc t=some (.slice e)) (hs:bO T e=some 13) (h0:0≤i) (hx:l[i.toNat]? = some x) (hk:∀ p b,Sl aK.atom h1 b x.body→eC h1 p (.string x.to::(x.head.cells++[b]))→K p (h1.lay bs w)):aU (fM T t v (.int kd i)) (h1.lay bs w) K:=by
 have hi:=(List.getElem?_eq_some_iff.1 hx).1
 refine zO f hd hs h0 (by omega) (fun x' p cs lO hr hp=>?_)
 rw [hx] at lO
 cases lO
 obtain ⟨b,rfl,hb⟩:=hr
 exact hk p b hb hp
theorem tI {x y:Value} (f:eC h1 p [x,y]) (jy:∀ A o,cV T s (.pointer (some ⟨A,o,none⟩)) 0=some (.pointer (some ⟨A,o+0,none⟩))) (hk:∀ q,eC h1 q [x]→K q (h1.lay bs w)):aU (cV T s p 0) (h1.lay bs w) K:=rD (ds:=[x]) f jy rfl (Nat.succ_pos _) hk
theorem IF {x y:Value} (f:eC h1 p [x,y]) (jy:∀ A o,cV T s (.pointer (some ⟨A,o,none⟩)) 1=some (.pointer (some ⟨A,o+1,none⟩))) (hk:∀ q,eC h1 q [y]→K q (h1.lay bs w)):aU (cV T s p 1) (h1.lay bs w) K:=rD (ds:=[y]) f jy rfl (Nat.succ_pos _) hk
theorem TE {x:dC} {b:Value} (f:eC h1 p (.string x.to::(x.head.cells++[b]))) (jy:∀ A o,cV T s (.pointer (some ⟨A,o,none⟩)) 0=some (.pointer (some ⟨A,o+0,none⟩))) (hk:∀ q,eC h1 q [.string x.to]→K q (h1.lay bs w)):aU (cV T s p 0) (h1.lay bs w) K:=rD (ds:=[.string x.to]) f jy rfl (Nat.succ_pos _) hk
theorem TF {x:dC} {b:Value} (f:eC h1 p (.string x.to::(x.head.cells++[b]))) (jy:∀ A o,cV T s (.pointer (some ⟨A,o,none⟩)) 1=some (.pointer (some ⟨A,o+1,none⟩))) (hk:∀ q,eC h1 q x.head.cells→K q (h1.lay bs w)):aU (cV T s p 1) (h1.lay bs w) K:=rD (ds:=x.head.cells) f jy rfl (Nat.succ_pos _) hk
theorem TG {x:dC} {b:Value} (f:eC h1 p (.string x.to::(x.head.cells++[b]))) (jy:∀ A o,cV T s (.pointer (some ⟨A,o,none⟩)) 2=some (.pointer (some ⟨A,o+12,none⟩))) (hk:∀ q,eC h1 q [b]→K q (h1.lay bs w)):aU (cV T s p 2) (h1.lay bs w) K:=rD (ds:=[b]) f jy rfl (Nat.succ_pos _) hk
theorem Km {x y:Value} (f:eC h1 p [x,y]) (hg:aq T t=some true) (hs:bO T t=some 2) (hk:K (.agg ⟨[x,y]⟩) (h1.lay bs w)):aU (dz T t p (h1.lay bs w)) (h1.lay bs w) K:=MN f hg hs rfl hk
theorem ldG {x:dC} {b:Value} (f:eC h1 p (.string x.to::(x.head.cells++[b]))) (hg:aq T t=some true) (hs:bO T t=some 13) (hk:K (.agg ⟨.string x.to::(x.head.cells++[b])⟩) (h1.lay bs w)):aU (dz T t p (h1.lay bs w)) (h1.lay bs w) K:=MN f hg hs rfl hk
end
end Go.Am
namespace Go.Am
open Go.Proofs
/-! ### Members -/
def HQ (h:Heap) (v:Value) (d:au):Prop:=∃ p0 p1 p2 p5 p6 q b,v=gQ p0 p1 p2 p5 p6 q b∧fO h p0 p1 p2 p5 p6 d
end Go.Am
namespace Go.Proofs.YtdplfgoifjjniaaGreatDoor
open Go.Am
set_option maxRecDepth 100000
theorem zmm:Tryz.prog.cellsOf 67=2:=by kernel_rfl
theorem zmk:Tryz.prog.cellsOf 69=2:=by kernel_rfl
theorem zmn:Tryz.prog.cellsOf 71=12:=by kernel_rfl
theorem zml:Tryz.prog.cellsOf 73=13:=by kernel_rfl
theorem zqZ:Tryz.prog.cellsOf 29=7:=by kernel_rfl
theorem zjl {h:Heap} {n:Nat} {v:Value} (hs:dX Tryz.prog h (n+2) 23 [v]):∃ l,Sl aK.str h v l :=
 EY Tryz.underlying23 zq0 (fun cs hc=>Bn hc) hs
theorem zqq {cs:List Value} {k:Nat} (h:k < cs.length):∃ v,(cs.drop k).take 1=[v]:=by
 rw [List.drop_eq_getElem_cons h]
 exact ⟨_,rfl⟩
theorem zzi {h:Heap} {n:Nat} {cs:List Value} (hs:dX Tryz.prog h (n+2) 67 cs):∃ x,aK.pred.R h cs x:=by
 unfold dX at hs
 rw [Tryz.underlying67] at hs
 obtain ⟨hl,hf⟩:=hs
 rw [zmm] at hl
 match cs,hl with
 | [a,b],_ =>
  have h0:dX Tryz.prog h (n+1) 9 (([a,b].drop 0).take 1):=hf 0 _ rfl
  have h1:dX Tryz.prog h (n+1) 3 (([a,b].drop 1).take 1):=hf 1 _ rfl
  obtain ⟨s,e0⟩:=Bn h0
  obtain ⟨i,e1,_⟩:=MJ h1
  simp at e0 e1
  subst e0 e1
  exact ⟨⟨s,i⟩,rfl⟩
theorem zuI {h:Heap} {n:Nat} {cs:List Value} (hs:dX Tryz.prog h (n+3) 69 cs):∃ x,aK.clear.R h cs x:=by
 unfold dX at hs
 rw [Tryz.underlying69] at hs
 obtain ⟨hl,hf⟩:=hs
 rw [zmk] at hl
 match cs,hl with
 | [a,b],_ =>
  have h0:dX Tryz.prog h (n+2) 9 (([a,b].drop 0).take 1):=hf 0 _ rfl
  have h1:dX Tryz.prog h (n+2) 23 (([a,b].drop 1).take 1):=hf 1 _ rfl
  obtain ⟨s,e0⟩:=Bn h0
  obtain ⟨l,e1⟩:=zjl h1
  simp at e0
  subst e0
  exact ⟨⟨s,l⟩,_,rfl,e1⟩
theorem zzj {h:Heap} {n:Nat} {cs:List Value} (hs:dX Tryz.prog h (n+6) 71 cs):∃ x,aK.clause.R h cs x:=by
 unfold dX at hs
 rw [Tryz.underlying71] at hs
 obtain ⟨hl,hf⟩:=hs
 rw [zmn] at hl
 have h0:dX Tryz.prog h (n+5) 42 ((cs.drop 0).take 11):=hf 0 _ rfl
 have h1:dX Tryz.prog h (n+5) 52 ((cs.drop 11).take 1):=hf 1 _ rfl
 obtain ⟨a,ha⟩:=Pf (n:=n+1) h0
 obtain ⟨v,hv⟩:=zqq (cs:=cs) (k:=11) (by omega)
 rw [hv] at h1
 obtain ⟨l,fT⟩:=znL h1
 refine ⟨⟨a,l⟩,v,?_,fT⟩
 have e1:cs=cs.take 11++cs.drop 11:=(List.take_append_drop 11 cs).symm
 rw [List.take_of_length_le (by simp;omega)] at hv
 rw [List.drop_zero] at ha
 rw [e1,ha,hv]
theorem zuJ {h:Heap} {n:Nat} {cs:List Value} (hs:dX Tryz.prog h (n+6) 73 cs):∃ x,aK.oA.R h cs x:=by
 unfold dX at hs
 rw [Tryz.underlying73] at hs
 obtain ⟨hl,hf⟩:=hs
 rw [zml] at hl
 match cs,hl with
 |c0::cs,hl =>
  have hl:cs.length=12:=by simpa using hl
  have h0:dX Tryz.prog h (n+5) 9 (((c0::cs).drop 0).take 1):=hf 0 _ rfl
  have h1:dX Tryz.prog h (n+5) 42 ((cs.drop 0).take 11):=hf 1 _ rfl
  have h2:dX Tryz.prog h (n+5) 52 ((cs.drop 11).take 1):=hf 2 _ rfl
  obtain ⟨s,e0⟩:=Bn h0
  obtain ⟨a,ha⟩:=Pf (n:=n+1) h1
  obtain ⟨v,hv⟩:=zqq (cs:=cs) (k:=11) (by omega)
  rw [hv] at h2
  obtain ⟨l,fT⟩:=znL h2
  simp at e0
  subst e0
  refine ⟨⟨s,a,l⟩,v,?_,fT⟩
  have e1:cs=cs.take 11++cs.drop 11:=(List.take_append_drop 11 cs).symm
  rw [List.take_of_length_le (by simp;omega)] at hv
  rw [List.drop_zero] at ha
  rw [e1,ha,hv]
theorem zqM {h:Heap} {n:Nat} {v:Value} (hs:BH Tryz.prog h (n+8) 29 v):∃ d,HQ h v d:=by
 unfold BH at hs
 rw [Tryz.underlying29] at hs
 obtain ⟨cs,rfl,hc⟩:=hs
 unfold dX at hc
 rw [Tryz.underlying29] at hc
 obtain ⟨hl,hf⟩:=hc
 rw [zqZ] at hl
 match cs,hl with
 | [c0,c1,c2,c3,c4,c5,c6],_ =>
  have h0:dX Tryz.prog h (n+7) 23 (([c0,c1,c2,c3,c4,c5,c6].drop 0).take 1):=hf 0 _ rfl
  have h1:dX Tryz.prog h (n+7) 24 (([c0,c1,c2,c3,c4,c5,c6].drop 1).take 1):=hf 1 _ rfl
  have h2:dX Tryz.prog h (n+7) 25 (([c0,c1,c2,c3,c4,c5,c6].drop 2).take 1):=hf 2 _ rfl
  have h3:dX Tryz.prog h (n+7) 3 (([c0,c1,c2,c3,c4,c5,c6].drop 3).take 1):=hf 3 _ rfl
  have h4:dX Tryz.prog h (n+7) 3 (([c0,c1,c2,c3,c4,c5,c6].drop 4).take 1):=hf 4 _ rfl
  have h5:dX Tryz.prog h (n+7) 26 (([c0,c1,c2,c3,c4,c5,c6].drop 5).take 1):=hf 5 _ rfl
  have h6:dX Tryz.prog h (n+7) 27 (([c0,c1,c2,c3,c4,c5,c6].drop 6).take 1):=hf 6 _ rfl
  obtain ⟨l0,g0⟩:=zjl h0
  obtain ⟨l1,g1⟩:=EY (n:=n+6) Tryz.underlying24 zmm (fun cs hc=>zzi hc) h1
  obtain ⟨l2,g2⟩:=EY (n:=n+6) Tryz.underlying25 zmk (fun cs hc=>zuI hc) h2
  obtain ⟨i3,e3,_⟩:=MJ h3
  obtain ⟨i4,e4,_⟩:=MJ h4
  obtain ⟨l5,g5⟩:=EY (n:=n+6) Tryz.underlying26 zmn (fun cs hc=>zzj hc) h5
  obtain ⟨l6,g6⟩:=EY (n:=n+6) Tryz.underlying27 zml (fun cs hc=>zuJ hc) h6
  simp at e3 e4
  subst e3 e4
  exact ⟨⟨l0,l1,l2,i3,i4,l5,l6⟩,_,_,_,_,_,_,_,rfl,⟨g0,g1,g2,g5,g6⟩⟩
end Go.Proofs.YtdplfgoifjjniaaGreatDoor
namespace Go.Am
def jH (c:Int):Prop:=(97≤c∧c≤122)∨(65≤c∧c≤90)∨(48≤c∧c≤57)∨c=95
def od (c:Int):Prop:=(97≤c∧c≤122)∨(48≤c∧c≤57)∨c=95
def Gw (s:ByteArray):Prop:=1≤s.size∧∀ i,i < s.size→od (ke s i)
def zpL (s:ByteArray):Prop:=1≤s.size∧(65≤ke s 0∧ke s 0≤90)∧∀ i,i < s.size→jH (ke s i)
def Pk (t:aQ):Prop:=if t.v then zpL t.s else Gw t.s
structure pN (a:ab):Prop where
 says:Gw a.says
 pred:Gw a.pred
 lo:0≤a.n
 hi:a.n≤4
 jJ:∀ i:Nat,(i:Int) < a.n→Pk (a.arg i)
 rest:∀ i:Nat,a.n≤(i:Int)→i < 4→a.arg i=bT
def ztE (s:ByteArray):Bool:=decide (65≤ke s 0) && decide (ke s 0≤90)
structure gn (a:ab):Prop where
 says:Word a.says.data.toList
 pred:Word a.pred.data.toList
 lo:0≤a.n
 hi:a.n≤4
 jJ:∀ i:Nat,(i:Int) < a.n→Word (a.arg i).s.data.toList∧(a.arg i).v=ztE (a.arg i).s
 rest:∀ i:Nat,a.n≤(i:Int)→i < 4→a.arg i=bT
theorem zkf {s:ByteArray} {c:UInt8} (h:c∈s.data.toList):∃ i,i < s.size∧ke s i=c.toNat:=by
 obtain ⟨i,hi,he⟩:=List.getElem_of_mem h
 have oL:i < s.size:=by rw [← Cc];exact hi
 refine ⟨i,oL,?_⟩
 unfold ke
 have:s[i]? = some s[i]:=by simp [oL]
 rw [this]
 simp only [Option.getD_some]
 have h2:s[i]=c:=by rw [← he];rfl
 rw [h2]
theorem Zt {s:ByteArray} (h:Gw s):Word s.data.toList:=by
 intro c hc
 obtain ⟨i,hi,he⟩:=zkf hc
 have:=h.2 i hi
 unfold od at this
 unfold mV
 omega
theorem zA3 {s:ByteArray} (h:zpL s):Word s.data.toList:=by
 intro c hc
 obtain ⟨i,hi,he⟩:=zkf hc
 have:=h.2.2 i hi
 unfold jH at this
 unfold mV
 omega
theorem pN.plain {a:ab} (w:pN a):gn a:=by
 refine ⟨Zt w.says,Zt w.pred,w.lo,w.hi,fun i hi=>?_,w.rest⟩
 have h:=w.jJ i hi
 unfold Pk at h
 cases hv:(a.arg i).v
 ·rw [hv] at h
  have h:Gw (a.arg i).s:=h
  refine ⟨Zt h,?_⟩
  have:=h.2 0 h.1
  unfold od at this
  unfold ztE
  rw [eq_comm,Bool.and_eq_false_iff,decide_eq_false_iff_not,decide_eq_false_iff_not]
  omega
 ·rw [hv] at h
  have h:zpL (a.arg i).s:=h
  refine ⟨zA3 h,?_⟩
  unfold ztE
  rw [decide_eq_true h.2.1.1,decide_eq_true h.2.1.2]
  rfl
theorem zvO (a:ab):cO a=Na a.says.data.toList a.pred.data.toList (iC a):=by
 unfold cO Na GX iC GV cT
 cases h:a.args with
 |nil=>simp
 |cons t r=>simp
theorem args_at {a:ab} {i:Nat} (h:i < a.cx):a.args[i]? = some (a.arg i):=by
 have hc:a.cx≤4:=Nat.min_le_right _ _
 unfold ab.args
 rw [List.getElem?_take,if_pos h]
 have:i=0∨i=1∨i=2∨i=3:=by omega
 rcases this with rfl|rfl|rfl|rfl <;> rfl
theorem zBA {a b:ab} (h0:a.says=b.says) (h1:a.pred=b.pred) (h2:a.n=b.n) (h:∀ i,i < 4→a.arg i=b.arg i):a=b:=by
 have e0:=h 0 (by omega)
 have e1:=h 1 (by omega)
 have e2:=h 2 (by omega)
 have e3:=h 3 (by omega)
 obtain ⟨s,p,n,t0,t1,t2,t3⟩:=a
 obtain ⟨s',p',n',u0,u1,u2,u3⟩:=b
 simp only [ab.arg] at e0 e1 e2 e3
 simp only at h0 h1 h2
 subst h0 h1 h2 e0 e1 e2 e3
 rfl
theorem zi7 {a:ab} (w:gn a):∀ x∈iC a,Word x:=by
 intro x hx
 obtain ⟨t,ht,rfl⟩:=List.mem_map.1 hx
 obtain ⟨i,hi⟩:=List.getElem?_of_mem ht
 have aS:i < a.cx:=by
  have h1:=(List.getElem?_eq_some_iff.1 hi).1
  unfold ab.args at h1
  rw [List.length_take] at h1
  omega
 rw [args_at aS] at hi
 cases hi
 have:(i:Int) < a.n:=by
  have:a.cx≤a.n.toNat:=Nat.min_le_left _ _
  omega
 exact (w.jJ i this).1
theorem Za {a b:ab} (wa:gn a) (wb:gn b) (h:cO a=cO b):a=b:=by
 rw [zvO,zvO] at h
 obtain ⟨h1,h2,h3⟩:=zAQ wa.says wb.says wa.pred wb.pred (zi7 wa) (zi7 wb) h
 have hlen:=congrArg List.length h3
 have oE:(a.cx:Int)=a.n:=by
  have:=wa.lo;have:=wa.hi
  unfold ab.cx
  omega
 have Jl:(b.cx:Int)=b.n:=by
  have:=wb.lo;have:=wb.hi
  unfold ab.cx
  omega
 have FG:(iC a).length=a.cx:=by
  have:a.cx≤4:=Nat.min_le_right _ _
  unfold iC ab.args
  rw [List.length_map,List.length_take]
  simp only [List.length_cons,List.length_nil]
  omega
 have Wf:(iC b).length=b.cx:=by
  have:b.cx≤4:=Nat.min_le_right _ _
  unfold iC ab.args
  rw [List.length_map,List.length_take]
  simp only [List.length_cons,List.length_nil]
  omega
 rw [FG,Wf] at hlen
 have hn:a.n=b.n:=by omega
 refine zBA (GC h1) (GC h2) hn (fun i hi=>?_)
 by_cases aH:(i:Int) < a.n
 ·have e1:=args_at (a:=a) (i:=i) (by omega)
  have e2:=args_at (a:=b) (i:=i) (by omega)
  have e3:(iC a)[i]? = (iC b)[i]? := by rw [h3]
  unfold iC at e3
  rw [List.getElem?_map,List.getElem?_map,e1,e2] at e3
  simp only [Option.map_some,Option.some.injEq] at e3
  have es:=GC e3
  have ev:=(wa.jJ i aH).2
  have ew:=(wb.jJ i (by omega)).2
  rw [es] at ev
  have:(a.arg i).v=(b.arg i).v:=ev.trans ew.symm
  calc a.arg i=⟨(a.arg i).v,(a.arg i).s⟩:=rfl
   _=⟨(b.arg i).v,(b.arg i).s⟩:=by rw [this,es]
   _=b.arg i:=rfl
 ·rw [wa.rest i (by omega) hi,wb.rest i (by omega) hi]
theorem zux {a b:ab} (wa:gn a) (wb:gn b):aM a b=0↔a=b:=⟨fun h=>Za wa wb (cG.1 h),fun h=>by rw [h];exact Gf _⟩
def tg (l:List ab):Prop:=∀ x∈l,gn x
theorem ztU {l:List ab} (h:tg l) {x:ab}:x∈jT l↔x∈l:=by
 refine ⟨fun hx=>(vl l).mem hx,fun hx=>?_⟩
 obtain ⟨y,hy,e⟩:=(vl l).wT x hx
 have:=Za (h y ((vl l).mem hy)) (h x hx) e
 subst this
 exact hy
theorem zqP {l:List ab} (p:ab→Bool) (h:ez l):ez (l.filter p):=h.sublist List.filter_sublist
end Go.Am

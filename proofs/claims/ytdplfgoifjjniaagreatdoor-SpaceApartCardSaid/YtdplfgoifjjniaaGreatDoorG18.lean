/- Policies: data, their cells. No condition. -/
import Derived.Test.YtdplfgoifjjniaaGreatDoorG13
import Derived.Test.YtdplfgoifjjniaaGreatDoorG14
import Derived.Test.YtdplfgoifjjniaaGreatDoorG12
import Derived.Test.YtdplfgoifjjniaaGreatDoorG17
import Derived.Test.YtdplfgoifjjniaaGreatDoorG15
namespace Go.Am
set_option linter.unusedVariables false
structure PredD where
 name:ByteArray
 arity:Int
structure ClearD where
 who:ByteArray
 reads:List ByteArray
structure GrantD where
 to:ByteArray
 head:AtomD
 body:List AtomD
structure PolicyD where
 principals:List ByteArray
 preds:List PredD
 clears:List ClearD
 quota:Int
 budget:Int
 rules:List ClauseD
 grants:List GrantD
abbrev Rep.pred:Rep PredD:={ k:=2,R:=fun _ cs x=>cs=[.string x.name,.int .i64 x.arity],len:=by rintro _ _ _ rfl;rfl,mono:=fun _ _ _ _ _ h=>h,ones:=by rintro _ _ _ rfl;rfl }
abbrev Rep.clear:Rep ClearD :=
 { k:=2,R:=fun h cs x=>∃ v,cs=[.string x.who,v]∧Sl Rep.str h v x.reads
   len:=by rintro h cs x ⟨v,rfl,_⟩;rfl
   mono:=by rintro h h' cs x i ⟨v,e,f⟩;exact ⟨v,e,f.mono i⟩
   ones:=by rintro h cs x ⟨v,rfl,f⟩;have:=f.one;simp only [List.all_cons,List.all_nil,this];rfl }
abbrev Rep.grant:Rep GrantD :=
 { k:=13,R:=fun h cs x=>∃ v,cs=.string x.to::(x.head.cells++[v])∧Sl Rep.atom h v x.body
   len:=by rintro h cs x ⟨v,rfl,_⟩;rfl
   mono:=by rintro h h' cs x i ⟨v,e,f⟩;exact ⟨v,e,f.mono i⟩
   ones:=by rintro h cs x ⟨v,rfl,f⟩;have:=f.one;simp only [List.all_append,AtomD.cells,List.all_cons,List.all_nil,this];rfl }
def zaw (p0 p1 p2 p5 p6:Value) (q b:Int):List Value:=[p0,p1,p2,.int .i64 q,.int .i64 b,p5,p6]
def zbO (p0 p1 p2 p5 p6:Value) (q b:Int):Value:=.agg ⟨zaw p0 p1 p2 p5 p6 q b⟩
structure PolH (h:Heap) (p0 p1 p2 p5 p6:Value) (d:PolicyD):Prop where
 s0:Sl Rep.str h p0 d.principals
 s1:Sl Rep.pred h p1 d.preds
 s2:Sl Rep.clear h p2 d.clears
 s5:Sl Rep.clause h p5 d.rules
 s6:Sl Rep.grant h p6 d.grants
theorem PolH.mono {h h':Heap} {p0 p1 p2 p5 p6:Value} {d:PolicyD} (f:PolH h p0 p1 p2 p5 p6 d) (i:Inc h h'):PolH h' p0 p1 p2 p5 p6 d:=⟨f.s0.mono i,f.s1.mono i,f.s2.mono i,f.s5.mono i,f.s6.mono i⟩
theorem PolH.lay {h:Heap} {p0 p1 p2 p5 p6:Value} {d:PolicyD} (f:PolH h p0 p1 p2 p5 p6 d) (bs:List Blk) (w:Nat):PolH (h.lay bs w) p0 p1 p2 p5 p6 d:=f.mono (Inc.lay h bs w)
theorem PolH.over {h1 h2:Heap} {bs:List Blk} {w:Nat} {p0 p1 p2 p5 p6:Value} {d:PolicyD} (f:PolH h1 p0 p1 p2 p5 p6 d) (x:Ext (h1.lay bs w) h2):PolH h2 p0 p1 p2 p5 p6 d:=f.mono x.inc.of_lay
theorem PolH.one {h:Heap} {p0 p1 p2 p5 p6:Value} {d:PolicyD} (f:PolH h p0 p1 p2 p5 p6 d) (q b:Int):(zaw p0 p1 p2 p5 p6 q b).all Am.one=true:=by
 have h0:=f.s0.one
 have h1:=f.s1.one
 have h2:=f.s2.one
 have h5:=f.s5.one
 have h6:=f.s6.one
 simp only [zaw,List.all_cons,List.all_nil,h0,h1,h2,h5,h6]
 rfl
theorem zbG (p0 p1 p2 p5 p6:Value) (q b:Int):cut (zaw p0 p1 p2 p5 p6 q b) 0 7=some (zaw p0 p1 p2 p5 p6 q b):=rfl
theorem pol0 (p0 p1 p2 p5 p6:Value) (q b:Int):(zaw p0 p1 p2 p5 p6 q b)[0]? = some p0:=rfl
theorem pol1 (p0 p1 p2 p5 p6:Value) (q b:Int):(zaw p0 p1 p2 p5 p6 q b)[1]? = some p1:=rfl
theorem pol2 (p0 p1 p2 p5 p6:Value) (q b:Int):(zaw p0 p1 p2 p5 p6 q b)[2]? = some p2:=rfl
theorem pol3 (p0 p1 p2 p5 p6:Value) (q b:Int):(zaw p0 p1 p2 p5 p6 q b)[3]? = some (.int .i64 q):=rfl
theorem pol4 (p0 p1 p2 p5 p6:Value) (q b:Int):(zaw p0 p1 p2 p5 p6 q b)[4]? = some (.int .i64 b):=rfl
theorem pol5 (p0 p1 p2 p5 p6:Value) (q b:Int):(zaw p0 p1 p2 p5 p6 q b)[5]? = some p5:=rfl
theorem pol6 (p0 p1 p2 p5 p6:Value) (q b:Int):(zaw p0 p1 p2 p5 p6 q b)[6]? = some p6:=rfl
theorem zbD (p0 p1 p2 p5 p6:Value) (q b:Int):Value.agg (zaw p0 p1 p2 p5 p6 q b).toArray=zbO p0 p1 p2 p5 p6 q b:=rfl
theorem zax (p0 p1 p2 p5 p6:Value) (q b:Int):(zbO p0 p1 p2 p5 p6 q b).cells.toList=zaw p0 p1 p2 p5 p6 q b:=rfl
theorem za6 (p0 p1 p2 p5 p6:Value) (q b:Int) (h:Heap) (K:Value→Heap→Prop):valE (some (zbO p0 p1 p2 p5 p6 q b)) h K=K (zbO p0 p1 p2 p5 p6 q b) h:=rfl
section
variable {h1:Heap} {bs:List Blk} {w:Nat} {T:Tab} {K:Value→Heap→Prop} {t e s:TypeId} {v p:Value} {kd:IntKind} {i:Int}
theorem zsx {l:List PredD} {x:PredD} (f:Sl Rep.pred h1 v l) (hd:T.desc t=some (.slice e)) (hs:zay T e=some 2) (h0:0≤i) (hx:l[i.toNat]? = some x) (hk:∀ p,AtP h1 p [.string x.name,.int .i64 x.arity]→K p (h1.lay bs w)):valE (zau T t v (.int kd i)) (h1.lay bs w) K:=by
 have hi:=(List.getElem?_eq_some_iff.1 hx).1
 refine zek f hd hs h0 (by omega) (fun x' p cs hx' hr hp=>?_)
 rw [hx] at hx'
 cases hx'
 exact hk p (hr ▸ hp)
theorem zzR {l:List ClearD} {x:ClearD} (f:Sl Rep.clear h1 v l) (hd:T.desc t=some (.slice e)) (hs:zay T e=some 2) (h0:0≤i) (hx:l[i.toNat]? = some x) (hk:∀ p b,Sl Rep.str h1 b x.reads→AtP h1 p [.string x.who,b]→K p (h1.lay bs w)):valE (zau T t v (.int kd i)) (h1.lay bs w) K:=by
 have hi:=(List.getElem?_eq_some_iff.1 hx).1
 refine zek f hd hs h0 (by omega) (fun x' p cs hx' hr hp=>?_)
 rw [hx] at hx'
 cases hx'
 obtain ⟨b,rfl,hb⟩:=hr
 exact hk p b hb hp
theorem zuT {l:List GrantD} {x:GrantD} (f:Sl Rep.grant h1 v l) (hd:T.desc t=some (.slice e)) (hs:zay T e=some 13) (h0:0≤i) (hx:l[i.toNat]? = some x) (hk:∀ p b,Sl Rep.atom h1 b x.body→AtP h1 p (.string x.to::(x.head.cells++[b]))→K p (h1.lay bs w)):valE (zau T t v (.int kd i)) (h1.lay bs w) K:=by
 have hi:=(List.getElem?_eq_some_iff.1 hx).1
 refine zek f hd hs h0 (by omega) (fun x' p cs hx' hr hp=>?_)
 rw [hx] at hx'
 cases hx'
 obtain ⟨b,rfl,hb⟩:=hr
 exact hk p b hb hp
theorem fdP0 {x y:Value} (f:AtP h1 p [x,y]) (hfa:∀ A o,zaf T s (.pointer (some ⟨A,o,none⟩)) 0=some (.pointer (some ⟨A,o+0,none⟩))) (hk:∀ q,AtP h1 q [x]→K q (h1.lay bs w)):valE (zaf T s p 0) (h1.lay bs w) K:=fdx (ds:=[x]) f hfa rfl (Nat.succ_pos _) hk
theorem fdP1 {x y:Value} (f:AtP h1 p [x,y]) (hfa:∀ A o,zaf T s (.pointer (some ⟨A,o,none⟩)) 1=some (.pointer (some ⟨A,o+1,none⟩))) (hk:∀ q,AtP h1 q [y]→K q (h1.lay bs w)):valE (zaf T s p 1) (h1.lay bs w) K:=fdx (ds:=[y]) f hfa rfl (Nat.succ_pos _) hk
theorem fdG0 {x:GrantD} {b:Value} (f:AtP h1 p (.string x.to::(x.head.cells++[b]))) (hfa:∀ A o,zaf T s (.pointer (some ⟨A,o,none⟩)) 0=some (.pointer (some ⟨A,o+0,none⟩))) (hk:∀ q,AtP h1 q [.string x.to]→K q (h1.lay bs w)):valE (zaf T s p 0) (h1.lay bs w) K:=fdx (ds:=[.string x.to]) f hfa rfl (Nat.succ_pos _) hk
theorem fdG1 {x:GrantD} {b:Value} (f:AtP h1 p (.string x.to::(x.head.cells++[b]))) (hfa:∀ A o,zaf T s (.pointer (some ⟨A,o,none⟩)) 1=some (.pointer (some ⟨A,o+1,none⟩))) (hk:∀ q,AtP h1 q x.head.cells→K q (h1.lay bs w)):valE (zaf T s p 1) (h1.lay bs w) K:=fdx (ds:=x.head.cells) f hfa rfl (Nat.succ_pos _) hk
theorem fdG2 {x:GrantD} {b:Value} (f:AtP h1 p (.string x.to::(x.head.cells++[b]))) (hfa:∀ A o,zaf T s (.pointer (some ⟨A,o,none⟩)) 2=some (.pointer (some ⟨A,o+12,none⟩))) (hk:∀ q,AtP h1 q [b]→K q (h1.lay bs w)):valE (zaf T s p 2) (h1.lay bs w) K:=fdx (ds:=[b]) f hfa rfl (Nat.succ_pos _) hk
theorem ldP {x y:Value} (f:AtP h1 p [x,y]) (hg:aggA T t=some true) (hs:zay T t=some 2) (hk:K (.agg ⟨[x,y]⟩) (h1.lay bs w)):valE (zaR T t p (h1.lay bs w)) (h1.lay bs w) K:=zne f hg hs rfl hk
theorem ldG {x:GrantD} {b:Value} (f:AtP h1 p (.string x.to::(x.head.cells++[b]))) (hg:aggA T t=some true) (hs:zay T t=some 13) (hk:K (.agg ⟨.string x.to::(x.head.cells++[b])⟩) (h1.lay bs w)):valE (zaR T t p (h1.lay bs w)) (h1.lay bs w) K:=zne f hg hs rfl hk
end
end Go.Am
namespace Go.Am
open Go.Proofs
set_option linter.unusedVariables false
set_option linter.unusedSimpArgs false
def StrRow (h:Heap) (A:Nat) (e:TypeId) (v:Value) (l:List ByteArray):Prop:=∃ c,v=.slice (some ⟨A,0,none⟩) l.length c∧zBb 1 l.length c∧Holds h A (.row (l.map Value.string) e false)
theorem StrRow.sl {h:Heap} {A:Nat} {e:TypeId} {v:Value} {l:List ByteArray} (f:StrRow h A e v l) (hn:l.length≤1000):Sl Rep.str h v l:=by
 obtain ⟨c,rfl,hc,q⟩:=f
 have hM:(1000:Nat)≤maxLen:=by decide
 refine .inr ⟨A,0,c,l.map Value.string,e,false,rfl,by omega,hc,q.lt,q.get,fun i x hx=>⟨[.string x],?_,rfl⟩⟩
 have hi:=(List.getElem?_eq_some_iff.1 hx).1
 show cut (l.map Value.string) (0+i*1) 1=_
 rw [Nat.zero_add,Nat.mul_one]
 unfold cut
 rw [if_pos (by rw [List.length_map];omega),← List.map_drop,← List.map_take,List.drop_eq_getElem_cons hi]
 simp only [List.take_succ_cons,List.take_zero,List.map_cons,List.map_nil]
 rw [(List.getElem?_eq_some_iff.1 hx).2]
/-! ### Members -/
def PolV (h:Heap) (v:Value) (d:PolicyD):Prop:=∃ p0 p1 p2 p5 p6 q b,v=zbO p0 p1 p2 p5 p6 q b∧PolH h p0 p1 p2 p5 p6 d
end Go.Am
namespace Go.Proofs.YtdplfgoifjjniaaGreatDoor
open Go.Am
set_option linter.unusedSimpArgs false
set_option linter.unusedVariables false
set_option maxRecDepth 100000
theorem zmF:Tryz.prog.cellsOf 67=2:=by kernel_rfl
theorem zlx:Tryz.prog.cellsOf 69=2:=by kernel_rfl
theorem zl3:Tryz.prog.cellsOf 71=12:=by kernel_rfl
theorem zmr:Tryz.prog.cellsOf 73=13:=by kernel_rfl
theorem zqu:Tryz.prog.cellsOf 29=7:=by kernel_rfl
theorem zi8 {h:Heap} {n:Nat} {v:Value} (hs:Shp Tryz.prog h (n+2) 23 [v]):∃ l,Sl Rep.str h v l :=
 zi3 Tryz.underlying23 zqX (fun cs hc=>zb9 hc) hs
theorem zrL {h:Heap} {n:Nat} {v:Value} (hs:zeG Tryz.prog h (n+1) 9 v):∃ s:ByteArray,v=.string s:=by
 unfold zeG at hs
 rw [Tryz.underlying9] at hs
 obtain ⟨s,hs⟩:=zb9 hs
 simp only [List.cons.injEq,and_true] at hs
 exact ⟨s,hs⟩
theorem zpN {cs:List Value} {k:Nat} (h:k < cs.length):∃ v,(cs.drop k).take 1=[v]:=by
 rw [List.drop_eq_getElem_cons h]
 exact ⟨_,rfl⟩
theorem zvX {h:Heap} {n:Nat} {cs:List Value} (hs:Shp Tryz.prog h (n+2) 67 cs):∃ x,Rep.pred.R h cs x:=by
 unfold Shp at hs
 rw [Tryz.underlying67] at hs
 obtain ⟨hl,hf⟩:=hs
 rw [zmF] at hl
 match cs,hl with
 | [a,b],_ =>
  have h0:Shp Tryz.prog h (n+1) 9 (([a,b].drop 0).take 1):=hf 0 _ rfl
  have h1:Shp Tryz.prog h (n+1) 3 (([a,b].drop 1).take 1):=hf 1 _ rfl
  obtain ⟨s,e0⟩:=zb9 h0
  obtain ⟨i,e1,_⟩:=ziZ h1
  simp at e0 e1
  subst e0 e1
  exact ⟨⟨s,i⟩,rfl⟩
theorem zt6 {h:Heap} {n:Nat} {cs:List Value} (hs:Shp Tryz.prog h (n+3) 69 cs):∃ x,Rep.clear.R h cs x:=by
 unfold Shp at hs
 rw [Tryz.underlying69] at hs
 obtain ⟨hl,hf⟩:=hs
 rw [zlx] at hl
 match cs,hl with
 | [a,b],_ =>
  have h0:Shp Tryz.prog h (n+2) 9 (([a,b].drop 0).take 1):=hf 0 _ rfl
  have h1:Shp Tryz.prog h (n+2) 23 (([a,b].drop 1).take 1):=hf 1 _ rfl
  obtain ⟨s,e0⟩:=zb9 h0
  obtain ⟨l,e1⟩:=zi8 h1
  simp at e0
  subst e0
  exact ⟨⟨s,l⟩,_,rfl,e1⟩
theorem zxE {h:Heap} {n:Nat} {cs:List Value} (hs:Shp Tryz.prog h (n+6) 71 cs):∃ x,Rep.clause.R h cs x:=by
 unfold Shp at hs
 rw [Tryz.underlying71] at hs
 obtain ⟨hl,hf⟩:=hs
 rw [zl3] at hl
 have h0:Shp Tryz.prog h (n+5) 42 ((cs.drop 0).take 11):=hf 0 _ rfl
 have h1:Shp Tryz.prog h (n+5) 52 ((cs.drop 11).take 1):=hf 1 _ rfl
 obtain ⟨a,ha⟩:=zgm (n:=n+1) h0
 obtain ⟨v,hv⟩:=zpN (cs:=cs) (k:=11) (by omega)
 rw [hv] at h1
 obtain ⟨l,hl2⟩:=zmt h1
 refine ⟨⟨a,l⟩,v,?_,hl2⟩
 have e1:cs=cs.take 11++cs.drop 11:=(List.take_append_drop 11 cs).symm
 rw [List.take_of_length_le (by simp;omega)] at hv
 rw [List.drop_zero] at ha
 rw [e1,ha,hv]
theorem zrS {h:Heap} {n:Nat} {cs:List Value} (hs:Shp Tryz.prog h (n+6) 73 cs):∃ x,Rep.grant.R h cs x:=by
 unfold Shp at hs
 rw [Tryz.underlying73] at hs
 obtain ⟨hl,hf⟩:=hs
 rw [zmr] at hl
 match cs,hl with
 |c0::cs,hl =>
  have hl:cs.length=12:=by simpa using hl
  have h0:Shp Tryz.prog h (n+5) 9 (((c0::cs).drop 0).take 1):=hf 0 _ rfl
  have h1:Shp Tryz.prog h (n+5) 42 ((cs.drop 0).take 11):=hf 1 _ rfl
  have h2:Shp Tryz.prog h (n+5) 52 ((cs.drop 11).take 1):=hf 2 _ rfl
  obtain ⟨s,e0⟩:=zb9 h0
  obtain ⟨a,ha⟩:=zgm (n:=n+1) h1
  obtain ⟨v,hv⟩:=zpN (cs:=cs) (k:=11) (by omega)
  rw [hv] at h2
  obtain ⟨l,hl2⟩:=zmt h2
  simp at e0
  subst e0
  refine ⟨⟨s,a,l⟩,v,?_,hl2⟩
  have e1:cs=cs.take 11++cs.drop 11:=(List.take_append_drop 11 cs).symm
  rw [List.take_of_length_le (by simp;omega)] at hv
  rw [List.drop_zero] at ha
  rw [e1,ha,hv]
theorem zq7 {h:Heap} {n:Nat} {v:Value} (hs:zeG Tryz.prog h (n+8) 29 v):∃ d,PolV h v d:=by
 unfold zeG at hs
 rw [Tryz.underlying29] at hs
 obtain ⟨cs,rfl,hc⟩:=hs
 unfold Shp at hc
 rw [Tryz.underlying29] at hc
 obtain ⟨hl,hf⟩:=hc
 rw [zqu] at hl
 match cs,hl with
 | [c0,c1,c2,c3,c4,c5,c6],_ =>
  have h0:Shp Tryz.prog h (n+7) 23 (([c0,c1,c2,c3,c4,c5,c6].drop 0).take 1):=hf 0 _ rfl
  have h1:Shp Tryz.prog h (n+7) 24 (([c0,c1,c2,c3,c4,c5,c6].drop 1).take 1):=hf 1 _ rfl
  have h2:Shp Tryz.prog h (n+7) 25 (([c0,c1,c2,c3,c4,c5,c6].drop 2).take 1):=hf 2 _ rfl
  have h3:Shp Tryz.prog h (n+7) 3 (([c0,c1,c2,c3,c4,c5,c6].drop 3).take 1):=hf 3 _ rfl
  have h4:Shp Tryz.prog h (n+7) 3 (([c0,c1,c2,c3,c4,c5,c6].drop 4).take 1):=hf 4 _ rfl
  have h5:Shp Tryz.prog h (n+7) 26 (([c0,c1,c2,c3,c4,c5,c6].drop 5).take 1):=hf 5 _ rfl
  have h6:Shp Tryz.prog h (n+7) 27 (([c0,c1,c2,c3,c4,c5,c6].drop 6).take 1):=hf 6 _ rfl
  obtain ⟨l0,g0⟩:=zi8 h0
  obtain ⟨l1,g1⟩:=zi3 (n:=n+6) Tryz.underlying24 zmF (fun cs hc=>zvX hc) h1
  obtain ⟨l2,g2⟩:=zi3 (n:=n+6) Tryz.underlying25 zlx (fun cs hc=>zt6 hc) h2
  obtain ⟨i3,e3,_⟩:=ziZ h3
  obtain ⟨i4,e4,_⟩:=ziZ h4
  obtain ⟨l5,g5⟩:=zi3 (n:=n+6) Tryz.underlying26 zl3 (fun cs hc=>zxE hc) h5
  obtain ⟨l6,g6⟩:=zi3 (n:=n+6) Tryz.underlying27 zmr (fun cs hc=>zrS hc) h6
  simp at e3 e4
  subst e3 e4
  exact ⟨⟨l0,l1,l2,i3,i4,l5,l6⟩,_,_,_,_,_,_,_,rfl,⟨g0,g1,g2,g5,g6⟩⟩
end Go.Proofs.YtdplfgoifjjniaaGreatDoor
namespace Go.Am
set_option linter.unusedVariables false
set_option linter.unusedSimpArgs false
def okCh (c:Int):Prop:=(97≤c∧c≤122)∨(65≤c∧c≤90)∨(48≤c∧c≤57)∨c=95
def zgN (c:Int):Prop:=(97≤c∧c≤122)∨(48≤c∧c≤57)∨c=95
def zhf (s:ByteArray):Prop:=1≤s.size∧∀ i,i < s.size→zgN (zb1 s i)
def zoC (s:ByteArray):Prop:=1≤s.size∧(65≤zb1 s 0∧zb1 s 0≤90)∧∀ i,i < s.size→okCh (zb1 s i)
def zlb (t:TermD):Prop:=if t.v then zoC t.s else zhf t.s
structure ValidD (a:AtomD):Prop where
 says:zhf a.says
 pred:zhf a.pred
 lo:0≤a.n
 hi:a.n≤4
 terms:∀ i:Nat,(i:Int) < a.n→zlb (a.arg i)
 rest:∀ i:Nat,a.n≤(i:Int)→i < 4→a.arg i=zcl
def zsl (s:ByteArray):Bool:=decide (65≤zb1 s 0) && decide (zb1 s 0≤90)
structure PlainD (a:AtomD):Prop where
 says:Word a.says.data.toList
 pred:Word a.pred.data.toList
 lo:0≤a.n
 hi:a.n≤4
 terms:∀ i:Nat,(i:Int) < a.n→Word (a.arg i).s.data.toList∧(a.arg i).v=zsl (a.arg i).s
 rest:∀ i:Nat,a.n≤(i:Int)→i < 4→a.arg i=zcl
theorem zj4 {s:ByteArray} {c:UInt8} (h:c∈s.data.toList):∃ i,i < s.size∧zb1 s i=c.toNat:=by
 obtain ⟨i,hi,he⟩:=List.getElem_of_mem h
 have hi':i < s.size:=by rw [← bsz2];exact hi
 refine ⟨i,hi',?_⟩
 unfold zb1
 have:s[i]? = some s[i]:=by simp [hi']
 rw [this]
 simp only [Option.getD_some]
 have h2:s[i]=c:=by rw [← he];rfl
 rw [h2]
theorem zkT {s:ByteArray} (h:zhf s):Word s.data.toList:=by
 intro c hc
 obtain ⟨i,hi,he⟩:=zj4 hc
 have:=h.2 i hi
 unfold zgN at this
 unfold zd4
 omega
theorem zxc {s:ByteArray} (h:zoC s):Word s.data.toList:=by
 intro c hc
 obtain ⟨i,hi,he⟩:=zj4 hc
 have:=h.2.2 i hi
 unfold okCh at this
 unfold zd4
 omega
theorem ValidD.plain {a:AtomD} (w:ValidD a):PlainD a:=by
 refine ⟨zkT w.says,zkT w.pred,w.lo,w.hi,fun i hi=>?_,w.rest⟩
 have h:=w.terms i hi
 unfold zlb at h
 cases hv:(a.arg i).v
 ·rw [hv] at h
  have h:zhf (a.arg i).s:=h
  refine ⟨zkT h,?_⟩
  have:=h.2 0 h.1
  unfold zgN at this
  unfold zsl
  rw [eq_comm,Bool.and_eq_false_iff,decide_eq_false_iff_not,decide_eq_false_iff_not]
  omega
 ·rw [hv] at h
  have h:zoC (a.arg i).s:=h
  refine ⟨zxc h,?_⟩
  unfold zsl
  rw [decide_eq_true h.2.1.1,decide_eq_true h.2.1.2]
  rfl
theorem zrW (a:AtomD):zaU a=zrV a.says.data.toList a.pred.data.toList (zcd a):=by
 unfold zaU zrV zrA zcd zuy commaB
 cases h:a.args with
 |nil=>simp
 |cons t r=>simp
theorem args_at {a:AtomD} {i:Nat} (h:i < a.cnt):a.args[i]? = some (a.arg i):=by
 have hc:a.cnt≤4:=Nat.min_le_right _ _
 unfold AtomD.args
 rw [List.getElem?_take,if_pos h]
 have:i=0∨i=1∨i=2∨i=3:=by omega
 rcases this with rfl|rfl|rfl|rfl <;> rfl
theorem zA4 {a b:AtomD} (h0:a.says=b.says) (h1:a.pred=b.pred) (h2:a.n=b.n) (h:∀ i,i < 4→a.arg i=b.arg i):a=b:=by
 have e0:=h 0 (by omega)
 have e1:=h 1 (by omega)
 have e2:=h 2 (by omega)
 have e3:=h 3 (by omega)
 obtain ⟨s,p,n,t0,t1,t2,t3⟩:=a
 obtain ⟨s',p',n',u0,u1,u2,u3⟩:=b
 simp only [AtomD.arg] at e0 e1 e2 e3
 simp only at h0 h1 h2
 subst h0 h1 h2 e0 e1 e2 e3
 rfl
theorem ziK {a:AtomD} (w:PlainD a):∀ x∈zcd a,Word x:=by
 intro x hx
 obtain ⟨t,ht,rfl⟩:=List.mem_map.1 hx
 obtain ⟨i,hi⟩:=List.getElem?_of_mem ht
 have hlt:i < a.cnt:=by
  have h1:=(List.getElem?_eq_some_iff.1 hi).1
  unfold AtomD.args at h1
  rw [List.length_take] at h1
  omega
 rw [args_at hlt] at hi
 cases hi
 have:(i:Int) < a.n:=by
  have:a.cnt≤a.n.toNat:=Nat.min_le_left _ _
  omega
 exact (w.terms i this).1
theorem zi7 {a b:AtomD} (wa:PlainD a) (wb:PlainD b) (h:zaU a=zaU b):a=b:=by
 rw [zrW,zrW] at h
 obtain ⟨h1,h2,h3⟩:=zyZ wa.says wb.says wa.pred wb.pred (ziK wa) (ziK wb) h
 have hlen:=congrArg List.length h3
 have hca:(a.cnt:Int)=a.n:=by
  have:=wa.lo;have:=wa.hi
  unfold AtomD.cnt
  omega
 have hcb:(b.cnt:Int)=b.n:=by
  have:=wb.lo;have:=wb.hi
  unfold AtomD.cnt
  omega
 have hla:(zcd a).length=a.cnt:=by
  have:a.cnt≤4:=Nat.min_le_right _ _
  unfold zcd AtomD.args
  rw [List.length_map,List.length_take]
  simp only [List.length_cons,List.length_nil]
  omega
 have hlb:(zcd b).length=b.cnt:=by
  have:b.cnt≤4:=Nat.min_le_right _ _
  unfold zcd AtomD.args
  rw [List.length_map,List.length_take]
  simp only [List.length_cons,List.length_nil]
  omega
 rw [hla,hlb] at hlen
 have hn:a.n=b.n:=by omega
 refine zA4 (zjh h1) (zjh h2) hn (fun i hi=>?_)
 by_cases hin:(i:Int) < a.n
 ·have e1:=args_at (a:=a) (i:=i) (by omega)
  have e2:=args_at (a:=b) (i:=i) (by omega)
  have e3:(zcd a)[i]? = (zcd b)[i]? := by rw [h3]
  unfold zcd at e3
  rw [List.getElem?_map,List.getElem?_map,e1,e2] at e3
  simp only [Option.map_some,Option.some.injEq] at e3
  have es:=zjh e3
  have ev:=(wa.terms i hin).2
  have ew:=(wb.terms i (by omega)).2
  rw [es] at ev
  have:(a.arg i).v=(b.arg i).v:=ev.trans ew.symm
  calc a.arg i=⟨(a.arg i).v,(a.arg i).s⟩:=rfl
   _=⟨(b.arg i).v,(b.arg i).s⟩:=by rw [this,es]
   _=b.arg i:=rfl
 ·rw [wa.rest i (by omega) hi,wb.rest i (by omega) hi]
theorem zt1 {a b:AtomD} (wa:PlainD a) (wb:PlainD b):cmpD a b=0↔a=b:=⟨fun h=>zi7 wa wb (cmpD_zero.1 h),fun h=>by rw [h];exact zed _⟩
def AllP (l:List AtomD):Prop:=∀ x∈l,PlainD x
theorem AllP.app {l m:List AtomD} (h:AllP l) (g:AllP m):AllP (l++m):=fun x hx=>(List.mem_append.1 hx).elim (h x) (g x)
theorem AllP.sort {l:List AtomD} (h:AllP l):AllP (zcD l):=fun x hx=>h x ((zci l).mem hx)
theorem zsK {l:List AtomD} (h:AllP l) {x:AtomD}:x∈zcD l↔x∈l:=by
 refine ⟨fun hx=>(zci l).mem hx,fun hx=>?_⟩
 obtain ⟨y,hy,e⟩:=(zci l).cov x hx
 have:=zi7 (h y ((zci l).mem hy)) (h x hx) e
 subst this
 exact hy
theorem zrt {l:List AtomD} (p:AtomD→Bool) (h:AscD l):AscD (l.filter p):=h.sublist List.filter_sublist
end Go.Am

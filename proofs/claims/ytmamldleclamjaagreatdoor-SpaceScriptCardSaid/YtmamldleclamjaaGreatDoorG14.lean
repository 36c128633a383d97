/- Policies: data, their cells. No condition. -/
import Derived.Test.YtmamldleclamjaaGreatDoorG13
set_option linter.unusedSimpArgs false
set_option linter.unusedVariables false
noncomputable section
namespace Go.Am
variable {b x y:ah}
structure bP where
 name:au
 arity:Int
structure bS where
 aR:au
 reads:List au
structure eJ where
 «to»:au
 head:aj
 body:aN
structure aq where
 ab:List au
 bJ:List bP
 bf:List bS
 dV:Int
 cP:Int
 rules:List bw
 bl:List eJ
abbrev aK.pred:aK bP:={ k:=2,R:=λ_ cs x=>cs=[.string x.name,.int .i64 x.arity],len:=by rintro _ _ _ rfl;rfl,mono:=λ_ _ _ _ _ h=>h,iu:=by rintro _ _ _ rfl;rfl }
abbrev aK.clear:aK bS :=
 { k:=2,R:=λh cs x=>∃ v,cs=[.string x.aR,v]/\Sl aK.str h v x.reads
   len:=by rintro h cs x ⟨v,rfl,_⟩;rfl
   mono:=by rintro h h' cs x i ⟨v,e,f⟩;exact ⟨v,e,f.mono i⟩
   iu:=by rintro h cs x ⟨v,rfl,f⟩;have:=f.one;simp only [nC,po,this];rfl }
abbrev aK.qN:aK eJ :=
 { k:=13,R:=λh cs x=>∃ v,cs=.string x.to::(x.head.cells++[v])/\Sl aK.atom h v x.body
   len:=by rintro h cs x ⟨v,rfl,_⟩;rfl
   mono:=by rintro h h' cs x i ⟨v,e,f⟩;exact ⟨v,e,f.mono i⟩
   iu:=by rintro h cs x ⟨v,rfl,f⟩;have:=f.one;simp only [List.all_append,aj.cells,nC,po,this];rfl }
def dW (p0 p1 p2 p5 p6:ah) (q b:Int):List ah:=[p0,p1,p2,.int .i64 q,.int .i64 b,p5,p6]
def hU (p0 p1 p2 p5 p6:ah) (q b:Int):ah:=.agg ⟨dW p0 p1 p2 p5 p6 q b⟩
structure fx (h:Heap) (p0 p1 p2 p5 p6:ah) (d:aq):Prop where
 s0:Sl aK.str h p0 d.ab
 s1:Sl aK.pred h p1 d.bJ
 s2:Sl aK.clear h p2 d.bf
 s5:Sl aK.clause h p5 d.rules
 s6:Sl aK.qN h p6 d.bl
theorem fx.mono {h h':Heap} {p0 p1 p2 p5 p6:ah} {d:aq} (f:fx h p0 p1 p2 p5 p6 d) (i:bH h h'):fx h' p0 p1 p2 p5 p6 d:=⟨f.s0.mono i,f.s1.mono i,f.s2.mono i,f.s5.mono i,f.s6.mono i⟩
theorem fx.lay {h:Heap} {p0 p1 p2 p5 p6:ah} {d:aq} (f:fx h p0 p1 p2 p5 p6 d) (bs:List ba) (w:Nat):fx (h.lay bs w) p0 p1 p2 p5 p6 d:=f.mono (bH.lay h bs w)
theorem fx.over {h1 h2:Heap} {bs:List ba} {w:Nat} {p0 p1 p2 p5 p6:ah} {d:aq} (f:fx h1 p0 p1 p2 p5 p6 d) (x:Ext (h1.lay bs w) h2):fx h2 p0 p1 p2 p5 p6 d:=f.mono x.inc.kB
theorem fx.one {h:Heap} {p0 p1 p2 p5 p6:ah} {d:aq} (f:fx h p0 p1 p2 p5 p6 d) (q b:Int):(dW p0 p1 p2 p5 p6 q b).all Am.one=true:=by
 have h0:=f.s0.one
 have h1:=f.s1.one
 have h2:=f.s2.one
 have h5:=f.s5.one
 have h6:=f.s6.one
 simp only [dW,nC,po,h0,h1,h2,h5,h6]
 rfl
theorem iR (p0 p1 p2 p5 p6:ah) (q b:Int):cut (dW p0 p1 p2 p5 p6 q b) 0 7=some (dW p0 p1 p2 p5 p6 q b):=rfl
theorem lO (p0 p1 p2 p5 p6:ah) (q b:Int):(dW p0 p1 p2 p5 p6 q b)[0]? = some p0:=rfl
theorem lP (p0 p1 p2 p5 p6:ah) (q b:Int):(dW p0 p1 p2 p5 p6 q b)[1]? = some p1:=rfl
theorem rj (p0 p1 p2 p5 p6:ah) (q b:Int):(dW p0 p1 p2 p5 p6 q b)[2]? = some p2:=rfl
theorem Gy (p0 p1 p2 p5 p6:ah) (q b:Int):(dW p0 p1 p2 p5 p6 q b)[3]? = some (.int .i64 q):=rfl
theorem NI (p0 p1 p2 p5 p6:ah) (q b:Int):(dW p0 p1 p2 p5 p6 q b)[4]? = some (.int .i64 b):=rfl
theorem oz (p0 p1 p2 p5 p6:ah) (q b:Int):(dW p0 p1 p2 p5 p6 q b)[5]? = some p5:=rfl
theorem pV (p0 p1 p2 p5 p6:ah) (q b:Int):(dW p0 p1 p2 p5 p6 q b)[6]? = some p6:=rfl
theorem gO (p0 p1 p2 p5 p6:ah) (q b:Int):Value.agg (dW p0 p1 p2 p5 p6 q b).toArray=hU p0 p1 p2 p5 p6 q b:=rfl
theorem kG (p0 p1 p2 p5 p6:ah) (q b:Int):(hU p0 p1 p2 p5 p6 q b).cells.toList=dW p0 p1 p2 p5 p6 q b:=rfl
theorem fY (p0 p1 p2 p5 p6:ah) (q b:Int) (h:Heap) (K:aI):aH (some (hU p0 p1 p2 p5 p6 q b)) h K=K (hU p0 p1 p2 p5 p6 q b) h:=rfl
section
variable {h1:Heap} {bs:List ba} {w:Nat} {T:bO} {K:aI} {t e s:TypeId} {v p:ah} {kd:IntKind} {i:Int}
theorem QH {l:List bP} {x:bP} (f:Sl aK.pred h1 v l) (hd:T.desc t=some (.slice e)) (hs:di T e=some 2) (h0:0<=i) (hx:l[i.toNat]? = some x) (hk:∀ p,eI h1 p [.string x.name,.int .i64 x.arity]->K p (h1.lay bs w)):aH (kF T t v (.int kd i)) (h1.lay bs w) K:=by
 have hi:=(dH.1 hx).1
 refine BZ f hd hs h0 (by omega) (λx' p cs nJ hr hp=>?_)
 rw [hx] at nJ
 cases nJ
 exact hk p (hr ▸ hp)
theorem Jw {l:List bS} {x:bS} (f:Sl aK.clear h1 v l) (hd:T.desc t=some (.slice e)) (hs:di T e=some 2) (h0:0<=i) (hx:l[i.toNat]? = some x) (hk:∀ p b,Sl aK.str h1 b x.reads->eI h1 p [.string x.aR,b]->K p (h1.lay bs w)):aH (kF T t v (.int kd i)) (h1.lay bs w) K:=by
 have hi:=(dH.1 hx).1
 refine BZ f hd hs h0 (by omega) (λx' p cs nJ hr hp=>?_)
 rw [hx] at nJ
 cases nJ
 obtain ⟨b,rfl,hb⟩:=hr
 exact hk p b hb hp
theorem TW {l:List eJ} {x:eJ} (f:Sl aK.qN h1 v l) (hd:T.desc t=some (.slice e)) (hs:di T e=some 13) (h0:0<=i) (hx:l[i.toNat]? = some x) (hk:∀ p b,Sl aK.atom h1 b x.body->eI h1 p (.string x.to::(x.head.cells++[b]))->K p (h1.lay bs w)):aH (kF T t v (.int kd i)) (h1.lay bs w) K:=by
 have hi:=(dH.1 hx).1
 refine BZ f hd hs h0 (by omega) (λx' p cs nJ hr hp=>?_)
 rw [hx] at nJ
 cases nJ
 obtain ⟨b,rfl,hb⟩:=hr
 exact hk p b hb hp
theorem xu (f:eI h1 p [x,y]) (lH:∀ A o,jg T s (.pointer (some ⟨A,o,none⟩)) 0=some (.pointer (some ⟨A,o+0,none⟩))) (hk:∀ q,eI h1 q [x]->K q (h1.lay bs w)):aH (jg T s p 0) (h1.lay bs w) K:=xv (ds:=[x]) f lH rfl (zm _) hk
theorem LH (f:eI h1 p [x,y]) (lH:∀ A o,jg T s (.pointer (some ⟨A,o,none⟩)) 1=some (.pointer (some ⟨A,o+1,none⟩))) (hk:∀ q,eI h1 q [y]->K q (h1.lay bs w)):aH (jg T s p 1) (h1.lay bs w) K:=xv (ds:=[y]) f lH rfl (zm _) hk
theorem U4 {x:eJ} (f:eI h1 p (.string x.to::(x.head.cells++[b]))) (lH:∀ A o,jg T s (.pointer (some ⟨A,o,none⟩)) 0=some (.pointer (some ⟨A,o+0,none⟩))) (hk:∀ q,eI h1 q [.string x.to]->K q (h1.lay bs w)):aH (jg T s p 0) (h1.lay bs w) K:=xv (ds:=[.string x.to]) f lH rfl (zm _) hk
theorem U5 {x:eJ} (f:eI h1 p (.string x.to::(x.head.cells++[b]))) (lH:∀ A o,jg T s (.pointer (some ⟨A,o,none⟩)) 1=some (.pointer (some ⟨A,o+1,none⟩))) (hk:∀ q,eI h1 q x.head.cells->K q (h1.lay bs w)):aH (jg T s p 1) (h1.lay bs w) K:=xv (ds:=x.head.cells) f lH rfl (zm _) hk
theorem U6 {x:eJ} (f:eI h1 p (.string x.to::(x.head.cells++[b]))) (lH:∀ A o,jg T s (.pointer (some ⟨A,o,none⟩)) 2=some (.pointer (some ⟨A,o+12,none⟩))) (hk:∀ q,eI h1 q [b]->K q (h1.lay bs w)):aH (jg T s p 2) (h1.lay bs w) K:=xv (ds:=[b]) f lH rfl (zm _) hk
theorem Nt (f:eI h1 p [x,y]) (hg:cO T t=some true) (hs:di T t=some 2) (hk:K (.agg ⟨[x,y]⟩) (h1.lay bs w)):aH (ic T t p (h1.lay bs w)) (h1.lay bs w) K:=Jx f hg hs rfl hk
theorem ldG {x:eJ} (f:eI h1 p (.string x.to::(x.head.cells++[b]))) (hg:cO T t=some true) (hs:di T t=some 13) (hk:K (.agg ⟨.string x.to::(x.head.cells++[b])⟩) (h1.lay bs w)):aH (ic T t p (h1.lay bs w)) (h1.lay bs w) K:=Jx f hg hs rfl hk
end
end Go.Am
namespace Go.Am
open Go.Proofs
def xf (h:Heap) (A:Nat) (e:TypeId) (v:ah) (l:List au):Prop:=∃ c,v=.slice (some ⟨A,0,none⟩) l.length c/\ZN 1 l.length c/\Holds h A (.row (l.map Value.string) e false)
theorem xf.sl {h:Heap} {A:Nat} {e:TypeId} {v:ah} {l:List au} (f:xf h A e v l) (hn:l.length<=1000):Sl aK.str h v l:=by
 obtain ⟨c,rfl,hc,q⟩:=f
 have hM:(1000:Nat)<=maxLen:=by decide
 refine .inr ⟨A,0,c,l.map Value.string,e,false,rfl,by omega,hc,q.lt,q.get,λi x hx=>⟨[.string x],?_,rfl⟩⟩
 have hi:=(dH.1 hx).1
 show cut (l.map Value.string) (0+i*1) 1=_
 rw [j3,Nat.mul_one]
 unfold cut
 rw [aB (by rw [nA];omega),<- List.map_drop,<- List.map_take,DE hi]
 simp only [List.take_succ_cons,Cg,lA,List.map_nil]
 rw [(dH.1 hx).2]
def KV (h:Heap) (v:ah) (d:aq):Prop:=∃ p0 p1 p2 p5 p6 q b,v=hU p0 p1 p2 p5 p6 q b/\fx h p0 p1 p2 p5 p6 d
end Go.Am
namespace Go.Proofs.YtmamldleclamjaaGreatDoor
open Go.Am Tryz
set_option maxRecDepth 100000
variable {v:ah} {n:Nat} {h:Heap} {cs:List ah}
theorem zoj:prog.cellsOf 65=2:=by kernel_rfl
theorem zoh:prog.cellsOf 67=2:=by kernel_rfl
theorem zok:prog.cellsOf 69=12:=by kernel_rfl
theorem zoi:prog.cellsOf 72=13:=by kernel_rfl
theorem ztD:prog.cellsOf 28=7:=by kernel_rfl
theorem zku (hs:eK prog h (n+2) 22 [v]):∃ l,Sl aK.str h v l :=
 Hy underlying22 ztE (λcs hc=>BS hc) hs
theorem ztn (hs:Af prog h (n+1) 9 v):∃ s:au,v=.string s:=by
 unfold Af at hs
 rw [underlying9] at hs
 obtain ⟨s,hs⟩:=BS hs
 simp only [List.cons.injEq,and_true] at hs
 exact ⟨s,hs⟩
theorem zsK {k:Nat} (h:k < cs.length):∃ v,(cs.drop k).take 1=[v]:=by
 rw [DE h]
 exact ⟨_,rfl⟩
theorem zzM (hs:eK prog h (n+2) 65 cs):∃ x,aK.pred.R h cs x:=by
 unfold eK at hs
 rw [underlying65] at hs
 obtain ⟨hl,hf⟩:=hs
 rw [zoj] at hl
 match cs,hl with
 | [a,b],_ =>
  have h0:eK prog h (n+1) 9 (([a,b].drop 0).take 1):=hf 0 _ rfl
  have h1:eK prog h (n+1) 3 (([a,b].drop 1).take 1):=hf 1 _ rfl
  obtain ⟨s,e0⟩:=BS h0
  obtain ⟨i,e1,_⟩:=Qq h1
  simp at e0 e1
  subst e0 e1
  exact ⟨⟨s,i⟩,rfl⟩
theorem zxL (hs:eK prog h (n+3) 67 cs):∃ x,aK.clear.R h cs x:=by
 unfold eK at hs
 rw [underlying67] at hs
 obtain ⟨hl,hf⟩:=hs
 rw [zoh] at hl
 match cs,hl with
 | [a,b],_ =>
  have h0:eK prog h (n+2) 9 (([a,b].drop 0).take 1):=hf 0 _ rfl
  have h1:eK prog h (n+2) 22 (([a,b].drop 1).take 1):=hf 1 _ rfl
  obtain ⟨s,e0⟩:=BS h0
  obtain ⟨l,e1⟩:=zku h1
  simp at e0
  subst e0
  exact ⟨⟨s,l⟩,_,rfl,e1⟩
theorem zzN (hs:eK prog h (n+6) 69 cs):∃ x,aK.clause.R h cs x:=by
 unfold eK at hs
 rw [underlying69] at hs
 obtain ⟨hl,hf⟩:=hs
 rw [zok] at hl
 have h0:eK prog h (n+5) 47 ((cs.drop 0).take 11):=hf 0 _ rfl
 have h1:eK prog h (n+5) 51 ((cs.drop 11).take 1):=hf 1 _ rfl
 obtain ⟨a,ha⟩:=Ti (n:=n+1) h0
 obtain ⟨v,hv⟩:=zsK (cs:=cs) (k:=11) (by omega)
 rw [hv] at h1
 obtain ⟨l,kq⟩:=zpG h1
 refine ⟨⟨a,l⟩,v,?_,kq⟩
 have e1:cs=cs.take 11++cs.drop 11:=(pj 11 cs).symm
 rw [gA (by simp;omega)] at hv
 rw [As] at ha
 rw [e1,ha,hv]
theorem zxM (hs:eK prog h (n+6) 72 cs):∃ x,aK.qN.R h cs x:=by
 unfold eK at hs
 rw [underlying72] at hs
 obtain ⟨hl,hf⟩:=hs
 rw [zoi] at hl
 match cs,hl with
 |c0::cs,hl =>
  have hl:cs.length=12:=by simpa using hl
  have h0:eK prog h (n+5) 9 (((c0::cs).drop 0).take 1):=hf 0 _ rfl
  have h1:eK prog h (n+5) 47 ((cs.drop 0).take 11):=hf 1 _ rfl
  have h2:eK prog h (n+5) 51 ((cs.drop 11).take 1):=hf 2 _ rfl
  obtain ⟨s,e0⟩:=BS h0
  obtain ⟨a,ha⟩:=Ti (n:=n+1) h1
  obtain ⟨v,hv⟩:=zsK (cs:=cs) (k:=11) (by omega)
  rw [hv] at h2
  obtain ⟨l,kq⟩:=zpG h2
  simp at e0
  subst e0
  refine ⟨⟨s,a,l⟩,v,?_,kq⟩
  have e1:cs=cs.take 11++cs.drop 11:=(pj 11 cs).symm
  rw [gA (by simp;omega)] at hv
  rw [As] at ha
  rw [e1,ha,hv]
theorem ztm (hs:Af prog h (n+8) 28 v):∃ d,KV h v d:=by
 unfold Af at hs
 rw [underlying28] at hs
 obtain ⟨cs,rfl,hc⟩:=hs
 unfold eK at hc
 rw [underlying28] at hc
 obtain ⟨hl,hf⟩:=hc
 rw [ztD] at hl
 match cs,hl with
 | [c0,c1,c2,c3,c4,c5,c6],_ =>
  have h0:eK prog h (n+7) 22 (([c0,c1,c2,c3,c4,c5,c6].drop 0).take 1):=hf 0 _ rfl
  have h1:eK prog h (n+7) 23 (([c0,c1,c2,c3,c4,c5,c6].drop 1).take 1):=hf 1 _ rfl
  have h2:eK prog h (n+7) 24 (([c0,c1,c2,c3,c4,c5,c6].drop 2).take 1):=hf 2 _ rfl
  have h3:eK prog h (n+7) 3 (([c0,c1,c2,c3,c4,c5,c6].drop 3).take 1):=hf 3 _ rfl
  have h4:eK prog h (n+7) 3 (([c0,c1,c2,c3,c4,c5,c6].drop 4).take 1):=hf 4 _ rfl
  have h5:eK prog h (n+7) 25 (([c0,c1,c2,c3,c4,c5,c6].drop 5).take 1):=hf 5 _ rfl
  have h6:eK prog h (n+7) 26 (([c0,c1,c2,c3,c4,c5,c6].drop 6).take 1):=hf 6 _ rfl
  obtain ⟨l0,g0⟩:=zku h0
  obtain ⟨l1,g1⟩:=Hy (n:=n+6) underlying23 zoj (λcs hc=>zzM hc) h1
  obtain ⟨l2,g2⟩:=Hy (n:=n+6) underlying24 zoh (λcs hc=>zxL hc) h2
  obtain ⟨i3,e3,_⟩:=Qq h3
  obtain ⟨i4,e4,_⟩:=Qq h4
  obtain ⟨l5,g5⟩:=Hy (n:=n+6) underlying25 zok (λcs hc=>zzN hc) h5
  obtain ⟨l6,g6⟩:=Hy (n:=n+6) underlying26 zoi (λcs hc=>zxM hc) h6
  simp at e3 e4
  subst e3 e4
  exact ⟨⟨l0,l1,l2,i3,i4,l5,l6⟩,_,_,_,_,_,_,_,rfl,⟨g0,g1,g2,g5,g6⟩⟩
end Go.Proofs.YtmamldleclamjaaGreatDoor
namespace Go.Am
variable {s:au} {a b:aj} {l:aN}
def k9 (c:Int):Prop:=(97<=c/\c<=122)\/(65<=c/\c<=90)\/(48<=c/\c<=57)\/c=95
def qB (c:Int):Prop:=(97<=c/\c<=122)\/(48<=c/\c<=57)\/c=95
def Jh (s:au):Prop:=1<=s.size/\∀ i,i < s.size->qB (lQ s i)
def zrN (s:au):Prop:=1<=s.size/\(65<=lQ s 0/\lQ s 0<=90)/\∀ i,i < s.size->k9 (lQ s i)
def Tx (t:aZ):Prop:=if t.v then zrN t.s else Jh t.s
structure sA (a:aj):Prop where
 says:Jh a.says
 pred:Jh a.pred
 lo:0<=a.n
 hi:a.n<=4
 iW:∀ i:Nat,(i:Int) < a.n->Tx (a.arg i)
 rest:∀ i:Nat,a.n<=(i:Int)->i < 4->a.arg i=cf
def zwy (s:au):Bool:=decide (65<=lQ s 0) && decide (lQ s 0<=90)
structure iF (a:aj):Prop where
 says:Word a.says.data.toList
 pred:Word a.pred.data.toList
 lo:0<=a.n
 hi:a.n<=4
 iW:∀ i:Nat,(i:Int) < a.n->Word (a.arg i).s.data.toList/\(a.arg i).v=zwy (a.arg i).s
 rest:∀ i:Nat,a.n<=(i:Int)->i < 4->a.arg i=cf
theorem zlu {c:UInt8} (h:c∈s.data.toList):∃ i,i < s.size/\lQ s i=c.toNat:=by
 obtain ⟨i,hi,he⟩:=Qt h
 have m9:i < s.size:=by rw [<- Eo];exact hi
 refine ⟨i,m9,?_⟩
 unfold lQ
 have:s[i]? = some s[i]:=by simp [m9]
 rw [this]
 simp only [JL]
 have h2:s[i]=c:=by rw [<- he];rfl
 rw [h2]
theorem znq (h:Jh s):Word s.data.toList:=by
 intro c hc
 obtain ⟨i,hi,he⟩:=zlu hc
 have:=h.2 i hi
 unfold qB at this
 unfold pg
 omega
theorem zAd (h:zrN s):Word s.data.toList:=by
 intro c hc
 obtain ⟨i,hi,he⟩:=zlu hc
 have:=h.2.2 i hi
 unfold k9 at this
 unfold pg
 omega
theorem sA.plain (w:sA a):iF a:=by
 refine ⟨znq w.says,znq w.pred,w.lo,w.hi,λi hi=>?_,w.rest⟩
 have h:=w.iW i hi
 unfold Tx at h
 cases hv:(a.arg i).v
 .rw [hv] at h
  have h:Jh (a.arg i).s:=h
  refine ⟨znq h,?_⟩
  have:=h.2 0 h.1
  unfold qB at this
  unfold zwy
  rw [eq_comm,Tv,decide_eq_false_iff_not,decide_eq_false_iff_not]
  omega
 .rw [hv] at h
  have h:zrN (a.arg i).s:=h
  refine ⟨zAd h,?_⟩
  unfold zwy
  rw [pn h.2.1.1,pn h.2.1.2]
  rfl
theorem zx4 (a:aj):cM a=Q0 a.says.data.toList a.pred.data.toList (jK a):=by
 unfold cM Q0 JO jK JP dv
 cases h:a.args with
 |nil=>simp
 |cons t r=>simp
theorem args_at {i:Nat} (h:i < a.bQ):a.args[i]? = some (a.arg i):=by
 have hc:a.bQ<=4:=DQ _ _
 unfold aj.args
 rw [mc,aB h]
 have:i=0\/i=1\/i=2\/i=3:=by omega
 rcases this with rfl|rfl|rfl|rfl <;> rfl
theorem zAP (h0:a.says=b.says) (h1:a.pred=b.pred) (h2:a.n=b.n) (h:∀ i,i < 4->a.arg i=b.arg i):a=b:=by
 have e0:=h 0 (by omega)
 have e1:=h 1 (by omega)
 have e2:=h 2 (by omega)
 have e3:=h 3 (by omega)
 obtain ⟨s,p,n,t0,t1,t2,t3⟩:=a
 obtain ⟨s',p',n',u0,u1,u2,u3⟩:=b
 simp only [aj.arg] at e0 e1 e2 e3
 simp only at h0 h1 h2
 subst h0 h1 h2 e0 e1 e2 e3
 rfl
theorem zke (w:iF a):∀ x∈jK a,Word x:=by
 intro x hx
 obtain ⟨t,ht,rfl⟩:=nD.1 hx
 obtain ⟨i,hi⟩:=sk ht
 have aW:i < a.bQ:=by
  have h1:=(dH.1 hi).1
  unfold aj.args at h1
  rw [fw] at h1
  omega
 rw [args_at aW] at hi
 cases hi
 have:(i:Int) < a.n:=by
  have:a.bQ<=a.n.toNat:=w9 _ _
  omega
 exact (w.iW i this).1
theorem zkd (wa:iF a) (wb:iF b) (h:cM a=cM b):a=b:=by
 rw [zx4,zx4] at h
 obtain ⟨h1,h2,h3⟩:=zz1 wa.says wb.says wa.pred wb.pred (zke wa) (zke wb) h
 have hlen:=congrArg List.length h3
 have rM:(a.bQ:Int)=a.n:=by
  have:=wa.lo;have:=wa.hi
  unfold aj.bQ
  omega
 have Ia:(b.bQ:Int)=b.n:=by
  have:=wb.lo;have:=wb.hi
  unfold aj.bQ
  omega
 have Ih:(jK a).length=a.bQ:=by
  have:a.bQ<=4:=DQ _ _
  unfold jK aj.args
  rw [nA,fw]
  simp only [dY,dK]
  omega
 have XO:(jK b).length=b.bQ:=by
  have:b.bQ<=4:=DQ _ _
  unfold jK aj.args
  rw [nA,fw]
  simp only [dY,dK]
  omega
 rw [Ih,XO] at hlen
 have hn:a.n=b.n:=by omega
 refine zAP (Hn h1) (Hn h2) hn (λi hi=>?_)
 by_cases aP:(i:Int) < a.n
 .have e1:=args_at (a:=a) (i:=i) (by omega)
  have e2:=args_at (a:=b) (i:=i) (by omega)
  have e3:(jK a)[i]? = (jK b)[i]? := by rw [h3]
  unfold jK at e3
  rw [lS,lS,e1,e2] at e3
  simp only [j2,eh] at e3
  have es:=Hn e3
  have ev:=(wa.iW i aP).2
  have ew:=(wb.iW i (by omega)).2
  rw [es] at ev
  have:(a.arg i).v=(b.arg i).v:=ev.trans ew.symm
  calc a.arg i=⟨(a.arg i).v,(a.arg i).s⟩:=rfl
   _=⟨(b.arg i).v,(b.arg i).s⟩:=by rw [this,es]
   _=b.arg i:=rfl
 .rw [wa.rest i (by omega) hi,wb.rest i (by omega) hi]
theorem zxB (wa:iF a) (wb:iF b):aU a b=0↔a=b:=⟨λh=>zkd wa wb (ck.1 h),λh=>by rw [h];exact Dr _⟩
def jN (l:aN):Prop:=∀ x∈l,iF x
theorem jN.app {m:aN} (h:jN l) (g:jN m):jN (l++m):=λx hx=>(iA.1 hx).elim (h x) (g x)
theorem jN.sort (h:jN l):jN (eW l):=λx hx=>h x ((pe l).mem hx)
theorem IY (h:jN l) {x:aj}:x∈eW l↔x∈l:=by
 refine ⟨λhx=>(pe l).mem hx,λhx=>?_⟩
 obtain ⟨y,hy,e⟩:=(pe l).wk x hx
 have:=zkd (h y ((pe l).mem hy)) (h x hx) e
 subst this
 exact hy
theorem zxQ {m:aN} (h:jN l) (g:jN m) (e:∀ x,x∈l↔x∈m):eW l=eW m :=
 JD (pe l).gK (pe m).gK (λx=>by rw [IY h,IY g,e])
theorem ztq (p:aj->Bool) (h:dG l):dG (l.filter p):=h.sublist Qs
end Go.Am
namespace Go.Am
theorem zqV (b:Bool):B7 undef b=false:=rfl
theorem zzE (e:Env) (d:Nat) (v:ah):put e (some d) v=Env.set e d v:=rfl
theorem zzD (e:Env) (v:ah):put e none v=e:=rfl
theorem zyO (v:ah) (r:Env):Env.get (v::r) 0=v:=rfl
theorem zyN (v:ah) (r:Env) (n:Nat):Env.get (v::r) (n+1)=Env.get r n:=rfl
theorem zzK (x v:ah) (r:Env):Env.set (x::r) 0 v=v::r:=rfl
theorem zzJ (x v:ah) (r:Env) (n:Nat):Env.set (x::r) (n+1) v=x::Env.set r n v:=rfl
theorem zC4 (e:Env) (t:Nat):bz e (.tmp t)=e.get t:=rfl
theorem zyK (e:Env) (v:ah):bz e (.const v)=v:=rfl
theorem zwd (e:Env) (g:Nat):bz e (.global g)=.pointer (some ⟨g,0,none⟩):=rfl
theorem zBu (e:Env) (f:FuncId):bz e (.func f)=.func (.func f) #[] #[]:=rfl
theorem ztB (b:Bool):(Value.bool b).cells=#[.bool b]:=rfl
theorem zvX (k:IntKind) (i:Int):(Value.int k i).cells=#[.int k i]:=rfl
theorem zol (s:au):(Value.string s).cells=#[.string s]:=rfl
theorem zqB (a:Option Addr) (n c:Nat):(Value.slice a n c).cells=#[.slice a n c]:=rfl
theorem zmJ (a:Option Addr):(Value.pointer a).cells=#[.pointer a]:=rfl
theorem zvY (a:Option Nat):(Value.map a).cells=#[.map a]:=rfl
theorem ztC (f:Fn) (a b:Array ah):(Value.func f a b).cells=#[.func f a b]:=rfl
theorem zqA (t:TypeId) (v:ah):(Value.iface t v).cells=#[.iface t v]:=rfl
theorem zvW (cs:Array ah):(Value.agg cs).cells=cs:=rfl
theorem zyr (z:List ah) (n:Nat):oH z n=(List.replicate n z).flatten:=rfl
theorem zuV (cs:List ah) (o:Nat) (vs:List ah):aF cs o vs=cs.take o++vs++cs.drop (o+vs.length):=rfl
theorem zBm (cs:List ah) (o n:Nat):cut cs o n=if o+n<=cs.length then some ((cs.drop o).take n) else none:=rfl
def jr (J:Nat->ah):Nat->Nat->Env->Env
 |_,0,r=>r
 |a,n+1,r=>J a::jr J (a+1) n r
theorem zBL (J:Nat->ah) (a:Nat) (r:Env):jr J a 0 r=r:=rfl
theorem zBK (J:Nat->ah) (a n:Nat) (r:Env):jr J a (n+1) r=J a::jr J (a+1) n r:=rfl
def Dh:=PLift.up (And.intro @zBL <| And.intro @zBK <| And.intro @zqV <| And.intro @zzE <| And.intro @zzD <| And.intro @zyO <| And.intro @zyN <| And.intro @zzK <| And.intro @zzJ <| And.intro @zC4 <| And.intro @zyK <| And.intro @zwd <| And.intro @zBu <| And.intro @ztB <| And.intro @zvX <| And.intro @zol <| And.intro @zqB <| And.intro @zmJ <| And.intro @zvY <| And.intro @ztC <| And.intro @zqA <| And.intro @zvW <| And.intro @zyr <| And.intro @zuV <| And.intro @zBm <| And.intro @Option.map_some.{0,0} <| And.intro @Option.bind_some.{0,0} <| And.intro @List.length_cons.{0} <| And.intro @List.length_nil.{0} <| And.intro @List.cons_append.{0} <| And.intro @List.nil_append.{0} <| And.intro @List.getElem?_cons_zero.{0} <| And.intro @List.getElem?_cons_succ.{0} <| And.intro @decide_true <| And.intro @decide_false <| And.intro @Int.cast_ofNat_Int <| And.intro @Int.zero_le_ofNat <| And.intro @Int.le_refl <| And.intro @and_self <| And.intro @and_true <| And.intro @true_and <| And.intro @if_true.{1} <| And.intro @if_false.{1} <| And.intro @Nat.zero_add <| And.intro @Bool.not_true <| And.intro @Bool.not_false <| And.intro @Int.toNat_natCast <| And.intro @zwq <| And.intro @zwr <| And.intro @List.replicate_zero.{0} <| And.intro @List.replicate_succ.{0} <| And.intro @List.flatten_cons.{0} <| And.intro @List.flatten_nil.{0} <| And.intro @List.take_succ_cons.{0} <| And.intro @List.take_zero.{0} <| And.intro @List.drop_succ_cons.{0} <| And.intro @List.drop_zero.{0} <| And.intro @List.append_nil.{0} <| And.intro @Bool.or_self <| And.intro @Bool.false_eq_true <| And.intro @beq_self_eq_true.{0} <| And.intro @List.size_toArray.{0} <| And.intro @List.append_assoc.{0} <| And.intro @zA7 <| And.intro @zA9 <| And.intro @zt5 <| And.intro @zwM <| And.intro @zvy <| And.intro @zqq <| And.intro @zn3 <| And.intro @zmv <| And.intro @zn1 <| And.intro @zn2 <| And.intro @zpQ <| And.intro @zrA <| And.intro @zrB <| And.intro @zvv <| And.intro @b9 <| @bd)
theorem dx:type_of% Dh.down:=Dh.down
def Di:=PLift.up (And.intro syms dx)
theorem aa:type_of% Di.down:=Di.down
end Go.Am
namespace Go.Am
variable {a:aj}
def oA (s:au):Prop:=(⟨#[115,97,121,115]⟩:au)=s\/(⟨#[105,102]⟩:au)=s\/(⟨#[99,97,110,115,97,121]⟩:au)=s\/(⟨#[112,114,105,110,99,105,112,97,108]⟩:au)=s\/(⟨#[112,114,101,100]⟩:au)=s\/(⟨#[99,108,101,97,114]⟩:au)=s\/(⟨#[113,117,111,116,97]⟩:au)=s\/(⟨#[98,117,100,103,101,116]⟩:au)=s
structure BH (s:au):Prop where
 pos:1<=s.size
 len:s.size<=255
 first:lQ s 0≠95
 all:∀ i,i < s.size->qB (lQ s i)
def gd (s:au):Prop:=BH s/\¬ oA s
def jZ (s:au):Prop:=gd s/\(97<=lQ s 0/\lQ s 0<=122)
structure vF (s:au):Prop where
 pos:1<=s.size
 len:s.size<=255
 first:65<=lQ s 0/\lQ s 0<=90
 all:∀ i,i < s.size->k9 (lQ s i)
def dt (t:aZ):Prop:=if t.v=true then vF t.s else gd t.s
structure gR (a:aj):Prop where
 says:jZ a.says
 pred:jZ a.pred
 lo:0<=a.n
 hi:a.n<=4
 iW:∀ i:Nat,(i:Int) < a.n->dt (a.arg i)
 rest:∀ i:Nat,a.n<=(i:Int)->i < 4->a.arg i=cf
theorem gd.low {s:au} (h:gd s):Jh s:=⟨h.1.pos,h.1.all⟩
theorem dt.ok {t:aZ} (h:dt t):Tx t:=by
 unfold dt at h
 unfold Tx
 split at h
 .rename_i hv
  rw [hv]
  exact ⟨h.pos,h.first,h.all⟩
 .rename_i hv
  rw [show t.v=false by simpa using hv]
  exact h.low
theorem gR.valid (h:gR a):sA a:=⟨h.says.1.low,h.pred.1.low,h.lo,h.hi,λi hi=>(h.iW i hi).ok,h.rest⟩
def j0 (a:aj) (x:au):Prop:=∃ i:Nat,i < 4/\(i:Int) < a.n/\(a.arg i).v=true/\(a.arg i).s=x
structure KU (c:bw):Prop where
 head:gR c.head
 body:∀ b∈c.body,gR b
 GB:∀ x,j0 c.head x->∃ b∈c.body,j0 b x
structure eE (a:aj):Prop where
 valid:gR a
 ground:a.ground=true
structure iE (cl:List bw) (facts:aN):Prop where
 clauses:∀ c∈cl,KU c
 facts:∀ a∈facts,eE a
theorem pw {t:aZ}:t∈a.args↔∃ i:Nat,i < a.bQ/\a.arg i=t:=by
 have h4:a.bQ=0\/a.bQ=1\/a.bQ=2\/a.bQ=3\/a.bQ=4:=by unfold aj.bQ;omega
 unfold aj.args
 have one:∀ {n:Nat} {P:Nat->Prop},(∃ i,i < n+1/\P i)↔(∃ i,i < n/\P i)\/P n:=by
  intro n P
  constructor
  .rintro ⟨i,hi,hp⟩
   by_cases e:i=n
   .subst e;exact .inr hp
   .exact .inl ⟨i,by omega,hp⟩
  .rintro (⟨i,hi,hp⟩|hp)
   .exact ⟨i,by omega,hp⟩
   .exact ⟨n,by omega,hp⟩
 rcases h4 with e|e|e|e|e <;> rw [e] <;> simp [one,aj.arg,eq_comm,or_assoc]
theorem fh:a.ground=true↔∀ i:Nat,i < a.bQ->(a.arg i).v=false:=by
 unfold aj.ground
 rw [DT,Aq]
 constructor
 .intro h i hi
  have:=h (a.arg i) (pw.2 ⟨i,hi,rfl⟩)
  simpa using this
 .intro h t ht
  obtain ⟨i,hi,rfl⟩:=pw.1 ht
  simpa using h i hi
theorem fJ {i:Nat}:i < a.bQ↔i < 4/\(i:Int) < a.n:=by
 unfold aj.bQ
 omega
theorem jI {x:au}:j0 a x↔∃ i:Nat,i < a.bQ/\(a.arg i).v=true/\(a.arg i).s=x:=by
 constructor
 .rintro ⟨i,h1,h2,h3,h4⟩
  exact ⟨i,fJ.2 ⟨h1,h2⟩,h3,h4⟩
 .rintro ⟨i,h1,h3,h4⟩
  exact ⟨i,(fJ.1 h1).1,(fJ.1 h1).2,h3,h4⟩
theorem zkL {T:bO} {t u:TypeId} {w n i:Nat} {cs vs:List ah} {v:ah} {h1:Heap} {bs:List ba} {K:aI} (hb:bs[i]? = some (.row cs u false)) (hs:di T t=some n) (hc:cs.length=n) (hv:v.cells.toList=vs) (hl:vs.length=n) (oq:vs.all one=true)
 (hK:K undef (h1.lay (bs.set i (.row vs u false)) (min w (h1.size+i)))):iq (iO T t (.pointer (some ⟨h1.size+i,0,none⟩)) v (h1.lay bs w)) K:=by
 have hi:=(dH.1 hb).1
 have hg:(h1.lay bs w).get (h1.size+i)=some (.row cs u false):=by rw [iB];exact hb
 have dF:v.cells.size=n:=by rw [<- rD,hv,hl]
 have cR:aF cs 0 vs=vs:=by
  unfold aF
  rw [Cg,pk,List.drop_eq_nil_of_le (by omega),bG]
 have he:iO T t (.pointer (some ⟨h1.size+i,0,none⟩)) v (h1.lay bs w)=some ((h1.lay bs w).set (h1.size+i) (.row vs u false)):=by
  unfold iO
  simp only [hs,dX]
  rw [aB dF,hv]
  unfold lY
  rw [hg]
  simp only
  rw [aB (by simp only [eo,jl];exact ⟨by omega,oq⟩),cR]
 rw [he,zq2 _ _ _ _ _ hi]
 exact hK
end Go.Am
namespace Go.Am
variable {s:au} {a:aj}
open Classical in
def iv:List Int->Int
 | []=>0
 |e::l=>if e=0 then iv l else e
theorem ztR:iv []=0:=rfl
theorem fV (e:Int) (l:List Int):iv (e::l)=if e=0 then iv l else e:=rfl
theorem dr {l:List Int}:iv l=0↔∀ e∈l,e=0:=by
 induction l with
 |nil=>simp [iv]
 |cons e l ih =>
  rw [fV]
  by_cases h:e=0
  .rw [aB h,ih];simp [h]
  .rw [aA h];simp [h]
def bj (b:Bool) (e:Int):Int:=if b then e else 0
theorem PS {b:Bool} {e:Int} (h:e≠0):bj b e=0↔b=false:=by cases b <;> simp [bj,h]
def fc {Z:Type} (f:List Z->Z->Int):List Z->List Z->Int
 |_,[]=>0
 |pre,x::l=>if f pre x=0 then fc f (pre++[x]) l else f pre x
theorem rW {Z:Type} {f:List Z->Z->Int} {l:List Z} {i:Nat} {x:Z} (hx:l[i]? = some x):fc f (l.take i) (l.drop i)=if f (l.take i) x=0 then fc f (l.take (i+1)) (l.drop (i+1)) else f (l.take i) x:=by
 have hi:=dH.1 hx
 rw [DE hi.1,hi.2,nS,hx]
 rfl
theorem Ds {Z:Type} {f:List Z->Z->Int} {l:List Z} {i:Nat} (hi:l.length<=i):fc f (l.take i) (l.drop i)=0:=by
 rw [wW hi];rfl
theorem kl {Z:Type} {f:List Z->Z->Int}:∀ {l pre:List Z},fc f pre l=0↔∀ i x,l[i]? = some x->f (pre++l.take i) x=0
 | [],pre=>by simp [fc]
 |y::l,pre=>by
  unfold fc
  by_cases h:f pre y=0
  .rw [aB h,kl]
   constructor
   .intro g i x hx
    cases i with
    |zero=>simp at hx;subst hx;simpa using h
    |succ i=>have:=g i x (by simpa using hx);simpa using this
   .intro g i x hx
    have:=g (i+1) x (by simpa using hx)
    simpa using this
  .rw [aA h]
   constructor
   .intro g;exact absurd g h
   .intro g;exact absurd (by simpa using g 0 y rfl) h
open Classical in
def oI (s:au):Bool:=decide (jZ s)
open Classical in
def HI (t:aZ):Bool := !decide (dt t)
def j9 (a:aj):Int :=
 if oI a.says && oI a.pred then (if a.n < 0\/4 < a.n then 4 else if a.args.any HI then 3 else if (a.all.drop a.bQ).any (λt => !decide (t=cf)) then 15 else 0) else 3
theorem bZ:oI s=true↔jZ s:=by unfold oI;simp
theorem Ta (h:¬ jZ s):oI s=false:=by unfold oI;simp [h]
theorem SS (h:¬ jZ a.says\/¬ jZ a.pred):j9 a=3:=by
 unfold j9
 rw [aA]
 rw [eo,bZ,bZ]
 exact λx=>h.elim (λy=>y x.1) (λy=>y x.2)
theorem zpX (h1:jZ a.says) (h2:jZ a.pred) (h:a.n < 0\/4 < a.n):j9 a=4:=by
 unfold j9
 rw [aB (by rw [eo,bZ,bZ];exact ⟨h1,h2⟩),aB h]
theorem zl9 (h1:jZ a.says) (h2:jZ a.pred) (h3:¬ (a.n < 0\/4 < a.n)) (h:a.args.any HI=true):j9 a=3:=by
 unfold j9
 rw [aB (by rw [eo,bZ,bZ];exact ⟨h1,h2⟩),aA h3,aB h]
theorem zl8 (h1:jZ a.says) (h2:jZ a.pred) (h3:¬ (a.n < 0\/4 < a.n)) (h4:a.args.any HI=false):j9 a=if (a.all.drop a.bQ).any (λt => !decide (t=cf)) then 15 else 0:=by
 unfold j9
 rw [aB (by rw [eo,bZ,bZ];exact ⟨h1,h2⟩),aA h3,aA (by rw [h4];decide)]
def bh (l:List au) (s:au):Bool:=l.any λx=>decide (s=x)
theorem cC {l:List au}:bh l s=true↔s∈l:=by
 unfold bh
 rw [tF]
 exact ⟨λ⟨x,hx,e⟩=>by rw [of_decide_eq_true e];exact hx,λh=>⟨s,h,by simp⟩⟩
def nP (l:List bP) (s:au):Int × Bool:=match l.find? (λx=>decide (x.name=s)) with
 |some x=>(x.arity,true)
 |none=>(0,false)
def iC (d:aq) (a:aj):Int:=iv [j9 a,bj (!bh d.ab a.says) 6,bj (!(nP d.bJ a.pred).2) 7,bj (!decide ((nP d.bJ a.pred).1=a.n)) 8]
def Jg (a:aj):Bool:=a.ground
def fG (d:aq) (s:au) (a:aj):Int:=iv [bj (!bh d.ab s) 6,iC d a,bj (!Jg a) 10,bj (!decide (a.says=s)) 11]
def rB (l:List au):Int:=if l.length < 1\/16 < l.length then 4 else fc (λpre w=>iv [bj (!oI w) 3,bj (bh pre w) 5]) [] l
def uA (l:List bP):Int:=if 32 < l.length then 4 else fc (λpre x=>iv [bj (!oI x.name) 3,bj (bh (pre.map bP.name) x.name) 5,bj (decide (x.arity < 0\/4 < x.arity)) 4]) [] l
def qy (ps:List au) (c:bS):Int:=if c.reads.length < 1\/16 < c.reads.length then 4 else fc (λpre w=>iv [bj (!bh ps w) 6,bj (decide (w=c.aR)) 11,bj (bh pre w) 5]) [] c.reads
def yZ (ps:List au) (l:List bS):Int:=fc (λpre c=>iv [bj (!bh ps c.aR) 6,bj (bh (pre.map bS.aR) c.aR) 5,qy ps c]) [] l
def BW (d:aq):Int:=bj (decide (d.dV < 0\/1000 < d.dV) || decide (d.cP < 1\/1048576 < d.cP) || decide (64 < d.rules.length+d.bl.length)) 4
def Cc (d:aq) (l:aN):Int:=fc (λ_ a=>iC d a) [] l
def lz (d:aq) (head:aj) (body:aN):Int:=iv [iC d head,bj (decide (6 < body.length)) 4,Cc d body]
open Classical in
def B2 (c:bw):Int:=bj (decide (∃ x,j0 c.head x/\∀ a∈c.body,¬ j0 a x)) 9
def tE (d:aq) (c:bw):Int:=iv [lz d c.head c.body,B2 c]
def sg (d:aq) (g:eJ):Int:=iv [bj (!bh d.ab g.to) 6,bj (decide (g.to=g.head.says)) 11,lz d g.head g.body]
def DD (d:aq):Int:=iv [fc (λ_ c=>tE d c) [] d.rules,fc (λ_ g=>sg d g) [] d.bl]
def oF (d:aq):Int:=iv [rB d.ab,uA d.bJ,yZ d.ab d.bf,BW d,DD d]
abbrev aK.LJ:aK ah:={ k:=1,R:=λ_ cs x=>cs=[x]/\one x=true,len:=by rintro _ cs x ⟨rfl,_⟩;rfl,mono:=λ_ _ _ _ _ h=>h,iu:=by rintro _ cs x ⟨rfl,h⟩;simp [h] }
theorem zwE {T:bO} {t e:TypeId} {kd:IntKind} {i:Int} {v:ah} {h1:Heap} {bs:List ba} {w:Nat} {K:aI} {l:List ah} {x:ah} (f:Sl aK.LJ h1 v l) (hd:T.desc t=some (.slice e)) (hs:di T e=some 1) (h0:0<=i) (hx:l[i.toNat]? = some x) (hk:∀ p,eI h1 p [x]->K p (h1.lay bs w)):aH (kF T t v (.int kd i)) (h1.lay bs w) K:=by
 have hi:=(dH.1 hx).1
 refine BZ f hd hs h0 (by omega) (λx' p cs nJ hr hp=>?_)
 rw [hx] at nJ
 cases nJ
 exact hk p (hr.1 ▸ hp)
end Go.Am

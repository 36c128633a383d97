/- Policies: data, their cells. No condition. -/
import Derived.Test.YtjildadoepadeaaGreatDoorG12
set_option linter.unusedSimpArgs false
set_option linter.unusedVariables false
namespace Go.Am
variable {b x y:ai}
structure bb where
 name:aA
 arity:Int
structure ba where
 bW:aA
 reads:List aA
structure dg where
 «to»:aA
 head:ae
 body:cR
structure aD where
 ah:List aA
 bo:List bb
 aN:List ba
 cB:Int
 bO:Int
 rules:List bA
 aP:List dg
abbrev aQ.pred:aQ bb:={ k:=2,R:=λ_ cs x=>cs=[.string x.name,.int .i64 x.arity],len:=by rintro _ _ _ rfl;rfl,mono:=λ_ _ _ _ _ h=>h,fk:=by rintro _ _ _ rfl;rfl }
abbrev aQ.clear:aQ ba :=
 { k:=2,R:=λh cs x=>∃ v,cs=[.string x.bW,v]/\Sl aQ.str h v x.reads
   len:=by rintro h cs x ⟨v,rfl,_⟩;rfl
   mono:=by rintro h h' cs x i ⟨v,e,f⟩;exact ⟨v,e,f.mono i⟩
   fk:=by rintro h cs x ⟨v,rfl,f⟩;have:=f.one;simp only [kS,mL,this];rfl }
abbrev aQ.lX:aQ dg :=
 { k:=13,R:=λh cs x=>∃ v,cs=.string x.to::(x.head.cells++[v])/\Sl aQ.atom h v x.body
   len:=by rintro h cs x ⟨v,rfl,_⟩;rfl
   mono:=by rintro h h' cs x i ⟨v,e,f⟩;exact ⟨v,e,f.mono i⟩
   fk:=by rintro h cs x ⟨v,rfl,f⟩;have:=f.one;simp only [List.all_append,ae.cells,kS,mL,this];rfl }
def cN (p0 p1 p2 p5 p6:ai) (q b:Int):List ai:=[p0,p1,p2,.int .i64 q,.int .i64 b,p5,p6]
def fS (p0 p1 p2 p5 p6:ai) (q b:Int):ai:=.agg ⟨cN p0 p1 p2 p5 p6 q b⟩
structure dP (h:Heap) (p0 p1 p2 p5 p6:ai) (d:aD):Prop where
 s0:Sl aQ.str h p0 d.ah
 s1:Sl aQ.pred h p1 d.bo
 s2:Sl aQ.clear h p2 d.aN
 s5:Sl aQ.clause h p5 d.rules
 s6:Sl aQ.lX h p6 d.aP
theorem dP.mono {h h':Heap} {p0 p1 p2 p5 p6:ai} {d:aD} (f:dP h p0 p1 p2 p5 p6 d) (i:dz h h'):dP h' p0 p1 p2 p5 p6 d:=⟨f.s0.mono i,f.s1.mono i,f.s2.mono i,f.s5.mono i,f.s6.mono i⟩
theorem dP.lay {h:Heap} {p0 p1 p2 p5 p6:ai} {d:aD} (f:dP h p0 p1 p2 p5 p6 d) (bs:List bd) (w:Nat):dP (h.lay bs w) p0 p1 p2 p5 p6 d:=f.mono (dz.lay h bs w)
theorem dP.over {h1 h2:Heap} {bs:List bd} {w:Nat} {p0 p1 p2 p5 p6:ai} {d:aD} (f:dP h1 p0 p1 p2 p5 p6 d) (x:Ext (h1.lay bs w) h2):dP h2 p0 p1 p2 p5 p6 d:=f.mono x.inc.nI
theorem dP.one {h:Heap} {p0 p1 p2 p5 p6:ai} {d:aD} (f:dP h p0 p1 p2 p5 p6 d) (q b:Int):(cN p0 p1 p2 p5 p6 q b).all Am.one=true:=by
 have h0:=f.s0.one
 have h1:=f.s1.one
 have h2:=f.s2.one
 have h5:=f.s5.one
 have h6:=f.s6.one
 simp only [cN,kS,mL,h0,h1,h2,h5,h6]
 rfl
theorem eI (p0 p1 p2 p5 p6:ai) (q b:Int):cut (cN p0 p1 p2 p5 p6 q b) 0 7=some (cN p0 p1 p2 p5 p6 q b):=rfl
theorem kh (p0 p1 p2 p5 p6:ai) (q b:Int):(cN p0 p1 p2 p5 p6 q b)[0]? = some p0:=rfl
theorem iW (p0 p1 p2 p5 p6:ai) (q b:Int):(cN p0 p1 p2 p5 p6 q b)[1]? = some p1:=rfl
theorem mz (p0 p1 p2 p5 p6:ai) (q b:Int):(cN p0 p1 p2 p5 p6 q b)[2]? = some p2:=rfl
theorem yE (p0 p1 p2 p5 p6:ai) (q b:Int):(cN p0 p1 p2 p5 p6 q b)[3]? = some (.int .i64 q):=rfl
theorem En (p0 p1 p2 p5 p6:ai) (q b:Int):(cN p0 p1 p2 p5 p6 q b)[4]? = some (.int .i64 b):=rfl
theorem ki (p0 p1 p2 p5 p6:ai) (q b:Int):(cN p0 p1 p2 p5 p6 q b)[5]? = some p5:=rfl
theorem lu (p0 p1 p2 p5 p6:ai) (q b:Int):(cN p0 p1 p2 p5 p6 q b)[6]? = some p6:=rfl
theorem eH (p0 p1 p2 p5 p6:ai) (q b:Int):Value.agg (cN p0 p1 p2 p5 p6 q b).toArray=fS p0 p1 p2 p5 p6 q b:=rfl
theorem iE (p0 p1 p2 p5 p6:ai) (q b:Int):(fS p0 p1 p2 p5 p6 q b).cells.toList=cN p0 p1 p2 p5 p6 q b:=rfl
theorem ef (p0 p1 p2 p5 p6:ai) (q b:Int) (h:Heap) (K:aF):aE (some (fS p0 p1 p2 p5 p6 q b)) h K=K (fS p0 p1 p2 p5 p6 q b) h:=rfl
section
variable {h1:Heap} {bs:List bd} {w:Nat} {T:bm} {K:aF} {t e s:TypeId} {v p:ai} {kd:IntKind} {i:Int}
theorem Gv {l:List bb} {x:bb} (f:Sl aQ.pred h1 v l) (hd:T.desc t=some (.slice e)) (hs:c9 T e=some 2) (h0:0<=i) (hx:l[i.toNat]? = some x) (hk:∀ p,dY h1 p [.string x.name,.int .i64 x.arity]->K p (h1.lay bs w)):aE (hZ T t v (.int kd i)) (h1.lay bs w) K:=by
 have hi:=(fB.1 hx).1
 refine v8 f hd hs h0 (by omega) (λx' p cs ln hr hp=>?_)
 rw [hx] at ln
 cases ln
 exact hk p (hr ▸ hp)
theorem AZ {l:List ba} {x:ba} (f:Sl aQ.clear h1 v l) (hd:T.desc t=some (.slice e)) (hs:c9 T e=some 2) (h0:0<=i) (hx:l[i.toNat]? = some x) (hk:∀ p b,Sl aQ.str h1 b x.reads->dY h1 p [.string x.bW,b]->K p (h1.lay bs w)):aE (hZ T t v (.int kd i)) (h1.lay bs w) K:=by
 have hi:=(fB.1 hx).1
 refine v8 f hd hs h0 (by omega) (λx' p cs ln hr hp=>?_)
 rw [hx] at ln
 cases ln
 obtain ⟨b,rfl,hb⟩:=hr
 exact hk p b hb hp
theorem IU {l:List dg} {x:dg} (f:Sl aQ.lX h1 v l) (hd:T.desc t=some (.slice e)) (hs:c9 T e=some 13) (h0:0<=i) (hx:l[i.toNat]? = some x) (hk:∀ p b,Sl aQ.atom h1 b x.body->dY h1 p (.string x.to::(x.head.cells++[b]))->K p (h1.lay bs w)):aE (hZ T t v (.int kd i)) (h1.lay bs w) K:=by
 have hi:=(fB.1 hx).1
 refine v8 f hd hs h0 (by omega) (λx' p cs ln hr hp=>?_)
 rw [hx] at ln
 cases ln
 obtain ⟨b,rfl,hb⟩:=hr
 exact hk p b hb hp
theorem qz (f:dY h1 p [x,y]) (j7:∀ A o,gg T s (.pointer (some ⟨A,o,none⟩)) 0=some (.pointer (some ⟨A,o+0,none⟩))) (hk:∀ q,dY h1 q [x]->K q (h1.lay bs w)):aE (gg T s p 0) (h1.lay bs w) K:=tB (ds:=[x]) f j7 rfl (uR _) hk
theorem CX (f:dY h1 p [x,y]) (j7:∀ A o,gg T s (.pointer (some ⟨A,o,none⟩)) 1=some (.pointer (some ⟨A,o+1,none⟩))) (hk:∀ q,dY h1 q [y]->K q (h1.lay bs w)):aE (gg T s p 1) (h1.lay bs w) K:=tB (ds:=[y]) f j7 rfl (uR _) hk
theorem JS {x:dg} (f:dY h1 p (.string x.to::(x.head.cells++[b]))) (j7:∀ A o,gg T s (.pointer (some ⟨A,o,none⟩)) 0=some (.pointer (some ⟨A,o+0,none⟩))) (hk:∀ q,dY h1 q [.string x.to]->K q (h1.lay bs w)):aE (gg T s p 0) (h1.lay bs w) K:=tB (ds:=[.string x.to]) f j7 rfl (uR _) hk
theorem JT {x:dg} (f:dY h1 p (.string x.to::(x.head.cells++[b]))) (j7:∀ A o,gg T s (.pointer (some ⟨A,o,none⟩)) 1=some (.pointer (some ⟨A,o+1,none⟩))) (hk:∀ q,dY h1 q x.head.cells->K q (h1.lay bs w)):aE (gg T s p 1) (h1.lay bs w) K:=tB (ds:=x.head.cells) f j7 rfl (uR _) hk
theorem JU {x:dg} (f:dY h1 p (.string x.to::(x.head.cells++[b]))) (j7:∀ A o,gg T s (.pointer (some ⟨A,o,none⟩)) 2=some (.pointer (some ⟨A,o+12,none⟩))) (hk:∀ q,dY h1 q [b]->K q (h1.lay bs w)):aE (gg T s p 2) (h1.lay bs w) K:=tB (ds:=[b]) f j7 rfl (uR _) hk
theorem Ee (f:dY h1 p [x,y]) (hg:cD T t=some true) (hs:c9 T t=some 2) (hk:K (.agg ⟨[x,y]⟩) (h1.lay bs w)):aE (eQ T t p (h1.lay bs w)) (h1.lay bs w) K:=Gy f hg hs rfl hk
theorem Qz {x:dg} (f:dY h1 p (.string x.to::(x.head.cells++[b]))) (hg:cD T t=some true) (hs:c9 T t=some 13) (hk:K (.agg ⟨.string x.to::(x.head.cells++[b])⟩) (h1.lay bs w)):aE (eQ T t p (h1.lay bs w)) (h1.lay bs w) K:=Gy f hg hs rfl hk
end
end Go.Am

/- Policies: data, their cells. No condition. -/
import Derived.Test.YtkgojconmeeegaaGreatDoorGSrt
import Derived.Test.YtkgojconmeeegaaGreatDoorG14
set_option linter.unusedSimpArgs false
set_option linter.unusedVariables false
namespace Go.Am
structure bF where
 name:ByteArray
 arity:Int
structure aZ where
 who:ByteArray
 reads:List ByteArray
structure dV where
 «to»:ByteArray
 head:ab
 body:List ab
structure au where
 ah:List ByteArray
 bG:List bF
 aF:List aZ
 dB:Int
 cG:Int
 rules:List bZ
 bo:List dV
abbrev aJ.pred:aJ bF:={ k:=2,R:=fun _ cs x=>cs=[.string x.name,.int .i64 x.arity],len:=by rintro _ _ _ rfl;rfl,mono:=fun _ _ _ _ _ h=>h,iP:=by rintro _ _ _ rfl;rfl }
abbrev aJ.clear:aJ aZ :=
 { k:=2,R:=fun h cs x=>∃ v,cs=[.string x.who,v]∧Sl aJ.str h v x.reads
   len:=by rintro h cs x ⟨v,rfl,_⟩;rfl
   mono:=by rintro h h' cs x i ⟨v,e,f⟩;exact ⟨v,e,f.mono i⟩
   iP:=by rintro h cs x ⟨v,rfl,f⟩;have:=f.one;simp only [List.all_cons,List.all_nil,this];rfl }
abbrev aJ.qg:aJ dV :=
 { k:=13,R:=fun h cs x=>∃ v,cs=.string x.to::(x.head.cells++[v])∧Sl aJ.atom h v x.body
   len:=by rintro h cs x ⟨v,rfl,_⟩;rfl
   mono:=by rintro h h' cs x i ⟨v,e,f⟩;exact ⟨v,e,f.mono i⟩
   iP:=by rintro h cs x ⟨v,rfl,f⟩;have:=f.one;simp only [List.all_append,ab.cells,List.all_cons,List.all_nil,this];rfl }
def cX (p0 p1 p2 p5 p6:Value) (q b:Int):List Value:=[p0,p1,p2,.int .i64 q,.int .i64 b,p5,p6]
def gi (p0 p1 p2 p5 p6:Value) (q b:Int):Value:=.agg ⟨cX p0 p1 p2 p5 p6 q b⟩
structure dD (h:Heap) (p0 p1 p2 p5 p6:Value) (d:au):Prop where
 s0:Sl aJ.str h p0 d.ah
 s1:Sl aJ.pred h p1 d.bG
 s2:Sl aJ.clear h p2 d.aF
 s5:Sl aJ.clause h p5 d.rules
 s6:Sl aJ.qg h p6 d.bo
theorem dD.mono {h h':Heap} {p0 p1 p2 p5 p6:Value} {d:au} (f:dD h p0 p1 p2 p5 p6 d) (i:cn h h'):dD h' p0 p1 p2 p5 p6 d:=⟨f.s0.mono i,f.s1.mono i,f.s2.mono i,f.s5.mono i,f.s6.mono i⟩
theorem dD.lay {h:Heap} {p0 p1 p2 p5 p6:Value} {d:au} (f:dD h p0 p1 p2 p5 p6 d) (bs:List bh) (w:Nat):dD (h.lay bs w) p0 p1 p2 p5 p6 d:=f.mono (cn.lay h bs w)
theorem dD.over {h1 h2:Heap} {bs:List bh} {w:Nat} {p0 p1 p2 p5 p6:Value} {d:au} (f:dD h1 p0 p1 p2 p5 p6 d) (x:Ext (h1.lay bs w) h2):dD h2 p0 p1 p2 p5 p6 d:=f.mono x.inc.gg
theorem dD.one {h:Heap} {p0 p1 p2 p5 p6:Value} {d:au} (f:dD h p0 p1 p2 p5 p6 d) (q b:Int):(cX p0 p1 p2 p5 p6 q b).all Am.one=true:=by
 have h0:=f.s0.one
 have h1:=f.s1.one
 have h2:=f.s2.one
 have h5:=f.s5.one
 have h6:=f.s6.one
 simp only [cX,List.all_cons,List.all_nil,h0,h1,h2,h5,h6]
 rfl
theorem fm (p0 p1 p2 p5 p6:Value) (q b:Int):cut (cX p0 p1 p2 p5 p6 q b) 0 7=some (cX p0 p1 p2 p5 p6 q b):=rfl
theorem dY (p0 p1 p2 p5 p6:Value) (q b:Int):(cX p0 p1 p2 p5 p6 q b)[0]? = some p0:=rfl
theorem eK (p0 p1 p2 p5 p6:Value) (q b:Int):(cX p0 p1 p2 p5 p6 q b)[1]? = some p1:=rfl
theorem fN (p0 p1 p2 p5 p6:Value) (q b:Int):(cX p0 p1 p2 p5 p6 q b)[2]? = some p2:=rfl
theorem Hf (p0 p1 p2 p5 p6:Value) (q b:Int):(cX p0 p1 p2 p5 p6 q b)[3]? = some (.int .i64 q):=rfl
theorem Hg (p0 p1 p2 p5 p6:Value) (q b:Int):(cX p0 p1 p2 p5 p6 q b)[4]? = some (.int .i64 b):=rfl
theorem gB (p0 p1 p2 p5 p6:Value) (q b:Int):(cX p0 p1 p2 p5 p6 q b)[5]? = some p5:=rfl
theorem gN (p0 p1 p2 p5 p6:Value) (q b:Int):(cX p0 p1 p2 p5 p6 q b)[6]? = some p6:=rfl
theorem eX (p0 p1 p2 p5 p6:Value) (q b:Int):Value.agg (cX p0 p1 p2 p5 p6 q b).toArray=gi p0 p1 p2 p5 p6 q b:=rfl
theorem ek (p0 p1 p2 p5 p6:Value) (q b:Int):(gi p0 p1 p2 p5 p6 q b).cells.toList=cX p0 p1 p2 p5 p6 q b:=rfl
theorem eG (p0 p1 p2 p5 p6:Value) (q b:Int) (h:Heap) (K:Value→Heap→Prop):aW (some (gi p0 p1 p2 p5 p6 q b)) h K=K (gi p0 p1 p2 p5 p6 q b) h:=rfl
section
variable {h1:Heap} {bs:List bh} {w:Nat} {T:bK} {K:Value→Heap→Prop} {t e s:TypeId} {v p:Value} {kd:IntKind} {i:Int}
theorem Sh {l:List bF} {x:bF} (f:Sl aJ.pred h1 v l) (hd:T.desc t=some (.slice e)) (hs:bJ T e=some 2) (h0:0≤i) (hx:l[i.toNat]? = some x) (hk:∀ p,eZ h1 p [.string x.name,.int .i64 x.arity]→K p (h1.lay bs w)):aW (fW T t v (.int kd i)) (h1.lay bs w) K:=by
 have hi:=(List.getElem?_eq_some_iff.1 hx).1
 refine y9 f hd hs h0 (by omega) (fun x' p cs lU hr hp=>?_)
 rw [hx] at lU
 cases lU
 exact hk p (hr ▸ hp)
theorem Df {l:List aZ} {x:aZ} (f:Sl aJ.clear h1 v l) (hd:T.desc t=some (.slice e)) (hs:bJ T e=some 2) (h0:0≤i) (hx:l[i.toNat]? = some x) (hk:∀ p b,Sl aJ.str h1 b x.reads→eZ h1 p [.string x.who,b]→K p (h1.lay bs w)):aW (fW T t v (.int kd i)) (h1.lay bs w) K:=by
 have hi:=(List.getElem?_eq_some_iff.1 hx).1
 refine y9 f hd hs h0 (by omega) (fun x' p cs lU hr hp=>?_)
 rw [hx] at lU
 cases lU
 obtain ⟨b,rfl,hb⟩:=hr
 exact hk p b hb hp
theorem XO {l:List dV} {x:dV} (f:Sl aJ.qg h1 v l) (hd:T.desc t=some (.slice e)) (hs:bJ T e=some 13) (h0:0≤i) (hx:l[i.toNat]? = some x) (hk:∀ p b,Sl aJ.atom h1 b x.body→eZ h1 p (.string x.to::(x.head.cells++[b]))→K p (h1.lay bs w)):aW (fW T t v (.int kd i)) (h1.lay bs w) K:=by
 have hi:=(List.getElem?_eq_some_iff.1 hx).1
 refine y9 f hd hs h0 (by omega) (fun x' p cs lU hr hp=>?_)
 rw [hx] at lU
 cases lU
 obtain ⟨b,rfl,hb⟩:=hr
 exact hk p b hb hp
theorem wj {x y:Value} (f:eZ h1 p [x,y]) (k9:∀ A o,dg T s (.pointer (some ⟨A,o,none⟩)) 0=some (.pointer (some ⟨A,o+0,none⟩))) (hk:∀ q,eZ h1 q [x]→K q (h1.lay bs w)):aW (dg T s p 0) (h1.lay bs w) K:=uX (ds:=[x]) f k9 rfl (Nat.succ_pos _) hk
theorem FJ {x y:Value} (f:eZ h1 p [x,y]) (k9:∀ A o,dg T s (.pointer (some ⟨A,o,none⟩)) 1=some (.pointer (some ⟨A,o+1,none⟩))) (hk:∀ q,eZ h1 q [y]→K q (h1.lay bs w)):aW (dg T s p 1) (h1.lay bs w) K:=uX (ds:=[y]) f k9 rfl (Nat.succ_pos _) hk
theorem Z6 {x:dV} {b:Value} (f:eZ h1 p (.string x.to::(x.head.cells++[b]))) (k9:∀ A o,dg T s (.pointer (some ⟨A,o,none⟩)) 0=some (.pointer (some ⟨A,o+0,none⟩))) (hk:∀ q,eZ h1 q [.string x.to]→K q (h1.lay bs w)):aW (dg T s p 0) (h1.lay bs w) K:=uX (ds:=[.string x.to]) f k9 rfl (Nat.succ_pos _) hk
theorem Z7 {x:dV} {b:Value} (f:eZ h1 p (.string x.to::(x.head.cells++[b]))) (k9:∀ A o,dg T s (.pointer (some ⟨A,o,none⟩)) 1=some (.pointer (some ⟨A,o+1,none⟩))) (hk:∀ q,eZ h1 q x.head.cells→K q (h1.lay bs w)):aW (dg T s p 1) (h1.lay bs w) K:=uX (ds:=x.head.cells) f k9 rfl (Nat.succ_pos _) hk
theorem Z8 {x:dV} {b:Value} (f:eZ h1 p (.string x.to::(x.head.cells++[b]))) (k9:∀ A o,dg T s (.pointer (some ⟨A,o,none⟩)) 2=some (.pointer (some ⟨A,o+12,none⟩))) (hk:∀ q,eZ h1 q [b]→K q (h1.lay bs w)):aW (dg T s p 2) (h1.lay bs w) K:=uX (ds:=[b]) f k9 rfl (Nat.succ_pos _) hk
theorem Hc {x y:Value} (f:eZ h1 p [x,y]) (hg:aq T t=some true) (hs:bJ T t=some 2) (hk:K (.agg ⟨[x,y]⟩) (h1.lay bs w)):aW (dI T t p (h1.lay bs w)) (h1.lay bs w) K:=SA f hg hs rfl hk
theorem YV {x:dV} {b:Value} (f:eZ h1 p (.string x.to::(x.head.cells++[b]))) (hg:aq T t=some true) (hs:bJ T t=some 13) (hk:K (.agg ⟨.string x.to::(x.head.cells++[b])⟩) (h1.lay bs w)):aW (dI T t p (h1.lay bs w)) (h1.lay bs w) K:=SA f hg hs rfl hk
end
end Go.Am
namespace Go.Am
open Go.Proofs
def fw (h:Heap) (A:Nat) (e:TypeId) (v:Value) (l:List ByteArray):Prop:=∃ c,v=.slice (some ⟨A,0,none⟩) l.length c∧Ch 1 l.length c∧Holds h A (.row (l.map Value.string) e false)
theorem fw.sl {h:Heap} {A:Nat} {e:TypeId} {v:Value} {l:List ByteArray} (f:fw h A e v l) (hn:l.length≤1000):Sl aJ.str h v l:=by
 obtain ⟨c,rfl,hc,q⟩:=f
 have hM:(1000:Nat)≤maxLen:=by decide
 refine .inr ⟨A,0,c,l.map Value.string,e,false,rfl,by omega,hc,q.lt,q.get,fun i x hx=>⟨[.string x],?_,rfl⟩⟩
 have hi:=(List.getElem?_eq_some_iff.1 hx).1
 show cut (l.map Value.string) (0+i*1) 1=_
 rw [Nat.zero_add,Nat.mul_one]
 unfold cut
 rw [if_pos (by rw [List.length_map];omega),← List.map_drop,← List.map_take,List.drop_eq_getElem_cons hi]
 simp only [List.take_succ_cons,List.take_zero,List.map_cons,List.map_nil]
 rw [(List.getElem?_eq_some_iff.1 hx).2]
theorem zoP {row:List Value} {l:List ByteArray} (hr:row.length=l.length) (h:∀ (i:Nat) (x:ByteArray),l[i]? = some x→∃ cs,cut row (i*1) 1=some cs∧cs=[.string x]):row=l.map Value.string:=by
 apply List.ext_getElem?
 intro i
 by_cases hi:i < l.length
 ·obtain ⟨cs,h1,rfl⟩:=h i _ (List.getElem?_eq_getElem hi)
  rw [Nat.mul_one] at h1
  unfold cut at h1
  split at h1
  ·rw [List.drop_eq_getElem_cons (by omega)] at h1
   simp only [List.take_succ_cons,List.take_zero,Option.some.injEq,List.cons.injEq,and_true] at h1
   rw [List.getElem?_eq_getElem (by omega),h1,List.getElem?_map,List.getElem?_eq_getElem hi]
   rfl
  ·cases h1
 ·rw [List.getElem?_eq_none (by omega),List.getElem?_eq_none (by rw [List.length_map];omega)]
theorem Ow.Hk {h0 h:Heap} {e:TypeId} {A:Nat} {v:Value} {l:List ByteArray} (f:Ow aJ.str h0 h e A v l) (hl:l≠[]) (hn:l.length≤1000):fw h A e v l:=by
 rcases f with ⟨_,f,_⟩|⟨row,rfl,_,f0,f1,f2,f3,f4,f5⟩
 ·exact absurd f hl
 ·have hr:row=l.map Value.string:=zoP (by rw [f3];exact Nat.mul_one _) f5
  subst hr
  have hG:=zh
  obtain ⟨d1,d2,d3⟩:=CK (k:=1) (q:=l.length) (by decide) (by omega)
  exact ⟨_,rfl,.inr ⟨d1,d2,by rw [d3];exact Nat.le_refl _⟩,⟨f1,f2⟩⟩
theorem zo3 (xs:List ByteArray):strs (xs.map Value.string)=some xs:=by
 induction xs with
 |nil=>rfl
 |cons x xs ih=>simp only [List.map_cons,strs,ih,Option.map_some]
theorem znj {h:Heap} {A:Nat} {e:TypeId} {l:List ByteArray} (q:Holds h A (.row (l.map Value.string) e false)):gQ A 0 l.length h=some (l.map Value.string):=by
 unfold gQ
 rw [q.get]
 simp only [cut,Nat.zero_add,List.length_map,Nat.le_refl,if_true,List.drop_zero]
 rw [List.take_of_length_le (by rw [List.length_map];omega)]
theorem zpo {h:Heap} {A:Nat} {e:TypeId} {l m:List ByteArray} (q:Holds h A (.row (l.map Value.string) e false)) (hm:m.length=l.length) :
 kj A 0 (m.map Value.string) h=some (h.set A (.row (m.map Value.string) e false)):=by
 unfold kj
 rw [q.get]
 simp only
 have h1:(m.map Value.string).all one=true:=by rw [List.all_map];exact List.all_eq_true.2 (fun _ _=>rfl)
 have h2:az (l.map Value.string) 0 (m.map Value.string)=m.map Value.string:=by
  unfold az
  rw [List.take_zero,List.nil_append,List.drop_eq_nil_of_le (by simp [hm]),List.append_nil]
 rw [h1,h2,if_pos (by simp [hm])]
theorem zrl {h:Heap} {A:Nat} {b:bh} (hA:A < h.size):fp A h (h.set A b):=⟨by rw [Heap.size_set];exact Nat.le_refl _,fun B hB aP=>by rw [Heap.aD _ _ _ _ hA,if_neg aP],by rw [Heap.bW];omega⟩
theorem zlf {h:Heap} {A:Nat} {b:bh} (hA:A < h.size):Holds (h.set A b) A b:=⟨by rw [Heap.size_set];exact hA,by rw [Heap.aD _ _ _ _ hA,if_pos rfl]⟩
theorem zkc {h:Heap} {A:Nat} {e:TypeId} {v:Value} {l:List ByteArray} (f:fw h A e v l) (hl:l≠[]) (hn:l.length≤1000):∃ h',H5 [v] h=some (.tuple #[],h')∧fw h' A e v (ES l)∧fp A h h':=by
 obtain ⟨c,rfl,hc,q⟩:=f
 have aP:l.length≠0:=fun e=>hl (List.length_eq_zero_iff.1 e)
 have aR:=Rn l
 refine ⟨_,?_,⟨c,by rw [aR],by rw [aR];exact hc,zlf q.lt⟩,zrl q.lt⟩
 unfold H5
 simp only [if_neg aP,znj q,Option.bind_some,zo3]
 rw [if_pos (by omega),zpo q aR]
 rfl
theorem zpF {xs:List ByteArray} (h:xs.Nodup):yd xs=xs:=by
 unfold yd
 have hx:(xs.map (·.data.toList)).Nodup:=by
  refine List.Pairwise.map _ ?_ h
  intro a b wB e
  exact wB (Dd e)
 have e1:Lib.compact (xs.map (·.data.toList))=xs.map (·.data.toList):=by
  refine Lib.compact_all _ ?_
  intro j hj
  unfold Lib.keeps
  rw [decide_eq_true_iff]
  by_cases h0:j=0
  ·exact .inl h0
  ·refine .inr (fun e=>?_)
   rw [List.length_map] at hj
   have h1:(xs.map (·.data.toList)).toArray[j]! = (xs.map (·.data.toList))[j]'(by rw [List.length_map];omega):=by simp [hj]
   have h2:(xs.map (·.data.toList)).toArray[j - 1]! = (xs.map (·.data.toList))[j - 1]'(by rw [List.length_map];omega):=by simp [show j - 1 < xs.length by omega]
   rw [h1,h2] at e
   have:=(List.getElem_inj hx).1 e
   omega
 rw [e1,List.map_map]
 have e:(fun l:List UInt8=>(⟨l.toArray⟩:ByteArray))∘(fun x:ByteArray=>x.data.toList)=id:=by
  funext x
  exact Dd (by simp)
 rw [e,List.map_id]
theorem zi4 {h:Heap} {A:Nat} {e:TypeId} {v:Value} {l:List ByteArray} (f:fw h A e v l) (hl:l≠[]) (hn:l.length≤1000) (hd:l.Nodup):∃ h',HO [v] h=some (v,h')∧fw h' A e v l∧fp A h h':=by
 obtain ⟨c,rfl,hc,q⟩:=f
 have aP:l.length≠0:=fun e=>hl (List.length_eq_zero_iff.1 e)
 have ky:=zpF hd
 have k8:H8 l=l:=by unfold H8;rw [ky,Nat.sub_self,List.replicate_zero,List.append_nil]
 refine ⟨_,?_,⟨c,rfl,hc,zlf q.lt⟩,zrl q.lt⟩
 unfold HO
 simp only [if_neg aP,znj q,Option.bind_some,zo3]
 rw [ky,k8,if_pos ⟨by omega,Nat.le_refl _⟩,zpo q rfl]
 rfl
theorem zE2 {T:bK} {t e:TypeId} {bytes:Nat} {z:List Value} (hd:T.desc t=some (.slice e)) (hi:T.info e=some (1,bytes,z)) (tL:bytes≤1000) {h:Heap} {B:Nat} {who:ByteArray} {x:Value} {reads:List ByteArray} (q:Holds h B (.row [.string who] e false)) (f:Sl aJ.str h x reads) (hn:reads.length≤900) :
 ∃ v' h' A',hZ T t (.slice (some ⟨B,0,none⟩) 1 1) x h=some (v',h')∧fw h' A' e v' (who::reads)∧Ext h h'∧(A'=B∨A'=h.size):=by
 have hG:=zh
 by_cases hr:reads=[]
 ·subst hr
  obtain ⟨news,s1,s2⟩:=tk (A:=h.size) (by decide) f (fun cs y hr=>hr)
  refine ⟨_,h,B,?_,⟨1,rfl,.inl ⟨by omega,Nat.le_refl _⟩,q⟩,Ext.refl h,.inl rfl⟩
  unfold hZ
  simp only [hd,hi,s1,Option.bind_some]
  rfl
 ·have hp:0 < reads.length:=List.length_pos_iff.2 hr
  obtain ⟨news,s1,s2⟩:=tk (A:=h.size) (by decide) f (fun cs y hr=>hr)
  rw [UT (Nat.le_refl _)] at s2
  have f1:Sl aJ.str h (.slice (some ⟨B,0,none⟩) [who].length [who].length) [who]:=fw.sl ⟨1,rfl,.inl ⟨by omega,Nat.le_refl _⟩,q⟩ (by simp only [List.length_cons,List.length_nil];omega)
  obtain ⟨v',h',e1,e2,e3⟩:=zyB (h0:=h) hd hi rfl (by decide) (Nat.le_refl _) f1 s1 s2 hp (by
   have:([who].length+reads.length)*bytes≤901*1000:=Nat.mul_le_mul (by simp only [List.length_cons,List.length_nil];omega) tL
   omega) (by simp only [List.length_cons,List.length_nil];omega)
  exact ⟨v',h',h.size,e1,e2.Hk (by simp) (by simp only [List.length_append,List.length_cons,List.length_nil];omega),e3,.inr rfl⟩
/-! ### Members -/
def uN (l:List aZ) (who:ByteArray):List ByteArray:=match l.find? (fun c=>decide (c.who=who)) with
 |some c=>c.reads
 |none=>[]
def vC (ps:List ByteArray) (l:List aZ):Prop:=(∀ (i k:Nat) (c e:aZ),l[i]? = some c→l[k]? = some e→c.who=e.who→i=k)∧∀ c∈l,c.who∈ps∧c.reads.Nodup∧(∀ x∈c.reads,x∈ps∧x≠c.who)
theorem zoJ {ps:List ByteArray} {l:List aZ} {who:ByteArray} (h:vC ps l):(uN l who).Nodup∧∀ x∈uN l who,x∈ps∧x≠who:=by
 unfold uN
 cases hf:l.find? (fun c=>decide (c.who=who)) with
 |none=>simp
 |some c =>
  have h1:=List.mem_of_find?_eq_some hf
  have h2:=List.find?_some hf
  have h3:c.who=who:=of_decide_eq_true h2
  obtain ⟨_,g2,g3⟩:=h.2 c h1
  exact ⟨g2,fun x hx=>⟨(g3 x hx).1,h3 ▸ (g3 x hx).2⟩⟩
theorem zoI {l:List aZ} {who:ByteArray} {n:Nat} (h:∀ c∈l,c.reads.length≤n):(uN l who).length≤n:=by
 unfold uN
 cases hf:l.find? (fun c=>decide (c.who=who)) with
 |none=>simp
 |some c=>exact h c (List.mem_of_find?_eq_some hf)
theorem zty (l:List aZ) (who:ByteArray):(∃ (i:Nat) (c:aZ),j4 (fun c:aZ=>decide (c.who=who)) l=i∧l[i]? = some c∧uN l who=c.reads)∨(j4 (fun c:aZ=>decide (c.who=who)) l = -1∧uN l who=[]):=by
 cases hf:l.find? (fun c=>decide (c.who=who)) with
 |none =>
  refine .inr ⟨JX (fun y hy=>?_),by unfold uN;rw [hf]⟩
  have:=List.find?_eq_none.1 hf y hy
  simpa using this
 |some c =>
  obtain ⟨h1,us,ws,rfl,h2⟩:=List.find?_eq_some_iff_append.1 hf
  refine .inl ⟨us.length,c,JQ (x:=c) (by simp) (fun y hy=>?_) h1,by simp,by unfold uN;rw [hf]⟩
  rw [List.take_left] at hy
  simpa using h2 y hy
def uG (d:au) (who:ByteArray):List ByteArray:=ES (who::uN d.aF who)
theorem Rh (d:au) (who:ByteArray):(uG d who).length=1+(uN d.aF who).length:=by
 unfold uG
 rw [Rn,List.length_cons,Nat.add_comm]
theorem pn {d:au} {who x:ByteArray}:x∈uG d who↔x=who∨x∈uN d.aF who:=by
 unfold uG
 rw [(zlx _).mem_iff,List.mem_cons]
theorem FF {d:au} {who:ByteArray} (h:vC d.ah d.aF):(uG d who).Nodup:=by
 unfold uG
 obtain ⟨h1,h2⟩:=zoJ (who:=who) h
 refine (zlx _).nodup_iff.2 (List.nodup_cons.2 ⟨fun hm=>(h2 who hm).2 rfl,h1⟩)
def LV (h:Heap) (v:Value) (d:au):Prop:=∃ p0 p1 p2 p5 p6 q b,v=gi p0 p1 p2 p5 p6 q b∧dD h p0 p1 p2 p5 p6 d
end Go.Am

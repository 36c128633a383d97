/- Policies: data, their cells. No condition. -/
import Derived.Test.YtkgojconmeeegaaGreatDoorG13
set_option linter.unusedSimpArgs false
set_option linter.unusedVariables false
namespace Go.Am
variable {b x y:ae}
structure cX where
 name:aB
 arity:Int
structure bB where
 who:aB
 reads:List aB
structure eX where
 «to»:aB
 head:ak
 body:aW
structure aw where
 ah:List aB
 cp:List cX
 aU:List bB
 iO:Int
 fE:Int
 rules:List cz
 bO:List eX
abbrev aJ.pred:aJ cX:={ k:=2,R:=λ_ cs x=>cs=[.string x.name,.int .i64 x.arity],len:=by rintro _ _ _ rfl;rfl,mono:=λ_ _ _ _ _ h=>h,i9:=by rintro _ _ _ rfl;rfl }
abbrev aJ.clear:aJ bB :=
 { k:=2,R:=λh cs x=>∃ v,cs=[.string x.who,v]/\Sl aJ.str h v x.reads
   len:=by rintro h cs x ⟨v,rfl,_⟩;rfl
   mono:=by rintro h h' cs x i ⟨v,e,f⟩;exact ⟨v,e,f.mono i⟩
   i9:=by rintro h cs x ⟨v,rfl,f⟩;have:=f.one;simp only [gL,ij,this];rfl }
abbrev aJ.q9:aJ eX :=
 { k:=13,R:=λh cs x=>∃ v,cs=.string x.to::(x.head.cells++[v])/\Sl aJ.atom h v x.body
   len:=by rintro h cs x ⟨v,rfl,_⟩;rfl
   mono:=by rintro h h' cs x i ⟨v,e,f⟩;exact ⟨v,e,f.mono i⟩
   i9:=by rintro h cs x ⟨v,rfl,f⟩;have:=f.one;simp only [List.all_append,ak.cells,gL,ij,this];rfl }
def dw (p0 p1 p2 p5 p6:ae) (q b:Int):List ae:=[p0,p1,p2,.int .i64 q,.int .i64 b,p5,p6]
def gC (p0 p1 p2 p5 p6:ae) (q b:Int):ae:=.agg ⟨dw p0 p1 p2 p5 p6 q b⟩
structure ej (h:Heap) (p0 p1 p2 p5 p6:ae) (d:aw):Prop where
 s0:Sl aJ.str h p0 d.ah
 s1:Sl aJ.pred h p1 d.cp
 s2:Sl aJ.clear h p2 d.aU
 s5:Sl aJ.clause h p5 d.rules
 s6:Sl aJ.q9 h p6 d.bO
theorem ej.mono {h h':Heap} {p0 p1 p2 p5 p6:ae} {d:aw} (f:ej h p0 p1 p2 p5 p6 d) (i:b8 h h'):ej h' p0 p1 p2 p5 p6 d:=⟨f.s0.mono i,f.s1.mono i,f.s2.mono i,f.s5.mono i,f.s6.mono i⟩
theorem ej.lay {h:Heap} {p0 p1 p2 p5 p6:ae} {d:aw} (f:ej h p0 p1 p2 p5 p6 d) (bs:List bh) (w:Nat):ej (h.lay bs w) p0 p1 p2 p5 p6 d:=f.mono (b8.lay h bs w)
theorem ej.over {h1 h2:Heap} {bs:List bh} {w:Nat} {p0 p1 p2 p5 p6:ae} {d:aw} (f:ej h1 p0 p1 p2 p5 p6 d) (x:Ext (h1.lay bs w) h2):ej h2 p0 p1 p2 p5 p6 d:=f.mono x.inc.qd
theorem ej.one {h:Heap} {p0 p1 p2 p5 p6:ae} {d:aw} (f:ej h p0 p1 p2 p5 p6 d) (q b:Int):(dw p0 p1 p2 p5 p6 q b).all Am.one=true:=by
 have h0:=f.s0.one
 have h1:=f.s1.one
 have h2:=f.s2.one
 have h5:=f.s5.one
 have h6:=f.s6.one
 simp only [dw,gL,ij,h0,h1,h2,h5,h6]
 rfl
theorem fN (p0 p1 p2 p5 p6:ae) (q b:Int):cut (dw p0 p1 p2 p5 p6 q b) 0 7=some (dw p0 p1 p2 p5 p6 q b):=rfl
theorem k6 (p0 p1 p2 p5 p6:ae) (q b:Int):(dw p0 p1 p2 p5 p6 q b)[0]? = some p0:=rfl
theorem lU (p0 p1 p2 p5 p6:ae) (q b:Int):(dw p0 p1 p2 p5 p6 q b)[1]? = some p1:=rfl
theorem oO (p0 p1 p2 p5 p6:ae) (q b:Int):(dw p0 p1 p2 p5 p6 q b)[2]? = some p2:=rfl
theorem Ha (p0 p1 p2 p5 p6:ae) (q b:Int):(dw p0 p1 p2 p5 p6 q b)[3]? = some (.int .i64 q):=rfl
theorem OS (p0 p1 p2 p5 p6:ae) (q b:Int):(dw p0 p1 p2 p5 p6 q b)[4]? = some (.int .i64 b):=rfl
theorem oP (p0 p1 p2 p5 p6:ae) (q b:Int):(dw p0 p1 p2 p5 p6 q b)[5]? = some p5:=rfl
theorem qe (p0 p1 p2 p5 p6:ae) (q b:Int):(dw p0 p1 p2 p5 p6 q b)[6]? = some p6:=rfl
theorem fw (p0 p1 p2 p5 p6:ae) (q b:Int):Value.agg (dw p0 p1 p2 p5 p6 q b).toArray=gC p0 p1 p2 p5 p6 q b:=rfl
theorem jG (p0 p1 p2 p5 p6:ae) (q b:Int):(gC p0 p1 p2 p5 p6 q b).cells.toList=dw p0 p1 p2 p5 p6 q b:=rfl
theorem eU (p0 p1 p2 p5 p6:ae) (q b:Int) (h:Heap) (K:aG):aD (some (gC p0 p1 p2 p5 p6 q b)) h K=K (gC p0 p1 p2 p5 p6 q b) h:=rfl
section
variable {h1:Heap} {bs:List bh} {w:Nat} {T:bL} {K:aG} {t e s:TypeId} {v p:ae} {kd:IntKind} {i:Int}
theorem Sv {l:List cX} {x:cX} (f:Sl aJ.pred h1 v l) (hd:T.desc t=some (.slice e)) (hs:cN T e=some 2) (h0:0<=i) (hx:l[i.toNat]? = some x) (hk:∀ p,ei h1 p [.string x.name,.int .i64 x.arity]->K p (h1.lay bs w)):aD (jF T t v (.int kd i)) (h1.lay bs w) K:=by
 have hi:=(dz.1 hx).1
 refine zt f hd hs h0 (by omega) (λx' p cs kW hr hp=>?_)
 rw [hx] at kW
 cases kW
 exact hk p (hr ▸ hp)
theorem CU {l:List bB} {x:bB} (f:Sl aJ.clear h1 v l) (hd:T.desc t=some (.slice e)) (hs:cN T e=some 2) (h0:0<=i) (hx:l[i.toNat]? = some x) (hk:∀ p b,Sl aJ.str h1 b x.reads->ei h1 p [.string x.who,b]->K p (h1.lay bs w)):aD (jF T t v (.int kd i)) (h1.lay bs w) K:=by
 have hi:=(dz.1 hx).1
 refine zt f hd hs h0 (by omega) (λx' p cs kW hr hp=>?_)
 rw [hx] at kW
 cases kW
 obtain ⟨b,rfl,hb⟩:=hr
 exact hk p b hb hp
theorem Vc {l:List eX} {x:eX} (f:Sl aJ.q9 h1 v l) (hd:T.desc t=some (.slice e)) (hs:cN T e=some 13) (h0:0<=i) (hx:l[i.toNat]? = some x) (hk:∀ p b,Sl aJ.atom h1 b x.body->ei h1 p (.string x.to::(x.head.cells++[b]))->K p (h1.lay bs w)):aD (jF T t v (.int kd i)) (h1.lay bs w) K:=by
 have hi:=(dz.1 hx).1
 refine zt f hd hs h0 (by omega) (λx' p cs kW hr hp=>?_)
 rw [hx] at kW
 cases kW
 obtain ⟨b,rfl,hb⟩:=hr
 exact hk p b hb hp
theorem xO (f:ei h1 p [x,y]) (iX:∀ A o,fU T s (.pointer (some ⟨A,o,none⟩)) 0=some (.pointer (some ⟨A,o+0,none⟩))) (hk:∀ q,ei h1 q [x]->K q (h1.lay bs w)):aD (fU T s p 0) (h1.lay bs w) K:=qZ (ds:=[x]) f iX rfl (se _) hk
theorem FG (f:ei h1 p [x,y]) (iX:∀ A o,fU T s (.pointer (some ⟨A,o,none⟩)) 1=some (.pointer (some ⟨A,o+1,none⟩))) (hk:∀ q,ei h1 q [y]->K q (h1.lay bs w)):aD (fU T s p 1) (h1.lay bs w) K:=qZ (ds:=[y]) f iX rfl (se _) hk
theorem Wb {x:eX} (f:ei h1 p (.string x.to::(x.head.cells++[b]))) (iX:∀ A o,fU T s (.pointer (some ⟨A,o,none⟩)) 0=some (.pointer (some ⟨A,o+0,none⟩))) (hk:∀ q,ei h1 q [.string x.to]->K q (h1.lay bs w)):aD (fU T s p 0) (h1.lay bs w) K:=qZ (ds:=[.string x.to]) f iX rfl (se _) hk
theorem Wc {x:eX} (f:ei h1 p (.string x.to::(x.head.cells++[b]))) (iX:∀ A o,fU T s (.pointer (some ⟨A,o,none⟩)) 1=some (.pointer (some ⟨A,o+1,none⟩))) (hk:∀ q,ei h1 q x.head.cells->K q (h1.lay bs w)):aD (fU T s p 1) (h1.lay bs w) K:=qZ (ds:=x.head.cells) f iX rfl (se _) hk
theorem Wd {x:eX} (f:ei h1 p (.string x.to::(x.head.cells++[b]))) (iX:∀ A o,fU T s (.pointer (some ⟨A,o,none⟩)) 2=some (.pointer (some ⟨A,o+12,none⟩))) (hk:∀ q,ei h1 q [b]->K q (h1.lay bs w)):aD (fU T s p 2) (h1.lay bs w) K:=qZ (ds:=[b]) f iX rfl (se _) hk
theorem G7 (f:ei h1 p [x,y]) (hg:ct T t=some true) (hs:cN T t=some 2) (hk:K (.agg ⟨[x,y]⟩) (h1.lay bs w)):aD (fW T t p (h1.lay bs w)) (h1.lay bs w) K:=JN f hg hs rfl hk
theorem ldG {x:eX} (f:ei h1 p (.string x.to::(x.head.cells++[b]))) (hg:ct T t=some true) (hs:cN T t=some 13) (hk:K (.agg ⟨.string x.to::(x.head.cells++[b])⟩) (h1.lay bs w)):aD (fW T t p (h1.lay bs w)) (h1.lay bs w) K:=JN f hg hs rfl hk
end
end Go.Am
namespace Go.Am
open Go.Proofs
variable {l:List aB} {v:ae} {e:TypeId} {A:Nat} {h:Heap} {who:aB}
def fD (h:Heap) (A:Nat) (e:TypeId) (v:ae) (l:List aB):Prop:=∃ c,v=.slice (some ⟨A,0,none⟩) l.length c/\zCb 1 l.length c/\Holds h A (.row (l.map Value.string) e false)
theorem fD.sl (f:fD h A e v l) (hn:l.length<=1000):Sl aJ.str h v l:=by
 obtain ⟨c,rfl,hc,q⟩:=f
 have hM:(1000:Nat)<=maxLen:=by decide
 refine .inr ⟨A,0,c,l.map Value.string,e,false,rfl,by omega,hc,q.lt,q.get,λi x hx=>⟨[.string x],?_,rfl⟩⟩
 have hi:=(dz.1 hx).1
 show cut (l.map Value.string) (0+i*1) 1=_
 rw [iu,Dg]
 unfold cut
 rw [aE (by rw [fV];omega),<- List.map_drop,<- List.map_take,C0 hi]
 simp only [R1,zP,mZ,List.map_nil]
 rw [(dz.1 hx).2]
theorem zp6 {row:List ae} (hr:row.length=l.length) (h:∀ (i:Nat) (x:aB),l[i]? = some x->∃ cs,cut row (i*1) 1=some cs/\cs=[.string x]):row=l.map Value.string:=by
 apply r8
 intro i
 by_cases hi:i < l.length
 .obtain ⟨cs,h1,rfl⟩:=h i _ (gI hi)
  rw [Dg] at h1
  unfold cut at h1
  split at h1
  .rw [C0 (by omega)] at h1
   simp only [R1,zP,dY,List.cons.injEq,and_true] at h1
   rw [gI (by omega),h1,lB,gI hi]
   rfl
  .cases h1
 .rw [H5 (by omega),H5 (by rw [fV];omega)]
theorem Ow.Hh {h0:Heap} (f:Ow aJ.str h0 h e A v l) (hl:l≠[]) (hn:l.length<=1000):fD h A e v l:=by
 rcases f with ⟨_,f,_⟩|⟨row,rfl,_,f0,f1,f2,f3,f4,f5⟩
 .exact absurd f hl
 .have hr:row=l.map Value.string:=zp6 (by rw [f3];exact Dg _) f5
  subst hr
  have hG:=AJ
  obtain ⟨d1,d2,d3⟩:=CK (k:=1) (q:=l.length) (by decide) (by omega)
  exact ⟨_,rfl,.inr ⟨d1,d2,by rw [d3];exact bo _⟩,⟨f1,f2⟩⟩
theorem zql (xs:List aB):strs (xs.map Value.string)=some xs:=by
 induction xs with
 |nil=>rfl
 |cons x xs ih=>simp only [mZ,strs,ih,jZ]
theorem zow (q:Holds h A (.row (l.map Value.string) e false)):gS A 0 l.length h=some (l.map Value.string):=by
 unfold gS
 rw [q.get]
 simp only [cut,iu,fV,bo,if_true,zO]
 rw [fX (by rw [fV];omega)]
theorem zqB {m:List aB} (q:Holds h A (.row (l.map Value.string) e false)) (hm:m.length=l.length) :
 kH A 0 (m.map Value.string) h=some (h.set A (.row (m.map Value.string) e false)):=by
 unfold kH
 rw [q.get]
 simp only
 have h1:(m.map Value.string).all one=true:=by rw [List.all_map];exact gK.2 (λ_ _=>rfl)
 have h2:aF (l.map Value.string) 0 (m.map Value.string)=m.map Value.string:=by
  unfold aF
  rw [zP,qu,List.drop_eq_nil_of_le (by simp [hm]),bu]
 rw [h1,h2,aE (by simp [hm])]
theorem zs0 {b:bh} (hA:A < h.size):fB A h (h.set A b):=⟨by rw [Heap.size_set];exact bo _,λB hB ba=>by rw [Heap.aR _ _ _ _ hA,az ba],by rw [Heap.bX];omega⟩
theorem zlB {b:bh} (hA:A < h.size):Holds (h.set A b) A b:=⟨by rw [Heap.size_set];exact hA,by rw [Heap.aR _ _ _ _ hA,aE rfl]⟩
theorem zkc (f:fD h A e v l) (hl:l≠[]) (hn:l.length<=1000):∃ h',H4 [v] h=some (.tuple #[],h')/\fD h' A e v (AM l)/\fB A h h':=by
 obtain ⟨c,rfl,hc,q⟩:=f
 have ba:l.length≠0:=λe=>hl (zG.1 e)
 have aP:=Q7 l
 refine ⟨_,?_,⟨c,by rw [aP],by rw [aP];exact hc,zlB q.lt⟩,zs0 q.lt⟩
 unfold H4
 simp only [az ba,zow q,dX,zql]
 rw [aE (by omega),zqB q aP]
 rfl
theorem zrd {xs:List aB} (h:xs.Nodup):zI xs=xs:=by
 unfold zI
 have hx:(xs.map (·.data.toList)).Nodup:=by
  refine List.Pairwise.map _ ?_ h
  intro a b xY e
  exact xY (AF e)
 have e1:Lib.compact (xs.map (·.data.toList))=xs.map (·.data.toList):=by
  refine Lib.compact_all _ ?_
  intro j hj
  unfold Lib.keeps
  rw [decide_eq_true_iff]
  by_cases h0:j=0
  .exact .inl h0
  .refine .inr (λe=>?_)
   rw [fV] at hj
   have h1:(xs.map (·.data.toList)).toArray[j]! = (xs.map (·.data.toList))[j]'(by rw [fV];omega):=by simp [hj]
   have h2:(xs.map (·.data.toList)).toArray[j - 1]! = (xs.map (·.data.toList))[j - 1]'(by rw [fV];omega):=by simp [show j - 1 < xs.length by omega]
   rw [h1,h2] at e
   have:=(List.getElem_inj hx).1 e
   omega
 rw [e1,Ij]
 have e:(λl:List UInt8=>(⟨l.toArray⟩:aB))∘(λx:aB=>x.data.toList)=id:=by
  funext x
  exact AF (by simp)
 rw [e,List.map_id]
theorem zjg (f:fD h A e v l) (hl:l≠[]) (hn:l.length<=1000) (hd:l.Nodup):∃ h',HU [v] h=some (v,h')/\fD h' A e v l/\fB A h h':=by
 obtain ⟨c,rfl,hc,q⟩:=f
 have ba:l.length≠0:=λe=>hl (zG.1 e)
 have mS:=zrd hd
 have lL:Ic l=l:=by unfold Ic;rw [mS,Df,List.replicate_zero,bu]
 refine ⟨_,?_,⟨c,rfl,hc,zlB q.lt⟩,zs0 q.lt⟩
 unfold HU
 simp only [az ba,zow q,dX,zql]
 rw [mS,lL,aE ⟨by omega,bo _⟩,zqB q rfl]
 rfl
theorem zBU {T:bL} {t:TypeId} {bytes:Nat} {z:List ae} (hd:T.desc t=some (.slice e)) (hi:T.info e=some (1,bytes,z)) (vq:bytes<=1000) {B:Nat} {x:ae} {reads:List aB} (q:Holds h B (.row [.string who] e false)) (f:Sl aJ.str h x reads) (hn:reads.length<=900) :
 ∃ v' h' A',iP T t (.slice (some ⟨B,0,none⟩) 1 1) x h=some (v',h')/\fD h' A' e v' (who::reads)/\Ext h h'/\(A'=B\/A'=h.size):=by
 have hG:=AJ
 by_cases hr:reads=[]
 .subst hr
  obtain ⟨news,s1,s2⟩:=rX (A:=h.size) (by decide) f (λcs y hr=>hr)
  refine ⟨_,h,B,?_,⟨1,rfl,.inl ⟨by omega,bo _⟩,q⟩,Ext.refl h,.inl rfl⟩
  unfold iP
  simp only [hd,hi,s1,dX]
  rfl
 .have hp:0 < reads.length:=List.length_pos_iff.2 hr
  obtain ⟨news,s1,s2⟩:=rX (A:=h.size) (by decide) f (λcs y hr=>hr)
  rw [UT (bo _)] at s2
  have f1:Sl aJ.str h (.slice (some ⟨B,0,none⟩) [who].length [who].length) [who]:=fD.sl ⟨1,rfl,.inl ⟨by omega,bo _⟩,q⟩ (by simp only [de,dr];omega)
  obtain ⟨v',h',e1,e2,e3⟩:=zsT (h0:=h) hd hi rfl (by decide) (bo _) f1 s1 s2 hp (by
   have:([who].length+reads.length)*bytes<=901*1000:=J8 (by simp only [de,dr];omega) vq
   omega) (by simp only [de,dr];omega)
  exact ⟨v',h',h.size,e1,e2.Hh (by simp) (by simp only [cW,de,dr];omega),e3,.inr rfl⟩
def wg (l:List bB) (who:aB):List aB:=match l.find? (λc=>decide (c.who=who)) with
 |some c=>c.reads
 |none=>[]
def CI (ps:List aB) (l:List bB):Prop:=(∀ (i k:Nat) (c e:bB),l[i]? = some c->l[k]? = some e->c.who=e.who->i=k)/\∀ c∈l,c.who∈ps/\c.reads.Nodup/\(∀ x∈c.reads,x∈ps/\x≠c.who)
theorem zp0 {ps:List aB} {l:List bB} (h:CI ps l):(wg l who).Nodup/\∀ x∈wg l who,x∈ps/\x≠who:=by
 unfold wg
 cases hf:l.find? (λc=>decide (c.who=who)) with
 |none=>simp
 |some c =>
  have h1:=List.mem_of_find?_eq_some hf
  have h2:=List.find?_some hf
  have h3:c.who=who:=of_decide_eq_true h2
  obtain ⟨_,g2,g3⟩:=h.2 c h1
  exact ⟨g2,λx hx=>⟨(g3 x hx).1,h3 ▸ (g3 x hx).2⟩⟩
theorem zpZ {l:List bB} {n:Nat} (h:∀ c∈l,c.reads.length<=n):(wg l who).length<=n:=by
 unfold wg
 cases hf:l.find? (λc=>decide (c.who=who)) with
 |none=>simp
 |some c=>exact h c (List.mem_of_find?_eq_some hf)
theorem zvy (l:List bB) (who:aB):(∃ (i:Nat) (c:bB),jz (λc:bB=>decide (c.who=who)) l=i/\l[i]? = some c/\wg l who=c.reads)\/(jz (λc:bB=>decide (c.who=who)) l = -1/\wg l who=[]):=by
 cases hf:l.find? (λc=>decide (c.who=who)) with
 |none =>
  refine .inr ⟨HC (λy hy=>?_),by unfold wg;rw [hf]⟩
  have:=List.find?_eq_none.1 hf y hy
  simpa using this
 |some c =>
  obtain ⟨h1,us,ws,rfl,h2⟩:=List.find?_eq_some_iff_append.1 hf
  refine .inl ⟨us.length,c,Hw (x:=c) (by simp) (λy hy=>?_) h1,by simp,by unfold wg;rw [hf]⟩
  rw [List.take_left] at hy
  simpa using h2 y hy
def vY (d:aw) (who:aB):List aB:=AM (who::wg d.aU who)
theorem I8 (d:aw) (who:aB):(vY d who).length=1+(wg d.aU who).length:=by
 unfold vY
 rw [Q7,de,Nat.add_comm]
theorem qc {d:aw} {x:aB}:x∈vY d who↔x=who\/x∈wg d.aU who:=by
 unfold vY
 rw [(zlU _).mem_iff,dG]
theorem zer {d:aw} (h:CI d.ah d.aU):(vY d who).Nodup:=by
 unfold vY
 obtain ⟨h1,h2⟩:=zp0 (who:=who) h
 refine (zlU _).nodup_iff.2 (AV.2 ⟨λhm=>(h2 who hm).2 rfl,h1⟩)
def L3 (h:Heap) (v:ae) (d:aw):Prop:=∃ p0 p1 p2 p5 p6 q b,v=gC p0 p1 p2 p5 p6 q b/\ej h p0 p1 p2 p5 p6 d
end Go.Am

/- Policies: data, their cells. No condition. -/
import Derived.Test.YtiapegieocgmfaaGreatDoorG14
set_option linter.unusedSimpArgs false
set_option linter.unusedVariables false
namespace Go.Am
variable {b x y:ab}
structure da where
 name:au
 arity:Int
structure bz where
 who:au
 reads:List au
structure eZ where
 «to»:au
 head:ak
 body:aS
structure aq where
 ah:List au
 bZ:List da
 aR:List bz
 i6:Int
 fE:Int
 rules:List cB
 bK:List eZ
abbrev aM.pred:aM da:={ k:=2,R:=λ_ cs x=>cs=[.string x.name,.int .i64 x.arity],len:=by rintro _ _ _ rfl;rfl,mono:=λ_ _ _ _ _ h=>h,jf:=by rintro _ _ _ rfl;rfl }
abbrev aM.clear:aM bz :=
 { k:=2,R:=λh cs x=>∃ v,cs=[.string x.who,v]/\Sl aM.str h v x.reads
   len:=by rintro h cs x ⟨v,rfl,_⟩;rfl
   mono:=by rintro h h' cs x i ⟨v,e,f⟩;exact ⟨v,e,f.mono i⟩
   jf:=by rintro h cs x ⟨v,rfl,f⟩;have:=f.one;simp only [nU,oX,this];rfl }
abbrev aM.qW:aM eZ :=
 { k:=13,R:=λh cs x=>∃ v,cs=.string x.to::(x.head.cells++[v])/\Sl aM.atom h v x.body
   len:=by rintro h cs x ⟨v,rfl,_⟩;rfl
   mono:=by rintro h h' cs x i ⟨v,e,f⟩;exact ⟨v,e,f.mono i⟩
   jf:=by rintro h cs x ⟨v,rfl,f⟩;have:=f.one;simp only [List.all_append,ak.cells,nU,oX,this];rfl }
def du (p0 p1 p2 p5 p6:ab) (q b:Int):List ab:=[p0,p1,p2,.int .i64 q,.int .i64 b,p5,p6]
def fI (p0 p1 p2 p5 p6:ab) (q b:Int):ab:=.agg ⟨du p0 p1 p2 p5 p6 q b⟩
structure dR (h:Heap) (p0 p1 p2 p5 p6:ab) (d:aq):Prop where
 s0:Sl aM.str h p0 d.ah
 s1:Sl aM.pred h p1 d.bZ
 s2:Sl aM.clear h p2 d.aR
 s5:Sl aM.clause h p5 d.rules
 s6:Sl aM.qW h p6 d.bK
theorem dR.mono {h h':Heap} {p0 p1 p2 p5 p6:ab} {d:aq} (f:dR h p0 p1 p2 p5 p6 d) (i:bL h h'):dR h' p0 p1 p2 p5 p6 d:=⟨f.s0.mono i,f.s1.mono i,f.s2.mono i,f.s5.mono i,f.s6.mono i⟩
theorem dR.lay {h:Heap} {p0 p1 p2 p5 p6:ab} {d:aq} (f:dR h p0 p1 p2 p5 p6 d) (bs:List ba) (w:Nat):dR (h.lay bs w) p0 p1 p2 p5 p6 d:=f.mono (bL.lay h bs w)
theorem dR.over {h1 h2:Heap} {bs:List ba} {w:Nat} {p0 p1 p2 p5 p6:ab} {d:aq} (f:dR h1 p0 p1 p2 p5 p6 d) (x:Ext (h1.lay bs w) h2):dR h2 p0 p1 p2 p5 p6 d:=f.mono x.inc.kJ
theorem dR.one {h:Heap} {p0 p1 p2 p5 p6:ab} {d:aq} (f:dR h p0 p1 p2 p5 p6 d) (q b:Int):(du p0 p1 p2 p5 p6 q b).all Am.one=true:=by
 have h0:=f.s0.one
 have h1:=f.s1.one
 have h2:=f.s2.one
 have h5:=f.s5.one
 have h6:=f.s6.one
 simp only [du,nU,oX,h0,h1,h2,h5,h6]
 rfl
theorem fA (p0 p1 p2 p5 p6:ab) (q b:Int):cut (du p0 p1 p2 p5 p6 q b) 0 7=some (du p0 p1 p2 p5 p6 q b):=rfl
theorem eM (p0 p1 p2 p5 p6:ab) (q b:Int):(du p0 p1 p2 p5 p6 q b)[0]? = some p0:=rfl
theorem ft (p0 p1 p2 p5 p6:ab) (q b:Int):(du p0 p1 p2 p5 p6 q b)[1]? = some p1:=rfl
theorem fN (p0 p1 p2 p5 p6:ab) (q b:Int):(du p0 p1 p2 p5 p6 q b)[2]? = some p2:=rfl
theorem G4 (p0 p1 p2 p5 p6:ab) (q b:Int):(du p0 p1 p2 p5 p6 q b)[3]? = some (.int .i64 q):=rfl
theorem N4 (p0 p1 p2 p5 p6:ab) (q b:Int):(du p0 p1 p2 p5 p6 q b)[4]? = some (.int .i64 b):=rfl
theorem gY (p0 p1 p2 p5 p6:ab) (q b:Int):(du p0 p1 p2 p5 p6 q b)[5]? = some p5:=rfl
theorem iw (p0 p1 p2 p5 p6:ab) (q b:Int):(du p0 p1 p2 p5 p6 q b)[6]? = some p6:=rfl
theorem eV (p0 p1 p2 p5 p6:ab) (q b:Int):Value.agg (du p0 p1 p2 p5 p6 q b).toArray=fI p0 p1 p2 p5 p6 q b:=rfl
theorem gZ (p0 p1 p2 p5 p6:ab) (q b:Int):(fI p0 p1 p2 p5 p6 q b).cells.toList=du p0 p1 p2 p5 p6 q b:=rfl
theorem eI (p0 p1 p2 p5 p6:ab) (q b:Int) (h:Heap) (K:aF):aC (some (fI p0 p1 p2 p5 p6 q b)) h K=K (fI p0 p1 p2 p5 p6 q b) h:=rfl
section
variable {h1:Heap} {bs:List ba} {w:Nat} {T:bI} {K:aF} {t e s:TypeId} {v p:ab} {kd:IntKind} {i:Int}
theorem Q4 {l:List da} {x:da} (f:Sl aM.pred h1 v l) (hd:T.desc t=some (.slice e)) (hs:dg T e=some 2) (h0:0<=i) (hx:l[i.toNat]? = some x) (hk:∀ p,eF h1 p [.string x.name,.int .i64 x.arity]->K p (h1.lay bs w)):aC (kh T t v (.int kd i)) (h1.lay bs w) K:=by
 have hi:=(dP.1 hx).1
 refine AB f hd hs h0 (by omega) (λx' p cs mF hr hp=>?_)
 rw [hx] at mF
 cases mF
 exact hk p (hr ▸ hp)
theorem CD {l:List bz} {x:bz} (f:Sl aM.clear h1 v l) (hd:T.desc t=some (.slice e)) (hs:dg T e=some 2) (h0:0<=i) (hx:l[i.toNat]? = some x) (hk:∀ p b,Sl aM.str h1 b x.reads->eF h1 p [.string x.who,b]->K p (h1.lay bs w)):aC (kh T t v (.int kd i)) (h1.lay bs w) K:=by
 have hi:=(dP.1 hx).1
 refine AB f hd hs h0 (by omega) (λx' p cs mF hr hp=>?_)
 rw [hx] at mF
 cases mF
 obtain ⟨b,rfl,hb⟩:=hr
 exact hk p b hb hp
theorem Ud {l:List eZ} {x:eZ} (f:Sl aM.qW h1 v l) (hd:T.desc t=some (.slice e)) (hs:dg T e=some 13) (h0:0<=i) (hx:l[i.toNat]? = some x) (hk:∀ p b,Sl aM.atom h1 b x.body->eF h1 p (.string x.to::(x.head.cells++[b]))->K p (h1.lay bs w)):aC (kh T t v (.int kd i)) (h1.lay bs w) K:=by
 have hi:=(dP.1 hx).1
 refine AB f hd hs h0 (by omega) (λx' p cs mF hr hp=>?_)
 rw [hx] at mF
 cases mF
 obtain ⟨b,rfl,hb⟩:=hr
 exact hk p b hb hp
theorem xS (f:eF h1 p [x,y]) (lg:∀ A o,iS T s (.pointer (some ⟨A,o,none⟩)) 0=some (.pointer (some ⟨A,o+0,none⟩))) (hk:∀ q,eF h1 q [x]->K q (h1.lay bs w)):aC (iS T s p 0) (h1.lay bs w) K:=wE (ds:=[x]) f lg rfl (xC _) hk
theorem Fq (f:eF h1 p [x,y]) (lg:∀ A o,iS T s (.pointer (some ⟨A,o,none⟩)) 1=some (.pointer (some ⟨A,o+1,none⟩))) (hk:∀ q,eF h1 q [y]->K q (h1.lay bs w)):aC (iS T s p 1) (h1.lay bs w) K:=wE (ds:=[y]) f lg rfl (xC _) hk
theorem Vf {x:eZ} (f:eF h1 p (.string x.to::(x.head.cells++[b]))) (lg:∀ A o,iS T s (.pointer (some ⟨A,o,none⟩)) 0=some (.pointer (some ⟨A,o+0,none⟩))) (hk:∀ q,eF h1 q [.string x.to]->K q (h1.lay bs w)):aC (iS T s p 0) (h1.lay bs w) K:=wE (ds:=[.string x.to]) f lg rfl (xC _) hk
theorem Vg {x:eZ} (f:eF h1 p (.string x.to::(x.head.cells++[b]))) (lg:∀ A o,iS T s (.pointer (some ⟨A,o,none⟩)) 1=some (.pointer (some ⟨A,o+1,none⟩))) (hk:∀ q,eF h1 q x.head.cells->K q (h1.lay bs w)):aC (iS T s p 1) (h1.lay bs w) K:=wE (ds:=x.head.cells) f lg rfl (xC _) hk
theorem Vh {x:eZ} (f:eF h1 p (.string x.to::(x.head.cells++[b]))) (lg:∀ A o,iS T s (.pointer (some ⟨A,o,none⟩)) 2=some (.pointer (some ⟨A,o+12,none⟩))) (hk:∀ q,eF h1 q [b]->K q (h1.lay bs w)):aC (iS T s p 2) (h1.lay bs w) K:=wE (ds:=[b]) f lg rfl (xC _) hk
theorem GY (f:eF h1 p [x,y]) (hg:cN T t=some true) (hs:dg T t=some 2) (hk:K (.agg ⟨[x,y]⟩) (h1.lay bs w)):aC (iD T t p (h1.lay bs w)) (h1.lay bs w) K:=Q7 f hg hs rfl hk
theorem ldG {x:eZ} (f:eF h1 p (.string x.to::(x.head.cells++[b]))) (hg:cN T t=some true) (hs:dg T t=some 13) (hk:K (.agg ⟨.string x.to::(x.head.cells++[b])⟩) (h1.lay bs w)):aC (iD T t p (h1.lay bs w)) (h1.lay bs w) K:=Q7 f hg hs rfl hk
end
end Go.Am
namespace Go.Am
open Go.Proofs
variable {l:List au} {v:ab} {e:TypeId} {A:Nat} {h:Heap} {who:au}
def fD (h:Heap) (A:Nat) (e:TypeId) (v:ab) (l:List au):Prop:=∃ c,v=.slice (some ⟨A,0,none⟩) l.length c/\ZT 1 l.length c/\Holds h A (.row (l.map Value.string) e false)
theorem fD.sl (f:fD h A e v l) (hn:l.length<=1000):Sl aM.str h v l:=by
 obtain ⟨c,rfl,hc,q⟩:=f
 have hM:(1000:Nat)<=maxLen:=by decide
 refine .inr ⟨A,0,c,l.map Value.string,e,false,rfl,by omega,hc,q.lt,q.get,λi x hx=>⟨[.string x],?_,rfl⟩⟩
 have hi:=(dP.1 hx).1
 show cut (l.map Value.string) (0+i*1) 1=_
 rw [jo,CT]
 unfold cut
 rw [aE (by rw [gi];omega),<- List.map_drop,<- List.map_take,Eg hi]
 simp only [QT,xB,lD,List.map_nil]
 rw [(dP.1 hx).2]
theorem zpx {row:List ab} (hr:row.length=l.length) (h:∀ (i:Nat) (x:au),l[i]? = some x->∃ cs,cut row (i*1) 1=some cs/\cs=[.string x]):row=l.map Value.string:=by
 apply qN
 intro i
 by_cases hi:i < l.length
 .obtain ⟨cs,h1,rfl⟩:=h i _ (gF hi)
  rw [CT] at h1
  unfold cut at h1
  split at h1
  .rw [Eg (by omega)] at h1
   simp only [QT,xB,dO,List.cons.injEq,and_true] at h1
   rw [gF (by omega),h1,lC,gF hi]
   rfl
  .cases h1
 .rw [CH (by omega),CH (by rw [gi];omega)]
theorem Ow.Ha {h0:Heap} (f:Ow aM.str h0 h e A v l) (hl:l≠[]) (hn:l.length<=1000):fD h A e v l:=by
 rcases f with ⟨_,f,_⟩|⟨row,rfl,_,f0,f1,f2,f3,f4,f5⟩
 .exact absurd f hl
 .have hr:row=l.map Value.string:=zpx (by rw [f3];exact CT _) f5
  subst hr
  have hG:=wj
  obtain ⟨d1,d2,d3⟩:=xd (k:=1) (q:=l.length) (by decide) (by omega)
  exact ⟨_,rfl,.inr ⟨d1,d2,by rw [d3];exact bj _⟩,⟨f1,f2⟩⟩
theorem zpM (xs:List au):strs (xs.map Value.string)=some xs:=by
 induction xs with
 |nil=>rfl
 |cons x xs ih=>simp only [lD,strs,ih,jn]
theorem zoa (q:Holds h A (.row (l.map Value.string) e false)):gD A 0 l.length h=some (l.map Value.string):=by
 unfold gD
 rw [q.get]
 simp only [cut,jo,gi,bj,if_true,zM]
 rw [gE (by rw [gi];omega)]
theorem zpX {m:List au} (q:Holds h A (.row (l.map Value.string) e false)) (hm:m.length=l.length) :
 ki A 0 (m.map Value.string) h=some (h.set A (.row (m.map Value.string) e false)):=by
 unfold ki
 rw [q.get]
 simp only
 have h1:(m.map Value.string).all one=true:=by rw [List.all_map];exact iT.2 (λ_ _=>rfl)
 have h2:aB (l.map Value.string) 0 (m.map Value.string)=m.map Value.string:=by
  unfold aB
  rw [xB,pE,List.drop_eq_nil_of_le (by simp [hm]),bu]
 rw [h1,h2,aE (by simp [hm])]
theorem zr8 {b:ba} (hA:A < h.size):eG A h (h.set A b):=⟨by rw [Heap.size_set];exact bj _,λB hB aQ=>by rw [Heap.aJ _ _ _ _ hA,az aQ],by rw [Heap.bQ];omega⟩
theorem zlu {b:ba} (hA:A < h.size):Holds (h.set A b) A b:=⟨by rw [Heap.size_set];exact hA,by rw [Heap.aJ _ _ _ _ hA,aE rfl]⟩
theorem zjX (f:fD h A e v l) (hl:l≠[]) (hn:l.length<=1000):∃ h',HW [v] h=some (.tuple #[],h')/\fD h' A e v (EC l)/\eG A h h':=by
 obtain ⟨c,rfl,hc,q⟩:=f
 have aQ:l.length≠0:=λe=>hl (xu.1 e)
 have aT:=PY l
 refine ⟨_,?_,⟨c,by rw [aT],by rw [aT];exact hc,zlu q.lt⟩,zr8 q.lt⟩
 unfold HW
 simp only [az aQ,zoa q,dM,zpM]
 rw [aE (by omega),zpX q aT]
 rfl
theorem zqz {xs:List au} (h:xs.Nodup):zI xs=xs:=by
 unfold zI
 have hx:(xs.map (·.data.toList)).Nodup:=by
  refine List.Pairwise.map _ ?_ h
  intro a b u9 e
  exact u9 (CE e)
 have e1:Lib.compact (xs.map (·.data.toList))=xs.map (·.data.toList):=by
  refine Lib.compact_all _ ?_
  intro j hj
  unfold Lib.keeps
  rw [decide_eq_true_iff]
  by_cases h0:j=0
  .exact .inl h0
  .refine .inr (λe=>?_)
   rw [gi] at hj
   have h1:(xs.map (·.data.toList)).toArray[j]! = (xs.map (·.data.toList))[j]'(by rw [gi];omega):=by simp [hj]
   have h2:(xs.map (·.data.toList)).toArray[j - 1]! = (xs.map (·.data.toList))[j - 1]'(by rw [gi];omega):=by simp [show j - 1 < xs.length by omega]
   rw [h1,h2] at e
   have:=(List.getElem_inj hx).1 e
   omega
 rw [e1,CR]
 have e:(λl:List UInt8=>(⟨l.toArray⟩:au))∘(λx:au=>x.data.toList)=id:=by
  funext x
  exact CE (by simp)
 rw [e,List.map_id]
theorem ziU (f:fD h A e v l) (hl:l≠[]) (hn:l.length<=1000) (hd:l.Nodup):∃ h',HP [v] h=some (v,h')/\fD h' A e v l/\eG A h h':=by
 obtain ⟨c,rfl,hc,q⟩:=f
 have aQ:l.length≠0:=λe=>hl (xu.1 e)
 have lI:=zqz hd
 have lS:H4 l=l:=by unfold H4;rw [lI,EF,List.replicate_zero,bu]
 refine ⟨_,?_,⟨c,rfl,hc,zlu q.lt⟩,zr8 q.lt⟩
 unfold HP
 simp only [az aQ,zoa q,dM,zpM]
 rw [lI,lS,aE ⟨by omega,bj _⟩,zpX q rfl]
 rfl
theorem zAs {T:bI} {t:TypeId} {bytes:Nat} {z:List ab} (hd:T.desc t=some (.slice e)) (hi:T.info e=some (1,bytes,z)) (sU:bytes<=1000) {B:Nat} {x:ab} {reads:List au} (q:Holds h B (.row [.string who] e false)) (f:Sl aM.str h x reads) (hn:reads.length<=900) :
 ∃ v' h' A',gC T t (.slice (some ⟨B,0,none⟩) 1 1) x h=some (v',h')/\fD h' A' e v' (who::reads)/\Ext h h'/\(A'=B\/A'=h.size):=by
 have hG:=wj
 by_cases hr:reads=[]
 .subst hr
  obtain ⟨news,s1,s2⟩:=uF (A:=h.size) (by decide) f (λcs y hr=>hr)
  refine ⟨_,h,B,?_,⟨1,rfl,.inl ⟨by omega,bj _⟩,q⟩,Ext.refl h,.inl rfl⟩
  unfold gC
  simp only [hd,hi,s1,dM]
  rfl
 .have hp:0 < reads.length:=List.length_pos_iff.2 hr
  obtain ⟨news,s1,s2⟩:=uF (A:=h.size) (by decide) f (λcs y hr=>hr)
  rw [zqX (bj _)] at s2
  have f1:Sl aM.str h (.slice (some ⟨B,0,none⟩) [who].length [who].length) [who]:=fD.sl ⟨1,rfl,.inl ⟨by omega,bj _⟩,q⟩ (by simp only [dn,dN];omega)
  obtain ⟨v',h',e1,e2,e3⟩:=zx9 (h0:=h) hd hi rfl (by decide) (bj _) f1 s1 s2 hp (by
   have:([who].length+reads.length)*bytes<=901*1000:=EE (by simp only [dn,dN];omega) sU
   omega) (by simp only [dn,dN];omega)
  exact ⟨v',h',h.size,e1,e2.Ha (by simp) (by simp only [dy,dn,dN];omega),e3,.inr rfl⟩
def wh (l:List bz) (who:au):List au:=match l.find? (λc=>decide (c.who=who)) with
 |some c=>c.reads
 |none=>[]
def zt (ps:List au) (l:List bz):Prop:=(∀ (i k:Nat) (c e:bz),l[i]? = some c->l[k]? = some e->c.who=e.who->i=k)/\∀ c∈l,c.who∈ps/\c.reads.Nodup/\(∀ x∈c.reads,x∈ps/\x≠c.who)
theorem zpo {ps:List au} {l:List bz} (h:zt ps l):(wh l who).Nodup/\∀ x∈wh l who,x∈ps/\x≠who:=by
 unfold wh
 cases hf:l.find? (λc=>decide (c.who=who)) with
 |none=>simp
 |some c =>
  have h1:=List.mem_of_find?_eq_some hf
  have h2:=List.find?_some hf
  have h3:c.who=who:=of_decide_eq_true h2
  obtain ⟨_,g2,g3⟩:=h.2 c h1
  exact ⟨g2,λx hx=>⟨(g3 x hx).1,h3 ▸ (g3 x hx).2⟩⟩
theorem zpn {l:List bz} {n:Nat} (h:∀ c∈l,c.reads.length<=n):(wh l who).length<=n:=by
 unfold wh
 cases hf:l.find? (λc=>decide (c.who=who)) with
 |none=>simp
 |some c=>exact h c (List.mem_of_find?_eq_some hf)
theorem zuz (l:List bz) (who:au):(∃ (i:Nat) (c:bz),kE (λc:bz=>decide (c.who=who)) l=i/\l[i]? = some c/\wh l who=c.reads)\/(kE (λc:bz=>decide (c.who=who)) l = -1/\wh l who=[]):=by
 cases hf:l.find? (λc=>decide (c.who=who)) with
 |none =>
  refine .inr ⟨Jp (λy hy=>?_),by unfold wh;rw [hf]⟩
  have:=List.find?_eq_none.1 hf y hy
  simpa using this
 |some c =>
  obtain ⟨h1,us,ws,rfl,h2⟩:=List.find?_eq_some_iff_append.1 hf
  refine .inl ⟨us.length,c,Jj (x:=c) (by simp) (λy hy=>?_) h1,by simp,by unfold wh;rw [hf]⟩
  rw [List.take_left] at hy
  simpa using h2 y hy
def v7 (d:aq) (who:au):List au:=EC (who::wh d.aR who)
theorem PT (d:aq) (who:au):(v7 d who).length=1+(wh d.aR who).length:=by
 unfold v7
 rw [PY,dn,Nat.add_comm]
theorem qf {d:aq} {x:au}:x∈v7 d who↔x=who\/x∈wh d.aR who:=by
 unfold v7
 rw [(zlO _).mem_iff,dh]
theorem zea {d:aq} (h:zt d.ah d.aR):(v7 d who).Nodup:=by
 unfold v7
 obtain ⟨h1,h2⟩:=zpo (who:=who) h
 refine (zlO _).nodup_iff.2 (tN.2 ⟨λhm=>(h2 who hm).2 rfl,h1⟩)
def Ld (h:Heap) (v:ab) (d:aq):Prop:=∃ p0 p1 p2 p5 p6 q b,v=fI p0 p1 p2 p5 p6 q b/\dR h p0 p1 p2 p5 p6 d
end Go.Am

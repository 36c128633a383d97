/- Matching, joining and rounds as plain functions: what they give, and that nothing is missed. No condition. -/
import Derived.Test.YtnkmeidmdaidhaaGreatDoorG20
set_option linter.unusedSimpArgs false
set_option linter.unusedVariables false
namespace Go.Am
variable {l m:List av} {t:az} {s:bf} {b:av} {a:ae}
structure Good (l:List av):Prop where
 up:kS l l.length
 ok:∀ b∈l,b.term.v=false/\b.term.s≠⟨#[]⟩
theorem Good.Wt (h:Good l):kb l:=⟨h.up,λb hb=>⟨(h.ok b hb).2,by rw [(h.ok b hb).1];simp⟩⟩
theorem zq0:Good []:=⟨zkQ (jv _),nofun⟩
theorem vO (x:av) (l:List av) (s:bf):df (x::l) s=if x.var=s then (x.term,true) else df l s:=by
 unfold df
 rw [List.find?_cons]
 by_cases h:x.var=s <;> simp [h]
theorem ztq (h:df l s=(t,true)):⟨s,t⟩∈l:=by
 induction l with
 |nil=>cases h
 |cons x l ih =>
  rw [vO] at h
  split at h
  .rename_i hx
   cases h
   subst hx
   exact pO
  .exact sn _ (ih h)
theorem TG (h:(df l s).2=false):∀ b∈l,b.var≠s:=by
 induction l with
 |nil=>intro b hb;cases hb
 |cons x l ih =>
  rw [vO] at h
  split at h
  .cases h
  .rename_i hx
   intro b hb
   rcases dg.1 hb with rfl|hb
   .exact hx
   .exact ih h b hb
theorem TV (h:(df l s).2=true):df l s=((df l s).1,true):=by
 rw [<- h]
theorem TS (b:av):jt [] b=[b]:=rfl
theorem TM (x:av) (l:List av) (b:av):jt (x::l) b=if slt b.var x.var=true then b::x::l else x::jt l b:=by
 unfold jt
 rw [List.takeWhile_cons,List.dropWhile_cons]
 cases h:slt b.var x.var <;> simp
theorem mi {y:av}:y∈jt l b↔y=b\/y∈l:=by
 induction l with
 |nil=>simp [TS]
 |cons x l ih =>
  rw [TM]
  split
  .simp
  .simp only [dg,ih]
   constructor
   .rintro (h|h|h)
    .exact .inr (.inl h)
    .exact .inl h
    .exact .inr (.inr h)
   .rintro (h|h|h)
    .exact .inr (.inl h)
    .exact .inl h
    .exact .inr (.inr h)
theorem L4 (hn:(df l b.var).2=false) (s:bf):df (jt l b) s=if b.var=s then (b.term,true) else df l s:=by
 induction l with
 |nil=>rw [TS,vO]
 |cons x l ih =>
  have hx:=TG hn x pO
  rw [vO,aA hx] at hn
  rw [TM]
  split
  .rw [vO]
  .rw [vO,ih hn,vO]
   by_cases h:x.var=s
   .subst h
    rw [aG rfl,aA (λe=>hx e.symm),aG rfl]
   .rw [aA h,aA h]
theorem zta:kS l l.length↔l.Pairwise λx y=>slt x.var y.var=true:=by
 constructor
 .intro h
  rw [List.pairwise_iff_getElem]
  intro i j hi hj ej
  exact Jw h ej (i4 hi) (i4 hj)
 .intro h k x y hk hx hy
  rw [List.pairwise_iff_getElem] at h
  obtain ⟨h1,e1⟩:=fD.1 hx
  obtain ⟨h2,e2⟩:=fD.1 hy
  have:=h k (k+1) h1 h2 (pP _)
  rw [e1,e2] at this
  exact this
theorem Z7 (h:kS l l.length) (hn:(df l b.var).2=false):kS (jt l b) (jt l b).length:=by
 rw [zta] at h ⊢
 induction l with
 |nil=>rw [TS];exact List.pairwise_singleton _ _
 |cons x l ih =>
  have hx:=TG hn x pO
  rw [vO,aA hx] at hn
  rw [wg] at h
  rw [TM]
  split
  .rename_i hs
   refine wg.2 ⟨λy hy=>?_,wg.2 h⟩
   rcases dg.1 hy with rfl|hy
   .exact hs
   .exact Jx hs (h.1 y hy)
  .rename_i hs
   refine wg.2 ⟨λy hy=>?_,ih h.2 hn⟩
   rcases mi.1 hy with rfl|hy
   .cases hq:slt x.var y.var
    .exact absurd (zoh hq (by simpa using hs)) hx
    .rfl
   .exact h.1 y hy
theorem Good.get (h:Good l) (e:df l s=(t,true)):t.v=false/\t.s≠⟨#[]⟩:=h.ok _ (ztq e)
theorem Good.with (h:Good l) (hn:(df l b.var).2=false) (hv:b.term.v=false) (hs:b.term.s≠⟨#[]⟩):Good (jt l b) :=
 ⟨Z7 h.up hn,λy hy=>(mi.1 hy).elim (λe=>by rw [e];exact ⟨hv,hs⟩) (h.ok y)⟩
theorem LU (h:t.v=false):ep l t=t:=by
 unfold ep
 rw [aA (by rw [h];simp)]
theorem Tp {u:az} (h:df l t.s=(u,true)) (hv:t.v=true):ep l t=u:=by
 unfold ep
 rw [h,aG ⟨rfl,hv⟩]
theorem ztw {u:az} (h:ep l t=u) (hv:t.v=true) (hu:u.v=false):df l t.s=(u,true):=by
 unfold ep at h
 split at h
 .rename_i hc
  rw [TV hc.1,h]
 .rw [h,hu] at hv
  cases hv
theorem zqm (h:Good l):hY l m=l:=by
 unfold hY
 conv=>rhs;rw [<- List.map_id l]
 refine Dh (λb hb=>?_)
 rw [LU (h.ok b hb).1]
 rfl
theorem zr6 (h:Good l) {v:bf} (hv:v≠⟨#[]⟩) (ht:t.v=false) (hs:t.s≠⟨#[]⟩) (hn:(df l v).2=false):jz l v t=some (jt l ⟨v,t⟩):=by
 unfold jz
 rw [aA (by simpa using h.Wt),aA (λe=>e.elim hv hs),aA (by rw [hn];decide),LU ht,aA (by unfold lG;simp [ht]),zqm h]
theorem zr7 {v:bf} (h:jz l v t=some m):v≠⟨#[]⟩/\t.s≠⟨#[]⟩/\(df l v).2=false:=by
 unfold jz at h
 split at h
 .cases h
 split at h
 .cases h
 rename_i h2
 split at h
 .cases h
 rename_i h3
 exact ⟨λe=>h2 (.inl e),λe=>h2 (.inr e),by simpa using h3⟩
def pS (l m:List av):Prop:=∀ s t,df l s=(t,true)->df m s=(t,true)
theorem pS.refl (l:List av):pS l l:=λ_ _ h=>h
theorem pS.trans {a b c:List av} (h:pS a b) (g:pS b c):pS a c:=λs t e=>g s t (h s t e)
theorem zwP (hn:(df l b.var).2=false):pS l (jt l b):=λs t h=>by
 rw [L4 hn,aA]
 .exact h
 .intro e
  rw [e,h] at hn
  cases hn
theorem zxy {x y:az} (h:pS l m) (e:ep l x=y) (hy:y.v=false):ep m x=y:=by
 cases hv:x.v
 .rw [LU hv] at e ⊢
  exact e
 .exact Tp (h _ _ (ztw e hv hy)) hv
theorem zpW {out:List av} {x y:az} (h:Good out) (hy:y.v=false) (e:qA out x y=some m) :
 Good m/\pS out m/\ep m x=y/\∀ s t,df m s=(t,true)->df out s=(t,true)\/(x.v=true/\x.s=s/\t=y):=by
 unfold qA at e
 split at e
 .rename_i hx
  split at e
  .rename_i cJ
   cases e
   subst cJ
   exact ⟨h,pS.refl _,LU hx,λs t g=>.inl g⟩
  .cases e
 .rename_i hx
  have hx:x.v=true:=by simpa using hx
  split at e
  .rename_i hb
   split at e
   .rename_i hz
    cases e
    refine ⟨h,pS.refl _,?_,λs t g=>.inl g⟩
    rw [<- hz]
    exact Tp (TV hb) hx
   .cases e
  .rename_i hb
   have hb:(df out x.s).2=false:=by simpa using hb
   obtain ⟨g1,g2,g3⟩:=zr7 e
   rw [zr6 h g1 hy g2 hb] at e
   cases e
   refine ⟨h.with hb hy g2,zwP hb,?_,λs t g=>?_⟩
   .refine Tp ?_ hx
    rw [L4 hb,aG rfl]
   .rw [L4 hb] at g
    split at g
    .rename_i hs
     cases g
     exact .inr ⟨hx,hs,rfl⟩
    .exact .inl g
theorem ZH {p g:ae} {out:List av} (h:Good out):∀ {k:Nat} {m:List av},(∀ i,i < k->(g.arg i).v=false)->pH p g k out=some m ->
 Good m/\pS out m/\(∀ i,i < k->ep m (p.arg i)=g.arg i)/\∀ s t,df m s=(t,true)->df out s=(t,true)\/∃ i,i < k/\(p.arg i).v=true/\(p.arg i).s=s/\t=g.arg i
 |0,m,_,e=>by
  cases e
  exact ⟨h,pS.refl _,λi hi=>absurd hi (uZ _),λs t g=>.inl g⟩
 |k+1,m,hg,e=>by
  unfold pH at e
  cases ho:pH p g k out with
  |none=>rw [ho] at e;cases e
  |some o =>
   rw [ho] at e
   obtain ⟨g1,g2,g3,g4⟩:=ZH h (λi hi=>hg i (Nat.lt_succ_of_lt hi)) ho
   obtain ⟨f1,f2,f3,f4⟩:=zpW g1 (hg k (pP _)) (show qA o (p.arg k) (g.arg k)=some m from e)
   refine ⟨f1,g2.trans f2,λi hi=>?_,λs t dh=>?_⟩
   .by_cases he:i=k
    .subst he;exact f3
    .exact zxy f2 (g3 i (by omega)) (hg i hi)
   .rcases f4 s t dh with q|q
    .rcases g4 s t q with q|⟨i,hi,q⟩
     .exact .inl q
     .exact .inr ⟨i,Nat.lt_succ_of_lt hi,q⟩
    .exact .inr ⟨k,pP _,q⟩
theorem iq {b:ae}:lM a b=true↔a.says=b.says/\a.pred=b.pred/\a.n=b.n/\0<=a.n/\a.n<=4:=by
 unfold lM
 simp only [dj,iC]
theorem zx0 (h0:0<=a.n) (h4:a.n<=4):a.cH=a.n.toNat:=by unfold ae.cH;omega
theorem zns {p g:ae} (h:Good l) (e:cz l p g=some m) :
 Good m/\pS l m/\lM p g=true/\g.ground=true/\(∀ i,i < p.cH->ep m (p.arg i)=g.arg i)/\∀ s t,df m s=(t,true)->df l s=(t,true)\/∃ i,i < p.cH/\(p.arg i).v=true/\(p.arg i).s=s/\t=g.arg i:=by
 unfold cz at e
 split at e
 .cases e
 rename_i hc
 split at e
 .cases e
 have ha:lM p g=true:=by
  cases hq:lM p g
  .exact absurd (.inr (.inl hq)) hc
  .rfl
 have hg:g.ground=true:=by
  cases hq:g.ground
  .exact absurd (.inr (.inr hq)) hc
  .rfl
 obtain ⟨_,_,e3,e4,e5⟩:=iq.1 ha
 rw [<- zx0 e4 e5] at e
 have hgn:g.cH=p.cH:=by unfold ae.cH;rw [e3]
 obtain ⟨f1,f2,f3,f4⟩:=ZH h (λi hi=>oU.1 hg i (by rw [hgn];exact hi)) e
 exact ⟨f1,f2,ha,hg,f3,f4⟩
def dA (l:List av) (a:ae):ae :=
 { a with t0:=if 0 < a.cH then ep l a.t0 else a.t0,t1:=if 1 < a.cH then ep l a.t1 else a.t1,t2:=if 2 < a.cH then ep l a.t2 else a.t2,t3:=if 3 < a.cH then ep l a.t3 else a.t3 }
theorem zqN (a:ae):a.cH<=4:=by unfold ae.cH;omega
theorem bT.var (h:bT a) {i:Nat} (hi:i < a.cH) (hv:(a.arg i).v=true):(a.arg i).s≠⟨#[]⟩:=by
 have:=h.ie i (iu.1 hi).2
 unfold eR at this
 rw [aG hv] at this
 intro e
 have hp:=this.pos
 rw [e] at hp
 exact absurd hp (by decide)
theorem ke.term (h:ke a) {i:Nat} (hi:i < a.cH):(a.arg i).v=false/\(a.arg i).s≠⟨#[]⟩/\aab (a.arg i).s:=by
 have hv:=oU.1 h.ground i hi
 have:=h.valid.ie i (iu.1 hi).2
 unfold eR at this
 rw [aA (by rw [hv];decide)] at this
 refine ⟨hv,λe=>?_,this⟩
 have hp:=this.1.pos
 rw [e] at hp
 exact absurd hp (by decide)
theorem ke.plain {a:ae} (h:ke a):my a:=h.valid.valid.plain
section
variable {cl:List ay} {facts:aU}
end
end Go.Am
namespace Go.Am
variable {cs:List ai} {ro:Bool} {u:TypeId} {h:Heap}
section
variable {Z:Type} {r:aF Z} {h0 h1:Heap} {v:ai} {l:List Z} {t e:TypeId} {A k bytes:Nat} {z:List ai} {T:bx} {bs:List bc} {w:Nat} {K:aL}
theorem uR (hd:T.desc t=some (.slice e)) (hi:T.info e=some (k,bytes,z)) (ze:r.k=k) (hk:0 < k) {i c:Nat} {x:Z} (hg:bs[i]? = some (.row cs u ro)) (hz:h0.size<=h1.size) (f:Ow r h0 h1 e A v l) (hr:r.R (kill A (h1.lay bs w)) cs x)
 (hb:(l.length+1)*bytes<=140737488355328) (hl:l.length+1<=1152921504606846976)
 (hK:∀ v' h' A',Ow r h0 h' e A' v' (l++[x])->fW A (h1.lay bs w) h'->(A'=A\/h1.size<=A')->K v' h'):da (lh T t v (.slice (some ⟨h1.size+i,0,none⟩) 1 c) (h1.lay bs w)) K:=by
 have w5:(h1.lay bs w).get (h1.size+i)=some (.row cs u ro):=by rw [kM];exact hg
 obtain ⟨hs,lA⟩:=EE (r:=r) (A:=A) (c:=c) (y:=x) (by omega) w5 hr
 exact zt0 hd hi ze hk hz f (by rw [<- ze];exact hs) lA hb hl hK
theorem iH {n o:Nat} {vs:List ai} {v:ai} (q:ak h1 A (.row cs u false)) (hs:de T t=some n) (hv:v.cells.toList=vs) (hl:vs.length=n) (hb:o+n<=cs.length) (bW:vs.all one=true)
 (hK:∀ h',ak h' A (.row (aJ cs o vs) u false)->fW A (h1.lay bs w) h'->K undef h'):jM (gN T t (.pointer (some ⟨A,o,none⟩)) v (h1.lay bs w)) K:=by
 have hg:(h1.lay bs w).get A=some (.row cs u false):=q.lay bs w
 have hA:A < (h1.lay bs w).size:=(q.on bs w).lt
 have dC:v.cells.size=n:=by rw [<- hl,<- hv];simp
 have he:gN T t (.pointer (some ⟨A,o,none⟩)) v (h1.lay bs w)=some ((h1.lay bs w).set A (.row (aJ cs o vs) u false)):=by
  unfold gN
  simp only [hs,dz]
  rw [aG dC,hv]
  unfold np
  rw [hg]
  simp only
  rw [aG (by simp only [dj,iC];exact ⟨by omega,bW⟩)]
 rw [he]
 refine hK _ ⟨by rw [Heap.size_set];exact hA,by rw [Heap.aM _ _ _ _ hA,aG rfl]⟩ ⟨by rw [Heap.size_set];exact aS _,λB hB aO=>by rw [Heap.aM _ _ _ _ hA,aA aO],by rw [Heap.cC];omega⟩
end
section
variable {P:Program} {T:bx} {ov:Ov}
theorem zmI {b:Nat} {ops:Array Oper} {l:List Oper} {j:Nat} {d:Option Tmp} {Q:Env->Heap->Prop} {e:Env} {hh:Heap} {pZ bs:List bc} {w s:Nat} {v:ai} (hl:pZ.length<=bs.length) (hb:b<=s) (hs:hh.size+pZ.length<=s)
 (hk:bI P T ov b ops l (j+1) (put e d v) (hh.lay bs s) Q):wh P T ov b ops l j d Q e (hh.lay pZ w) v (hh.lay bs s):=by
 refine ⟨⟨⟨.inl ?_,?_,?_⟩,hk⟩⟩
 .rw [bo];exact hs
 .exact hb
 .rw [bo,bo];omega
theorem vJ {b:Nat} {ops:Array Oper} {l:List Oper} {j:Nat} {d:Option Tmp} {Q:Env->Heap->Prop} {e:Env} {hh:Heap} {pZ bs:List bc} {w s:Nat} {v:ai} (ho:rJ T ops j=true) (hl:pZ.length<=bs.length) (hb:b<=s)
 (hk:bI P T ov b ops l (j+1) (put e d v) (hh.lay bs s) Q):wh P T ov b ops l j d Q e (hh.lay pZ w) v (hh.lay bs s) :=
 Eg ho hb (by rw [bo,bo];omega) hk
end
theorem CU {A B:Nat} (aO:B≠A):(kill A h).get B=h.get B:=by
 unfold kill
 split
 .rename_i hA
  rw [Heap.aM _ _ _ _ hA,aA aO]
 .rfl
theorem JA {A:Nat} (hA:A < h.size):(kill A h).get A=some .dead:=by
 unfold kill
 rw [aG hA,Heap.aM _ _ _ _ hA,aG rfl]
structure Vj (B:Heap) (A:Nat) (h:Heap):Prop where
 lt:A < h.size
 inc:bQ B (kill A h)
section
variable {B h1 h2:Heap} {A A':Nat} {bs:List bc} {w:Nat}
theorem Vj.all (k:Vj B A h1):bQ B h1:=k.inc.trans (zq5 _ _)
theorem Kg {a b:Heap} (i:bQ a b):bQ (kill A a) (kill A b):=⟨by rw [yd,yd];exact i.size,λC hC hd=>by
 by_cases hCA:C=A
 .subst hCA
  rw [yd] at hC
  exact absurd (JA hC) hd
 .rw [yd] at hC
  rw [CU hCA] at hd ⊢
  rw [CU hCA]
  exact i.get C hC hd⟩
theorem Vj.mono (k:Vj B A h1) (i:bQ h1 h2):Vj B A h2:=⟨dU k.lt i.size,k.inc.trans (Kg i)⟩
theorem Vj.over (k:Vj B A h1) (x:Ext (h1.lay bs w) h2):Vj B A h2:=k.mono ((bQ.lay _ _ _).trans x.inc)
theorem Vj.lay (k:Vj B A h1) (bs:List bc) (w:Nat):Vj B A (h1.lay bs w):=k.mono (bQ.lay _ _ _)
theorem Vj.step (k:Vj B A h1) (c:fW A (h1.lay bs w) h2) (hA:A'=A\/h1.size<=A') (hl:A' < h2.size):Vj B A' h2:=by
 have hs:h1.size<=(h1.lay bs w).size:=by rw [bo];omega
 refine ⟨hl,⟨by rw [yd];exact dZ k.all.size (dZ hs c.size),λC hC hd=>?_⟩⟩
 have h3:=k.inc.get C hC hd
 have hCA:C≠A:=by
  intro e
  subst e
  rw [JA k.lt] at h3
  exact hd h3.symm
 have hC1:C < h1.size:=dU hC k.all.size
 rw [CU hCA] at h3
 rw [CU (by rcases hA with e|e <;> omega),c.get C (by omega) hCA,xW _ _ _ hC1]
 exact h3
theorem Vj.trans (k:Vj B A h1) (k2:Vj (kill A (h1.lay bs w)) A' h2):Vj B A' h2:=⟨k2.lt,(k.lay bs w).inc.trans k2.inc⟩
theorem Vj.holds {C:Nat} (k:Vj B A h1) (q:ak B C (.row cs u ro)):ak h1 C (.row cs u ro)/\C≠A:=by
 refine ⟨q.mono k.all,λe=>?_⟩
 have:=k.inc.get C q.lt (by rw [q.get];nofun)
 rw [e,JA k.lt,<- e,q.get] at this
 cases this
theorem Vj.ft {C:Nat} (k:Vj (kill A (h1.lay bs w)) A' h2) (q:ak h1 C (.row cs u ro)) (aO:C≠A):ak h2 C (.row cs u ro)/\C≠A' :=
 k.holds ⟨by rw [yd];exact (q.on bs w).lt,(CU aO).trans (q.on bs w).get⟩
theorem Ow.Sf {Z:Type} {r:aF Z} {h0:Heap} {e A:Nat} {v:ai} {l:List Z} (f:Ow r h0 h e A v l) (aO:l≠[]):A < h.size:=by
 rcases f with ⟨_,e2,_⟩|⟨_,_,_,_,e4,_⟩
 .exact absurd e2 aO
 .exact e4
end
section
variable {T:bx} {t e:TypeId} {v:ai} {B h1:Heap} {bs:List bc} {w:Nat} {K:aL} {kd:IntKind} {i:Int}
end
theorem bQ.ec {a b d:Heap} {A:Nat} (i:bQ a b) (c:fW A b d) (hA:a.size<=A):bQ a d:=⟨dZ i.size c.size,λB hB hd=>(c.get B (dU hB i.size) (by omega)).trans (i.get B hB hd)⟩
theorem Ow.re {Z:Type} {r:aF Z} {h0:Heap} {e A B:Nat} {v:ai} (f:Ow r h0 h e A v []) (hB:h0.size<=B):Ow r h0 h e B v []:=by
 rcases f with ⟨_,_,e3⟩|⟨_,_,e2,_⟩
 .exact .inl ⟨hB,rfl,e3⟩
 .exact absurd rfl e2
theorem T8 {s:bf} (h:H4 s):s.size<=300:=by have:=h.len;omega
theorem eR.size {t:az} (h:eR t):t.s.size<=300:=by
 unfold eR at h
 split at h
 .have:=h.len;omega
 .exact T8 h.1
theorem zt2 {a:ae} (h0:a.says.size<=300) (h1:a.pred.size<=300) (h:∀ i,i < 4->(a.arg i).s.size<=300):a.bE=true:=by
 unfold ae.bE
 simp only [dj,iC]
 exact ⟨h0,h1,h 0 (by omega),h 1 (by omega),h 2 (by omega),h 3 (by omega)⟩
theorem bT.bE {a:ae} (h:bT a):a.bE=true:=by
 refine zt2 (T8 h.says.1.1) (T8 h.pred.1.1) (λi hi=>?_)
 by_cases hn:(i:Int) < a.n
 .exact (h.ie i hn).size
 .rw [h.rest i (by omega) hi]
  decide
def EZ (l:List av) (a:ae) (k:Nat):ae :=
 { a with t0:=if 0 < k then ep l a.t0 else a.t0,t1:=if 1 < k then ep l a.t1 else a.t1,t2:=if 2 < k then ep l a.t2 else a.t2,t3:=if 3 < k then ep l a.t3 else a.t3 }
theorem zrX (l:List av) (a:ae):EZ l a a.cH=dA l a:=rfl
theorem zrY (l:List av) (a:ae) {k:Nat} (hk:k < 4):(EZ l a k).arg k=a.arg k:=by
 have:k=0\/k=1\/k=2\/k=3:=by omega
 rcases this with rfl|rfl|rfl|rfl <;> rfl
theorem zrZ (l:List av) (a:ae) {k:Nat} (hk:k < 4):aJ (EZ l a k).cells (3+k*2) (ep l (a.arg k)).cells=(EZ l a (k+1)).cells:=by
 have:k=0\/k=1\/k=2\/k=3:=by omega
 rcases this with rfl|rfl|rfl|rfl <;> rfl
end Go.Am

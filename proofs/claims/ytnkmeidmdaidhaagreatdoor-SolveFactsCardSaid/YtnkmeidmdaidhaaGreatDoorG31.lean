/- The solver's state as plain data, and how it is laid out. No condition. -/
import Derived.Test.YtnkmeidmdaidhaaGreatDoorG30
set_option linter.unusedSimpArgs false
set_option linter.unusedVariables false
namespace Go.Am
variable {β:Type}
structure aY where
 atom:ae
 answers:aN
 waiters:List Nat
structure dy where
 call:Nat
 clause:Int
 taken:Nat
 l:List au
 next:ae
 src:Nat
 seen:Nat
structure ba where
 aE:Int
 steps:Nat
 calls:List aY
 count:Nat
 ab:List dy
 queue:List Nat
 aF:List bc
 known:aN
def fc:Nat->aN->List (ae × Int)
 |_,[]=>[]
 |k,a::l=>(a,(k:Int))::fc (k+1) l
theorem X4 (a:ae):∀ (k:Nat) (l:aN),fc k (l++[a])=fc k l++[(a,((k+l.length:Nat):Int))]
 |k,[]=>rfl
 |k,x::l=>by
  rw [rh,fc,fc,X4 a (k+1) l,rh,ek]
  have e:k+1+l.length=k+(l.length+1):=by omega
  rw [e]
def xl (a:ae) (l:aN):Nat:=l.findIdx λx=>decide (a=x)
theorem M7 (a:ae):∀ (k:Nat) (l:aN),sd (fc k l) a=if a∈l then some ((k+xl a l:Nat):Int) else none
 |k,[]=>by simp [fc,sd]
 |k,x::l=>by
  have ih:=M7 a (k+1) l
  unfold sd at ih ⊢
  rw [fc,List.find?_cons]
  unfold xl at ih ⊢
  rw [List.findIdx_cons]
  by_cases hx:a=x
  .simp [hx]
  .simp only [hx,decide_false,df,false_or]
   rw [ih]
   have e:∀ n,k+1+n=k+(n+1):=λn=>by omega
   simp [e]
inductive Ro where
 |w|t|pm|km|ca|sa|qa|ra
 |c (i:Nat)|an (i:Nat)|th (i:Nat)|wa (i:Nat)|s (i:Nat)
 deriving DecidableEq
def av (f:Ro->β) (r:Ro) (v:β):Ro->β:=λr'=>if r'=r then v else f r'
theorem kZ (f:Ro->β) (r:Ro) (v:β):av f r v r=v:=aD rfl
theorem fF {f:Ro->β} {r r':Ro} {v:β} (h:r'≠r):av f r v r'=f r':=az h
structure cO where
 pl:Ro->Nat
 vl:Ro->ai
 vb:Nat->ai
structure yf where
 w:TypeId
 t:TypeId
 c:TypeId
 s:TypeId
 pc:TypeId
 ps:TypeId
 i:TypeId
 r:TypeId
 a:TypeId
abbrev aC.ptr:aC Nat:={ k:=1,R:=λ_ cs x=>cs=[.pointer (some ⟨x,0,none⟩)],len:=by rintro _ _ _ rfl;rfl,mono:=λ_ _ _ _ _ h=>h,gu:=by rintro _ _ _ rfl;rfl }
abbrev aC.nat:aC Nat:={ k:=1,R:=λ_ cs x=>cs=[.int .i64 (x:Int)],len:=by rintro _ _ _ rfl;rfl,mono:=λ_ _ _ _ _ h=>h,gu:=by rintro _ _ _ rfl;rfl }
abbrev aC.rv:aC (ae × Int × ai):={ k:=13,R:=λ_ cs x=>cs=x.1.cells++[.int .i64 x.2.1,x.2.2]/\one x.2.2=true,len:=by rintro _ _ _ ⟨rfl,_⟩;rfl,mono:=λ_ _ _ _ _ h=>h,gu:=by rintro _ _ x ⟨rfl,h⟩;rw [Dn,show x.1.cells.all one=true from rfl,gS,gS,iI,h];rfl }
def dx {Z:Type} (r:aC Z) (b h:Heap) (e:TypeId) (A:Nat) (v:ai) (l:List Z):Prop:=(l=[]/\v=.slice none 0 0)\/(l≠[]/\Ow r b h e A v l)
section
variable {Z:Type} {r:aC Z} {b h h':Heap} {e:TypeId} {A:Nat} {v:ai} {l:List Z} {D:List Nat}
theorem dx.bf (f:dx r b h e A v l) (ef:∀ h h' cs x,r.R h cs x->r.R h' cs x) (g:aS D h h') (hD:l≠[]->A ∉ D):dx r b h' e A v l:=by
 rcases f with f|⟨aM,f⟩
 .exact .inl f
 .refine .inr ⟨aM,?_⟩
  rcases f with ⟨_,f2,_⟩|⟨row,e1,e2,e3,e4,e5,e6,e7,e8⟩
  .exact absurd f2 aM
  .refine .inr ⟨row,e1,e2,e3,dr e4 g.size,(g.get A e4 (hD aM)).trans e5,e6,e7,λi x hx=>?_⟩
   obtain ⟨cs,g1,g2⟩:=e8 i x hx
   exact ⟨cs,g1,ef _ _ _ _ g2⟩
theorem dx.lt (f:dx r b h e A v l) (aM:l≠[]):A < h.size:=by
 rcases f with f|⟨_,f⟩
 .exact absurd f.1 aM
 .exact f.Wj aM
theorem dx.get (f:dx r b h e A v l):∃ B,Ow r b h e B v l/\((B=A/\l≠[])\/(l=[]/\B=max b.size h.size)):=by
 rcases f with ⟨rfl,rfl⟩|⟨aM,f⟩
 .exact ⟨_,Ow.nil (zj _ _),.inr ⟨rfl,rfl⟩⟩
 .exact ⟨A,f,.inl ⟨rfl,aM⟩⟩
theorem dx.slice (f:dx r b h e A v l):∃ a n c,v=.slice a n c:=by
 rcases f with ⟨_,rfl⟩|⟨_,f⟩
 .exact ⟨_,_,_,rfl⟩
 .exact f.slice
theorem dx.sl (f:dx r b h e A v l) (hk:0 < r.k):Sl r h v l:=by
 rcases f with ⟨rfl,rfl⟩|⟨_,f⟩
 .exact (Ow.nil (h0:=h) (h:=h) (e:=e) (aR _)).sl hk
 .exact f.sl hk
theorem Ow.CC (f:Ow r b h e A v l) (aM:l≠[]):dx r b h e A v l:=.inr ⟨aM,f⟩
end
theorem b9.bf {h h':Heap} {A:Nat} {kv:List (ae × Int)} {D:List Nat} (m:b9 h A kv) (g:aS D h h') (hD:A ∉ D):b9 h' A kv:=by
 obtain ⟨es,cl,m1,m2⟩:=m
 exact ⟨es,cl,m1.bf g hD,m2⟩
theorem fh.bf {h h':Heap} {A:Nat} {l:aN} {D:List Nat} (m:fh h A l) (g:aS D h h') (hD:A ∉ D):fh h' A l:=by
 obtain ⟨es,cl,ks,m1,m2⟩:=m
 exact ⟨es,cl,ks,m1.bf g hD,m2⟩
theorem fh.lt {h:Heap} {A:Nat} {l:aN} (m:fh h A l):A < h.size:=by
 obtain ⟨es,cl,ks,m1,m2⟩:=m
 exact m1.lt
def tg (d:ba):Ro->Prop
 | .ca=>d.calls≠[]
 | .sa=>d.ab≠[]
 | .qa=>d.queue≠[]
 | .ra=>d.aF≠[]
 | .c i=>i < d.calls.length
 | .th i=>i < d.calls.length
 | .an i=>∃ c,d.calls[i]? = some c/\c.answers≠[]
 | .wa i=>∃ c,d.calls[i]? = some c/\c.waiters≠[]
 | .s i=>i < d.ab.length
 |_=>True
def Dd (x:cO) (cd vf:ai) (d:ba):List ai:=[cd,vf,.int .i64 d.aE,.int .i64 (d.steps:Int),.pointer (some ⟨x.pl .t,0,none⟩),x.vl .sa,x.vl .qa,x.vl .ra,.map (some (x.pl .km))]
def Zs (x:cO) (d:ba):List ai:=[.map (some (x.pl .pm)),x.vl .ca,.int .i64 (d.count:Int)]
def NU (x:cO) (i:Nat) (c:aY):List ai:=c.atom.cells++[x.vl (.an i),.map (some (x.pl (.th i))),x.vl (.wa i)]
def tc (v:ai) (s:dy):List ai:=[.int .i64 (s.call:Int),.int .i64 s.clause,.int .i64 (s.taken:Int),v]++s.next.cells++[.int .i64 (s.src:Int),.int .i64 (s.seen:Int)]
def oD (vb:Nat->ai):Nat->List bc->List (ae × Int × ai)
 |_,[]=>[]
 |k,r::l=>(r.atom,r.clause,vb k)::oD vb (k+1) l
theorem px {vb:Nat->ai} {k:Nat} {l:List bc}:oD vb k l=[]↔l=[]:=by cases l <;> simp [oD]
theorem zs6 {vb:Nat->ai} {u:ai} {r:bc} {n:Nat}:∀ (k:Nat) (l:List bc),k+l.length=n->oD (λi=>if i=n then u else vb i) k (l++[r])=oD vb k l++[(r.atom,r.clause,u)]
 |k,[],h=>by
  have e:k=n:=h
  subst e
  simp [oD]
 |k,y::l,h=>by
  rw [ek] at h
  rw [rh,oD,oD,zs6 (k+1) l (by omega),az (by omega),rh]
def j7 (T:yf) (b:Heap) (x:cO) (cd vf:ai) (d:ba) (h:Heap):Ro->Prop
 | .w=>Holds h (x.pl .w) (.row (Dd x cd vf d) T.w false)
 | .t=>Holds h (x.pl .t) (.row (Zs x d) T.t false)
 | .pm=>b9 h (x.pl .pm) (fc 0 (d.calls.map aY.atom))
 | .km=>fh h (x.pl .km) d.known
 | .ca=>dx aC.ptr b h T.pc (x.pl .ca) (x.vl .ca) ((List.range d.calls.length).map λi=>x.pl (.c i))
 | .sa=>dx aC.ptr b h T.ps (x.pl .sa) (x.vl .sa) ((List.range d.ab.length).map λi=>x.pl (.s i))
 | .qa=>dx aC.nat b h T.i (x.pl .qa) (x.vl .qa) d.queue
 | .ra=>dx aC.rv b h T.r (x.pl .ra) (x.vl .ra) (oD x.vb 0 d.aF)
 | .c i=>∀ c,d.calls[i]? = some c->Holds h (x.pl (.c i)) (.row (NU x i c) T.c false)
 | .an i=>∀ c,d.calls[i]? = some c->dx aC.atom b h T.a (x.pl (.an i)) (x.vl (.an i)) c.answers
 | .th i=>∀ c,d.calls[i]? = some c->b9 h (x.pl (.th i)) (fc 0 c.answers)
 | .wa i=>∀ c,d.calls[i]? = some c->dx aC.nat b h T.i (x.pl (.wa i)) (x.vl (.wa i)) c.waiters
 | .s i=>∀ s,d.ab[i]? = some s->Holds h (x.pl (.s i)) (.row (tc (x.vl (.s i)) s) T.s false)
section
variable {T:yf} {b h h':Heap} {x x':cO} {cd vf:ai} {d d':ba} {D E E':List Nat}
theorem aq {Z:Type} {l:List Z} {i:Nat} {a:Z} (h:l[i]? = some a):i < l.length:=(fG.1 h).1
theorem oF {Z:Type} {l:List Z} {i:Nat} (h:i < l.length):∃ a,l[i]? = some a:=⟨l[i],fG.2 ⟨h,rfl⟩⟩
theorem j7.bf (r:Ro) (g:j7 T b x cd vf d h r) (f:aS D h h') (hD:tg d r->x.pl r ∉ D):j7 T b x cd vf d h' r:=by
 cases r with
 |w=>exact Holds.bf g f (hD trivial)
 |t=>exact Holds.bf g f (hD trivial)
 |pm=>exact b9.bf g f (hD trivial)
 |km=>exact fh.bf g f (hD trivial)
 |ca=>exact dx.bf g (λ_ _ _ _ h=>h) f (λaM=>hD (λe=>aM (by rw [e];rfl)))
 |sa=>exact dx.bf g (λ_ _ _ _ h=>h) f (λaM=>hD (λe=>aM (by rw [e];rfl)))
 |qa=>exact dx.bf g (λ_ _ _ _ h=>h) f hD
 |ra=>exact dx.bf g (λ_ _ _ _ h=>h) f (λaM=>hD (λe=>aM (by rw [e];rfl)))
 |c i=>exact λc hc=>Holds.bf (g c hc) f (hD (aq hc))
 |an i=>exact λc hc=>dx.bf (g c hc) (λ_ _ _ _ h=>h) f (λaM=>hD ⟨c,hc,aM⟩)
 |th i=>exact λc hc=>b9.bf (g c hc) f (hD (aq hc))
 |wa i=>exact λc hc=>dx.bf (g c hc) (λ_ _ _ _ h=>h) f (λaM=>hD ⟨c,hc,aM⟩)
 |s i=>exact λs hs=>Holds.bf (g s hs) f (hD (aq hs))
theorem j7.lt (r:Ro) (g:j7 T b x cd vf d h r) (hl:tg d r):x.pl r < h.size:=by
 cases r with
 |w=>exact Holds.lt g
 |t=>exact Holds.lt g
 |pm=>exact b9.lt g
 |km=>exact fh.lt g
 |ca=>exact dx.lt g (λe=>hl (by simpa using e))
 |sa=>exact dx.lt g (λe=>hl (by simpa using e))
 |qa=>exact dx.lt g hl
 |ra=>exact dx.lt g (λe=>hl (px.1 e))
 |c i=>obtain ⟨c,hc⟩:=oF hl;exact Holds.lt (g c hc)
 |an i=>obtain ⟨c,hc,aM⟩:=hl;exact dx.lt (g c hc) aM
 |th i=>obtain ⟨c,hc⟩:=oF hl;exact b9.lt (g c hc)
 |wa i=>obtain ⟨c,hc,aM⟩:=hl;exact dx.lt (g c hc) aM
 |s i=>obtain ⟨s,hs⟩:=oF hl;exact Holds.lt (g s hs)
structure Inv (T:yf) (b:Heap) (E:List Nat) (x:cO) (cd vf:ai) (d:ba) (h:Heap):Prop where
 dF:∀ r,j7 T b x cd vf d h r
 own:∀ r,tg d r->x.pl r∈E
 inj:∀ r r',tg d r->tg d r'->x.pl r=x.pl r'->r=r'
 new:∀ B∈E,b.size<=B
 eF:∀ B∈E,B < h.size
 fz:∀ i s,d.ab[i]? = some s->Sl aC.bind (bq E h) (x.vl (.s i)) s.l
 fb:∀ i r,d.aF[i]? = some r->Sl aC.atom (bq E h) (x.vb i) r.body
theorem Inv.lt (v:Inv T b E x cd vf d h) {r:Ro} (hl:tg d r):x.pl r < h.size:=(v.dF r).lt r hl
theorem aS.wide {a c:Heap} {D D':List Nat} (f:aS D a c) (h:∀ B∈D,B∈D'\/a.size<=B):aS D' a c :=
 ⟨f.size,λB hB hn=>f.get B hB (λhh=>(h B hh).elim hn (λe=>by omega))⟩
theorem Inv.bf (v:Inv T b E x cd vf d h) (f:aS [] h h'):Inv T b E x cd vf d h':=by
 have i:bN (bq E h) (bq E h'):=(f.wide (D':=E) (by simp)).inc (λB hB=>.inl hB)
 exact ⟨λr=>(v.dF r).bf r f (by simp),v.own,v.inj,v.new,λB hB=>dr (v.eF B hB) f.size,λk s hs=>(v.fz k s hs).mono i,λk r hr=>(v.fb k r hr).mono i⟩
theorem Inv.yF (S:List Ro) (v:Inv T b E x cd vf d h) (hb:b.size<=h.size) (f:aS D h h')
 (hD:∀ A∈D,(∃ r∈S,tg d r/\x.pl r=A)\/h.size<=A)
 (ho:∀ r,r ∉ S->x'.pl r=x.pl r/\(tg d' r->tg d r)/\(j7 T b x cd vf d h' r->j7 T b x' cd vf d' h' r))
 (hS:∀ r∈S,j7 T b x' cd vf d' h' r)
 (dQ:∀ r∈S,tg d' r)
 (hp:∀ r∈S,(tg d r/\x'.pl r=x.pl r)\/h.size<=x'.pl r)
 (hj:∀ r∈S,∀ r'∈S,h.size<=x'.pl r->x'.pl r=x'.pl r'->r=r')
 (Cf:∀ i s,d'.ab[i]? = some s->Sl aC.bind (bq E h) (x'.vl (.s i)) s.l)
 (hfb:∀ i r,d'.aF[i]? = some r->Sl aC.atom (bq E h) (x'.vb i) r.body) :
 Inv T b (S.map x'.pl++E) x' cd vf d' h'/\bN (bq E h) (bq (S.map x'.pl++E) h'):=by
 have fE:aS E h h':=f.wide λB hB=>(hD B hB).imp (λ⟨r,_,hr,e⟩=>e ▸ v.own r hr) id
 have hE:∀ B∈S.map x'.pl++E,B∈E\/h.size<=B:=by
  intro B hB
  rcases gg.1 hB with hB|hB
  .obtain ⟨r,hr,rfl⟩:=pC.1 hB
   rcases hp r hr with ⟨e1,e2⟩|e
   .exact .inl (by rw [e2];exact v.own r e1)
   .exact .inr e
  .exact .inl hB
 have i:=fE.inc hE
 have mem:∀ r,tg d' r->r ∉ S->tg d r/\x'.pl r=x.pl r:=λr hr hn=>⟨(ho r hn).2.1 hr,(ho r hn).1⟩
 refine ⟨⟨λr=>?_,λr hr=>?_,λr r' hr cw e=>?_,λB hB=>?_,λB hB=>?_,λk s hs=>(Cf k s hs).mono i,λk r hr=>(hfb k r hr).mono i⟩,i⟩
 .by_cases hr:r∈S
  .exact hS r hr
  .refine (ho r hr).2.2 ((v.dF r).bf r f λhl hh=>?_)
   rcases hD _ hh with ⟨r2,h2,l2,e2⟩|e
   .exact hr (v.inj r2 r l2 hl e2 ▸ h2)
   .exact absurd (v.lt hl) (by omega)
 .by_cases hs:r∈S
  .exact xX _ (pC.2 ⟨r,hs,rfl⟩)
  .obtain ⟨h1,h2⟩:=mem r hr hs
   rw [h2]
   exact H3 _ (v.own r h1)
 .by_cases hs:r∈S
  .by_cases fD:r'∈S
   .rcases hp r hs with ⟨h3,h4⟩|h3
    .rcases hp r' fD with ⟨h5,h6⟩|h5
     .rw [h4,h6] at e
      exact v.inj r r' h3 h5 e
     .rw [h4] at e
      exact absurd (v.lt h3) (by omega)
    .exact hj r hs r' fD h3 e
   .obtain ⟨h1,h2⟩:=mem r' cw fD
    rw [h2] at e
    rcases hp r hs with ⟨h3,h4⟩|h3
    .exact v.inj r r' h3 h1 (h4 ▸ e)
    .exact absurd (v.lt h1) (by omega)
  .obtain ⟨h1,h2⟩:=mem r hr hs
   rw [h2] at e
   by_cases fD:r'∈S
   .rcases hp r' fD with ⟨h3,h4⟩|h3
    .exact v.inj r r' h1 h3 (h4 ▸ e)
    .exact absurd (v.lt h1) (by omega)
   .obtain ⟨h3,h4⟩:=mem r' cw fD
    rw [h4] at e
    exact v.inj r r' h1 h3 e
 .rcases hE B hB with e|e
  .exact v.new B e
  .omega
 .rcases gg.1 hB with e|e
  .obtain ⟨r,hr,rfl⟩:=pC.1 e
   exact (hS r hr).lt r (dQ r hr)
  .exact dr (v.eF B e) f.size
end
structure eB (n:Nat) (E E':List Nat) (x x':cO) (h h':Heap):Prop where
 w:x'.pl .w=x.pl .w
 t:x'.pl .t=x.pl .t
 s:∀ i,i < n->x'.pl (.s i)=x.pl (.s i)
 v:∀ i,i < n->x'.vl (.s i)=x.vl (.s i)
 inc:bN (bq E h) (bq E' h')
theorem eB.refl (n:Nat) (E:List Nat) (x:cO) (h:Heap):eB n E E x x h h:=⟨rfl,rfl,λ_ _=>rfl,λ_ _=>rfl,bN.refl _⟩
theorem eB.bf {n:Nat} {E E':List Nat} {x x':cO} {h h1 h2:Heap} (s:eB n E E' x x' h h1) (f:aS [] h1 h2):eB n E E' x x' h h2 :=
 ⟨s.w,s.t,s.s,s.v,s.inc.trans ((f.wide (D':=E') (by simp)).inc (λB hB=>.inl hB))⟩
theorem eB.trans {n m:Nat} {E E1 E2:List Nat} {x x1 x2:cO} {h h1 h2:Heap} (s:eB n E E1 x x1 h h1) (u:eB m E1 E2 x1 x2 h1 h2) (hn:n<=m):eB n E E2 x x2 h h2 :=
 ⟨u.w.trans s.w,u.t.trans s.t,λi hi=>(u.s i (by omega)).trans (s.s i hi),λi hi=>(u.v i (by omega)).trans (s.v i hi),s.inc.trans u.inc⟩
section
variable {T:yf} {b h h':Heap} {x x':cO} {cd vf:ai} {d d':ba} {D E E':List Nat}
theorem Inv.steps (v:Inv T b E x cd vf d h) (hb:b.size<=h.size) (n:Nat) (f:aS [x.pl .w] h h') (q:Holds h' (x.pl .w) (.row (Dd x cd vf { d with steps:=n }) T.w false)) :
 ∃ E',Inv T b E' x cd vf { d with steps:=n } h'/\eB d.ab.length E E' x x h h':=by
 obtain ⟨i1,i2⟩:=v.yF (x':=x) (d':={ d with steps:=n }) [.w] hb f
  (λB hB=>.inl ⟨.w,by simp,trivial,(ep.1 hB).symm⟩)
  (λr hr=>by cases r <;> first|exact ⟨rfl,id,id⟩|exact absurd (by simp) hr)
  (λr hr=>by rw [ep.1 hr];exact q)
  (λr hr=>by rw [ep.1 hr];trivial)
  (λr hr=>by rw [ep.1 hr];exact .inl ⟨trivial,rfl⟩)
  (λr hr r' cw _ _=>by rw [ep.1 hr,ep.1 cw])
  v.fz v.fb
 exact ⟨_,i1,rfl,rfl,λ_ _=>rfl,λ_ _=>rfl,i2⟩
theorem Inv.queue (v:Inv T b E x cd vf d h) (hb:b.size<=h.size) {xs:List Nat} {A:Nat} {u:ai} (aM:d.queue++xs≠[]) (f:aS D h h') (hD:∀ B∈D,B=x.pl .w\/(B=x.pl .qa/\d.queue≠[])\/h.size<=B)
 (hA:(A=x.pl .qa/\d.queue≠[])\/h.size<=A) (o:Ow aC.nat b h' T.i A u (d.queue++xs))
 (q:Holds h' (x.pl .w) (.row (Dd { x with vl:=av x.vl .qa u } cd vf d) T.w false)) :
 ∃ E' x',Inv T b E' x' cd vf { d with queue:=d.queue++xs } h'/\eB d.ab.length E E' x x' h h':=by
 have hq:(av x.pl .qa A) .qa=A:=kZ _ _ _
 obtain ⟨i1,i2⟩:=v.yF (x':={ x with pl:=av x.pl .qa A,vl:=av x.vl .qa u }) (d':={ d with queue:=d.queue++xs }) [.w,.qa] hb f
  (λB hB=>by
   rcases hD B hB with rfl|⟨rfl,e⟩|e
   .exact .inl ⟨.w,by simp,trivial,rfl⟩
   .exact .inl ⟨.qa,by simp,e,rfl⟩
   .exact .inr e)
  (λr hr=>by cases r <;> first|exact ⟨rfl,id,id⟩|exact absurd (by simp) hr)
  (λr hr=>by
   rcases df.1 hr with rfl|hr
   .exact q
   .rw [ep.1 hr]
    show dx aC.nat b h' T.i (av x.pl .qa A .qa) (av x.vl .qa u .qa) (d.queue++xs)
    rw [kZ,kZ]
    exact o.CC aM)
  (λr hr=>by
   rcases df.1 hr with rfl|hr
   .trivial
   .rw [ep.1 hr];exact aM)
  (λr hr=>by
   rcases df.1 hr with rfl|hr
   .exact .inl ⟨trivial,rfl⟩
   .rw [ep.1 hr]
    show (d.queue≠[]/\av x.pl .qa A .qa=x.pl .qa)\/h.size<=av x.pl .qa A .qa
    rw [hq]
    exact hA.imp (λe=>⟨e.2,e.1⟩) id)
  (λr hr r' cw e1 e2=>by
   have hw:=v.lt (r:=.w) trivial
   rcases df.1 hr with rfl|hr
   .exact absurd e1 (by show ¬ h.size<=x.pl .w;omega)
   .rcases df.1 cw with rfl|cw
    .rw [e2] at e1
     exact absurd e1 (by show ¬ h.size<=x.pl .w;omega)
    .rw [ep.1 hr,ep.1 cw])
  v.fz v.fb
 exact ⟨_,_,i1,rfl,rfl,λ_ _=>rfl,λ_ _=>rfl,i2⟩
end
end Go.Am
namespace Go.Am
section
variable {T:yf} {b h h':Heap} {x x':cO} {cd vf:ai} {d d':ba} {D E E':List Nat}
theorem Inv.push (v:Inv T b E x cd vf d h) (hb:b.size<=h.size) {s:dy} {A As:Nat} {u lv:ai} (f:aS D h h') (hD:∀ B∈D,B=x.pl .w\/(B=x.pl .sa/\d.ab≠[])\/h.size<=B)
 (hA:(A=x.pl .sa/\d.ab≠[])\/h.size<=A) (qf:h.size<=As) (aM:As≠A) (o:Ow aC.ptr b h' T.ps A u (((List.range d.ab.length).map λi=>x.pl (.s i))++[As]))
 (qs:Holds h' As (.row (tc lv s) T.s false)) (hl:Sl aC.bind (bq E h) lv s.l)
 (q:Holds h' (x.pl .w) (.row (Dd { x with vl:=av x.vl .sa u } cd vf d) T.w false)) :
 ∃ E' x',Inv T b E' x' cd vf { d with ab:=d.ab++[s] } h'/\eB d.ab.length E E' x x' h h':=by
 obtain ⟨n,hn⟩:∃ n,n=d.ab.length:=⟨_,rfl⟩
 have hwl:=v.lt (r:=.w) trivial
 have p1:∀ i,i≠n->av (av x.pl .sa A) (.s n) As (.s i)=x.pl (.s i):=λi hi=>by rw [fF (by simpa using hi),fF (by simp)]
 have p2:av (av x.pl .sa A) (.s n) As (.s n)=As:=kZ _ _ _
 have p3:av (av x.pl .sa A) (.s n) As .sa=A:=by rw [fF (by simp),kZ]
 have v1:∀ i,i≠n->av (av x.vl .sa u) (.s n) lv (.s i)=x.vl (.s i):=λi hi=>by rw [fF (by simpa using hi),fF (by simp)]
 have v2:av (av x.vl .sa u) (.s n) lv (.s n)=lv:=kZ _ _ _
 have v3:av (av x.vl .sa u) (.s n) lv .sa=u:=by rw [fF (by simp),kZ]
 have gl:∀ {i t},i≠n->(d.ab++[s])[i]? = some t->d.ab[i]? = some t:=λ{i t} hi ht=>by
  have:=aq ht
  rw [cE,gF] at this
  rwa [jz (by omega)] at ht
 have gn:∀ {t},(d.ab++[s])[n]? = some t->t=s:=λ{t} ht=>by
  rw [hn,lp (by omega),tp] at ht
  simpa using ht.symm
 have rg:(List.range (d.ab++[s]).length).map (λi=>av (av x.pl .sa A) (.s n) As (.s i))=((List.range d.ab.length).map λi=>x.pl (.s i))++[As]:=by
  rw [cE,gF,List.range_succ,sf,qO,List.map_nil,<- hn,p2]
  congr 1
  exact Dg λi hi=>p1 i (by have:=rj.1 hi;omega)
 obtain ⟨i1,i2⟩:=v.yF (x':={ x with pl:=av (av x.pl .sa A) (.s n) As,vl:=av (av x.vl .sa u) (.s n) lv }) (d':={ d with ab:=d.ab++[s] }) [.w,.sa,.s n] hb f
  (λB hB=>by
   rcases hD B hB with rfl|⟨rfl,e⟩|e
   .exact .inl ⟨.w,by simp,trivial,rfl⟩
   .exact .inl ⟨.sa,by simp,e,rfl⟩
   .exact .inr e)
  (λr hr=>by
   cases r <;> first|exact ⟨rfl,id,id⟩|(exfalso;apply hr;simp;done)|skip
   rename_i i
   have hi:i≠n:=by rintro rfl;simp at hr
   refine ⟨p1 i hi,λhh=>?_,λg t ht=>?_⟩
   .have hh:i < (d.ab++[s]).length:=hh
    rw [cE,gF] at hh
    show i < d.ab.length
    omega
   .show Holds h' (av (av x.pl .sa A) (.s n) As (.s i)) (.row (tc (av (av x.vl .sa u) (.s n) lv (.s i)) t) T.s false)
    rw [p1 i hi,v1 i hi]
    exact g t (gl hi ht))
  (λr hr=>by
   simp only [df,il,or_false] at hr
   rcases hr with rfl|rfl|rfl
   .exact q
   .show dx aC.ptr b h' T.ps (av (av x.pl .sa A) (.s n) As .sa) (av (av x.vl .sa u) (.s n) lv .sa) _
    rw [p3,v3,rg]
    exact o.CC (by simp)
   .intro t ht
    show Holds h' (av (av x.pl .sa A) (.s n) As (.s n)) (.row (tc (av (av x.vl .sa u) (.s n) lv (.s n)) t) T.s false)
    rw [p2,v2,gn ht]
    exact qs)
  (λr hr=>by
   simp only [df,il,or_false] at hr
   rcases hr with rfl|rfl|rfl
   .trivial
   .show d.ab++[s]≠[]
    simp
   .show n < (d.ab++[s]).length
    rw [cE,gF];omega)
  (λr hr=>by
   simp only [df,il,or_false] at hr
   rcases hr with rfl|rfl|rfl
   .exact .inl ⟨trivial,rfl⟩
   .show (d.ab≠[]/\av (av x.pl .sa A) (.s n) As .sa=x.pl .sa)\/h.size<=av (av x.pl .sa A) (.s n) As .sa
    rw [p3]
    exact hA.imp (λe=>⟨e.2,e.1⟩) id
   .exact .inr (by show h.size<=av (av x.pl .sa A) (.s n) As (.s n);rw [p2];exact qf))
  (λr hr r' cw e1 e2=>by
   simp only [df,il,or_false] at hr cw
   have hw:av (av x.pl .sa A) (.s n) As .w=x.pl .w:=rfl
   change h.size<=av (av x.pl .sa A) (.s n) As r at e1
   change av (av x.pl .sa A) (.s n) As r=av (av x.pl .sa A) (.s n) As r' at e2
   rcases hr with rfl|rfl|rfl <;> rcases cw with rfl|rfl|rfl <;> first|rfl|(exfalso;simp only [hw,p2,p3] at e1 e2;omega))
  (λi t ht=>by
   show Sl aC.bind (bq E h) (av (av x.vl .sa u) (.s n) lv (.s i)) t.l
   by_cases hi:i=n
   .subst hi
    rw [v2,gn ht]
    exact hl
   .rw [v1 i hi]
    exact v.fz i t (gl hi ht))
  v.fb
 exact ⟨_,_,i1,rfl,rfl,λi hi=>p1 i (by omega),λi hi=>v1 i (by omega),i2⟩
theorem Inv.reason (v:Inv T b E x cd vf d h) (hb:b.size<=h.size) {r:bc} {A:Nat} {u bv:ai} (f:aS D h h') (hD:∀ B∈D,B=x.pl .w\/(B=x.pl .ra/\d.aF≠[])\/h.size<=B)
 (hA:(A=x.pl .ra/\d.aF≠[])\/h.size<=A) (o:Ow aC.rv b h' T.r A u (oD x.vb 0 d.aF++[(r.atom,r.clause,bv)])) (hl:Sl aC.atom (bq E h) bv r.body)
 (q:Holds h' (x.pl .w) (.row (Dd { x with vl:=av x.vl .ra u } cd vf d) T.w false)) :
 ∃ E' x',Inv T b E' x' cd vf { d with aF:=d.aF++[r] } h'/\eB d.ab.length E E' x x' h h':=by
 have hwl:=v.lt (r:=.w) trivial
 have p1:av x.pl .ra A .ra=A:=kZ _ _ _
 have v1:av x.vl .ra u .ra=u:=kZ _ _ _
 obtain ⟨i1,i2⟩:=v.yF (x':={ pl:=av x.pl .ra A,vl:=av x.vl .ra u,vb:=λi=>if i=d.aF.length then bv else x.vb i }) (d':={ d with aF:=d.aF++[r] }) [.w,.ra] hb f
  (λB hB=>by
   rcases hD B hB with rfl|⟨rfl,e⟩|e
   .exact .inl ⟨.w,by simp,trivial,rfl⟩
   .exact .inl ⟨.ra,by simp,e,rfl⟩
   .exact .inr e)
  (λr hr=>by cases r <;> first|exact ⟨rfl,id,id⟩|(exfalso;apply hr;simp;done))
  (λr hr=>by
   simp only [df,il,or_false] at hr
   rcases hr with rfl|rfl
   .exact q
   .show dx aC.rv b h' T.r (av x.pl .ra A .ra) (av x.vl .ra u .ra) (oD (λi=>if i=d.aF.length then bv else x.vb i) 0 (d.aF++[_]))
    rw [p1,v1,zs6 0 _ (by omega)]
    exact o.CC (by simp))
  (λr hr=>by
   simp only [df,il,or_false] at hr
   rcases hr with rfl|rfl
   .trivial
   .show d.aF++[_]≠[]
    simp)
  (λr hr=>by
   simp only [df,il,or_false] at hr
   rcases hr with rfl|rfl
   .exact .inl ⟨trivial,rfl⟩
   .show (d.aF≠[]/\av x.pl .ra A .ra=x.pl .ra)\/h.size<=av x.pl .ra A .ra
    rw [p1]
    exact hA.imp (λe=>⟨e.2,e.1⟩) id)
  (λr hr r' cw e1 e2=>by
   simp only [df,il,or_false] at hr cw
   have hw:av x.pl .ra A .w=x.pl .w:=rfl
   change h.size<=av x.pl .ra A r at e1
   change av x.pl .ra A r=av x.pl .ra A r' at e2
   rcases hr with rfl|rfl <;> rcases cw with rfl|rfl <;> first|rfl|(exfalso;simp only [hw,p1] at e1 e2;omega))
  v.fz
  (λi t ht=>by
   show Sl aC.atom (bq E h) (if i=d.aF.length then bv else x.vb i) t.body
   by_cases hi:i=d.aF.length
   .subst hi
    rw [lp (by omega),tp] at ht
    have e:r=t:=by simpa using ht
    rw [aD rfl,<- e]
    exact hl
   .have:=aq ht
    rw [cE,gF] at this
    rw [jz (by omega)] at ht
    rw [az hi]
    exact v.fb i t ht)
 exact ⟨_,_,i1,rfl,rfl,λ_ _=>rfl,λ_ _=>rfl,i2⟩
theorem Inv.known (v:Inv T b E x cd vf d h) (hb:b.size<=h.size) {ks:aN} (f:aS [x.pl .km] h h') (m:fh h' (x.pl .km) ks) :
 ∃ E',Inv T b E' x cd vf { d with known:=ks } h'/\eB d.ab.length E E' x x h h':=by
 obtain ⟨i1,i2⟩:=v.yF (x':=x) (d':={ d with known:=ks }) [.km] hb f
  (λB hB=>.inl ⟨.km,by simp,trivial,(ep.1 hB).symm⟩)
  (λr hr=>by cases r <;> first|exact ⟨rfl,id,id⟩|(exfalso;apply hr;simp;done))
  (λr hr=>by rw [ep.1 hr];exact m)
  (λr hr=>by rw [ep.1 hr];trivial)
  (λr hr=>by rw [ep.1 hr];exact .inl ⟨trivial,rfl⟩)
  (λr hr r' cw _ _=>by rw [ep.1 hr,ep.1 cw])
  v.fz v.fb
 exact ⟨_,i1,rfl,rfl,λ_ _=>rfl,λ_ _=>rfl,i2⟩
theorem Inv.state (v:Inv T b E x cd vf d h) (hb:b.size<=h.size) {i:Nat} {s s':dy} (hi:d.ab[i]? = some s) (hl:s'.l=s.l) (f:aS [x.pl (.s i)] h h') (q:Holds h' (x.pl (.s i)) (.row (tc (x.vl (.s i)) s') T.s false)) :
 ∃ E',Inv T b E' x cd vf { d with ab:=d.ab.set i s' } h'/\eB d.ab.length E E' x x h h':=by
 have fC:=aq hi
 have gi:∀ {t},(d.ab.set i s')[i]? = some t->t=s':=λ{t} ht=>by
  rw [mV fC] at ht
  exact (Option.some.inj ht).symm
 have gn:∀ {j:Nat} {t},j≠i->(d.ab.set i s')[j]? = some t->d.ab[j]? = some t:=λ{j t} hj ht=>by
  rwa [za (λe=>hj e.symm)] at ht
 obtain ⟨i1,i2⟩:=v.yF (x':=x) (d':={ d with ab:=d.ab.set i s' }) [.s i] hb f
  (λB hB=>.inl ⟨.s i,by simp,fC,(ep.1 hB).symm⟩)
  (λr hr=>by
   cases r <;> first|exact ⟨rfl,id,id⟩|skip
   .refine ⟨rfl,λhh=>?_,λg=>?_⟩
    .intro e
     apply hh
     show d.ab.set i s'=[]
     rw [e];rfl
    .show dx aC.ptr b h' T.ps (x.pl .sa) (x.vl .sa) ((List.range (d.ab.set i s').length).map λi=>x.pl (.s i))
     rw [ja]
     exact g
   .rename_i j
    have hj:j≠i:=by rintro rfl;simp at hr
    refine ⟨rfl,λhh=>?_,λg t ht=>g t (gn hj ht)⟩
    have hh:j < (d.ab.set i s').length:=hh
    rwa [ja] at hh)
  (λr hr=>by
   rw [ep.1 hr]
   intro t ht
   rw [gi ht]
   exact q)
  (λr hr=>by
   rw [ep.1 hr]
   show i < (d.ab.set i s').length
   rw [ja];exact fC)
  (λr hr=>by rw [ep.1 hr];exact .inl ⟨fC,rfl⟩)
  (λr hr r' cw _ _=>by rw [ep.1 hr,ep.1 cw])
  (λj t ht=>by
   by_cases hj:j=i
   .subst hj
    rw [gi ht,hl]
    exact v.fz j s hi
   .exact v.fz j t (gn hj ht))
  v.fb
 exact ⟨_,i1,rfl,rfl,λ_ _=>rfl,λ_ _=>rfl,i2⟩
end
end Go.Am
namespace Go.Am
variable {A i:Nat} {u:ai}
section
variable {T:yf} {b h h':Heap} {x x':cO} {cd vf:ai} {d d':ba} {D E E':List Nat}
theorem zih {Z β:Type} (f:Z->β) {l:List Z} {a c:Z} (h:l[i]? = some a) (e:f c=f a):(l.set i c).map f=l.map f:=by
 rw [List.map_set,e]
 apply xZ
 intro j
 by_cases hj:i=j
 .subst hj
  rw [mV (by rw [gw];exact aq h),lP,h]
  rfl
 .rw [za hj]
theorem Inv.call (v:Inv T b E x cd vf d h) (hb:b.size<=h.size) {a:ae} {Ac At:Nat} (f:aS D h h') (hD:∀ B∈D,B=x.pl .pm\/B=x.pl .t\/(B=x.pl .ca/\d.calls≠[])\/h.size<=B)
 (hA:(A=x.pl .ca/\d.calls≠[])\/h.size<=A) (hAc:h.size<=Ac) (hAt:h.size<=At) (n1:Ac≠At) (n2:Ac≠A) (n3:At≠A)
 (mp:b9 h' (x.pl .pm) (fc 0 (d.calls.map aY.atom)++[(a,(d.calls.length:Int))])) (o:Ow aC.ptr b h' T.pc A u (((List.range d.calls.length).map λi=>x.pl (.c i))++[Ac]))
 (qc:Holds h' Ac (.row (a.cells++[.slice none 0 0,.map (some At),.slice none 0 0]) T.c false)) (mt:b9 h' At [])
 (q:Holds h' (x.pl .t) (.row (Zs { x with vl:=av x.vl .ca u } d) T.t false)) :
 ∃ E' x',Inv T b E' x' cd vf { d with calls:=d.calls++[⟨a,[],[]⟩] } h'/\eB d.ab.length E E' x x' h h':=by
 obtain ⟨n,hn⟩:∃ n,n=d.calls.length:=⟨_,rfl⟩
 have h1:=v.lt (r:=.pm) trivial
 have h2:=v.lt (r:=.t) trivial
 have Vf:x.pl .pm≠x.pl .t:=λe=>nomatch (v.inj .pm .t trivial trivial e)
 obtain ⟨P,hP⟩:∃ P,P=av (av (av x.pl .ca A) (.c n) Ac) (.th n) At:=⟨_,rfl⟩
 obtain ⟨V,hV⟩:∃ V,V=av (av (av x.vl .ca u) (.an n) (Value.slice none 0 0)) (.wa n) (Value.slice none 0 0):=⟨_,rfl⟩
 have pc:∀ i,i≠n->P (.c i)=x.pl (.c i):=λi hi=>by rw [hP,fF (by simp),fF (by simpa using hi),fF (by simp)]
 have pt:∀ i,i≠n->P (.th i)=x.pl (.th i):=λi hi=>by rw [hP,fF (by simpa using hi),fF (by simp),fF (by simp)]
 have Pn:P (.c n)=Ac:=by rw [hP,fF (by simp),kZ]
 have Pq:P (.th n)=At:=by rw [hP,kZ]
 have Wq:P .ca=A:=by rw [hP,fF (by simp),fF (by simp),kZ]
 have pan:∀ i,P (.an i)=x.pl (.an i):=λi=>by rw [hP,fF (by simp),fF (by simp),fF (by simp)]
 have pwa:∀ i,P (.wa i)=x.pl (.wa i):=λi=>by rw [hP,fF (by simp),fF (by simp),fF (by simp)]
 have Po:P .pm=x.pl .pm:=by rw [hP];rfl
 have Pp:P .t=x.pl .t:=by rw [hP];rfl
 have va:∀ i,i≠n->V (.an i)=x.vl (.an i):=λi hi=>by rw [hV,fF (by simp),fF (by simpa using hi),fF (by simp)]
 have vw:∀ i,i≠n->V (.wa i)=x.vl (.wa i):=λi hi=>by rw [hV,fF (by simpa using hi),fF (by simp),fF (by simp)]
 have van:V (.an n)=.slice none 0 0:=by rw [hV,fF (by simp),kZ]
 have vwn:V (.wa n)=.slice none 0 0:=by rw [hV,kZ]
 have vca:V .ca=u:=by rw [hV,fF (by simp),fF (by simp),kZ]
 have gl:∀ {i t},i≠n->(d.calls++[(⟨a,[],[]⟩:aY)])[i]? = some t->d.calls[i]? = some t:=λ{i t} hi ht=>by
  have:=aq ht
  rw [cE,gF] at this
  rwa [jz (by omega)] at ht
 have gn:∀ {t},(d.calls++[(⟨a,[],[]⟩:aY)])[n]? = some t->t=⟨a,[],[]⟩:=λ{t} ht=>by
  rw [hn,lp (by omega),tp] at ht
  exact (Option.some.inj ht).symm
 have ll:∀ i,i≠n->i < (d.calls++[(⟨a,[],[]⟩:aY)]).length->i < d.calls.length:=λi hi hh=>by
  rw [cE,gF] at hh
  omega
 have rg:(List.range (d.calls++[(⟨a,[],[]⟩:aY)]).length).map (λi=>P (.c i))=((List.range d.calls.length).map λi=>x.pl (.c i))++[Ac]:=by
  rw [cE,gF,List.range_succ,sf,qO,List.map_nil,<- hn,Pn]
  congr 1
  exact Dg λi hi=>pc i (by have:=rj.1 hi;omega)
 obtain ⟨i1,i2⟩:=v.yF (x':={ x with pl:=P,vl:=V }) (d':={ d with calls:=d.calls++[⟨a,[],[]⟩] }) [.pm,.t,.ca,.c n,.th n] hb f
  (λB hB=>by
   rcases hD B hB with rfl|rfl|⟨rfl,e⟩|e
   .exact .inl ⟨.pm,by simp,trivial,rfl⟩
   .exact .inl ⟨.t,by simp,trivial,rfl⟩
   .exact .inl ⟨.ca,by simp,e,rfl⟩
   .exact .inr e)
  (λr hr=>by
   cases r with
   |pm=>simp at hr
   |t=>simp at hr
   |ca=>simp at hr
   |w=>subst hP;subst hV;exact ⟨rfl,id,id⟩
   |km=>subst hP;subst hV;exact ⟨rfl,id,id⟩
   |sa=>subst hP;subst hV;exact ⟨rfl,id,id⟩
   |qa=>subst hP;subst hV;exact ⟨rfl,id,id⟩
   |ra=>subst hP;subst hV;exact ⟨rfl,id,id⟩
   |s i=>subst hP;subst hV;exact ⟨rfl,id,id⟩
   |c i =>
    have hi:i≠n:=by rintro rfl;simp at hr
    refine ⟨pc i hi,ll i hi,λg t ht=>?_⟩
    show Holds h' (P (.c i)) (.row (t.atom.cells++[V (.an i),.map (some (P (.th i))),V (.wa i)]) T.c false)
    rw [pc i hi,va i hi,vw i hi,pt i hi]
    exact g t (gl hi ht)
   |th i =>
    have hi:i≠n:=by rintro rfl;simp at hr
    refine ⟨pt i hi,ll i hi,λg t ht=>?_⟩
    show b9 h' (P (.th i)) (fc 0 t.answers)
    rw [pt i hi]
    exact g t (gl hi ht)
   |an i =>
    refine ⟨pan i,λ⟨t,ht,aM⟩=>?_,λg t ht=>?_⟩
    .by_cases hi:i=n
     .subst hi
      exact absurd (by rw [gn ht]) aM
     .exact ⟨t,gl hi ht,aM⟩
    .show dx aC.atom b h' T.a (P (.an i)) (V (.an i)) t.answers
     by_cases hi:i=n
     .subst hi
      exact .inl ⟨by rw [gn ht],van⟩
     .rw [pan,va i hi]
      exact g t (gl hi ht)
   |wa i =>
    refine ⟨pwa i,λ⟨t,ht,aM⟩=>?_,λg t ht=>?_⟩
    .by_cases hi:i=n
     .subst hi
      exact absurd (by rw [gn ht]) aM
     .exact ⟨t,gl hi ht,aM⟩
    .show dx aC.nat b h' T.i (P (.wa i)) (V (.wa i)) t.waiters
     by_cases hi:i=n
     .subst hi
      exact .inl ⟨by rw [gn ht],vwn⟩
     .rw [pwa,vw i hi]
      exact g t (gl hi ht))
  (λr hr=>by
   simp only [df,il,or_false] at hr
   rcases hr with rfl|rfl|rfl|rfl|rfl
   .show b9 h' (P .pm) (fc 0 ((d.calls++[(⟨a,[],[]⟩:aY)]).map aY.atom))
    rw [Po,sf,qO,List.map_nil,X4,gw,iA]
    exact mp
   .show Holds h' (P .t) (.row [.map (some (P .pm)),V .ca,.int .i64 (d.count:Int)] T.t false)
    rw [Po,Pp,vca]
    exact q
   .show dx aC.ptr b h' T.pc (P .ca) (V .ca) ((List.range (d.calls++[(⟨a,[],[]⟩:aY)]).length).map λi=>P (.c i))
    rw [rg,Wq,vca]
    exact o.CC (by simp)
   .intro t ht
    show Holds h' (P (.c n)) (.row (t.atom.cells++[V (.an n),.map (some (P (.th n))),V (.wa n)]) T.c false)
    rw [gn ht,Pn,van,vwn,Pq]
    exact qc
   .intro t ht
    show b9 h' (P (.th n)) (fc 0 t.answers)
    rw [gn ht,Pq]
    exact mt)
  (λr hr=>by
   simp only [df,il,or_false] at hr
   rcases hr with rfl|rfl|rfl|rfl|rfl
   .trivial
   .trivial
   .show d.calls++[_]≠[]
    simp
   .show n < (d.calls++[_]).length
    rw [cE,gF];omega
   .show n < (d.calls++[_]).length
    rw [cE,gF];omega)
  (λr hr=>by
   simp only [df,il,or_false] at hr
   rcases hr with rfl|rfl|rfl|rfl|rfl
   .exact .inl ⟨trivial,Po⟩
   .exact .inl ⟨trivial,Pp⟩
   .show (d.calls≠[]/\P .ca=x.pl .ca)\/h.size<=P .ca
    rw [Wq]
    exact hA.imp (λe=>⟨e.2,e.1⟩) id
   .exact .inr (by show h.size<=P (.c n);rw [Pn];exact hAc)
   .exact .inr (by show h.size<=P (.th n);rw [Pq];exact hAt))
  (λr hr r' cw e1 e2=>by
   simp only [df,il,or_false] at hr cw
   change h.size<=P r at e1
   change P r=P r' at e2
   rcases hr with rfl|rfl|rfl|rfl|rfl <;> rcases cw with rfl|rfl|rfl|rfl|rfl <;> first|rfl|(exfalso;simp only [Po,Pp,Wq,Pn,Pq] at e1 e2;omega))
  (λi t ht=>by
   have e:V (.s i)=x.vl (.s i):=by rw [hV];rfl
   show Sl aC.bind (bq E h) (V (.s i)) t.l
   rw [e]
   exact v.fz i t ht)
  v.fb
 exact ⟨_,_,i1,by rw [hP];rfl,Pp,λi hi=>by rw [hP];rfl,λi hi=>by rw [hV];rfl,i2⟩
theorem Inv.answer (v:Inv T b E x cd vf d h) (hb:b.size<=h.size) {c:aY} (hi:d.calls[i]? = some c) {a:ae} (f:aS D h h') (hD:∀ B∈D,B=x.pl .t\/B=x.pl (.c i)\/B=x.pl (.th i)\/(B=x.pl (.an i)/\c.answers≠[])\/h.size<=B)
 (hA:(A=x.pl (.an i)/\c.answers≠[])\/h.size<=A)
 (mt:b9 h' (x.pl (.th i)) (fc 0 (c.answers++[a]))) (o:Ow aC.atom b h' T.a A u (c.answers++[a]))
 (qc:Holds h' (x.pl (.c i)) (.row (NU { x with vl:=av x.vl (.an i) u } i c) T.c false))
 (q:Holds h' (x.pl .t) (.row (Zs x { d with count:=d.count+1 }) T.t false)) :
 ∃ E' x',Inv T b E' x' cd vf { d with calls:=d.calls.set i { c with answers:=c.answers++[a] },count:=d.count+1 } h'/\eB d.ab.length E E' x x' h h':=by
 have fC:=aq hi
 have h1:=v.lt (r:=.t) trivial
 have h2:=v.lt (r:=.c i) fC
 have h3:=v.lt (r:=.th i) fC
 obtain ⟨c',ec⟩:∃ c',c'={ c with answers:=c.answers++[a] }:=⟨_,rfl⟩
 obtain ⟨P,hP⟩:∃ P,P=av x.pl (.an i) A:=⟨_,rfl⟩
 obtain ⟨V,hV⟩:∃ V,V=av x.vl (.an i) u:=⟨_,rfl⟩
 have pa:∀ j,j≠i->P (.an j)=x.pl (.an j):=λj hj=>by rw [hP,fF (by simpa using hj)]
 have Fl:P (.an i)=A:=by rw [hP,kZ]
 have va:∀ j,j≠i->V (.an j)=x.vl (.an j):=λj hj=>by rw [hV,fF (by simpa using hj)]
 have WN:V (.an i)=u:=by rw [hV,kZ]
 have gi:∀ {t},(d.calls.set i c')[i]? = some t->t=c':=λ{t} ht=>by
  rw [mV fC] at ht
  exact (Option.some.inj ht).symm
 have gn:∀ {j:Nat} {t},j≠i->(d.calls.set i c')[j]? = some t->d.calls[j]? = some t:=λ{j t} hj ht=>by
  rwa [za (λe=>hj e.symm)] at ht
 have ll:∀ j,j < (d.calls.set i c').length->j < d.calls.length:=λj hh=>by rwa [ja] at hh
 obtain ⟨i1,i2⟩:=v.yF (x':={ x with pl:=P,vl:=V }) (d':={ d with calls:=d.calls.set i c',count:=d.count+1 }) [.t,.c i,.th i,.an i] hb f
  (λB hB=>by
   rcases hD B hB with rfl|rfl|rfl|⟨rfl,e⟩|e
   .exact .inl ⟨.t,by simp,trivial,rfl⟩
   .exact .inl ⟨.c i,by simp,fC,rfl⟩
   .exact .inl ⟨.th i,by simp,fC,rfl⟩
   .exact .inl ⟨.an i,by simp,⟨c,hi,e⟩,rfl⟩
   .exact .inr e)
  (λr hr=>by
   cases r with
   |t=>simp at hr
   |pm =>
    subst hP;subst hV
    refine ⟨rfl,id,λg=>?_⟩
    show b9 h' (x.pl .pm) (fc 0 ((d.calls.set i c').map aY.atom))
    rw [zih aY.atom hi (by rw [ec])]
    exact g
   |ca =>
    subst hP;subst hV
    refine ⟨rfl,λhh e=>hh ?_,λg=>?_⟩
    .show d.calls.set i c'=[]
     rw [e];rfl
    .show dx aC.ptr b h' T.pc (x.pl .ca) (x.vl .ca) ((List.range (d.calls.set i c').length).map λi=>x.pl (.c i))
     rw [ja]
     exact g
   |w=>subst hP;subst hV;exact ⟨rfl,id,id⟩
   |km=>subst hP;subst hV;exact ⟨rfl,id,id⟩
   |sa=>subst hP;subst hV;exact ⟨rfl,id,id⟩
   |qa=>subst hP;subst hV;exact ⟨rfl,id,id⟩
   |ra=>subst hP;subst hV;exact ⟨rfl,id,id⟩
   |s i=>subst hP;subst hV;exact ⟨rfl,id,id⟩
   |c j =>
    have hj:j≠i:=by rintro rfl;simp at hr
    refine ⟨by rw [hP];rfl,ll j,λg t ht=>?_⟩
    show Holds h' (P (.c j)) (.row (t.atom.cells++[V (.an j),.map (some (P (.th j))),V (.wa j)]) T.c false)
    have e1:P (.c j)=x.pl (.c j):=by rw [hP];rfl
    have e2:P (.th j)=x.pl (.th j):=by rw [hP];rfl
    have e3:V (.wa j)=x.vl (.wa j):=by rw [hV];rfl
    rw [e1,e2,e3,va j hj]
    exact g t (gn hj ht)
   |th j =>
    have hj:j≠i:=by rintro rfl;simp at hr
    have e2:P (.th j)=x.pl (.th j):=by rw [hP];rfl
    refine ⟨e2,ll j,λg t ht=>?_⟩
    show b9 h' (P (.th j)) (fc 0 t.answers)
    rw [e2]
    exact g t (gn hj ht)
   |an j =>
    have hj:j≠i:=by rintro rfl;simp at hr
    refine ⟨pa j hj,λ⟨t,ht,aM⟩=>⟨t,gn hj ht,aM⟩,λg t ht=>?_⟩
    show dx aC.atom b h' T.a (P (.an j)) (V (.an j)) t.answers
    rw [pa j hj,va j hj]
    exact g t (gn hj ht)
   |wa j =>
    have e2:P (.wa j)=x.pl (.wa j):=by rw [hP];rfl
    have e3:V (.wa j)=x.vl (.wa j):=by rw [hV];rfl
    have key:∀ t,(d.calls.set i c')[j]? = some t->∃ t0,d.calls[j]? = some t0/\t0.waiters=t.waiters:=λt ht=>by
     by_cases hj:j=i
     .subst hj
      exact ⟨c,hi,by rw [gi ht,ec]⟩
     .exact ⟨t,gn hj ht,rfl⟩
    refine ⟨e2,λ⟨t,ht,aM⟩=>?_,λg t ht=>?_⟩
    .obtain ⟨t0,k1,k2⟩:=key t ht
     exact ⟨t0,k1,by rw [k2];exact aM⟩
    .obtain ⟨t0,k1,k2⟩:=key t ht
     show dx aC.nat b h' T.i (P (.wa j)) (V (.wa j)) t.waiters
     rw [e2,e3,<- k2]
     exact g t0 k1)
  (λr hr=>by
   simp only [df,il,or_false] at hr
   have e2:P (.th i)=x.pl (.th i):=by rw [hP];rfl
   rcases hr with rfl|rfl|rfl|rfl
   .subst hP;subst hV;exact q
   .intro t ht
    rw [gi ht]
    subst hP;subst hV;subst ec
    exact qc
   .intro t ht
    show b9 h' (P (.th i)) (fc 0 t.answers)
    rw [gi ht,e2,ec]
    exact mt
   .intro t ht
    show dx aC.atom b h' T.a (P (.an i)) (V (.an i)) t.answers
    rw [gi ht,Fl,WN,ec]
    exact o.CC (by simp))
  (λr hr=>by
   simp only [df,il,or_false] at hr
   rcases hr with rfl|rfl|rfl|rfl
   .trivial
   .show i < (d.calls.set i c').length
    rw [ja];exact fC
   .show i < (d.calls.set i c').length
    rw [ja];exact fC
   .exact ⟨c',mV fC,by rw [ec];simp⟩)
  (λr hr=>by
   simp only [df,il,or_false] at hr
   rcases hr with rfl|rfl|rfl|rfl
   .exact .inl ⟨trivial,by rw [hP];rfl⟩
   .exact .inl ⟨fC,by rw [hP];rfl⟩
   .exact .inl ⟨fC,by rw [hP];rfl⟩
   .show ((∃ t,d.calls[i]? = some t/\t.answers≠[])/\P (.an i)=x.pl (.an i))\/h.size<=P (.an i)
    rw [Fl]
    exact hA.imp (λe=>⟨⟨c,hi,e.2⟩,e.1⟩) id)
  (λr hr r' cw e1 e2=>by
   simp only [df,il,or_false] at hr cw
   have k1:P .t=x.pl .t:=by rw [hP];rfl
   have k2:P (.c i)=x.pl (.c i):=by rw [hP];rfl
   have k3:P (.th i)=x.pl (.th i):=by rw [hP];rfl
   change h.size<=P r at e1
   change P r=P r' at e2
   rcases hr with rfl|rfl|rfl|rfl <;> rcases cw with rfl|rfl|rfl|rfl <;> first|rfl|(exfalso;simp only [k1,k2,k3,Fl] at e1 e2;omega))
  (λk t ht=>by
   have e:V (.s k)=x.vl (.s k):=by rw [hV];rfl
   show Sl aC.bind (bq E h) (V (.s k)) t.l
   rw [e]
   exact v.fz k t ht)
  v.fb
 rw [ec] at i1
 exact ⟨_,_,i1,by rw [hP];rfl,by rw [hP];rfl,λi hi=>by rw [hP];rfl,λi hi=>by rw [hV];rfl,i2⟩
theorem Inv.wait (v:Inv T b E x cd vf d h) (hb:b.size<=h.size) {c:aY} (hi:d.calls[i]? = some c) {k:Nat} (f:aS D h h') (hD:∀ B∈D,B=x.pl (.c i)\/(B=x.pl (.wa i)/\c.waiters≠[])\/h.size<=B)
 (hA:(A=x.pl (.wa i)/\c.waiters≠[])\/h.size<=A) (o:Ow aC.nat b h' T.i A u (c.waiters++[k]))
 (qc:Holds h' (x.pl (.c i)) (.row (NU { x with vl:=av x.vl (.wa i) u } i c) T.c false)) :
 ∃ E' x',Inv T b E' x' cd vf { d with calls:=d.calls.set i { c with waiters:=c.waiters++[k] } } h'/\eB d.ab.length E E' x x' h h':=by
 have fC:=aq hi
 have h2:=v.lt (r:=.c i) fC
 obtain ⟨c',ec⟩:∃ c',c'={ c with waiters:=c.waiters++[k] }:=⟨_,rfl⟩
 obtain ⟨P,hP⟩:∃ P,P=av x.pl (.wa i) A:=⟨_,rfl⟩
 obtain ⟨V,hV⟩:∃ V,V=av x.vl (.wa i) u:=⟨_,rfl⟩
 have pa:∀ j,j≠i->P (.wa j)=x.pl (.wa j):=λj hj=>by rw [hP,fF (by simpa using hj)]
 have Fl:P (.wa i)=A:=by rw [hP,kZ]
 have va:∀ j,j≠i->V (.wa j)=x.vl (.wa j):=λj hj=>by rw [hV,fF (by simpa using hj)]
 have WN:V (.wa i)=u:=by rw [hV,kZ]
 have gi:∀ {t},(d.calls.set i c')[i]? = some t->t=c':=λ{t} ht=>by
  rw [mV fC] at ht
  exact (Option.some.inj ht).symm
 have gn:∀ {j:Nat} {t},j≠i->(d.calls.set i c')[j]? = some t->d.calls[j]? = some t:=λ{j t} hj ht=>by
  rwa [za (λe=>hj e.symm)] at ht
 have ll:∀ j,j < (d.calls.set i c').length->j < d.calls.length:=λj hh=>by rwa [ja] at hh
 have key:∀ (j:Nat) (t:aY),(d.calls.set i c')[j]? = some t->∃ t0:aY,d.calls[j]? = some t0/\t0.answers=t.answers:=λj t ht=>by
  by_cases hj:j=i
  .subst hj
   exact ⟨c,hi,by rw [gi ht,ec]⟩
  .exact ⟨t,gn hj ht,rfl⟩
 obtain ⟨i1,i2⟩:=v.yF (x':={ x with pl:=P,vl:=V }) (d':={ d with calls:=d.calls.set i c' }) [.c i,.wa i] hb f
  (λB hB=>by
   rcases hD B hB with rfl|⟨rfl,e⟩|e
   .exact .inl ⟨.c i,by simp,fC,rfl⟩
   .exact .inl ⟨.wa i,by simp,⟨c,hi,e⟩,rfl⟩
   .exact .inr e)
  (λr hr=>by
   cases r with
   |t=>subst hP;subst hV;exact ⟨rfl,id,id⟩
   |pm =>
    subst hP;subst hV
    refine ⟨rfl,id,λg=>?_⟩
    show b9 h' (x.pl .pm) (fc 0 ((d.calls.set i c').map aY.atom))
    rw [zih aY.atom hi (by rw [ec])]
    exact g
   |ca =>
    subst hP;subst hV
    refine ⟨rfl,λhh e=>hh ?_,λg=>?_⟩
    .show d.calls.set i c'=[]
     rw [e];rfl
    .show dx aC.ptr b h' T.pc (x.pl .ca) (x.vl .ca) ((List.range (d.calls.set i c').length).map λi=>x.pl (.c i))
     rw [ja]
     exact g
   |w=>subst hP;subst hV;exact ⟨rfl,id,id⟩
   |km=>subst hP;subst hV;exact ⟨rfl,id,id⟩
   |sa=>subst hP;subst hV;exact ⟨rfl,id,id⟩
   |qa=>subst hP;subst hV;exact ⟨rfl,id,id⟩
   |ra=>subst hP;subst hV;exact ⟨rfl,id,id⟩
   |s i=>subst hP;subst hV;exact ⟨rfl,id,id⟩
   |c j =>
    have hj:j≠i:=by rintro rfl;simp at hr
    refine ⟨by rw [hP];rfl,ll j,λg t ht=>?_⟩
    show Holds h' (P (.c j)) (.row (t.atom.cells++[V (.an j),.map (some (P (.th j))),V (.wa j)]) T.c false)
    have e1:P (.c j)=x.pl (.c j):=by rw [hP];rfl
    have e2:P (.th j)=x.pl (.th j):=by rw [hP];rfl
    have e3:V (.an j)=x.vl (.an j):=by rw [hV];rfl
    rw [e1,e2,e3,va j hj]
    exact g t (gn hj ht)
   |th j =>
    have e2:P (.th j)=x.pl (.th j):=by rw [hP];rfl
    refine ⟨e2,ll j,λg t ht=>?_⟩
    obtain ⟨t0,k1,k2⟩:=key j t ht
    show b9 h' (P (.th j)) (fc 0 t.answers)
    rw [e2,<- k2]
    exact g t0 k1
   |wa j =>
    have hj:j≠i:=by rintro rfl;simp at hr
    refine ⟨pa j hj,λ⟨t,ht,aM⟩=>⟨t,gn hj ht,aM⟩,λg t ht=>?_⟩
    show dx aC.nat b h' T.i (P (.wa j)) (V (.wa j)) t.waiters
    rw [pa j hj,va j hj]
    exact g t (gn hj ht)
   |an j =>
    have e2:P (.an j)=x.pl (.an j):=by rw [hP];rfl
    have e3:V (.an j)=x.vl (.an j):=by rw [hV];rfl
    refine ⟨e2,λ⟨t,ht,aM⟩=>?_,λg t ht=>?_⟩
    .obtain ⟨t0,k1,k2⟩:=key j t ht
     exact ⟨t0,k1,by rw [k2];exact aM⟩
    .obtain ⟨t0,k1,k2⟩:=key j t ht
     show dx aC.atom b h' T.a (P (.an j)) (V (.an j)) t.answers
     rw [e2,e3,<- k2]
     exact g t0 k1)
  (λr hr=>by
   simp only [df,il,or_false] at hr
   rcases hr with rfl|rfl
   .intro t ht
    rw [gi ht]
    subst hP;subst hV;subst ec
    exact qc
   .intro t ht
    show dx aC.nat b h' T.i (P (.wa i)) (V (.wa i)) t.waiters
    rw [gi ht,Fl,WN,ec]
    exact o.CC (by simp))
  (λr hr=>by
   simp only [df,il,or_false] at hr
   rcases hr with rfl|rfl
   .show i < (d.calls.set i c').length
    rw [ja];exact fC
   .exact ⟨c',mV fC,by rw [ec];simp⟩)
  (λr hr=>by
   simp only [df,il,or_false] at hr
   rcases hr with rfl|rfl
   .exact .inl ⟨fC,by rw [hP];rfl⟩
   .show ((∃ t,d.calls[i]? = some t/\t.waiters≠[])/\P (.wa i)=x.pl (.wa i))\/h.size<=P (.wa i)
    rw [Fl]
    exact hA.imp (λe=>⟨⟨c,hi,e.2⟩,e.1⟩) id)
  (λr hr r' cw e1 e2=>by
   simp only [df,il,or_false] at hr cw
   have k2:P (.c i)=x.pl (.c i):=by rw [hP];rfl
   change h.size<=P r at e1
   change P r=P r' at e2
   rcases hr with rfl|rfl <;> rcases cw with rfl|rfl <;> first|rfl|(exfalso;simp only [k2,Fl] at e1 e2;omega))
  (λk t ht=>by
   have e:V (.s k)=x.vl (.s k):=by rw [hV];rfl
   show Sl aC.bind (bq E h) (V (.s k)) t.l
   rw [e]
   exact v.fz k t ht)
  v.fb
 rw [ec] at i1
 exact ⟨_,_,i1,by rw [hP];rfl,by rw [hP];rfl,λi hi=>by rw [hP];rfl,λi hi=>by rw [hV];rfl,i2⟩
end
end Go.Am

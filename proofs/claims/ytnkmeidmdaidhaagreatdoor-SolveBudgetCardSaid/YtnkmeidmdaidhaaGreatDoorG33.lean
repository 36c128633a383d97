/- The solver's state as plain data, and how it is laid out. No condition. -/
import Derived.Test.YtnkmeidmdaidhaaGreatDoorG32
set_option linter.unusedSimpArgs false
set_option linter.unusedVariables false
namespace Go.Am
variable {β:Type}
structure ba where
 atom:ae
 answers:aU
 waiters:List Nat
structure eu where
 call:Nat
 clause:Int
 taken:Nat
 l:List av
 next:ae
 src:Nat
 seen:Nat
structure bg where
 aE:Int
 steps:Nat
 calls:List ba
 count:Nat
 ab:List eu
 queue:List Nat
 aB:List aV
 known:aU
def dY:Nat->aU->List (ae × Int)
 |_,[]=>[]
 |k,a::l=>(a,(k:Int))::dY (k+1) l
theorem T1 (a:ae):∀ (k:Nat) (l:aU),dY k (l++[a])=dY k l++[(a,((k+l.length:Nat):Int))]
 |k,[]=>rfl
 |k,x::l=>by
  rw [qG,dY,dY,T1 a (k+1) l,qG,dB]
  have e:k+1+l.length=k+(l.length+1):=by omega
  rw [e]
def uj (a:ae) (l:aU):Nat:=l.findIdx λx=>decide (a=x)
theorem JC (a:ae):∀ (k:Nat) (l:aU),pM (dY k l) a=if a∈l then some ((k+uj a l:Nat):Int) else none
 |k,[]=>by simp [dY,pM]
 |k,x::l=>by
  have ih:=JC a (k+1) l
  unfold pM at ih ⊢
  rw [dY,List.find?_cons]
  unfold uj at ih ⊢
  rw [List.findIdx_cons]
  by_cases hx:a=x
  .simp [hx]
  .simp only [hx,decide_false,dg,false_or]
   rw [ih]
   have e:∀ n,k+1+n=k+(n+1):=λn=>by omega
   simp [e]
inductive Ro where
 |w|t|pm|km|ca|sa|qa|ra
 |c (i:Nat)|an (i:Nat)|th (i:Nat)|wa (i:Nat)|s (i:Nat)
 deriving DecidableEq
def aw (f:Ro->β) (r:Ro) (v:β):Ro->β:=λr'=>if r'=r then v else f r'
theorem kR (f:Ro->β) (r:Ro) (v:β):aw f r v r=v:=aG rfl
theorem fh {f:Ro->β} {r r':Ro} {v:β} (h:r'≠r):aw f r v r'=f r':=aA h
structure cp where
 pl:Ro->Nat
 vl:Ro->ai
 vb:Nat->ai
structure vd where
 w:TypeId
 t:TypeId
 c:TypeId
 s:TypeId
 pc:TypeId
 ps:TypeId
 i:TypeId
 r:TypeId
 a:TypeId
abbrev aF.ptr:aF Nat:={ k:=1,R:=λ_ cs x=>cs=[.pointer (some ⟨x,0,none⟩)],len:=by rintro _ _ _ rfl;rfl,mono:=λ_ _ _ _ _ h=>h,hU:=by rintro _ _ _ rfl;rfl }
abbrev aF.nat:aF Nat:={ k:=1,R:=λ_ cs x=>cs=[.int .i64 (x:Int)],len:=by rintro _ _ _ rfl;rfl,mono:=λ_ _ _ _ _ h=>h,hU:=by rintro _ _ _ rfl;rfl }
abbrev aF.rv:aF (ae × Int × ai):={ k:=13,R:=λ_ cs x=>cs=x.1.cells++[.int .i64 x.2.1,x.2.2]/\one x.2.2=true,len:=by rintro _ _ _ ⟨rfl,_⟩;rfl,mono:=λ_ _ _ _ _ h=>h,hU:=by rintro _ _ x ⟨rfl,h⟩;rw [Dq,show x.1.cells.all one=true from rfl,gA,gA,il,h];rfl }
def cS {Z:Type} (r:aF Z) (b h:Heap) (e:TypeId) (A:Nat) (v:ai) (l:List Z):Prop:=(l=[]/\v=.slice none 0 0)\/(l≠[]/\Ow r b h e A v l)
section
variable {Z:Type} {r:aF Z} {b h h':Heap} {e:TypeId} {A:Nat} {v:ai} {l:List Z} {D:List Nat}
theorem cS.aX (f:cS r b h e A v l) (dF:∀ h h' cs x,r.R h cs x->r.R h' cs x) (g:aP D h h') (hD:l≠[]->A ∉ D):cS r b h' e A v l:=by
 rcases f with f|⟨aO,f⟩
 .exact .inl f
 .refine .inr ⟨aO,?_⟩
  rcases f with ⟨_,f2,_⟩|⟨row,e1,e2,e3,e4,e5,e6,e7,e8⟩
  .exact absurd f2 aO
  .refine .inr ⟨row,e1,e2,e3,dU e4 g.size,(g.get A e4 (hD aO)).trans e5,e6,e7,λi x hx=>?_⟩
   obtain ⟨cs,g1,g2⟩:=e8 i x hx
   exact ⟨cs,g1,dF _ _ _ _ g2⟩
theorem cS.lt (f:cS r b h e A v l) (aO:l≠[]):A < h.size:=by
 rcases f with f|⟨_,f⟩
 .exact absurd f.1 aO
 .exact f.Sf aO
theorem cS.get (f:cS r b h e A v l):∃ B,Ow r b h e B v l/\((B=A/\l≠[])\/(l=[]/\B=max b.size h.size)):=by
 rcases f with ⟨rfl,rfl⟩|⟨aO,f⟩
 .exact ⟨_,Ow.nil (Dr _ _),.inr ⟨rfl,rfl⟩⟩
 .exact ⟨A,f,.inl ⟨rfl,aO⟩⟩
theorem cS.slice (f:cS r b h e A v l):∃ a n c,v=.slice a n c:=by
 rcases f with ⟨_,rfl⟩|⟨_,f⟩
 .exact ⟨_,_,_,rfl⟩
 .exact f.slice
theorem cS.sl (f:cS r b h e A v l) (hk:0 < r.k):Sl r h v l:=by
 rcases f with ⟨rfl,rfl⟩|⟨_,f⟩
 .exact (Ow.nil (h0:=h) (h:=h) (e:=e) (aS _)).sl hk
 .exact f.sl hk
theorem Ow.Cv (f:Ow r b h e A v l) (aO:l≠[]):cS r b h e A v l:=.inr ⟨aO,f⟩
end
theorem ct.aX {h h':Heap} {A:Nat} {kv:List (ae × Int)} {D:List Nat} (m:ct h A kv) (g:aP D h h') (hD:A ∉ D):ct h' A kv:=by
 obtain ⟨es,cl,m1,m2⟩:=m
 exact ⟨es,cl,m1.aX g hD,m2⟩
theorem fj.aX {h h':Heap} {A:Nat} {l:aU} {D:List Nat} (m:fj h A l) (g:aP D h h') (hD:A ∉ D):fj h' A l:=by
 obtain ⟨es,cl,ks,m1,m2⟩:=m
 exact ⟨es,cl,ks,m1.aX g hD,m2⟩
theorem fj.lt {h:Heap} {A:Nat} {l:aU} (m:fj h A l):A < h.size:=by
 obtain ⟨es,cl,ks,m1,m2⟩:=m
 exact m1.lt
def qD (d:bg):Ro->Prop
 | .ca=>d.calls≠[]
 | .sa=>d.ab≠[]
 | .qa=>d.queue≠[]
 | .ra=>d.aB≠[]
 | .c i=>i < d.calls.length
 | .th i=>i < d.calls.length
 | .an i=>∃ c,d.calls[i]? = some c/\c.answers≠[]
 | .wa i=>∃ c,d.calls[i]? = some c/\c.waiters≠[]
 | .s i=>i < d.ab.length
 |_=>True
def Db (x:cp) (bN vf:ai) (d:bg):List ai:=[bN,vf,.int .i64 d.aE,.int .i64 (d.steps:Int),.pointer (some ⟨x.pl .t,0,none⟩),x.vl .sa,x.vl .qa,x.vl .ra,.map (some (x.pl .km))]
def U5 (x:cp) (d:bg):List ai:=[.map (some (x.pl .pm)),x.vl .ca,.int .i64 (d.count:Int)]
def J8 (x:cp) (i:Nat) (c:ba):List ai:=c.atom.cells++[x.vl (.an i),.map (some (x.pl (.th i))),x.vl (.wa i)]
def uL (v:ai) (s:eu):List ai:=[.int .i64 (s.call:Int),.int .i64 s.clause,.int .i64 (s.taken:Int),v]++s.next.cells++[.int .i64 (s.src:Int),.int .i64 (s.seen:Int)]
def mn (vb:Nat->ai):Nat->List aV->List (ae × Int × ai)
 |_,[]=>[]
 |k,r::l=>(r.atom,r.clause,vb k)::mn vb (k+1) l
theorem m8 {vb:Nat->ai} {k:Nat} {l:List aV}:mn vb k l=[]↔l=[]:=by cases l <;> simp [mn]
theorem zrx {vb:Nat->ai} {u:ai} {r:aV} {n:Nat}:∀ (k:Nat) (l:List aV),k+l.length=n->mn (λi=>if i=n then u else vb i) k (l++[r])=mn vb k l++[(r.atom,r.clause,u)]
 |k,[],h=>by
  have e:k=n:=h
  subst e
  simp [mn]
 |k,y::l,h=>by
  rw [dB] at h
  rw [qG,mn,mn,zrx (k+1) l (by omega),aA (by omega),qG]
def iL (T:vd) (b:Heap) (x:cp) (bN vf:ai) (d:bg) (h:Heap):Ro->Prop
 | .w=>ak h (x.pl .w) (.row (Db x bN vf d) T.w false)
 | .t=>ak h (x.pl .t) (.row (U5 x d) T.t false)
 | .pm=>ct h (x.pl .pm) (dY 0 (d.calls.map ba.atom))
 | .km=>fj h (x.pl .km) d.known
 | .ca=>cS aF.ptr b h T.pc (x.pl .ca) (x.vl .ca) ((List.range d.calls.length).map λi=>x.pl (.c i))
 | .sa=>cS aF.ptr b h T.ps (x.pl .sa) (x.vl .sa) ((List.range d.ab.length).map λi=>x.pl (.s i))
 | .qa=>cS aF.nat b h T.i (x.pl .qa) (x.vl .qa) d.queue
 | .ra=>cS aF.rv b h T.r (x.pl .ra) (x.vl .ra) (mn x.vb 0 d.aB)
 | .c i=>∀ c,d.calls[i]? = some c->ak h (x.pl (.c i)) (.row (J8 x i c) T.c false)
 | .an i=>∀ c,d.calls[i]? = some c->cS aF.atom b h T.a (x.pl (.an i)) (x.vl (.an i)) c.answers
 | .th i=>∀ c,d.calls[i]? = some c->ct h (x.pl (.th i)) (dY 0 c.answers)
 | .wa i=>∀ c,d.calls[i]? = some c->cS aF.nat b h T.i (x.pl (.wa i)) (x.vl (.wa i)) c.waiters
 | .s i=>∀ s,d.ab[i]? = some s->ak h (x.pl (.s i)) (.row (uL (x.vl (.s i)) s) T.s false)
section
variable {T:vd} {b h h':Heap} {x x':cp} {bN vf:ai} {d d':bg} {D E E':List Nat}
theorem au {Z:Type} {l:List Z} {i:Nat} {a:Z} (h:l[i]? = some a):i < l.length:=(fD.1 h).1
theorem vK {Z:Type} {l:List Z} {i:Nat} (h:i < l.length):∃ a,l[i]? = some a:=⟨l[i],fD.2 ⟨h,rfl⟩⟩
theorem iL.aX (r:Ro) (g:iL T b x bN vf d h r) (f:aP D h h') (hD:qD d r->x.pl r ∉ D):iL T b x bN vf d h' r:=by
 cases r with
 |w=>exact ak.aX g f (hD trivial)
 |t=>exact ak.aX g f (hD trivial)
 |pm=>exact ct.aX g f (hD trivial)
 |km=>exact fj.aX g f (hD trivial)
 |ca=>exact cS.aX g (λ_ _ _ _ h=>h) f (λaO=>hD (λe=>aO (by rw [e];rfl)))
 |sa=>exact cS.aX g (λ_ _ _ _ h=>h) f (λaO=>hD (λe=>aO (by rw [e];rfl)))
 |qa=>exact cS.aX g (λ_ _ _ _ h=>h) f hD
 |ra=>exact cS.aX g (λ_ _ _ _ h=>h) f (λaO=>hD (λe=>aO (by rw [e];rfl)))
 |c i=>exact λc hc=>ak.aX (g c hc) f (hD (au hc))
 |an i=>exact λc hc=>cS.aX (g c hc) (λ_ _ _ _ h=>h) f (λaO=>hD ⟨c,hc,aO⟩)
 |th i=>exact λc hc=>ct.aX (g c hc) f (hD (au hc))
 |wa i=>exact λc hc=>cS.aX (g c hc) (λ_ _ _ _ h=>h) f (λaO=>hD ⟨c,hc,aO⟩)
 |s i=>exact λs hs=>ak.aX (g s hs) f (hD (au hs))
theorem iL.lt (r:Ro) (g:iL T b x bN vf d h r) (hl:qD d r):x.pl r < h.size:=by
 cases r with
 |w=>exact ak.lt g
 |t=>exact ak.lt g
 |pm=>exact ct.lt g
 |km=>exact fj.lt g
 |ca=>exact cS.lt g (λe=>hl (by simpa using e))
 |sa=>exact cS.lt g (λe=>hl (by simpa using e))
 |qa=>exact cS.lt g hl
 |ra=>exact cS.lt g (λe=>hl (m8.1 e))
 |c i=>obtain ⟨c,hc⟩:=vK hl;exact ak.lt (g c hc)
 |an i=>obtain ⟨c,hc,aO⟩:=hl;exact cS.lt (g c hc) aO
 |th i=>obtain ⟨c,hc⟩:=vK hl;exact ct.lt (g c hc)
 |wa i=>obtain ⟨c,hc,aO⟩:=hl;exact cS.lt (g c hc) aO
 |s i=>obtain ⟨s,hs⟩:=vK hl;exact ak.lt (g s hs)
structure Inv (T:vd) (b:Heap) (E:List Nat) (x:cp) (bN vf:ai) (d:bg) (h:Heap):Prop where
 cZ:∀ r,iL T b x bN vf d h r
 own:∀ r,qD d r->x.pl r∈E
 inj:∀ r r',qD d r->qD d r'->x.pl r=x.pl r'->r=r'
 new:∀ B∈E,b.size<=B
 eh:∀ B∈E,B < h.size
 fz:∀ i s,d.ab[i]? = some s->Sl aF.bind (bm E h) (x.vl (.s i)) s.l
 fb:∀ i r,d.aB[i]? = some r->Sl aF.atom (bm E h) (x.vb i) r.body
theorem Inv.lt (v:Inv T b E x bN vf d h) {r:Ro} (hl:qD d r):x.pl r < h.size:=(v.cZ r).lt r hl
theorem aP.wide {a c:Heap} {D D':List Nat} (f:aP D a c) (h:∀ B∈D,B∈D'\/a.size<=B):aP D' a c :=
 ⟨f.size,λB hB hn=>f.get B hB (λhh=>(h B hh).elim hn (λe=>by omega))⟩
theorem Inv.aX (v:Inv T b E x bN vf d h) (f:aP [] h h'):Inv T b E x bN vf d h':=by
 have i:bQ (bm E h) (bm E h'):=(f.wide (D':=E) (by simp)).inc (λB hB=>.inl hB)
 exact ⟨λr=>(v.cZ r).aX r f (by simp),v.own,v.inj,v.new,λB hB=>dU (v.eh B hB) f.size,λk s hs=>(v.fz k s hs).mono i,λk r hr=>(v.fb k r hr).mono i⟩
theorem Inv.xO (S:List Ro) (v:Inv T b E x bN vf d h) (hb:b.size<=h.size) (f:aP D h h')
 (hD:∀ A∈D,(∃ r∈S,qD d r/\x.pl r=A)\/h.size<=A)
 (ho:∀ r,r ∉ S->x'.pl r=x.pl r/\(qD d' r->qD d r)/\(iL T b x bN vf d h' r->iL T b x' bN vf d' h' r))
 (hS:∀ r∈S,iL T b x' bN vf d' h' r)
 (dG:∀ r∈S,qD d' r)
 (hp:∀ r∈S,(qD d r/\x'.pl r=x.pl r)\/h.size<=x'.pl r)
 (hj:∀ r∈S,∀ r'∈S,h.size<=x'.pl r->x'.pl r=x'.pl r'->r=r')
 (GX:∀ i s,d'.ab[i]? = some s->Sl aF.bind (bm E h) (x'.vl (.s i)) s.l)
 (hfb:∀ i r,d'.aB[i]? = some r->Sl aF.atom (bm E h) (x'.vb i) r.body) :
 Inv T b (S.map x'.pl++E) x' bN vf d' h'/\bQ (bm E h) (bm (S.map x'.pl++E) h'):=by
 have fE:aP E h h':=f.wide λB hB=>(hD B hB).imp (λ⟨r,_,hr,e⟩=>e ▸ v.own r hr) id
 have hE:∀ B∈S.map x'.pl++E,B∈E\/h.size<=B:=by
  intro B hB
  rcases ju.1 hB with hB|hB
  .obtain ⟨r,hr,rfl⟩:=sx.1 hB
   rcases hp r hr with ⟨e1,e2⟩|e
   .exact .inl (by rw [e2];exact v.own r e1)
   .exact .inr e
  .exact .inl hB
 have i:=fE.inc hE
 have mem:∀ r,qD d' r->r ∉ S->qD d r/\x'.pl r=x.pl r:=λr hr hn=>⟨(ho r hn).2.1 hr,(ho r hn).1⟩
 refine ⟨⟨λr=>?_,λr hr=>?_,λr r' hr cv e=>?_,λB hB=>?_,λB hB=>?_,λk s hs=>(GX k s hs).mono i,λk r hr=>(hfb k r hr).mono i⟩,i⟩
 .by_cases hr:r∈S
  .exact hS r hr
  .refine (ho r hr).2.2 ((v.cZ r).aX r f λhl hh=>?_)
   rcases hD _ hh with ⟨r2,h2,l2,e2⟩|e
   .exact hr (v.inj r2 r l2 hl e2 ▸ h2)
   .exact absurd (v.lt hl) (by omega)
 .by_cases hs:r∈S
  .exact List.mem_append_left _ (sx.2 ⟨r,hs,rfl⟩)
  .obtain ⟨h1,h2⟩:=mem r hr hs
   rw [h2]
   exact zBJ _ (v.own r h1)
 .by_cases hs:r∈S
  .by_cases jl:r'∈S
   .rcases hp r hs with ⟨h3,h4⟩|h3
    .rcases hp r' jl with ⟨h5,h6⟩|h5
     .rw [h4,h6] at e
      exact v.inj r r' h3 h5 e
     .rw [h4] at e
      exact absurd (v.lt h3) (by omega)
    .exact hj r hs r' jl h3 e
   .obtain ⟨h1,h2⟩:=mem r' cv jl
    rw [h2] at e
    rcases hp r hs with ⟨h3,h4⟩|h3
    .exact v.inj r r' h3 h1 (h4 ▸ e)
    .exact absurd (v.lt h1) (by omega)
  .obtain ⟨h1,h2⟩:=mem r hr hs
   rw [h2] at e
   by_cases jl:r'∈S
   .rcases hp r' jl with ⟨h3,h4⟩|h3
    .exact v.inj r r' h1 h3 (h4 ▸ e)
    .exact absurd (v.lt h1) (by omega)
   .obtain ⟨h3,h4⟩:=mem r' cv jl
    rw [h4] at e
    exact v.inj r r' h1 h3 e
 .rcases hE B hB with e|e
  .exact v.new B e
  .omega
 .rcases ju.1 hB with e|e
  .obtain ⟨r,hr,rfl⟩:=sx.1 e
   exact (hS r hr).lt r (dG r hr)
  .exact dU (v.eh B e) f.size
end
structure dK (n:Nat) (E E':List Nat) (x x':cp) (h h':Heap):Prop where
 w:x'.pl .w=x.pl .w
 t:x'.pl .t=x.pl .t
 s:∀ i,i < n->x'.pl (.s i)=x.pl (.s i)
 v:∀ i,i < n->x'.vl (.s i)=x.vl (.s i)
 inc:bQ (bm E h) (bm E' h')
theorem dK.refl (n:Nat) (E:List Nat) (x:cp) (h:Heap):dK n E E x x h h:=⟨rfl,rfl,λ_ _=>rfl,λ_ _=>rfl,bQ.refl _⟩
theorem dK.aX {n:Nat} {E E':List Nat} {x x':cp} {h h1 h2:Heap} (s:dK n E E' x x' h h1) (f:aP [] h1 h2):dK n E E' x x' h h2 :=
 ⟨s.w,s.t,s.s,s.v,s.inc.trans ((f.wide (D':=E') (by simp)).inc (λB hB=>.inl hB))⟩
theorem dK.trans {n m:Nat} {E E1 E2:List Nat} {x x1 x2:cp} {h h1 h2:Heap} (s:dK n E E1 x x1 h h1) (u:dK m E1 E2 x1 x2 h1 h2) (hn:n<=m):dK n E E2 x x2 h h2 :=
 ⟨u.w.trans s.w,u.t.trans s.t,λi hi=>(u.s i (by omega)).trans (s.s i hi),λi hi=>(u.v i (by omega)).trans (s.v i hi),s.inc.trans u.inc⟩
section
variable {T:vd} {b h h':Heap} {x x':cp} {bN vf:ai} {d d':bg} {D E E':List Nat}
theorem Inv.steps (v:Inv T b E x bN vf d h) (hb:b.size<=h.size) (n:Nat) (f:aP [x.pl .w] h h') (q:ak h' (x.pl .w) (.row (Db x bN vf { d with steps:=n }) T.w false)) :
 ∃ E',Inv T b E' x bN vf { d with steps:=n } h'/\dK d.ab.length E E' x x h h':=by
 obtain ⟨i1,i2⟩:=v.xO (x':=x) (d':={ d with steps:=n }) [.w] hb f
  (λB hB=>.inl ⟨.w,by simp,trivial,(ek.1 hB).symm⟩)
  (λr hr=>by cases r <;> first|exact ⟨rfl,id,id⟩|exact absurd (by simp) hr)
  (λr hr=>by rw [ek.1 hr];exact q)
  (λr hr=>by rw [ek.1 hr];trivial)
  (λr hr=>by rw [ek.1 hr];exact .inl ⟨trivial,rfl⟩)
  (λr hr r' cv _ _=>by rw [ek.1 hr,ek.1 cv])
  v.fz v.fb
 exact ⟨_,i1,rfl,rfl,λ_ _=>rfl,λ_ _=>rfl,i2⟩
theorem Inv.queue (v:Inv T b E x bN vf d h) (hb:b.size<=h.size) {xs:List Nat} {A:Nat} {u:ai} (aO:d.queue++xs≠[]) (f:aP D h h') (hD:∀ B∈D,B=x.pl .w\/(B=x.pl .qa/\d.queue≠[])\/h.size<=B)
 (hA:(A=x.pl .qa/\d.queue≠[])\/h.size<=A) (o:Ow aF.nat b h' T.i A u (d.queue++xs))
 (q:ak h' (x.pl .w) (.row (Db { x with vl:=aw x.vl .qa u } bN vf d) T.w false)) :
 ∃ E' x',Inv T b E' x' bN vf { d with queue:=d.queue++xs } h'/\dK d.ab.length E E' x x' h h':=by
 have hq:(aw x.pl .qa A) .qa=A:=kR _ _ _
 obtain ⟨i1,i2⟩:=v.xO (x':={ x with pl:=aw x.pl .qa A,vl:=aw x.vl .qa u }) (d':={ d with queue:=d.queue++xs }) [.w,.qa] hb f
  (λB hB=>by
   rcases hD B hB with rfl|⟨rfl,e⟩|e
   .exact .inl ⟨.w,by simp,trivial,rfl⟩
   .exact .inl ⟨.qa,by simp,e,rfl⟩
   .exact .inr e)
  (λr hr=>by cases r <;> first|exact ⟨rfl,id,id⟩|exact absurd (by simp) hr)
  (λr hr=>by
   rcases dg.1 hr with rfl|hr
   .exact q
   .rw [ek.1 hr]
    show cS aF.nat b h' T.i (aw x.pl .qa A .qa) (aw x.vl .qa u .qa) (d.queue++xs)
    rw [kR,kR]
    exact o.Cv aO)
  (λr hr=>by
   rcases dg.1 hr with rfl|hr
   .trivial
   .rw [ek.1 hr];exact aO)
  (λr hr=>by
   rcases dg.1 hr with rfl|hr
   .exact .inl ⟨trivial,rfl⟩
   .rw [ek.1 hr]
    show (d.queue≠[]/\aw x.pl .qa A .qa=x.pl .qa)\/h.size<=aw x.pl .qa A .qa
    rw [hq]
    exact hA.imp (λe=>⟨e.2,e.1⟩) id)
  (λr hr r' cv e1 e2=>by
   have hw:=v.lt (r:=.w) trivial
   rcases dg.1 hr with rfl|hr
   .exact absurd e1 (by show ¬ h.size<=x.pl .w;omega)
   .rcases dg.1 cv with rfl|cv
    .rw [e2] at e1
     exact absurd e1 (by show ¬ h.size<=x.pl .w;omega)
    .rw [ek.1 hr,ek.1 cv])
  v.fz v.fb
 exact ⟨_,_,i1,rfl,rfl,λ_ _=>rfl,λ_ _=>rfl,i2⟩
end
end Go.Am
namespace Go.Am
section
variable {T:vd} {b h h':Heap} {x x':cp} {bN vf:ai} {d d':bg} {D E E':List Nat}
theorem Inv.push (v:Inv T b E x bN vf d h) (hb:b.size<=h.size) {s:eu} {A As:Nat} {u lv:ai} (f:aP D h h') (hD:∀ B∈D,B=x.pl .w\/(B=x.pl .sa/\d.ab≠[])\/h.size<=B)
 (hA:(A=x.pl .sa/\d.ab≠[])\/h.size<=A) (oV:h.size<=As) (aO:As≠A) (o:Ow aF.ptr b h' T.ps A u (((List.range d.ab.length).map λi=>x.pl (.s i))++[As]))
 (qs:ak h' As (.row (uL lv s) T.s false)) (hl:Sl aF.bind (bm E h) lv s.l)
 (q:ak h' (x.pl .w) (.row (Db { x with vl:=aw x.vl .sa u } bN vf d) T.w false)) :
 ∃ E' x',Inv T b E' x' bN vf { d with ab:=d.ab++[s] } h'/\dK d.ab.length E E' x x' h h':=by
 obtain ⟨n,hn⟩:∃ n,n=d.ab.length:=⟨_,rfl⟩
 have hwl:=v.lt (r:=.w) trivial
 have p1:∀ i,i≠n->aw (aw x.pl .sa A) (.s n) As (.s i)=x.pl (.s i):=λi hi=>by rw [fh (by simpa using hi),fh (by simp)]
 have p2:aw (aw x.pl .sa A) (.s n) As (.s n)=As:=kR _ _ _
 have p3:aw (aw x.pl .sa A) (.s n) As .sa=A:=by rw [fh (by simp),kR]
 have v1:∀ i,i≠n->aw (aw x.vl .sa u) (.s n) lv (.s i)=x.vl (.s i):=λi hi=>by rw [fh (by simpa using hi),fh (by simp)]
 have v2:aw (aw x.vl .sa u) (.s n) lv (.s n)=lv:=kR _ _ _
 have v3:aw (aw x.vl .sa u) (.s n) lv .sa=u:=by rw [fh (by simp),kR]
 have gl:∀ {i t},i≠n->(d.ab++[s])[i]? = some t->d.ab[i]? = some t:=λ{i t} hi ht=>by
  have:=au ht
  rw [dx,j9] at this
  rwa [kY (by omega)] at ht
 have gn:∀ {t},(d.ab++[s])[n]? = some t->t=s:=λ{t} ht=>by
  rw [hn,n9 (by omega),DB] at ht
  simpa using ht.symm
 have rg:(List.range (d.ab++[s]).length).map (λi=>aw (aw x.pl .sa A) (.s n) As (.s i))=((List.range d.ab.length).map λi=>x.pl (.s i))++[As]:=by
  rw [dx,j9,List.range_succ,rM,pR,List.map_nil,<- hn,p2]
  congr 1
  exact Dh λi hi=>p1 i (by have:=pQ.1 hi;omega)
 obtain ⟨i1,i2⟩:=v.xO (x':={ x with pl:=aw (aw x.pl .sa A) (.s n) As,vl:=aw (aw x.vl .sa u) (.s n) lv }) (d':={ d with ab:=d.ab++[s] }) [.w,.sa,.s n] hb f
  (λB hB=>by
   rcases hD B hB with rfl|⟨rfl,e⟩|e
   .exact .inl ⟨.w,by simp,trivial,rfl⟩
   .exact .inl ⟨.sa,by simp,e,rfl⟩
   .exact .inr e)
  (λr hr=>by
   cases r <;> first|exact ⟨rfl,id,id⟩|(exfalso;apply hr;simp;done)|skip
   rename_i i
   have hi:i≠n:=by rintro rfl;simp at hr
   refine ⟨p1 i hi,λhh=>?_,λg t ht=>?_⟩
   .have hh:i < (d.ab++[s]).length:=hh
    rw [dx,j9] at hh
    show i < d.ab.length
    omega
   .show ak h' (aw (aw x.pl .sa A) (.s n) As (.s i)) (.row (uL (aw (aw x.vl .sa u) (.s n) lv (.s i)) t) T.s false)
    rw [p1 i hi,v1 i hi]
    exact g t (gl hi ht))
  (λr hr=>by
   simp only [dg,gS,or_false] at hr
   rcases hr with rfl|rfl|rfl
   .exact q
   .show cS aF.ptr b h' T.ps (aw (aw x.pl .sa A) (.s n) As .sa) (aw (aw x.vl .sa u) (.s n) lv .sa) _
    rw [p3,v3,rg]
    exact o.Cv (by simp)
   .intro t ht
    show ak h' (aw (aw x.pl .sa A) (.s n) As (.s n)) (.row (uL (aw (aw x.vl .sa u) (.s n) lv (.s n)) t) T.s false)
    rw [p2,v2,gn ht]
    exact qs)
  (λr hr=>by
   simp only [dg,gS,or_false] at hr
   rcases hr with rfl|rfl|rfl
   .trivial
   .show d.ab++[s]≠[]
    simp
   .show n < (d.ab++[s]).length
    rw [dx,j9];omega)
  (λr hr=>by
   simp only [dg,gS,or_false] at hr
   rcases hr with rfl|rfl|rfl
   .exact .inl ⟨trivial,rfl⟩
   .show (d.ab≠[]/\aw (aw x.pl .sa A) (.s n) As .sa=x.pl .sa)\/h.size<=aw (aw x.pl .sa A) (.s n) As .sa
    rw [p3]
    exact hA.imp (λe=>⟨e.2,e.1⟩) id
   .exact .inr (by show h.size<=aw (aw x.pl .sa A) (.s n) As (.s n);rw [p2];exact oV))
  (λr hr r' cv e1 e2=>by
   simp only [dg,gS,or_false] at hr cv
   have hw:aw (aw x.pl .sa A) (.s n) As .w=x.pl .w:=rfl
   change h.size<=aw (aw x.pl .sa A) (.s n) As r at e1
   change aw (aw x.pl .sa A) (.s n) As r=aw (aw x.pl .sa A) (.s n) As r' at e2
   rcases hr with rfl|rfl|rfl <;> rcases cv with rfl|rfl|rfl <;> first|rfl|(exfalso;simp only [hw,p2,p3] at e1 e2;omega))
  (λi t ht=>by
   show Sl aF.bind (bm E h) (aw (aw x.vl .sa u) (.s n) lv (.s i)) t.l
   by_cases hi:i=n
   .subst hi
    rw [v2,gn ht]
    exact hl
   .rw [v1 i hi]
    exact v.fz i t (gl hi ht))
  v.fb
 exact ⟨_,_,i1,rfl,rfl,λi hi=>p1 i (by omega),λi hi=>v1 i (by omega),i2⟩
theorem Inv.reason (v:Inv T b E x bN vf d h) (hb:b.size<=h.size) {r:aV} {A:Nat} {u bv:ai} (f:aP D h h') (hD:∀ B∈D,B=x.pl .w\/(B=x.pl .ra/\d.aB≠[])\/h.size<=B)
 (hA:(A=x.pl .ra/\d.aB≠[])\/h.size<=A) (o:Ow aF.rv b h' T.r A u (mn x.vb 0 d.aB++[(r.atom,r.clause,bv)])) (hl:Sl aF.atom (bm E h) bv r.body)
 (q:ak h' (x.pl .w) (.row (Db { x with vl:=aw x.vl .ra u } bN vf d) T.w false)) :
 ∃ E' x',Inv T b E' x' bN vf { d with aB:=d.aB++[r] } h'/\dK d.ab.length E E' x x' h h':=by
 have hwl:=v.lt (r:=.w) trivial
 have p1:aw x.pl .ra A .ra=A:=kR _ _ _
 have v1:aw x.vl .ra u .ra=u:=kR _ _ _
 obtain ⟨i1,i2⟩:=v.xO (x':={ pl:=aw x.pl .ra A,vl:=aw x.vl .ra u,vb:=λi=>if i=d.aB.length then bv else x.vb i }) (d':={ d with aB:=d.aB++[r] }) [.w,.ra] hb f
  (λB hB=>by
   rcases hD B hB with rfl|⟨rfl,e⟩|e
   .exact .inl ⟨.w,by simp,trivial,rfl⟩
   .exact .inl ⟨.ra,by simp,e,rfl⟩
   .exact .inr e)
  (λr hr=>by cases r <;> first|exact ⟨rfl,id,id⟩|(exfalso;apply hr;simp;done))
  (λr hr=>by
   simp only [dg,gS,or_false] at hr
   rcases hr with rfl|rfl
   .exact q
   .show cS aF.rv b h' T.r (aw x.pl .ra A .ra) (aw x.vl .ra u .ra) (mn (λi=>if i=d.aB.length then bv else x.vb i) 0 (d.aB++[_]))
    rw [p1,v1,zrx 0 _ (by omega)]
    exact o.Cv (by simp))
  (λr hr=>by
   simp only [dg,gS,or_false] at hr
   rcases hr with rfl|rfl
   .trivial
   .show d.aB++[_]≠[]
    simp)
  (λr hr=>by
   simp only [dg,gS,or_false] at hr
   rcases hr with rfl|rfl
   .exact .inl ⟨trivial,rfl⟩
   .show (d.aB≠[]/\aw x.pl .ra A .ra=x.pl .ra)\/h.size<=aw x.pl .ra A .ra
    rw [p1]
    exact hA.imp (λe=>⟨e.2,e.1⟩) id)
  (λr hr r' cv e1 e2=>by
   simp only [dg,gS,or_false] at hr cv
   have hw:aw x.pl .ra A .w=x.pl .w:=rfl
   change h.size<=aw x.pl .ra A r at e1
   change aw x.pl .ra A r=aw x.pl .ra A r' at e2
   rcases hr with rfl|rfl <;> rcases cv with rfl|rfl <;> first|rfl|(exfalso;simp only [hw,p1] at e1 e2;omega))
  v.fz
  (λi t ht=>by
   show Sl aF.atom (bm E h) (if i=d.aB.length then bv else x.vb i) t.body
   by_cases hi:i=d.aB.length
   .subst hi
    rw [n9 (by omega),DB] at ht
    have e:r=t:=by simpa using ht
    rw [aG rfl,<- e]
    exact hl
   .have:=au ht
    rw [dx,j9] at this
    rw [kY (by omega)] at ht
    rw [aA hi]
    exact v.fb i t ht)
 exact ⟨_,_,i1,rfl,rfl,λ_ _=>rfl,λ_ _=>rfl,i2⟩
theorem Inv.known (v:Inv T b E x bN vf d h) (hb:b.size<=h.size) {ks:aU} (f:aP [x.pl .km] h h') (m:fj h' (x.pl .km) ks) :
 ∃ E',Inv T b E' x bN vf { d with known:=ks } h'/\dK d.ab.length E E' x x h h':=by
 obtain ⟨i1,i2⟩:=v.xO (x':=x) (d':={ d with known:=ks }) [.km] hb f
  (λB hB=>.inl ⟨.km,by simp,trivial,(ek.1 hB).symm⟩)
  (λr hr=>by cases r <;> first|exact ⟨rfl,id,id⟩|(exfalso;apply hr;simp;done))
  (λr hr=>by rw [ek.1 hr];exact m)
  (λr hr=>by rw [ek.1 hr];trivial)
  (λr hr=>by rw [ek.1 hr];exact .inl ⟨trivial,rfl⟩)
  (λr hr r' cv _ _=>by rw [ek.1 hr,ek.1 cv])
  v.fz v.fb
 exact ⟨_,i1,rfl,rfl,λ_ _=>rfl,λ_ _=>rfl,i2⟩
theorem Inv.state (v:Inv T b E x bN vf d h) (hb:b.size<=h.size) {i:Nat} {s s':eu} (hi:d.ab[i]? = some s) (hl:s'.l=s.l) (f:aP [x.pl (.s i)] h h') (q:ak h' (x.pl (.s i)) (.row (uL (x.vl (.s i)) s') T.s false)) :
 ∃ E',Inv T b E' x bN vf { d with ab:=d.ab.set i s' } h'/\dK d.ab.length E E' x x h h':=by
 have ey:=au hi
 have gi:∀ {t},(d.ab.set i s')[i]? = some t->t=s':=λ{t} ht=>by
  rw [qF ey] at ht
  exact (Option.some.inj ht).symm
 have gn:∀ {j:Nat} {t},j≠i->(d.ab.set i s')[j]? = some t->d.ab[j]? = some t:=λ{j t} hj ht=>by
  rwa [J4 (λe=>hj e.symm)] at ht
 obtain ⟨i1,i2⟩:=v.xO (x':=x) (d':={ d with ab:=d.ab.set i s' }) [.s i] hb f
  (λB hB=>.inl ⟨.s i,by simp,ey,(ek.1 hB).symm⟩)
  (λr hr=>by
   cases r <;> first|exact ⟨rfl,id,id⟩|skip
   .refine ⟨rfl,λhh=>?_,λg=>?_⟩
    .intro e
     apply hh
     show d.ab.set i s'=[]
     rw [e];rfl
    .show cS aF.ptr b h' T.ps (x.pl .sa) (x.vl .sa) ((List.range (d.ab.set i s').length).map λi=>x.pl (.s i))
     rw [ij]
     exact g
   .rename_i j
    have hj:j≠i:=by rintro rfl;simp at hr
    refine ⟨rfl,λhh=>?_,λg t ht=>g t (gn hj ht)⟩
    have hh:j < (d.ab.set i s').length:=hh
    rwa [ij] at hh)
  (λr hr=>by
   rw [ek.1 hr]
   intro t ht
   rw [gi ht]
   exact q)
  (λr hr=>by
   rw [ek.1 hr]
   show i < (d.ab.set i s').length
   rw [ij];exact ey)
  (λr hr=>by rw [ek.1 hr];exact .inl ⟨ey,rfl⟩)
  (λr hr r' cv _ _=>by rw [ek.1 hr,ek.1 cv])
  (λj t ht=>by
   by_cases hj:j=i
   .subst hj
    rw [gi ht,hl]
    exact v.fz j s hi
   .exact v.fz j t (gn hj ht))
  v.fb
 exact ⟨_,i1,rfl,rfl,λ_ _=>rfl,λ_ _=>rfl,i2⟩
end
end Go.Am
namespace Go.Am
variable {A i:Nat} {u:ai}
section
variable {T:vd} {b h h':Heap} {x x':cp} {bN vf:ai} {d d':bg} {D E E':List Nat}
theorem ZW {Z β:Type} (f:Z->β) {l:List Z} {a c:Z} (h:l[i]? = some a) (e:f c=f a):(l.set i c).map f=l.map f:=by
 rw [List.map_set,e]
 apply uY
 intro j
 by_cases hj:i=j
 .subst hj
  rw [qF (by rw [fN];exact au h),jS,h]
  rfl
 .rw [J4 hj]
theorem Inv.call (v:Inv T b E x bN vf d h) (hb:b.size<=h.size) {a:ae} {Ac At:Nat} (f:aP D h h') (hD:∀ B∈D,B=x.pl .pm\/B=x.pl .t\/(B=x.pl .ca/\d.calls≠[])\/h.size<=B)
 (hA:(A=x.pl .ca/\d.calls≠[])\/h.size<=A) (hAc:h.size<=Ac) (hAt:h.size<=At) (n1:Ac≠At) (n2:Ac≠A) (n3:At≠A)
 (mp:ct h' (x.pl .pm) (dY 0 (d.calls.map ba.atom)++[(a,(d.calls.length:Int))])) (o:Ow aF.ptr b h' T.pc A u (((List.range d.calls.length).map λi=>x.pl (.c i))++[Ac]))
 (qc:ak h' Ac (.row (a.cells++[.slice none 0 0,.map (some At),.slice none 0 0]) T.c false)) (mt:ct h' At [])
 (q:ak h' (x.pl .t) (.row (U5 { x with vl:=aw x.vl .ca u } d) T.t false)) :
 ∃ E' x',Inv T b E' x' bN vf { d with calls:=d.calls++[⟨a,[],[]⟩] } h'/\dK d.ab.length E E' x x' h h':=by
 obtain ⟨n,hn⟩:∃ n,n=d.calls.length:=⟨_,rfl⟩
 have h1:=v.lt (r:=.pm) trivial
 have h2:=v.lt (r:=.t) trivial
 have Rb:x.pl .pm≠x.pl .t:=λe=>nomatch (v.inj .pm .t trivial trivial e)
 obtain ⟨P,hP⟩:∃ P,P=aw (aw (aw x.pl .ca A) (.c n) Ac) (.th n) At:=⟨_,rfl⟩
 obtain ⟨V,hV⟩:∃ V,V=aw (aw (aw x.vl .ca u) (.an n) (Value.slice none 0 0)) (.wa n) (Value.slice none 0 0):=⟨_,rfl⟩
 have pc:∀ i,i≠n->P (.c i)=x.pl (.c i):=λi hi=>by rw [hP,fh (by simp),fh (by simpa using hi),fh (by simp)]
 have pt:∀ i,i≠n->P (.th i)=x.pl (.th i):=λi hi=>by rw [hP,fh (by simpa using hi),fh (by simp),fh (by simp)]
 have Lu:P (.c n)=Ac:=by rw [hP,fh (by simp),kR]
 have Lx:P (.th n)=At:=by rw [hP,kR]
 have So:P .ca=A:=by rw [hP,fh (by simp),fh (by simp),kR]
 have XK:∀ i,P (.an i)=x.pl (.an i):=λi=>by rw [hP,fh (by simp),fh (by simp),fh (by simp)]
 have XN:∀ i,P (.wa i)=x.pl (.wa i):=λi=>by rw [hP,fh (by simp),fh (by simp),fh (by simp)]
 have Lv:P .pm=x.pl .pm:=by rw [hP];rfl
 have Lw:P .t=x.pl .t:=by rw [hP];rfl
 have va:∀ i,i≠n->V (.an i)=x.vl (.an i):=λi hi=>by rw [hV,fh (by simp),fh (by simpa using hi),fh (by simp)]
 have vw:∀ i,i≠n->V (.wa i)=x.vl (.wa i):=λi hi=>by rw [hV,fh (by simpa using hi),fh (by simp),fh (by simp)]
 have X0:V (.an n)=.slice none 0 0:=by rw [hV,fh (by simp),kR]
 have X2:V (.wa n)=.slice none 0 0:=by rw [hV,kR]
 have X1:V .ca=u:=by rw [hV,fh (by simp),fh (by simp),kR]
 have gl:∀ {i t},i≠n->(d.calls++[(⟨a,[],[]⟩:ba)])[i]? = some t->d.calls[i]? = some t:=λ{i t} hi ht=>by
  have:=au ht
  rw [dx,j9] at this
  rwa [kY (by omega)] at ht
 have gn:∀ {t},(d.calls++[(⟨a,[],[]⟩:ba)])[n]? = some t->t=⟨a,[],[]⟩:=λ{t} ht=>by
  rw [hn,n9 (by omega),DB] at ht
  exact (Option.some.inj ht).symm
 have ll:∀ i,i≠n->i < (d.calls++[(⟨a,[],[]⟩:ba)]).length->i < d.calls.length:=λi hi hh=>by
  rw [dx,j9] at hh
  omega
 have rg:(List.range (d.calls++[(⟨a,[],[]⟩:ba)]).length).map (λi=>P (.c i))=((List.range d.calls.length).map λi=>x.pl (.c i))++[Ac]:=by
  rw [dx,j9,List.range_succ,rM,pR,List.map_nil,<- hn,Lu]
  congr 1
  exact Dh λi hi=>pc i (by have:=pQ.1 hi;omega)
 obtain ⟨i1,i2⟩:=v.xO (x':={ x with pl:=P,vl:=V }) (d':={ d with calls:=d.calls++[⟨a,[],[]⟩] }) [.pm,.t,.ca,.c n,.th n] hb f
  (λB hB=>by
   rcases hD B hB with rfl|rfl|⟨rfl,e⟩|e
   .exact .inl ⟨.pm,by simp,trivial,rfl⟩
   .exact .inl ⟨.t,by simp,trivial,rfl⟩
   .exact .inl ⟨.ca,by simp,e,rfl⟩
   .exact .inr e)
  (λr hr=>by
   cases r with
   |pm=>simp at hr
   |t=>simp at hr
   |ca=>simp at hr
   |w=>subst hP;subst hV;exact ⟨rfl,id,id⟩
   |km=>subst hP;subst hV;exact ⟨rfl,id,id⟩
   |sa=>subst hP;subst hV;exact ⟨rfl,id,id⟩
   |qa=>subst hP;subst hV;exact ⟨rfl,id,id⟩
   |ra=>subst hP;subst hV;exact ⟨rfl,id,id⟩
   |s i=>subst hP;subst hV;exact ⟨rfl,id,id⟩
   |c i =>
    have hi:i≠n:=by rintro rfl;simp at hr
    refine ⟨pc i hi,ll i hi,λg t ht=>?_⟩
    show ak h' (P (.c i)) (.row (t.atom.cells++[V (.an i),.map (some (P (.th i))),V (.wa i)]) T.c false)
    rw [pc i hi,va i hi,vw i hi,pt i hi]
    exact g t (gl hi ht)
   |th i =>
    have hi:i≠n:=by rintro rfl;simp at hr
    refine ⟨pt i hi,ll i hi,λg t ht=>?_⟩
    show ct h' (P (.th i)) (dY 0 t.answers)
    rw [pt i hi]
    exact g t (gl hi ht)
   |an i =>
    refine ⟨XK i,λ⟨t,ht,aO⟩=>?_,λg t ht=>?_⟩
    .by_cases hi:i=n
     .subst hi
      exact absurd (by rw [gn ht]) aO
     .exact ⟨t,gl hi ht,aO⟩
    .show cS aF.atom b h' T.a (P (.an i)) (V (.an i)) t.answers
     by_cases hi:i=n
     .subst hi
      exact .inl ⟨by rw [gn ht],X0⟩
     .rw [XK,va i hi]
      exact g t (gl hi ht)
   |wa i =>
    refine ⟨XN i,λ⟨t,ht,aO⟩=>?_,λg t ht=>?_⟩
    .by_cases hi:i=n
     .subst hi
      exact absurd (by rw [gn ht]) aO
     .exact ⟨t,gl hi ht,aO⟩
    .show cS aF.nat b h' T.i (P (.wa i)) (V (.wa i)) t.waiters
     by_cases hi:i=n
     .subst hi
      exact .inl ⟨by rw [gn ht],X2⟩
     .rw [XN,vw i hi]
      exact g t (gl hi ht))
  (λr hr=>by
   simp only [dg,gS,or_false] at hr
   rcases hr with rfl|rfl|rfl|rfl|rfl
   .show ct h' (P .pm) (dY 0 ((d.calls++[(⟨a,[],[]⟩:ba)]).map ba.atom))
    rw [Lv,rM,pR,List.map_nil,T1,fN,ia]
    exact mp
   .show ak h' (P .t) (.row [.map (some (P .pm)),V .ca,.int .i64 (d.count:Int)] T.t false)
    rw [Lv,Lw,X1]
    exact q
   .show cS aF.ptr b h' T.pc (P .ca) (V .ca) ((List.range (d.calls++[(⟨a,[],[]⟩:ba)]).length).map λi=>P (.c i))
    rw [rg,So,X1]
    exact o.Cv (by simp)
   .intro t ht
    show ak h' (P (.c n)) (.row (t.atom.cells++[V (.an n),.map (some (P (.th n))),V (.wa n)]) T.c false)
    rw [gn ht,Lu,X0,X2,Lx]
    exact qc
   .intro t ht
    show ct h' (P (.th n)) (dY 0 t.answers)
    rw [gn ht,Lx]
    exact mt)
  (λr hr=>by
   simp only [dg,gS,or_false] at hr
   rcases hr with rfl|rfl|rfl|rfl|rfl
   .trivial
   .trivial
   .show d.calls++[_]≠[]
    simp
   .show n < (d.calls++[_]).length
    rw [dx,j9];omega
   .show n < (d.calls++[_]).length
    rw [dx,j9];omega)
  (λr hr=>by
   simp only [dg,gS,or_false] at hr
   rcases hr with rfl|rfl|rfl|rfl|rfl
   .exact .inl ⟨trivial,Lv⟩
   .exact .inl ⟨trivial,Lw⟩
   .show (d.calls≠[]/\P .ca=x.pl .ca)\/h.size<=P .ca
    rw [So]
    exact hA.imp (λe=>⟨e.2,e.1⟩) id
   .exact .inr (by show h.size<=P (.c n);rw [Lu];exact hAc)
   .exact .inr (by show h.size<=P (.th n);rw [Lx];exact hAt))
  (λr hr r' cv e1 e2=>by
   simp only [dg,gS,or_false] at hr cv
   change h.size<=P r at e1
   change P r=P r' at e2
   rcases hr with rfl|rfl|rfl|rfl|rfl <;> rcases cv with rfl|rfl|rfl|rfl|rfl <;> first|rfl|(exfalso;simp only [Lv,Lw,So,Lu,Lx] at e1 e2;omega))
  (λi t ht=>by
   have e:V (.s i)=x.vl (.s i):=by rw [hV];rfl
   show Sl aF.bind (bm E h) (V (.s i)) t.l
   rw [e]
   exact v.fz i t ht)
  v.fb
 exact ⟨_,_,i1,by rw [hP];rfl,Lw,λi hi=>by rw [hP];rfl,λi hi=>by rw [hV];rfl,i2⟩
theorem Inv.answer (v:Inv T b E x bN vf d h) (hb:b.size<=h.size) {c:ba} (hi:d.calls[i]? = some c) {a:ae} (f:aP D h h') (hD:∀ B∈D,B=x.pl .t\/B=x.pl (.c i)\/B=x.pl (.th i)\/(B=x.pl (.an i)/\c.answers≠[])\/h.size<=B)
 (hA:(A=x.pl (.an i)/\c.answers≠[])\/h.size<=A)
 (mt:ct h' (x.pl (.th i)) (dY 0 (c.answers++[a]))) (o:Ow aF.atom b h' T.a A u (c.answers++[a]))
 (qc:ak h' (x.pl (.c i)) (.row (J8 { x with vl:=aw x.vl (.an i) u } i c) T.c false))
 (q:ak h' (x.pl .t) (.row (U5 x { d with count:=d.count+1 }) T.t false)) :
 ∃ E' x',Inv T b E' x' bN vf { d with calls:=d.calls.set i { c with answers:=c.answers++[a] },count:=d.count+1 } h'/\dK d.ab.length E E' x x' h h':=by
 have ey:=au hi
 have h1:=v.lt (r:=.t) trivial
 have h2:=v.lt (r:=.c i) ey
 have h3:=v.lt (r:=.th i) ey
 obtain ⟨c',eO⟩:∃ c',c'={ c with answers:=c.answers++[a] }:=⟨_,rfl⟩
 obtain ⟨P,hP⟩:∃ P,P=aw x.pl (.an i) A:=⟨_,rfl⟩
 obtain ⟨V,hV⟩:∃ V,V=aw x.vl (.an i) u:=⟨_,rfl⟩
 have pa:∀ j,j≠i->P (.an j)=x.pl (.an j):=λj hj=>by rw [hP,fh (by simpa using hj)]
 have Cp:P (.an i)=A:=by rw [hP,kR]
 have va:∀ j,j≠i->V (.an j)=x.vl (.an j):=λj hj=>by rw [hV,fh (by simpa using hj)]
 have SI:V (.an i)=u:=by rw [hV,kR]
 have gi:∀ {t},(d.calls.set i c')[i]? = some t->t=c':=λ{t} ht=>by
  rw [qF ey] at ht
  exact (Option.some.inj ht).symm
 have gn:∀ {j:Nat} {t},j≠i->(d.calls.set i c')[j]? = some t->d.calls[j]? = some t:=λ{j t} hj ht=>by
  rwa [J4 (λe=>hj e.symm)] at ht
 have ll:∀ j,j < (d.calls.set i c').length->j < d.calls.length:=λj hh=>by rwa [ij] at hh
 obtain ⟨i1,i2⟩:=v.xO (x':={ x with pl:=P,vl:=V }) (d':={ d with calls:=d.calls.set i c',count:=d.count+1 }) [.t,.c i,.th i,.an i] hb f
  (λB hB=>by
   rcases hD B hB with rfl|rfl|rfl|⟨rfl,e⟩|e
   .exact .inl ⟨.t,by simp,trivial,rfl⟩
   .exact .inl ⟨.c i,by simp,ey,rfl⟩
   .exact .inl ⟨.th i,by simp,ey,rfl⟩
   .exact .inl ⟨.an i,by simp,⟨c,hi,e⟩,rfl⟩
   .exact .inr e)
  (λr hr=>by
   cases r with
   |t=>simp at hr
   |pm =>
    subst hP;subst hV
    refine ⟨rfl,id,λg=>?_⟩
    show ct h' (x.pl .pm) (dY 0 ((d.calls.set i c').map ba.atom))
    rw [ZW ba.atom hi (by rw [eO])]
    exact g
   |ca =>
    subst hP;subst hV
    refine ⟨rfl,λhh e=>hh ?_,λg=>?_⟩
    .show d.calls.set i c'=[]
     rw [e];rfl
    .show cS aF.ptr b h' T.pc (x.pl .ca) (x.vl .ca) ((List.range (d.calls.set i c').length).map λi=>x.pl (.c i))
     rw [ij]
     exact g
   |w=>subst hP;subst hV;exact ⟨rfl,id,id⟩
   |km=>subst hP;subst hV;exact ⟨rfl,id,id⟩
   |sa=>subst hP;subst hV;exact ⟨rfl,id,id⟩
   |qa=>subst hP;subst hV;exact ⟨rfl,id,id⟩
   |ra=>subst hP;subst hV;exact ⟨rfl,id,id⟩
   |s i=>subst hP;subst hV;exact ⟨rfl,id,id⟩
   |c j =>
    have hj:j≠i:=by rintro rfl;simp at hr
    refine ⟨by rw [hP];rfl,ll j,λg t ht=>?_⟩
    show ak h' (P (.c j)) (.row (t.atom.cells++[V (.an j),.map (some (P (.th j))),V (.wa j)]) T.c false)
    have e1:P (.c j)=x.pl (.c j):=by rw [hP];rfl
    have e2:P (.th j)=x.pl (.th j):=by rw [hP];rfl
    have e3:V (.wa j)=x.vl (.wa j):=by rw [hV];rfl
    rw [e1,e2,e3,va j hj]
    exact g t (gn hj ht)
   |th j =>
    have hj:j≠i:=by rintro rfl;simp at hr
    have e2:P (.th j)=x.pl (.th j):=by rw [hP];rfl
    refine ⟨e2,ll j,λg t ht=>?_⟩
    show ct h' (P (.th j)) (dY 0 t.answers)
    rw [e2]
    exact g t (gn hj ht)
   |an j =>
    have hj:j≠i:=by rintro rfl;simp at hr
    refine ⟨pa j hj,λ⟨t,ht,aO⟩=>⟨t,gn hj ht,aO⟩,λg t ht=>?_⟩
    show cS aF.atom b h' T.a (P (.an j)) (V (.an j)) t.answers
    rw [pa j hj,va j hj]
    exact g t (gn hj ht)
   |wa j =>
    have e2:P (.wa j)=x.pl (.wa j):=by rw [hP];rfl
    have e3:V (.wa j)=x.vl (.wa j):=by rw [hV];rfl
    have key:∀ t,(d.calls.set i c')[j]? = some t->∃ t0,d.calls[j]? = some t0/\t0.waiters=t.waiters:=λt ht=>by
     by_cases hj:j=i
     .subst hj
      exact ⟨c,hi,by rw [gi ht,eO]⟩
     .exact ⟨t,gn hj ht,rfl⟩
    refine ⟨e2,λ⟨t,ht,aO⟩=>?_,λg t ht=>?_⟩
    .obtain ⟨t0,k1,k2⟩:=key t ht
     exact ⟨t0,k1,by rw [k2];exact aO⟩
    .obtain ⟨t0,k1,k2⟩:=key t ht
     show cS aF.nat b h' T.i (P (.wa j)) (V (.wa j)) t.waiters
     rw [e2,e3,<- k2]
     exact g t0 k1)
  (λr hr=>by
   simp only [dg,gS,or_false] at hr
   have e2:P (.th i)=x.pl (.th i):=by rw [hP];rfl
   rcases hr with rfl|rfl|rfl|rfl
   .subst hP;subst hV;exact q
   .intro t ht
    rw [gi ht]
    subst hP;subst hV;subst eO
    exact qc
   .intro t ht
    show ct h' (P (.th i)) (dY 0 t.answers)
    rw [gi ht,e2,eO]
    exact mt
   .intro t ht
    show cS aF.atom b h' T.a (P (.an i)) (V (.an i)) t.answers
    rw [gi ht,Cp,SI,eO]
    exact o.Cv (by simp))
  (λr hr=>by
   simp only [dg,gS,or_false] at hr
   rcases hr with rfl|rfl|rfl|rfl
   .trivial
   .show i < (d.calls.set i c').length
    rw [ij];exact ey
   .show i < (d.calls.set i c').length
    rw [ij];exact ey
   .exact ⟨c',qF ey,by rw [eO];simp⟩)
  (λr hr=>by
   simp only [dg,gS,or_false] at hr
   rcases hr with rfl|rfl|rfl|rfl
   .exact .inl ⟨trivial,by rw [hP];rfl⟩
   .exact .inl ⟨ey,by rw [hP];rfl⟩
   .exact .inl ⟨ey,by rw [hP];rfl⟩
   .show ((∃ t,d.calls[i]? = some t/\t.answers≠[])/\P (.an i)=x.pl (.an i))\/h.size<=P (.an i)
    rw [Cp]
    exact hA.imp (λe=>⟨⟨c,hi,e.2⟩,e.1⟩) id)
  (λr hr r' cv e1 e2=>by
   simp only [dg,gS,or_false] at hr cv
   have k1:P .t=x.pl .t:=by rw [hP];rfl
   have k2:P (.c i)=x.pl (.c i):=by rw [hP];rfl
   have k3:P (.th i)=x.pl (.th i):=by rw [hP];rfl
   change h.size<=P r at e1
   change P r=P r' at e2
   rcases hr with rfl|rfl|rfl|rfl <;> rcases cv with rfl|rfl|rfl|rfl <;> first|rfl|(exfalso;simp only [k1,k2,k3,Cp] at e1 e2;omega))
  (λk t ht=>by
   have e:V (.s k)=x.vl (.s k):=by rw [hV];rfl
   show Sl aF.bind (bm E h) (V (.s k)) t.l
   rw [e]
   exact v.fz k t ht)
  v.fb
 rw [eO] at i1
 exact ⟨_,_,i1,by rw [hP];rfl,by rw [hP];rfl,λi hi=>by rw [hP];rfl,λi hi=>by rw [hV];rfl,i2⟩
theorem Inv.wait (v:Inv T b E x bN vf d h) (hb:b.size<=h.size) {c:ba} (hi:d.calls[i]? = some c) {k:Nat} (f:aP D h h') (hD:∀ B∈D,B=x.pl (.c i)\/(B=x.pl (.wa i)/\c.waiters≠[])\/h.size<=B)
 (hA:(A=x.pl (.wa i)/\c.waiters≠[])\/h.size<=A) (o:Ow aF.nat b h' T.i A u (c.waiters++[k]))
 (qc:ak h' (x.pl (.c i)) (.row (J8 { x with vl:=aw x.vl (.wa i) u } i c) T.c false)) :
 ∃ E' x',Inv T b E' x' bN vf { d with calls:=d.calls.set i { c with waiters:=c.waiters++[k] } } h'/\dK d.ab.length E E' x x' h h':=by
 have ey:=au hi
 have h2:=v.lt (r:=.c i) ey
 obtain ⟨c',eO⟩:∃ c',c'={ c with waiters:=c.waiters++[k] }:=⟨_,rfl⟩
 obtain ⟨P,hP⟩:∃ P,P=aw x.pl (.wa i) A:=⟨_,rfl⟩
 obtain ⟨V,hV⟩:∃ V,V=aw x.vl (.wa i) u:=⟨_,rfl⟩
 have pa:∀ j,j≠i->P (.wa j)=x.pl (.wa j):=λj hj=>by rw [hP,fh (by simpa using hj)]
 have Cp:P (.wa i)=A:=by rw [hP,kR]
 have va:∀ j,j≠i->V (.wa j)=x.vl (.wa j):=λj hj=>by rw [hV,fh (by simpa using hj)]
 have SI:V (.wa i)=u:=by rw [hV,kR]
 have gi:∀ {t},(d.calls.set i c')[i]? = some t->t=c':=λ{t} ht=>by
  rw [qF ey] at ht
  exact (Option.some.inj ht).symm
 have gn:∀ {j:Nat} {t},j≠i->(d.calls.set i c')[j]? = some t->d.calls[j]? = some t:=λ{j t} hj ht=>by
  rwa [J4 (λe=>hj e.symm)] at ht
 have ll:∀ j,j < (d.calls.set i c').length->j < d.calls.length:=λj hh=>by rwa [ij] at hh
 have key:∀ (j:Nat) (t:ba),(d.calls.set i c')[j]? = some t->∃ t0:ba,d.calls[j]? = some t0/\t0.answers=t.answers:=λj t ht=>by
  by_cases hj:j=i
  .subst hj
   exact ⟨c,hi,by rw [gi ht,eO]⟩
  .exact ⟨t,gn hj ht,rfl⟩
 obtain ⟨i1,i2⟩:=v.xO (x':={ x with pl:=P,vl:=V }) (d':={ d with calls:=d.calls.set i c' }) [.c i,.wa i] hb f
  (λB hB=>by
   rcases hD B hB with rfl|⟨rfl,e⟩|e
   .exact .inl ⟨.c i,by simp,ey,rfl⟩
   .exact .inl ⟨.wa i,by simp,⟨c,hi,e⟩,rfl⟩
   .exact .inr e)
  (λr hr=>by
   cases r with
   |t=>subst hP;subst hV;exact ⟨rfl,id,id⟩
   |pm =>
    subst hP;subst hV
    refine ⟨rfl,id,λg=>?_⟩
    show ct h' (x.pl .pm) (dY 0 ((d.calls.set i c').map ba.atom))
    rw [ZW ba.atom hi (by rw [eO])]
    exact g
   |ca =>
    subst hP;subst hV
    refine ⟨rfl,λhh e=>hh ?_,λg=>?_⟩
    .show d.calls.set i c'=[]
     rw [e];rfl
    .show cS aF.ptr b h' T.pc (x.pl .ca) (x.vl .ca) ((List.range (d.calls.set i c').length).map λi=>x.pl (.c i))
     rw [ij]
     exact g
   |w=>subst hP;subst hV;exact ⟨rfl,id,id⟩
   |km=>subst hP;subst hV;exact ⟨rfl,id,id⟩
   |sa=>subst hP;subst hV;exact ⟨rfl,id,id⟩
   |qa=>subst hP;subst hV;exact ⟨rfl,id,id⟩
   |ra=>subst hP;subst hV;exact ⟨rfl,id,id⟩
   |s i=>subst hP;subst hV;exact ⟨rfl,id,id⟩
   |c j =>
    have hj:j≠i:=by rintro rfl;simp at hr
    refine ⟨by rw [hP];rfl,ll j,λg t ht=>?_⟩
    show ak h' (P (.c j)) (.row (t.atom.cells++[V (.an j),.map (some (P (.th j))),V (.wa j)]) T.c false)
    have e1:P (.c j)=x.pl (.c j):=by rw [hP];rfl
    have e2:P (.th j)=x.pl (.th j):=by rw [hP];rfl
    have e3:V (.an j)=x.vl (.an j):=by rw [hV];rfl
    rw [e1,e2,e3,va j hj]
    exact g t (gn hj ht)
   |th j =>
    have e2:P (.th j)=x.pl (.th j):=by rw [hP];rfl
    refine ⟨e2,ll j,λg t ht=>?_⟩
    obtain ⟨t0,k1,k2⟩:=key j t ht
    show ct h' (P (.th j)) (dY 0 t.answers)
    rw [e2,<- k2]
    exact g t0 k1
   |wa j =>
    have hj:j≠i:=by rintro rfl;simp at hr
    refine ⟨pa j hj,λ⟨t,ht,aO⟩=>⟨t,gn hj ht,aO⟩,λg t ht=>?_⟩
    show cS aF.nat b h' T.i (P (.wa j)) (V (.wa j)) t.waiters
    rw [pa j hj,va j hj]
    exact g t (gn hj ht)
   |an j =>
    have e2:P (.an j)=x.pl (.an j):=by rw [hP];rfl
    have e3:V (.an j)=x.vl (.an j):=by rw [hV];rfl
    refine ⟨e2,λ⟨t,ht,aO⟩=>?_,λg t ht=>?_⟩
    .obtain ⟨t0,k1,k2⟩:=key j t ht
     exact ⟨t0,k1,by rw [k2];exact aO⟩
    .obtain ⟨t0,k1,k2⟩:=key j t ht
     show cS aF.atom b h' T.a (P (.an j)) (V (.an j)) t.answers
     rw [e2,e3,<- k2]
     exact g t0 k1)
  (λr hr=>by
   simp only [dg,gS,or_false] at hr
   rcases hr with rfl|rfl
   .intro t ht
    rw [gi ht]
    subst hP;subst hV;subst eO
    exact qc
   .intro t ht
    show cS aF.nat b h' T.i (P (.wa i)) (V (.wa i)) t.waiters
    rw [gi ht,Cp,SI,eO]
    exact o.Cv (by simp))
  (λr hr=>by
   simp only [dg,gS,or_false] at hr
   rcases hr with rfl|rfl
   .show i < (d.calls.set i c').length
    rw [ij];exact ey
   .exact ⟨c',qF ey,by rw [eO];simp⟩)
  (λr hr=>by
   simp only [dg,gS,or_false] at hr
   rcases hr with rfl|rfl
   .exact .inl ⟨ey,by rw [hP];rfl⟩
   .show ((∃ t,d.calls[i]? = some t/\t.waiters≠[])/\P (.wa i)=x.pl (.wa i))\/h.size<=P (.wa i)
    rw [Cp]
    exact hA.imp (λe=>⟨⟨c,hi,e.2⟩,e.1⟩) id)
  (λr hr r' cv e1 e2=>by
   simp only [dg,gS,or_false] at hr cv
   have k2:P (.c i)=x.pl (.c i):=by rw [hP];rfl
   change h.size<=P r at e1
   change P r=P r' at e2
   rcases hr with rfl|rfl <;> rcases cv with rfl|rfl <;> first|rfl|(exfalso;simp only [k2,Cp] at e1 e2;omega))
  (λk t ht=>by
   have e:V (.s k)=x.vl (.s k):=by rw [hV];rfl
   show Sl aF.bind (bm E h) (V (.s k)) t.l
   rw [e]
   exact v.fz k t ht)
  v.fb
 rw [eO] at i1
 exact ⟨_,_,i1,by rw [hP];rfl,by rw [hP];rfl,λi hi=>by rw [hP];rfl,λi hi=>by rw [hV];rfl,i2⟩
end
end Go.Am

/- The solver's state as plain data, and how it is laid out. No condition. -/
import Derived.Test.YtnkmeidmdaidhaaGreatDoorG32
set_option linter.unusedSimpArgs false
set_option linter.unusedVariables false
namespace Go.Am
variable {β:Type}
structure aX where
 atom:ae
 answers:aN
 waiters:List Nat
structure dv where
 call:Nat
 clause:Int
 taken:Nat
 l:List av
 next:ae
 src:Nat
 seen:Nat
structure aY where
 aD:Int
 steps:Nat
 calls:List aX
 count:Nat
 ab:List dv
 queue:List Nat
 aC:List ba
 known:aN
def eQ:Nat->aN->List (ae × Int)
 |_,[]=>[]
 |k,a::l=>(a,(k:Int))::eQ (k+1) l
theorem V9 (a:ae):∀ (k:Nat) (l:aN),eQ k (l++[a])=eQ k l++[(a,((k+l.length:Nat):Int))]
 |k,[]=>rfl
 |k,x::l=>by
  rw [rO,eQ,eQ,V9 a (k+1) l,rO,eB]
  have e:k+1+l.length=k+(l.length+1):=by omega
  rw [e]
def wE (a:ae) (l:aN):Nat:=l.findIdx λx=>decide (a=x)
theorem Lp (a:ae):∀ (k:Nat) (l:aN),rK (eQ k l) a=if a∈l then some ((k+wE a l:Nat):Int) else none
 |k,[]=>by simp [eQ,rK]
 |k,x::l=>by
  have ih:=Lp a (k+1) l
  unfold rK at ih ⊢
  rw [eQ,List.find?_cons]
  unfold wE at ih ⊢
  rw [List.findIdx_cons]
  by_cases hx:a=x
  .simp [hx]
  .simp only [hx,decide_false,db,false_or]
   rw [ih]
   have e:∀ n,k+1+n=k+(n+1):=λn=>by omega
   simp [e]
inductive Ro where
 |w|t|pm|km|ca|sa|qa|ra
 |c (i:Nat)|an (i:Nat)|th (i:Nat)|wa (i:Nat)|s (i:Nat)
 deriving DecidableEq
def aw (f:Ro->β) (r:Ro) (v:β):Ro->β:=λr'=>if r'=r then v else f r'
theorem kB (f:Ro->β) (r:Ro) (v:β):aw f r v r=v:=aB rfl
theorem fA {f:Ro->β} {r r':Ro} {v:β} (h:r'≠r):aw f r v r'=f r':=aA h
structure cG where
 pl:Ro->Nat
 vl:Ro->ai
 vb:Nat->ai
structure xn where
 w:TypeId
 t:TypeId
 c:TypeId
 s:TypeId
 pc:TypeId
 ps:TypeId
 i:TypeId
 r:TypeId
 a:TypeId
abbrev aG.ptr:aG Nat:={ k:=1,R:=λ_ cs x=>cs=[.pointer (some ⟨x,0,none⟩)],len:=by rintro _ _ _ rfl;rfl,mono:=λ_ _ _ _ _ h=>h,ig:=by rintro _ _ _ rfl;rfl }
abbrev aG.nat:aG Nat:={ k:=1,R:=λ_ cs x=>cs=[.int .i64 (x:Int)],len:=by rintro _ _ _ rfl;rfl,mono:=λ_ _ _ _ _ h=>h,ig:=by rintro _ _ _ rfl;rfl }
abbrev aG.rv:aG (ae × Int × ai):={ k:=13,R:=λ_ cs x=>cs=x.1.cells++[.int .i64 x.2.1,x.2.2]/\one x.2.2=true,len:=by rintro _ _ _ ⟨rfl,_⟩;rfl,mono:=λ_ _ _ _ _ h=>h,ig:=by rintro _ _ x ⟨rfl,h⟩;rw [Fg,show x.1.cells.all one=true from rfl,iy,iy,jt,h];rfl }
def du {Z:Type} (r:aG Z) (b h:Heap) (e:TypeId) (A:Nat) (v:ai) (l:List Z):Prop:=(l=[]/\v=.slice none 0 0)\/(l≠[]/\Ow r b h e A v l)
section
variable {Z:Type} {r:aG Z} {b h h':Heap} {e:TypeId} {A:Nat} {v:ai} {l:List Z} {D:List Nat}
theorem du.bf (f:du r b h e A v l) (dP:∀ h h' cs x,r.R h cs x->r.R h' cs x) (g:aR D h h') (hD:l≠[]->A ∉ D):du r b h' e A v l:=by
 rcases f with f|⟨aL,f⟩
 .exact .inl f
 .refine .inr ⟨aL,?_⟩
  rcases f with ⟨_,f2,_⟩|⟨row,e1,e2,e3,e4,e5,e6,e7,e8⟩
  .exact absurd f2 aL
  .refine .inr ⟨row,e1,e2,e3,dt e4 g.size,(g.get A e4 (hD aL)).trans e5,e6,e7,λi x hx=>?_⟩
   obtain ⟨cs,g1,g2⟩:=e8 i x hx
   exact ⟨cs,g1,dP _ _ _ _ g2⟩
theorem du.lt (f:du r b h e A v l) (aL:l≠[]):A < h.size:=by
 rcases f with f|⟨_,f⟩
 .exact absurd f.1 aL
 .exact f.Uu aL
theorem du.get (f:du r b h e A v l):∃ B,Ow r b h e B v l/\((B=A/\l≠[])\/(l=[]/\B=max b.size h.size)):=by
 rcases f with ⟨rfl,rfl⟩|⟨aL,f⟩
 .exact ⟨_,Ow.nil (yl _ _),.inr ⟨rfl,rfl⟩⟩
 .exact ⟨A,f,.inl ⟨rfl,aL⟩⟩
theorem du.slice (f:du r b h e A v l):∃ a n c,v=.slice a n c:=by
 rcases f with ⟨_,rfl⟩|⟨_,f⟩
 .exact ⟨_,_,_,rfl⟩
 .exact f.slice
theorem du.sl (f:du r b h e A v l) (hk:0 < r.k):Sl r h v l:=by
 rcases f with ⟨rfl,rfl⟩|⟨_,f⟩
 .exact (Ow.nil (h0:=h) (h:=h) (e:=e) (aQ _)).sl hk
 .exact f.sl hk
theorem Ow.Bx (f:Ow r b h e A v l) (aL:l≠[]):du r b h e A v l:=.inr ⟨aL,f⟩
end
theorem bV.bf {h h':Heap} {A:Nat} {kv:List (ae × Int)} {D:List Nat} (m:bV h A kv) (g:aR D h h') (hD:A ∉ D):bV h' A kv:=by
 obtain ⟨es,cl,m1,m2⟩:=m
 exact ⟨es,cl,m1.bf g hD,m2⟩
theorem eR.bf {h h':Heap} {A:Nat} {l:aN} {D:List Nat} (m:eR h A l) (g:aR D h h') (hD:A ∉ D):eR h' A l:=by
 obtain ⟨es,cl,ks,m1,m2⟩:=m
 exact ⟨es,cl,ks,m1.bf g hD,m2⟩
theorem eR.lt {h:Heap} {A:Nat} {l:aN} (m:eR h A l):A < h.size:=by
 obtain ⟨es,cl,ks,m1,m2⟩:=m
 exact m1.lt
def sy (d:aY):Ro->Prop
 | .ca=>d.calls≠[]
 | .sa=>d.ab≠[]
 | .qa=>d.queue≠[]
 | .ra=>d.aC≠[]
 | .c i=>i < d.calls.length
 | .th i=>i < d.calls.length
 | .an i=>∃ c,d.calls[i]? = some c/\c.answers≠[]
 | .wa i=>∃ c,d.calls[i]? = some c/\c.waiters≠[]
 | .s i=>i < d.ab.length
 |_=>True
def Ca (x:cG) (bZ vf:ai) (d:aY):List ai:=[bZ,vf,.int .i64 d.aD,.int .i64 (d.steps:Int),.pointer (some ⟨x.pl .t,0,none⟩),x.vl .sa,x.vl .qa,x.vl .ra,.map (some (x.pl .km))]
def Xy (x:cG) (d:aY):List ai:=[.map (some (x.pl .pm)),x.vl .ca,.int .i64 (d.count:Int)]
def Mc (x:cG) (i:Nat) (c:aX):List ai:=c.atom.cells++[x.vl (.an i),.map (some (x.pl (.th i))),x.vl (.wa i)]
def sk (v:ai) (s:dv):List ai:=[.int .i64 (s.call:Int),.int .i64 s.clause,.int .i64 (s.taken:Int),v]++s.next.cells++[.int .i64 (s.src:Int),.int .i64 (s.seen:Int)]
def nJ (vb:Nat->ai):Nat->List ba->List (ae × Int × ai)
 |_,[]=>[]
 |k,r::l=>(r.atom,r.clause,vb k)::nJ vb (k+1) l
theorem oN {vb:Nat->ai} {k:Nat} {l:List ba}:nJ vb k l=[]↔l=[]:=by cases l <;> simp [nJ]
theorem zso {vb:Nat->ai} {u:ai} {r:ba} {n:Nat}:∀ (k:Nat) (l:List ba),k+l.length=n->nJ (λi=>if i=n then u else vb i) k (l++[r])=nJ vb k l++[(r.atom,r.clause,u)]
 |k,[],h=>by
  have e:k=n:=h
  subst e
  simp [nJ]
 |k,y::l,h=>by
  rw [eB] at h
  rw [rO,nJ,nJ,zso (k+1) l (by omega),aA (by omega),rO]
def jN (T:xn) (b:Heap) (x:cG) (bZ vf:ai) (d:aY) (h:Heap):Ro->Prop
 | .w=>ak h (x.pl .w) (.row (Ca x bZ vf d) T.w false)
 | .t=>ak h (x.pl .t) (.row (Xy x d) T.t false)
 | .pm=>bV h (x.pl .pm) (eQ 0 (d.calls.map aX.atom))
 | .km=>eR h (x.pl .km) d.known
 | .ca=>du aG.ptr b h T.pc (x.pl .ca) (x.vl .ca) ((List.range d.calls.length).map λi=>x.pl (.c i))
 | .sa=>du aG.ptr b h T.ps (x.pl .sa) (x.vl .sa) ((List.range d.ab.length).map λi=>x.pl (.s i))
 | .qa=>du aG.nat b h T.i (x.pl .qa) (x.vl .qa) d.queue
 | .ra=>du aG.rv b h T.r (x.pl .ra) (x.vl .ra) (nJ x.vb 0 d.aC)
 | .c i=>∀ c,d.calls[i]? = some c->ak h (x.pl (.c i)) (.row (Mc x i c) T.c false)
 | .an i=>∀ c,d.calls[i]? = some c->du aG.atom b h T.a (x.pl (.an i)) (x.vl (.an i)) c.answers
 | .th i=>∀ c,d.calls[i]? = some c->bV h (x.pl (.th i)) (eQ 0 c.answers)
 | .wa i=>∀ c,d.calls[i]? = some c->du aG.nat b h T.i (x.pl (.wa i)) (x.vl (.wa i)) c.waiters
 | .s i=>∀ s,d.ab[i]? = some s->ak h (x.pl (.s i)) (.row (sk (x.vl (.s i)) s) T.s false)
section
variable {T:xn} {b h h':Heap} {x x':cG} {bZ vf:ai} {d d':aY} {D E E':List Nat}
theorem ao {Z:Type} {l:List Z} {i:Nat} {a:Z} (h:l[i]? = some a):i < l.length:=(fR.1 h).1
theorem nM {Z:Type} {l:List Z} {i:Nat} (h:i < l.length):∃ a,l[i]? = some a:=⟨l[i],fR.2 ⟨h,rfl⟩⟩
theorem jN.bf (r:Ro) (g:jN T b x bZ vf d h r) (f:aR D h h') (hD:sy d r->x.pl r ∉ D):jN T b x bZ vf d h' r:=by
 cases r with
 |w=>exact ak.bf g f (hD trivial)
 |t=>exact ak.bf g f (hD trivial)
 |pm=>exact bV.bf g f (hD trivial)
 |km=>exact eR.bf g f (hD trivial)
 |ca=>exact du.bf g (λ_ _ _ _ h=>h) f (λaL=>hD (λe=>aL (by rw [e];rfl)))
 |sa=>exact du.bf g (λ_ _ _ _ h=>h) f (λaL=>hD (λe=>aL (by rw [e];rfl)))
 |qa=>exact du.bf g (λ_ _ _ _ h=>h) f hD
 |ra=>exact du.bf g (λ_ _ _ _ h=>h) f (λaL=>hD (λe=>aL (by rw [e];rfl)))
 |c i=>exact λc hc=>ak.bf (g c hc) f (hD (ao hc))
 |an i=>exact λc hc=>du.bf (g c hc) (λ_ _ _ _ h=>h) f (λaL=>hD ⟨c,hc,aL⟩)
 |th i=>exact λc hc=>bV.bf (g c hc) f (hD (ao hc))
 |wa i=>exact λc hc=>du.bf (g c hc) (λ_ _ _ _ h=>h) f (λaL=>hD ⟨c,hc,aL⟩)
 |s i=>exact λs hs=>ak.bf (g s hs) f (hD (ao hs))
theorem jN.lt (r:Ro) (g:jN T b x bZ vf d h r) (hl:sy d r):x.pl r < h.size:=by
 cases r with
 |w=>exact ak.lt g
 |t=>exact ak.lt g
 |pm=>exact bV.lt g
 |km=>exact eR.lt g
 |ca=>exact du.lt g (λe=>hl (by simpa using e))
 |sa=>exact du.lt g (λe=>hl (by simpa using e))
 |qa=>exact du.lt g hl
 |ra=>exact du.lt g (λe=>hl (oN.1 e))
 |c i=>obtain ⟨c,hc⟩:=nM hl;exact ak.lt (g c hc)
 |an i=>obtain ⟨c,hc,aL⟩:=hl;exact du.lt (g c hc) aL
 |th i=>obtain ⟨c,hc⟩:=nM hl;exact bV.lt (g c hc)
 |wa i=>obtain ⟨c,hc,aL⟩:=hl;exact du.lt (g c hc) aL
 |s i=>obtain ⟨s,hs⟩:=nM hl;exact ak.lt (g s hs)
structure Inv (T:xn) (b:Heap) (E:List Nat) (x:cG) (bZ vf:ai) (d:aY) (h:Heap):Prop where
 dB:∀ r,jN T b x bZ vf d h r
 own:∀ r,sy d r->x.pl r∈E
 inj:∀ r r',sy d r->sy d r'->x.pl r=x.pl r'->r=r'
 new:∀ B∈E,b.size<=B
 eA:∀ B∈E,B < h.size
 fz:∀ i s,d.ab[i]? = some s->Sl aG.bind (bp E h) (x.vl (.s i)) s.l
 fb:∀ i r,d.aC[i]? = some r->Sl aG.atom (bp E h) (x.vb i) r.body
theorem Inv.lt (v:Inv T b E x bZ vf d h) {r:Ro} (hl:sy d r):x.pl r < h.size:=(v.dB r).lt r hl
theorem aR.wide {a c:Heap} {D D':List Nat} (f:aR D a c) (h:∀ B∈D,B∈D'\/a.size<=B):aR D' a c :=
 ⟨f.size,λB hB hn=>f.get B hB (λhh=>(h B hh).elim hn (λe=>by omega))⟩
theorem Inv.bf (v:Inv T b E x bZ vf d h) (f:aR [] h h'):Inv T b E x bZ vf d h':=by
 have i:bP (bp E h) (bp E h'):=(f.wide (D':=E) (by simp)).inc (λB hB=>.inl hB)
 exact ⟨λr=>(v.dB r).bf r f (by simp),v.own,v.inj,v.new,λB hB=>dt (v.eA B hB) f.size,λk s hs=>(v.fz k s hs).mono i,λk r hr=>(v.fb k r hr).mono i⟩
theorem Inv.xJ (S:List Ro) (v:Inv T b E x bZ vf d h) (hb:b.size<=h.size) (f:aR D h h')
 (hD:∀ A∈D,(∃ r∈S,sy d r/\x.pl r=A)\/h.size<=A)
 (ho:∀ r,r ∉ S->x'.pl r=x.pl r/\(sy d' r->sy d r)/\(jN T b x bZ vf d h' r->jN T b x' bZ vf d' h' r))
 (hS:∀ r∈S,jN T b x' bZ vf d' h' r)
 (eD:∀ r∈S,sy d' r)
 (hp:∀ r∈S,(sy d r/\x'.pl r=x.pl r)\/h.size<=x'.pl r)
 (hj:∀ r∈S,∀ r'∈S,h.size<=x'.pl r->x'.pl r=x'.pl r'->r=r')
 (IV:∀ i s,d'.ab[i]? = some s->Sl aG.bind (bp E h) (x'.vl (.s i)) s.l)
 (hfb:∀ i r,d'.aC[i]? = some r->Sl aG.atom (bp E h) (x'.vb i) r.body) :
 Inv T b (S.map x'.pl++E) x' bZ vf d' h'/\bP (bp E h) (bp (S.map x'.pl++E) h'):=by
 have fE:aR E h h':=f.wide λB hB=>(hD B hB).imp (λ⟨r,_,hr,e⟩=>e ▸ v.own r hr) id
 have hE:∀ B∈S.map x'.pl++E,B∈E\/h.size<=B:=by
  intro B hB
  rcases iT.1 hB with hB|hB
  .obtain ⟨r,hr,rfl⟩:=ph.1 hB
   rcases hp r hr with ⟨e1,e2⟩|e
   .exact .inl (by rw [e2];exact v.own r e1)
   .exact .inr e
  .exact .inl hB
 have i:=fE.inc hE
 have mem:∀ r,sy d' r->r ∉ S->sy d r/\x'.pl r=x.pl r:=λr hr hn=>⟨(ho r hn).2.1 hr,(ho r hn).1⟩
 refine ⟨⟨λr=>?_,λr hr=>?_,λr r' hr cI e=>?_,λB hB=>?_,λB hB=>?_,λk s hs=>(IV k s hs).mono i,λk r hr=>(hfb k r hr).mono i⟩,i⟩
 .by_cases hr:r∈S
  .exact hS r hr
  .refine (ho r hr).2.2 ((v.dB r).bf r f λhl hh=>?_)
   rcases hD _ hh with ⟨r2,h2,l2,e2⟩|e
   .exact hr (v.inj r2 r l2 hl e2 ▸ h2)
   .exact absurd (v.lt hl) (by omega)
 .by_cases hs:r∈S
  .exact yg _ (ph.2 ⟨r,hs,rfl⟩)
  .obtain ⟨h1,h2⟩:=mem r hr hs
   rw [h2]
   exact L3 _ (v.own r h1)
 .by_cases hs:r∈S
  .by_cases fT:r'∈S
   .rcases hp r hs with ⟨h3,h4⟩|h3
    .rcases hp r' fT with ⟨h5,h6⟩|h5
     .rw [h4,h6] at e
      exact v.inj r r' h3 h5 e
     .rw [h4] at e
      exact absurd (v.lt h3) (by omega)
    .exact hj r hs r' fT h3 e
   .obtain ⟨h1,h2⟩:=mem r' cI fT
    rw [h2] at e
    rcases hp r hs with ⟨h3,h4⟩|h3
    .exact v.inj r r' h3 h1 (h4 ▸ e)
    .exact absurd (v.lt h1) (by omega)
  .obtain ⟨h1,h2⟩:=mem r hr hs
   rw [h2] at e
   by_cases fT:r'∈S
   .rcases hp r' fT with ⟨h3,h4⟩|h3
    .exact v.inj r r' h1 h3 (h4 ▸ e)
    .exact absurd (v.lt h1) (by omega)
   .obtain ⟨h3,h4⟩:=mem r' cI fT
    rw [h4] at e
    exact v.inj r r' h1 h3 e
 .rcases hE B hB with e|e
  .exact v.new B e
  .omega
 .rcases iT.1 hB with e|e
  .obtain ⟨r,hr,rfl⟩:=ph.1 e
   exact (hS r hr).lt r (eD r hr)
  .exact dt (v.eA B e) f.size
end
structure ec (n:Nat) (E E':List Nat) (x x':cG) (h h':Heap):Prop where
 w:x'.pl .w=x.pl .w
 t:x'.pl .t=x.pl .t
 s:∀ i,i < n->x'.pl (.s i)=x.pl (.s i)
 v:∀ i,i < n->x'.vl (.s i)=x.vl (.s i)
 inc:bP (bp E h) (bp E' h')
theorem ec.refl (n:Nat) (E:List Nat) (x:cG) (h:Heap):ec n E E x x h h:=⟨rfl,rfl,λ_ _=>rfl,λ_ _=>rfl,bP.refl _⟩
theorem ec.bf {n:Nat} {E E':List Nat} {x x':cG} {h h1 h2:Heap} (s:ec n E E' x x' h h1) (f:aR [] h1 h2):ec n E E' x x' h h2 :=
 ⟨s.w,s.t,s.s,s.v,s.inc.trans ((f.wide (D':=E') (by simp)).inc (λB hB=>.inl hB))⟩
theorem ec.trans {n m:Nat} {E E1 E2:List Nat} {x x1 x2:cG} {h h1 h2:Heap} (s:ec n E E1 x x1 h h1) (u:ec m E1 E2 x1 x2 h1 h2) (hn:n<=m):ec n E E2 x x2 h h2 :=
 ⟨u.w.trans s.w,u.t.trans s.t,λi hi=>(u.s i (by omega)).trans (s.s i hi),λi hi=>(u.v i (by omega)).trans (s.v i hi),s.inc.trans u.inc⟩
section
variable {T:xn} {b h h':Heap} {x x':cG} {bZ vf:ai} {d d':aY} {D E E':List Nat}
theorem Inv.steps (v:Inv T b E x bZ vf d h) (hb:b.size<=h.size) (n:Nat) (f:aR [x.pl .w] h h') (q:ak h' (x.pl .w) (.row (Ca x bZ vf { d with steps:=n }) T.w false)) :
 ∃ E',Inv T b E' x bZ vf { d with steps:=n } h'/\ec d.ab.length E E' x x h h':=by
 obtain ⟨i1,i2⟩:=v.xJ (x':=x) (d':={ d with steps:=n }) [.w] hb f
  (λB hB=>.inl ⟨.w,by simp,trivial,(eM.1 hB).symm⟩)
  (λr hr=>by cases r <;> first|exact ⟨rfl,id,id⟩|exact absurd (by simp) hr)
  (λr hr=>by rw [eM.1 hr];exact q)
  (λr hr=>by rw [eM.1 hr];trivial)
  (λr hr=>by rw [eM.1 hr];exact .inl ⟨trivial,rfl⟩)
  (λr hr r' cI _ _=>by rw [eM.1 hr,eM.1 cI])
  v.fz v.fb
 exact ⟨_,i1,rfl,rfl,λ_ _=>rfl,λ_ _=>rfl,i2⟩
theorem Inv.queue (v:Inv T b E x bZ vf d h) (hb:b.size<=h.size) {xs:List Nat} {A:Nat} {u:ai} (aL:d.queue++xs≠[]) (f:aR D h h') (hD:∀ B∈D,B=x.pl .w\/(B=x.pl .qa/\d.queue≠[])\/h.size<=B)
 (hA:(A=x.pl .qa/\d.queue≠[])\/h.size<=A) (o:Ow aG.nat b h' T.i A u (d.queue++xs))
 (q:ak h' (x.pl .w) (.row (Ca { x with vl:=aw x.vl .qa u } bZ vf d) T.w false)) :
 ∃ E' x',Inv T b E' x' bZ vf { d with queue:=d.queue++xs } h'/\ec d.ab.length E E' x x' h h':=by
 have hq:(aw x.pl .qa A) .qa=A:=kB _ _ _
 obtain ⟨i1,i2⟩:=v.xJ (x':={ x with pl:=aw x.pl .qa A,vl:=aw x.vl .qa u }) (d':={ d with queue:=d.queue++xs }) [.w,.qa] hb f
  (λB hB=>by
   rcases hD B hB with rfl|⟨rfl,e⟩|e
   .exact .inl ⟨.w,by simp,trivial,rfl⟩
   .exact .inl ⟨.qa,by simp,e,rfl⟩
   .exact .inr e)
  (λr hr=>by cases r <;> first|exact ⟨rfl,id,id⟩|exact absurd (by simp) hr)
  (λr hr=>by
   rcases db.1 hr with rfl|hr
   .exact q
   .rw [eM.1 hr]
    show du aG.nat b h' T.i (aw x.pl .qa A .qa) (aw x.vl .qa u .qa) (d.queue++xs)
    rw [kB,kB]
    exact o.Bx aL)
  (λr hr=>by
   rcases db.1 hr with rfl|hr
   .trivial
   .rw [eM.1 hr];exact aL)
  (λr hr=>by
   rcases db.1 hr with rfl|hr
   .exact .inl ⟨trivial,rfl⟩
   .rw [eM.1 hr]
    show (d.queue≠[]/\aw x.pl .qa A .qa=x.pl .qa)\/h.size<=aw x.pl .qa A .qa
    rw [hq]
    exact hA.imp (λe=>⟨e.2,e.1⟩) id)
  (λr hr r' cI e1 e2=>by
   have hw:=v.lt (r:=.w) trivial
   rcases db.1 hr with rfl|hr
   .exact absurd e1 (by show ¬ h.size<=x.pl .w;omega)
   .rcases db.1 cI with rfl|cI
    .rw [e2] at e1
     exact absurd e1 (by show ¬ h.size<=x.pl .w;omega)
    .rw [eM.1 hr,eM.1 cI])
  v.fz v.fb
 exact ⟨_,_,i1,rfl,rfl,λ_ _=>rfl,λ_ _=>rfl,i2⟩
end
end Go.Am
namespace Go.Am
section
variable {T:xn} {b h h':Heap} {x x':cG} {bZ vf:ai} {d d':aY} {D E E':List Nat}
theorem Inv.push (v:Inv T b E x bZ vf d h) (hb:b.size<=h.size) {s:dv} {A As:Nat} {u lv:ai} (f:aR D h h') (hD:∀ B∈D,B=x.pl .w\/(B=x.pl .sa/\d.ab≠[])\/h.size<=B)
 (hA:(A=x.pl .sa/\d.ab≠[])\/h.size<=A) (pB:h.size<=As) (aL:As≠A) (o:Ow aG.ptr b h' T.ps A u (((List.range d.ab.length).map λi=>x.pl (.s i))++[As]))
 (qs:ak h' As (.row (sk lv s) T.s false)) (hl:Sl aG.bind (bp E h) lv s.l)
 (q:ak h' (x.pl .w) (.row (Ca { x with vl:=aw x.vl .sa u } bZ vf d) T.w false)) :
 ∃ E' x',Inv T b E' x' bZ vf { d with ab:=d.ab++[s] } h'/\ec d.ab.length E E' x x' h h':=by
 obtain ⟨n,hn⟩:∃ n,n=d.ab.length:=⟨_,rfl⟩
 have ZJ:=v.lt (r:=.w) trivial
 have p1:∀ i,i≠n->aw (aw x.pl .sa A) (.s n) As (.s i)=x.pl (.s i):=λi hi=>by rw [fA (by simpa using hi),fA (by simp)]
 have p2:aw (aw x.pl .sa A) (.s n) As (.s n)=As:=kB _ _ _
 have p3:aw (aw x.pl .sa A) (.s n) As .sa=A:=by rw [fA (by simp),kB]
 have v1:∀ i,i≠n->aw (aw x.vl .sa u) (.s n) lv (.s i)=x.vl (.s i):=λi hi=>by rw [fA (by simpa using hi),fA (by simp)]
 have v2:aw (aw x.vl .sa u) (.s n) lv (.s n)=lv:=kB _ _ _
 have v3:aw (aw x.vl .sa u) (.s n) lv .sa=u:=by rw [fA (by simp),kB]
 have gl:∀ {i t},i≠n->(d.ab++[s])[i]? = some t->d.ab[i]? = some t:=λ{i t} hi ht=>by
  have:=ao ht
  rw [cT,jk] at this
  rwa [jC (by omega)] at ht
 have gn:∀ {t},(d.ab++[s])[n]? = some t->t=s:=λ{t} ht=>by
  rw [hn,lj (by omega),tQ] at ht
  simpa using ht.symm
 have rg:(List.range (d.ab++[s]).length).map (λi=>aw (aw x.pl .sa A) (.s n) As (.s i))=((List.range d.ab.length).map λi=>x.pl (.s i))++[As]:=by
  rw [cT,jk,List.range_succ,sG,qG,List.map_nil,<- hn,p2]
  congr 1
  exact Cd λi hi=>p1 i (by have:=uI.1 hi;omega)
 obtain ⟨i1,i2⟩:=v.xJ (x':={ x with pl:=aw (aw x.pl .sa A) (.s n) As,vl:=aw (aw x.vl .sa u) (.s n) lv }) (d':={ d with ab:=d.ab++[s] }) [.w,.sa,.s n] hb f
  (λB hB=>by
   rcases hD B hB with rfl|⟨rfl,e⟩|e
   .exact .inl ⟨.w,by simp,trivial,rfl⟩
   .exact .inl ⟨.sa,by simp,e,rfl⟩
   .exact .inr e)
  (λr hr=>by
   cases r <;> first|exact ⟨rfl,id,id⟩|(exfalso;apply hr;simp;done)|skip
   rename_i i
   have hi:i≠n:=by rintro rfl;simp at hr
   refine ⟨p1 i hi,λhh=>?_,λg t ht=>?_⟩
   .have hh:i < (d.ab++[s]).length:=hh
    rw [cT,jk] at hh
    show i < d.ab.length
    omega
   .show ak h' (aw (aw x.pl .sa A) (.s n) As (.s i)) (.row (sk (aw (aw x.vl .sa u) (.s n) lv (.s i)) t) T.s false)
    rw [p1 i hi,v1 i hi]
    exact g t (gl hi ht))
  (λr hr=>by
   simp only [db,hY,or_false] at hr
   rcases hr with rfl|rfl|rfl
   .exact q
   .show du aG.ptr b h' T.ps (aw (aw x.pl .sa A) (.s n) As .sa) (aw (aw x.vl .sa u) (.s n) lv .sa) _
    rw [p3,v3,rg]
    exact o.Bx (by simp)
   .intro t ht
    show ak h' (aw (aw x.pl .sa A) (.s n) As (.s n)) (.row (sk (aw (aw x.vl .sa u) (.s n) lv (.s n)) t) T.s false)
    rw [p2,v2,gn ht]
    exact qs)
  (λr hr=>by
   simp only [db,hY,or_false] at hr
   rcases hr with rfl|rfl|rfl
   .trivial
   .show d.ab++[s]≠[]
    simp
   .show n < (d.ab++[s]).length
    rw [cT,jk];omega)
  (λr hr=>by
   simp only [db,hY,or_false] at hr
   rcases hr with rfl|rfl|rfl
   .exact .inl ⟨trivial,rfl⟩
   .show (d.ab≠[]/\aw (aw x.pl .sa A) (.s n) As .sa=x.pl .sa)\/h.size<=aw (aw x.pl .sa A) (.s n) As .sa
    rw [p3]
    exact hA.imp (λe=>⟨e.2,e.1⟩) id
   .exact .inr (by show h.size<=aw (aw x.pl .sa A) (.s n) As (.s n);rw [p2];exact pB))
  (λr hr r' cI e1 e2=>by
   simp only [db,hY,or_false] at hr cI
   have hw:aw (aw x.pl .sa A) (.s n) As .w=x.pl .w:=rfl
   change h.size<=aw (aw x.pl .sa A) (.s n) As r at e1
   change aw (aw x.pl .sa A) (.s n) As r=aw (aw x.pl .sa A) (.s n) As r' at e2
   rcases hr with rfl|rfl|rfl <;> rcases cI with rfl|rfl|rfl <;> first|rfl|(exfalso;simp only [hw,p2,p3] at e1 e2;omega))
  (λi t ht=>by
   show Sl aG.bind (bp E h) (aw (aw x.vl .sa u) (.s n) lv (.s i)) t.l
   by_cases hi:i=n
   .subst hi
    rw [v2,gn ht]
    exact hl
   .rw [v1 i hi]
    exact v.fz i t (gl hi ht))
  v.fb
 exact ⟨_,_,i1,rfl,rfl,λi hi=>p1 i (by omega),λi hi=>v1 i (by omega),i2⟩
theorem Inv.reason (v:Inv T b E x bZ vf d h) (hb:b.size<=h.size) {r:ba} {A:Nat} {u bv:ai} (f:aR D h h') (hD:∀ B∈D,B=x.pl .w\/(B=x.pl .ra/\d.aC≠[])\/h.size<=B)
 (hA:(A=x.pl .ra/\d.aC≠[])\/h.size<=A) (o:Ow aG.rv b h' T.r A u (nJ x.vb 0 d.aC++[(r.atom,r.clause,bv)])) (hl:Sl aG.atom (bp E h) bv r.body)
 (q:ak h' (x.pl .w) (.row (Ca { x with vl:=aw x.vl .ra u } bZ vf d) T.w false)) :
 ∃ E' x',Inv T b E' x' bZ vf { d with aC:=d.aC++[r] } h'/\ec d.ab.length E E' x x' h h':=by
 have ZJ:=v.lt (r:=.w) trivial
 have p1:aw x.pl .ra A .ra=A:=kB _ _ _
 have v1:aw x.vl .ra u .ra=u:=kB _ _ _
 obtain ⟨i1,i2⟩:=v.xJ (x':={ pl:=aw x.pl .ra A,vl:=aw x.vl .ra u,vb:=λi=>if i=d.aC.length then bv else x.vb i }) (d':={ d with aC:=d.aC++[r] }) [.w,.ra] hb f
  (λB hB=>by
   rcases hD B hB with rfl|⟨rfl,e⟩|e
   .exact .inl ⟨.w,by simp,trivial,rfl⟩
   .exact .inl ⟨.ra,by simp,e,rfl⟩
   .exact .inr e)
  (λr hr=>by cases r <;> first|exact ⟨rfl,id,id⟩|(exfalso;apply hr;simp;done))
  (λr hr=>by
   simp only [db,hY,or_false] at hr
   rcases hr with rfl|rfl
   .exact q
   .show du aG.rv b h' T.r (aw x.pl .ra A .ra) (aw x.vl .ra u .ra) (nJ (λi=>if i=d.aC.length then bv else x.vb i) 0 (d.aC++[_]))
    rw [p1,v1,zso 0 _ (by omega)]
    exact o.Bx (by simp))
  (λr hr=>by
   simp only [db,hY,or_false] at hr
   rcases hr with rfl|rfl
   .trivial
   .show d.aC++[_]≠[]
    simp)
  (λr hr=>by
   simp only [db,hY,or_false] at hr
   rcases hr with rfl|rfl
   .exact .inl ⟨trivial,rfl⟩
   .show (d.aC≠[]/\aw x.pl .ra A .ra=x.pl .ra)\/h.size<=aw x.pl .ra A .ra
    rw [p1]
    exact hA.imp (λe=>⟨e.2,e.1⟩) id)
  (λr hr r' cI e1 e2=>by
   simp only [db,hY,or_false] at hr cI
   have hw:aw x.pl .ra A .w=x.pl .w:=rfl
   change h.size<=aw x.pl .ra A r at e1
   change aw x.pl .ra A r=aw x.pl .ra A r' at e2
   rcases hr with rfl|rfl <;> rcases cI with rfl|rfl <;> first|rfl|(exfalso;simp only [hw,p1] at e1 e2;omega))
  v.fz
  (λi t ht=>by
   show Sl aG.atom (bp E h) (if i=d.aC.length then bv else x.vb i) t.body
   by_cases hi:i=d.aC.length
   .subst hi
    rw [lj (by omega),tQ] at ht
    have e:r=t:=by simpa using ht
    rw [aB rfl,<- e]
    exact hl
   .have:=ao ht
    rw [cT,jk] at this
    rw [jC (by omega)] at ht
    rw [aA hi]
    exact v.fb i t ht)
 exact ⟨_,_,i1,rfl,rfl,λ_ _=>rfl,λ_ _=>rfl,i2⟩
theorem Inv.known (v:Inv T b E x bZ vf d h) (hb:b.size<=h.size) {ks:aN} (f:aR [x.pl .km] h h') (m:eR h' (x.pl .km) ks) :
 ∃ E',Inv T b E' x bZ vf { d with known:=ks } h'/\ec d.ab.length E E' x x h h':=by
 obtain ⟨i1,i2⟩:=v.xJ (x':=x) (d':={ d with known:=ks }) [.km] hb f
  (λB hB=>.inl ⟨.km,by simp,trivial,(eM.1 hB).symm⟩)
  (λr hr=>by cases r <;> first|exact ⟨rfl,id,id⟩|(exfalso;apply hr;simp;done))
  (λr hr=>by rw [eM.1 hr];exact m)
  (λr hr=>by rw [eM.1 hr];trivial)
  (λr hr=>by rw [eM.1 hr];exact .inl ⟨trivial,rfl⟩)
  (λr hr r' cI _ _=>by rw [eM.1 hr,eM.1 cI])
  v.fz v.fb
 exact ⟨_,i1,rfl,rfl,λ_ _=>rfl,λ_ _=>rfl,i2⟩
theorem Inv.state (v:Inv T b E x bZ vf d h) (hb:b.size<=h.size) {i:Nat} {s s':dv} (hi:d.ab[i]? = some s) (hl:s'.l=s.l) (f:aR [x.pl (.s i)] h h') (q:ak h' (x.pl (.s i)) (.row (sk (x.vl (.s i)) s') T.s false)) :
 ∃ E',Inv T b E' x bZ vf { d with ab:=d.ab.set i s' } h'/\ec d.ab.length E E' x x h h':=by
 have fm:=ao hi
 have gi:∀ {t},(d.ab.set i s')[i]? = some t->t=s':=λ{t} ht=>by
  rw [mz fm] at ht
  exact (Option.some.inj ht).symm
 have gn:∀ {j:Nat} {t},j≠i->(d.ab.set i s')[j]? = some t->d.ab[j]? = some t:=λ{j t} hj ht=>by
  rwa [yf (λe=>hj e.symm)] at ht
 obtain ⟨i1,i2⟩:=v.xJ (x':=x) (d':={ d with ab:=d.ab.set i s' }) [.s i] hb f
  (λB hB=>.inl ⟨.s i,by simp,fm,(eM.1 hB).symm⟩)
  (λr hr=>by
   cases r <;> first|exact ⟨rfl,id,id⟩|skip
   .refine ⟨rfl,λhh=>?_,λg=>?_⟩
    .intro e
     apply hh
     show d.ab.set i s'=[]
     rw [e];rfl
    .show du aG.ptr b h' T.ps (x.pl .sa) (x.vl .sa) ((List.range (d.ab.set i s').length).map λi=>x.pl (.s i))
     rw [iS]
     exact g
   .rename_i j
    have hj:j≠i:=by rintro rfl;simp at hr
    refine ⟨rfl,λhh=>?_,λg t ht=>g t (gn hj ht)⟩
    have hh:j < (d.ab.set i s').length:=hh
    rwa [iS] at hh)
  (λr hr=>by
   rw [eM.1 hr]
   intro t ht
   rw [gi ht]
   exact q)
  (λr hr=>by
   rw [eM.1 hr]
   show i < (d.ab.set i s').length
   rw [iS];exact fm)
  (λr hr=>by rw [eM.1 hr];exact .inl ⟨fm,rfl⟩)
  (λr hr r' cI _ _=>by rw [eM.1 hr,eM.1 cI])
  (λj t ht=>by
   by_cases hj:j=i
   .subst hj
    rw [gi ht,hl]
    exact v.fz j s hi
   .exact v.fz j t (gn hj ht))
  v.fb
 exact ⟨_,i1,rfl,rfl,λ_ _=>rfl,λ_ _=>rfl,i2⟩
end
end Go.Am
namespace Go.Am
variable {A i:Nat} {u:ai}
section
variable {T:xn} {b h h':Heap} {x x':cG} {bZ vf:ai} {d d':aY} {D E E':List Nat}
theorem zh8 {Z β:Type} (f:Z->β) {l:List Z} {a c:Z} (h:l[i]? = some a) (e:f c=f a):(l.set i c).map f=l.map f:=by
 rw [List.map_set,e]
 apply xi
 intro j
 by_cases hj:i=j
 .subst hj
  rw [mz (by rw [gq];exact ao h),lk,h]
  rfl
 .rw [yf hj]
theorem Inv.call (v:Inv T b E x bZ vf d h) (hb:b.size<=h.size) {a:ae} {Ac At:Nat} (f:aR D h h') (hD:∀ B∈D,B=x.pl .pm\/B=x.pl .t\/(B=x.pl .ca/\d.calls≠[])\/h.size<=B)
 (hA:(A=x.pl .ca/\d.calls≠[])\/h.size<=A) (hAc:h.size<=Ac) (hAt:h.size<=At) (n1:Ac≠At) (n2:Ac≠A) (n3:At≠A)
 (mp:bV h' (x.pl .pm) (eQ 0 (d.calls.map aX.atom)++[(a,(d.calls.length:Int))])) (o:Ow aG.ptr b h' T.pc A u (((List.range d.calls.length).map λi=>x.pl (.c i))++[Ac]))
 (qc:ak h' Ac (.row (a.cells++[.slice none 0 0,.map (some At),.slice none 0 0]) T.c false)) (mt:bV h' At [])
 (q:ak h' (x.pl .t) (.row (Xy { x with vl:=aw x.vl .ca u } d) T.t false)) :
 ∃ E' x',Inv T b E' x' bZ vf { d with calls:=d.calls++[⟨a,[],[]⟩] } h'/\ec d.ab.length E E' x x' h h':=by
 obtain ⟨n,hn⟩:∃ n,n=d.calls.length:=⟨_,rfl⟩
 have h1:=v.lt (r:=.pm) trivial
 have h2:=v.lt (r:=.t) trivial
 have Tv:x.pl .pm≠x.pl .t:=λe=>nomatch (v.inj .pm .t trivial trivial e)
 obtain ⟨P,hP⟩:∃ P,P=aw (aw (aw x.pl .ca A) (.c n) Ac) (.th n) At:=⟨_,rfl⟩
 obtain ⟨V,hV⟩:∃ V,V=aw (aw (aw x.vl .ca u) (.an n) (Value.slice none 0 0)) (.wa n) (Value.slice none 0 0):=⟨_,rfl⟩
 have pc:∀ i,i≠n->P (.c i)=x.pl (.c i):=λi hi=>by rw [hP,fA (by simp),fA (by simpa using hi),fA (by simp)]
 have pt:∀ i,i≠n->P (.th i)=x.pl (.th i):=λi hi=>by rw [hP,fA (by simpa using hi),fA (by simp),fA (by simp)]
 have NB:P (.c n)=Ac:=by rw [hP,fA (by simp),kB]
 have NF:P (.th n)=At:=by rw [hP,kB]
 have UB:P .ca=A:=by rw [hP,fA (by simp),fA (by simp),kB]
 have Z2:∀ i,P (.an i)=x.pl (.an i):=λi=>by rw [hP,fA (by simp),fA (by simp),fA (by simp)]
 have Z5:∀ i,P (.wa i)=x.pl (.wa i):=λi=>by rw [hP,fA (by simp),fA (by simp),fA (by simp)]
 have NC:P .pm=x.pl .pm:=by rw [hP];rfl
 have ND:P .t=x.pl .t:=by rw [hP];rfl
 have va:∀ i,i≠n->V (.an i)=x.vl (.an i):=λi hi=>by rw [hV,fA (by simp),fA (by simpa using hi),fA (by simp)]
 have vw:∀ i,i≠n->V (.wa i)=x.vl (.wa i):=λi hi=>by rw [hV,fA (by simpa using hi),fA (by simp),fA (by simp)]
 have van:V (.an n)=.slice none 0 0:=by rw [hV,fA (by simp),kB]
 have vwn:V (.wa n)=.slice none 0 0:=by rw [hV,kB]
 have vca:V .ca=u:=by rw [hV,fA (by simp),fA (by simp),kB]
 have gl:∀ {i t},i≠n->(d.calls++[(⟨a,[],[]⟩:aX)])[i]? = some t->d.calls[i]? = some t:=λ{i t} hi ht=>by
  have:=ao ht
  rw [cT,jk] at this
  rwa [jC (by omega)] at ht
 have gn:∀ {t},(d.calls++[(⟨a,[],[]⟩:aX)])[n]? = some t->t=⟨a,[],[]⟩:=λ{t} ht=>by
  rw [hn,lj (by omega),tQ] at ht
  exact (Option.some.inj ht).symm
 have ll:∀ i,i≠n->i < (d.calls++[(⟨a,[],[]⟩:aX)]).length->i < d.calls.length:=λi hi hh=>by
  rw [cT,jk] at hh
  omega
 have rg:(List.range (d.calls++[(⟨a,[],[]⟩:aX)]).length).map (λi=>P (.c i))=((List.range d.calls.length).map λi=>x.pl (.c i))++[Ac]:=by
  rw [cT,jk,List.range_succ,sG,qG,List.map_nil,<- hn,NB]
  congr 1
  exact Cd λi hi=>pc i (by have:=uI.1 hi;omega)
 obtain ⟨i1,i2⟩:=v.xJ (x':={ x with pl:=P,vl:=V }) (d':={ d with calls:=d.calls++[⟨a,[],[]⟩] }) [.pm,.t,.ca,.c n,.th n] hb f
  (λB hB=>by
   rcases hD B hB with rfl|rfl|⟨rfl,e⟩|e
   .exact .inl ⟨.pm,by simp,trivial,rfl⟩
   .exact .inl ⟨.t,by simp,trivial,rfl⟩
   .exact .inl ⟨.ca,by simp,e,rfl⟩
   .exact .inr e)
  (λr hr=>by
   cases r with
   |pm=>simp at hr
   |t=>simp at hr
   |ca=>simp at hr
   |w=>subst hP;subst hV;exact ⟨rfl,id,id⟩
   |km=>subst hP;subst hV;exact ⟨rfl,id,id⟩
   |sa=>subst hP;subst hV;exact ⟨rfl,id,id⟩
   |qa=>subst hP;subst hV;exact ⟨rfl,id,id⟩
   |ra=>subst hP;subst hV;exact ⟨rfl,id,id⟩
   |s i=>subst hP;subst hV;exact ⟨rfl,id,id⟩
   |c i =>
    have hi:i≠n:=by rintro rfl;simp at hr
    refine ⟨pc i hi,ll i hi,λg t ht=>?_⟩
    show ak h' (P (.c i)) (.row (t.atom.cells++[V (.an i),.map (some (P (.th i))),V (.wa i)]) T.c false)
    rw [pc i hi,va i hi,vw i hi,pt i hi]
    exact g t (gl hi ht)
   |th i =>
    have hi:i≠n:=by rintro rfl;simp at hr
    refine ⟨pt i hi,ll i hi,λg t ht=>?_⟩
    show bV h' (P (.th i)) (eQ 0 t.answers)
    rw [pt i hi]
    exact g t (gl hi ht)
   |an i =>
    refine ⟨Z2 i,λ⟨t,ht,aL⟩=>?_,λg t ht=>?_⟩
    .by_cases hi:i=n
     .subst hi
      exact absurd (by rw [gn ht]) aL
     .exact ⟨t,gl hi ht,aL⟩
    .show du aG.atom b h' T.a (P (.an i)) (V (.an i)) t.answers
     by_cases hi:i=n
     .subst hi
      exact .inl ⟨by rw [gn ht],van⟩
     .rw [Z2,va i hi]
      exact g t (gl hi ht)
   |wa i =>
    refine ⟨Z5 i,λ⟨t,ht,aL⟩=>?_,λg t ht=>?_⟩
    .by_cases hi:i=n
     .subst hi
      exact absurd (by rw [gn ht]) aL
     .exact ⟨t,gl hi ht,aL⟩
    .show du aG.nat b h' T.i (P (.wa i)) (V (.wa i)) t.waiters
     by_cases hi:i=n
     .subst hi
      exact .inl ⟨by rw [gn ht],vwn⟩
     .rw [Z5,vw i hi]
      exact g t (gl hi ht))
  (λr hr=>by
   simp only [db,hY,or_false] at hr
   rcases hr with rfl|rfl|rfl|rfl|rfl
   .show bV h' (P .pm) (eQ 0 ((d.calls++[(⟨a,[],[]⟩:aX)]).map aX.atom))
    rw [NC,sG,qG,List.map_nil,V9,gq,i5]
    exact mp
   .show ak h' (P .t) (.row [.map (some (P .pm)),V .ca,.int .i64 (d.count:Int)] T.t false)
    rw [NC,ND,vca]
    exact q
   .show du aG.ptr b h' T.pc (P .ca) (V .ca) ((List.range (d.calls++[(⟨a,[],[]⟩:aX)]).length).map λi=>P (.c i))
    rw [rg,UB,vca]
    exact o.Bx (by simp)
   .intro t ht
    show ak h' (P (.c n)) (.row (t.atom.cells++[V (.an n),.map (some (P (.th n))),V (.wa n)]) T.c false)
    rw [gn ht,NB,van,vwn,NF]
    exact qc
   .intro t ht
    show bV h' (P (.th n)) (eQ 0 t.answers)
    rw [gn ht,NF]
    exact mt)
  (λr hr=>by
   simp only [db,hY,or_false] at hr
   rcases hr with rfl|rfl|rfl|rfl|rfl
   .trivial
   .trivial
   .show d.calls++[_]≠[]
    simp
   .show n < (d.calls++[_]).length
    rw [cT,jk];omega
   .show n < (d.calls++[_]).length
    rw [cT,jk];omega)
  (λr hr=>by
   simp only [db,hY,or_false] at hr
   rcases hr with rfl|rfl|rfl|rfl|rfl
   .exact .inl ⟨trivial,NC⟩
   .exact .inl ⟨trivial,ND⟩
   .show (d.calls≠[]/\P .ca=x.pl .ca)\/h.size<=P .ca
    rw [UB]
    exact hA.imp (λe=>⟨e.2,e.1⟩) id
   .exact .inr (by show h.size<=P (.c n);rw [NB];exact hAc)
   .exact .inr (by show h.size<=P (.th n);rw [NF];exact hAt))
  (λr hr r' cI e1 e2=>by
   simp only [db,hY,or_false] at hr cI
   change h.size<=P r at e1
   change P r=P r' at e2
   rcases hr with rfl|rfl|rfl|rfl|rfl <;> rcases cI with rfl|rfl|rfl|rfl|rfl <;> first|rfl|(exfalso;simp only [NC,ND,UB,NB,NF] at e1 e2;omega))
  (λi t ht=>by
   have e:V (.s i)=x.vl (.s i):=by rw [hV];rfl
   show Sl aG.bind (bp E h) (V (.s i)) t.l
   rw [e]
   exact v.fz i t ht)
  v.fb
 exact ⟨_,_,i1,by rw [hP];rfl,ND,λi hi=>by rw [hP];rfl,λi hi=>by rw [hV];rfl,i2⟩
theorem Inv.answer (v:Inv T b E x bZ vf d h) (hb:b.size<=h.size) {c:aX} (hi:d.calls[i]? = some c) {a:ae} (f:aR D h h') (hD:∀ B∈D,B=x.pl .t\/B=x.pl (.c i)\/B=x.pl (.th i)\/(B=x.pl (.an i)/\c.answers≠[])\/h.size<=B)
 (hA:(A=x.pl (.an i)/\c.answers≠[])\/h.size<=A)
 (mt:bV h' (x.pl (.th i)) (eQ 0 (c.answers++[a]))) (o:Ow aG.atom b h' T.a A u (c.answers++[a]))
 (qc:ak h' (x.pl (.c i)) (.row (Mc { x with vl:=aw x.vl (.an i) u } i c) T.c false))
 (q:ak h' (x.pl .t) (.row (Xy x { d with count:=d.count+1 }) T.t false)) :
 ∃ E' x',Inv T b E' x' bZ vf { d with calls:=d.calls.set i { c with answers:=c.answers++[a] },count:=d.count+1 } h'/\ec d.ab.length E E' x x' h h':=by
 have fm:=ao hi
 have h1:=v.lt (r:=.t) trivial
 have h2:=v.lt (r:=.c i) fm
 have h3:=v.lt (r:=.th i) fm
 obtain ⟨c',dO⟩:∃ c',c'={ c with answers:=c.answers++[a] }:=⟨_,rfl⟩
 obtain ⟨P,hP⟩:∃ P,P=aw x.pl (.an i) A:=⟨_,rfl⟩
 obtain ⟨V,hV⟩:∃ V,V=aw x.vl (.an i) u:=⟨_,rfl⟩
 have pa:∀ j,j≠i->P (.an j)=x.pl (.an j):=λj hj=>by rw [hP,fA (by simpa using hj)]
 have Ec:P (.an i)=A:=by rw [hP,kB]
 have va:∀ j,j≠i->V (.an j)=x.vl (.an j):=λj hj=>by rw [hV,fA (by simpa using hj)]
 have UY:V (.an i)=u:=by rw [hV,kB]
 have gi:∀ {t},(d.calls.set i c')[i]? = some t->t=c':=λ{t} ht=>by
  rw [mz fm] at ht
  exact (Option.some.inj ht).symm
 have gn:∀ {j:Nat} {t},j≠i->(d.calls.set i c')[j]? = some t->d.calls[j]? = some t:=λ{j t} hj ht=>by
  rwa [yf (λe=>hj e.symm)] at ht
 have ll:∀ j,j < (d.calls.set i c').length->j < d.calls.length:=λj hh=>by rwa [iS] at hh
 obtain ⟨i1,i2⟩:=v.xJ (x':={ x with pl:=P,vl:=V }) (d':={ d with calls:=d.calls.set i c',count:=d.count+1 }) [.t,.c i,.th i,.an i] hb f
  (λB hB=>by
   rcases hD B hB with rfl|rfl|rfl|⟨rfl,e⟩|e
   .exact .inl ⟨.t,by simp,trivial,rfl⟩
   .exact .inl ⟨.c i,by simp,fm,rfl⟩
   .exact .inl ⟨.th i,by simp,fm,rfl⟩
   .exact .inl ⟨.an i,by simp,⟨c,hi,e⟩,rfl⟩
   .exact .inr e)
  (λr hr=>by
   cases r with
   |t=>simp at hr
   |pm =>
    subst hP;subst hV
    refine ⟨rfl,id,λg=>?_⟩
    show bV h' (x.pl .pm) (eQ 0 ((d.calls.set i c').map aX.atom))
    rw [zh8 aX.atom hi (by rw [dO])]
    exact g
   |ca =>
    subst hP;subst hV
    refine ⟨rfl,λhh e=>hh ?_,λg=>?_⟩
    .show d.calls.set i c'=[]
     rw [e];rfl
    .show du aG.ptr b h' T.pc (x.pl .ca) (x.vl .ca) ((List.range (d.calls.set i c').length).map λi=>x.pl (.c i))
     rw [iS]
     exact g
   |w=>subst hP;subst hV;exact ⟨rfl,id,id⟩
   |km=>subst hP;subst hV;exact ⟨rfl,id,id⟩
   |sa=>subst hP;subst hV;exact ⟨rfl,id,id⟩
   |qa=>subst hP;subst hV;exact ⟨rfl,id,id⟩
   |ra=>subst hP;subst hV;exact ⟨rfl,id,id⟩
   |s i=>subst hP;subst hV;exact ⟨rfl,id,id⟩
   |c j =>
    have hj:j≠i:=by rintro rfl;simp at hr
    refine ⟨by rw [hP];rfl,ll j,λg t ht=>?_⟩
    show ak h' (P (.c j)) (.row (t.atom.cells++[V (.an j),.map (some (P (.th j))),V (.wa j)]) T.c false)
    have e1:P (.c j)=x.pl (.c j):=by rw [hP];rfl
    have e2:P (.th j)=x.pl (.th j):=by rw [hP];rfl
    have e3:V (.wa j)=x.vl (.wa j):=by rw [hV];rfl
    rw [e1,e2,e3,va j hj]
    exact g t (gn hj ht)
   |th j =>
    have hj:j≠i:=by rintro rfl;simp at hr
    have e2:P (.th j)=x.pl (.th j):=by rw [hP];rfl
    refine ⟨e2,ll j,λg t ht=>?_⟩
    show bV h' (P (.th j)) (eQ 0 t.answers)
    rw [e2]
    exact g t (gn hj ht)
   |an j =>
    have hj:j≠i:=by rintro rfl;simp at hr
    refine ⟨pa j hj,λ⟨t,ht,aL⟩=>⟨t,gn hj ht,aL⟩,λg t ht=>?_⟩
    show du aG.atom b h' T.a (P (.an j)) (V (.an j)) t.answers
    rw [pa j hj,va j hj]
    exact g t (gn hj ht)
   |wa j =>
    have e2:P (.wa j)=x.pl (.wa j):=by rw [hP];rfl
    have e3:V (.wa j)=x.vl (.wa j):=by rw [hV];rfl
    have key:∀ t,(d.calls.set i c')[j]? = some t->∃ t0,d.calls[j]? = some t0/\t0.waiters=t.waiters:=λt ht=>by
     by_cases hj:j=i
     .subst hj
      exact ⟨c,hi,by rw [gi ht,dO]⟩
     .exact ⟨t,gn hj ht,rfl⟩
    refine ⟨e2,λ⟨t,ht,aL⟩=>?_,λg t ht=>?_⟩
    .obtain ⟨t0,k1,k2⟩:=key t ht
     exact ⟨t0,k1,by rw [k2];exact aL⟩
    .obtain ⟨t0,k1,k2⟩:=key t ht
     show du aG.nat b h' T.i (P (.wa j)) (V (.wa j)) t.waiters
     rw [e2,e3,<- k2]
     exact g t0 k1)
  (λr hr=>by
   simp only [db,hY,or_false] at hr
   have e2:P (.th i)=x.pl (.th i):=by rw [hP];rfl
   rcases hr with rfl|rfl|rfl|rfl
   .subst hP;subst hV;exact q
   .intro t ht
    rw [gi ht]
    subst hP;subst hV;subst dO
    exact qc
   .intro t ht
    show bV h' (P (.th i)) (eQ 0 t.answers)
    rw [gi ht,e2,dO]
    exact mt
   .intro t ht
    show du aG.atom b h' T.a (P (.an i)) (V (.an i)) t.answers
    rw [gi ht,Ec,UY,dO]
    exact o.Bx (by simp))
  (λr hr=>by
   simp only [db,hY,or_false] at hr
   rcases hr with rfl|rfl|rfl|rfl
   .trivial
   .show i < (d.calls.set i c').length
    rw [iS];exact fm
   .show i < (d.calls.set i c').length
    rw [iS];exact fm
   .exact ⟨c',mz fm,by rw [dO];simp⟩)
  (λr hr=>by
   simp only [db,hY,or_false] at hr
   rcases hr with rfl|rfl|rfl|rfl
   .exact .inl ⟨trivial,by rw [hP];rfl⟩
   .exact .inl ⟨fm,by rw [hP];rfl⟩
   .exact .inl ⟨fm,by rw [hP];rfl⟩
   .show ((∃ t,d.calls[i]? = some t/\t.answers≠[])/\P (.an i)=x.pl (.an i))\/h.size<=P (.an i)
    rw [Ec]
    exact hA.imp (λe=>⟨⟨c,hi,e.2⟩,e.1⟩) id)
  (λr hr r' cI e1 e2=>by
   simp only [db,hY,or_false] at hr cI
   have k1:P .t=x.pl .t:=by rw [hP];rfl
   have k2:P (.c i)=x.pl (.c i):=by rw [hP];rfl
   have k3:P (.th i)=x.pl (.th i):=by rw [hP];rfl
   change h.size<=P r at e1
   change P r=P r' at e2
   rcases hr with rfl|rfl|rfl|rfl <;> rcases cI with rfl|rfl|rfl|rfl <;> first|rfl|(exfalso;simp only [k1,k2,k3,Ec] at e1 e2;omega))
  (λk t ht=>by
   have e:V (.s k)=x.vl (.s k):=by rw [hV];rfl
   show Sl aG.bind (bp E h) (V (.s k)) t.l
   rw [e]
   exact v.fz k t ht)
  v.fb
 rw [dO] at i1
 exact ⟨_,_,i1,by rw [hP];rfl,by rw [hP];rfl,λi hi=>by rw [hP];rfl,λi hi=>by rw [hV];rfl,i2⟩
theorem Inv.wait (v:Inv T b E x bZ vf d h) (hb:b.size<=h.size) {c:aX} (hi:d.calls[i]? = some c) {k:Nat} (f:aR D h h') (hD:∀ B∈D,B=x.pl (.c i)\/(B=x.pl (.wa i)/\c.waiters≠[])\/h.size<=B)
 (hA:(A=x.pl (.wa i)/\c.waiters≠[])\/h.size<=A) (o:Ow aG.nat b h' T.i A u (c.waiters++[k]))
 (qc:ak h' (x.pl (.c i)) (.row (Mc { x with vl:=aw x.vl (.wa i) u } i c) T.c false)) :
 ∃ E' x',Inv T b E' x' bZ vf { d with calls:=d.calls.set i { c with waiters:=c.waiters++[k] } } h'/\ec d.ab.length E E' x x' h h':=by
 have fm:=ao hi
 have h2:=v.lt (r:=.c i) fm
 obtain ⟨c',dO⟩:∃ c',c'={ c with waiters:=c.waiters++[k] }:=⟨_,rfl⟩
 obtain ⟨P,hP⟩:∃ P,P=aw x.pl (.wa i) A:=⟨_,rfl⟩
 obtain ⟨V,hV⟩:∃ V,V=aw x.vl (.wa i) u:=⟨_,rfl⟩
 have pa:∀ j,j≠i->P (.wa j)=x.pl (.wa j):=λj hj=>by rw [hP,fA (by simpa using hj)]
 have Ec:P (.wa i)=A:=by rw [hP,kB]
 have va:∀ j,j≠i->V (.wa j)=x.vl (.wa j):=λj hj=>by rw [hV,fA (by simpa using hj)]
 have UY:V (.wa i)=u:=by rw [hV,kB]
 have gi:∀ {t},(d.calls.set i c')[i]? = some t->t=c':=λ{t} ht=>by
  rw [mz fm] at ht
  exact (Option.some.inj ht).symm
 have gn:∀ {j:Nat} {t},j≠i->(d.calls.set i c')[j]? = some t->d.calls[j]? = some t:=λ{j t} hj ht=>by
  rwa [yf (λe=>hj e.symm)] at ht
 have ll:∀ j,j < (d.calls.set i c').length->j < d.calls.length:=λj hh=>by rwa [iS] at hh
 have key:∀ (j:Nat) (t:aX),(d.calls.set i c')[j]? = some t->∃ t0:aX,d.calls[j]? = some t0/\t0.answers=t.answers:=λj t ht=>by
  by_cases hj:j=i
  .subst hj
   exact ⟨c,hi,by rw [gi ht,dO]⟩
  .exact ⟨t,gn hj ht,rfl⟩
 obtain ⟨i1,i2⟩:=v.xJ (x':={ x with pl:=P,vl:=V }) (d':={ d with calls:=d.calls.set i c' }) [.c i,.wa i] hb f
  (λB hB=>by
   rcases hD B hB with rfl|⟨rfl,e⟩|e
   .exact .inl ⟨.c i,by simp,fm,rfl⟩
   .exact .inl ⟨.wa i,by simp,⟨c,hi,e⟩,rfl⟩
   .exact .inr e)
  (λr hr=>by
   cases r with
   |t=>subst hP;subst hV;exact ⟨rfl,id,id⟩
   |pm =>
    subst hP;subst hV
    refine ⟨rfl,id,λg=>?_⟩
    show bV h' (x.pl .pm) (eQ 0 ((d.calls.set i c').map aX.atom))
    rw [zh8 aX.atom hi (by rw [dO])]
    exact g
   |ca =>
    subst hP;subst hV
    refine ⟨rfl,λhh e=>hh ?_,λg=>?_⟩
    .show d.calls.set i c'=[]
     rw [e];rfl
    .show du aG.ptr b h' T.pc (x.pl .ca) (x.vl .ca) ((List.range (d.calls.set i c').length).map λi=>x.pl (.c i))
     rw [iS]
     exact g
   |w=>subst hP;subst hV;exact ⟨rfl,id,id⟩
   |km=>subst hP;subst hV;exact ⟨rfl,id,id⟩
   |sa=>subst hP;subst hV;exact ⟨rfl,id,id⟩
   |qa=>subst hP;subst hV;exact ⟨rfl,id,id⟩
   |ra=>subst hP;subst hV;exact ⟨rfl,id,id⟩
   |s i=>subst hP;subst hV;exact ⟨rfl,id,id⟩
   |c j =>
    have hj:j≠i:=by rintro rfl;simp at hr
    refine ⟨by rw [hP];rfl,ll j,λg t ht=>?_⟩
    show ak h' (P (.c j)) (.row (t.atom.cells++[V (.an j),.map (some (P (.th j))),V (.wa j)]) T.c false)
    have e1:P (.c j)=x.pl (.c j):=by rw [hP];rfl
    have e2:P (.th j)=x.pl (.th j):=by rw [hP];rfl
    have e3:V (.an j)=x.vl (.an j):=by rw [hV];rfl
    rw [e1,e2,e3,va j hj]
    exact g t (gn hj ht)
   |th j =>
    have e2:P (.th j)=x.pl (.th j):=by rw [hP];rfl
    refine ⟨e2,ll j,λg t ht=>?_⟩
    obtain ⟨t0,k1,k2⟩:=key j t ht
    show bV h' (P (.th j)) (eQ 0 t.answers)
    rw [e2,<- k2]
    exact g t0 k1
   |wa j =>
    have hj:j≠i:=by rintro rfl;simp at hr
    refine ⟨pa j hj,λ⟨t,ht,aL⟩=>⟨t,gn hj ht,aL⟩,λg t ht=>?_⟩
    show du aG.nat b h' T.i (P (.wa j)) (V (.wa j)) t.waiters
    rw [pa j hj,va j hj]
    exact g t (gn hj ht)
   |an j =>
    have e2:P (.an j)=x.pl (.an j):=by rw [hP];rfl
    have e3:V (.an j)=x.vl (.an j):=by rw [hV];rfl
    refine ⟨e2,λ⟨t,ht,aL⟩=>?_,λg t ht=>?_⟩
    .obtain ⟨t0,k1,k2⟩:=key j t ht
     exact ⟨t0,k1,by rw [k2];exact aL⟩
    .obtain ⟨t0,k1,k2⟩:=key j t ht
     show du aG.atom b h' T.a (P (.an j)) (V (.an j)) t.answers
     rw [e2,e3,<- k2]
     exact g t0 k1)
  (λr hr=>by
   simp only [db,hY,or_false] at hr
   rcases hr with rfl|rfl
   .intro t ht
    rw [gi ht]
    subst hP;subst hV;subst dO
    exact qc
   .intro t ht
    show du aG.nat b h' T.i (P (.wa i)) (V (.wa i)) t.waiters
    rw [gi ht,Ec,UY,dO]
    exact o.Bx (by simp))
  (λr hr=>by
   simp only [db,hY,or_false] at hr
   rcases hr with rfl|rfl
   .show i < (d.calls.set i c').length
    rw [iS];exact fm
   .exact ⟨c',mz fm,by rw [dO];simp⟩)
  (λr hr=>by
   simp only [db,hY,or_false] at hr
   rcases hr with rfl|rfl
   .exact .inl ⟨fm,by rw [hP];rfl⟩
   .show ((∃ t,d.calls[i]? = some t/\t.waiters≠[])/\P (.wa i)=x.pl (.wa i))\/h.size<=P (.wa i)
    rw [Ec]
    exact hA.imp (λe=>⟨⟨c,hi,e.2⟩,e.1⟩) id)
  (λr hr r' cI e1 e2=>by
   simp only [db,hY,or_false] at hr cI
   have k2:P (.c i)=x.pl (.c i):=by rw [hP];rfl
   change h.size<=P r at e1
   change P r=P r' at e2
   rcases hr with rfl|rfl <;> rcases cI with rfl|rfl <;> first|rfl|(exfalso;simp only [k2,Ec] at e1 e2;omega))
  (λk t ht=>by
   have e:V (.s k)=x.vl (.s k):=by rw [hV];rfl
   show Sl aG.bind (bp E h) (V (.s k)) t.l
   rw [e]
   exact v.fz k t ht)
  v.fb
 rw [dO] at i1
 exact ⟨_,_,i1,by rw [hP];rfl,by rw [hP];rfl,λi hi=>by rw [hP];rfl,λi hi=>by rw [hV];rfl,i2⟩
end
end Go.Am

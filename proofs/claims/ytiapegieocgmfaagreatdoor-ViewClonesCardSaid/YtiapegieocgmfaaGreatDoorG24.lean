/- Sorting by halves, each text once: the first stays. No condition. -/
import Derived.Test.YtiapegieocgmfaaGreatDoorG18
set_option linter.unusedSimpArgs false
set_option linter.unusedVariables false
namespace Go.Am
variable {h h0 h1:Heap} {s xs ys:aS} {v:ab} {u:TypeId} {x y:ak}
theorem bL.over {a h2:Heap} {l:List ba} {w:Nat} (i:bL a h1) (x:Ext (h1.lay l w) h2):bL a h2:=(i.trans (bL.lay _ _ _)).trans x.inc
theorem Tp (f:kY h1 h u v s) (i:h0.size<=h1.size):kY h0 h u v s:=by
 rcases f with f|⟨A,e1,e2,e3,e4⟩
 .exact .inl f
 .exact .inr ⟨A,e1,e2,by omega,e4⟩
theorem zjz {h':Heap} (f:kY h0 h u v s) (i:bL h h'):kY h0 h' u v s:=by
 rcases f with ⟨e,f⟩|⟨A,e1,e2,e3,e4⟩
 .exact .inl ⟨e,f.mono i⟩
 .exact .inr ⟨A,e1,e2.mono i,e3,e4⟩
theorem zxg {Z:Type} {r:aM Z} {e A:Nat} {l:List Z} (f:Ow r h1 h e A v l) (i:h0.size<=h1.size):Ow r h0 h e A v l:=by
 rcases f with ⟨f1,f2,f3⟩|⟨row,e1,e2,e3,e4⟩
 .refine .inl ⟨by omega,f2,f3.imp id ?_⟩
  rintro ⟨B,o,g1,g2,g3⟩
  exact ⟨B,o,g1,by omega,g3⟩
 .exact .inr ⟨row,e1,e2,by omega,e4⟩
def nS:aS->aS->aS
 | [],ys=>ys
 |x::xs,[]=>x::xs
 |x::xs,y::ys=>if aX x y < 0 then x::nS xs (y::ys) else if 0 < aX x y then y::nS (x::xs) ys else nS (x::xs) ys
termination_by l m=>l.length+m.length
theorem zdJ (ys:aS):nS [] ys=ys:=by unfold nS;rfl
theorem zdg (xs:aS):nS xs []=xs:=by
 cases xs with
 |nil=>unfold nS;rfl
 |cons x xs=>unfold nS;rfl
theorem zjp (h:aX x y < 0):nS (x::xs) (y::ys)=x::nS xs (y::ys):=by
 rw [nS,aE h]
theorem zjo (h:0 < aX x y):nS (x::xs) (y::ys)=y::nS (x::xs) ys:=by
 rw [nS,az (by omega),aE h]
theorem zjn (h:aX x y=0):nS (x::xs) (y::ys)=nS (x::xs) ys:=by
 rw [nS,az (by omega),az (by omega)]
theorem Jc:∀ (n:Nat) (xs ys:aS),xs.length+ys.length<=n->ef xs->ef ys->∀ z,z∈nS xs ys↔z∈xs\/(z∈ys/\∀ x∈xs,aX x z≠0)
 |n,[],ys,_,_,_,z=>by rw [zdJ];simp
 |n,x::xs,[],_,_,_,z=>by rw [zdg];simp
 |0,x::xs,y::ys,hn,_,_,z=>by simp at hn
 |n+1,x::xs,y::ys,hn,hx,hy,z=>by
  have gx:=tK.1 hx
  have gy:=tK.1 hy
  simp only [dn] at hn
  by_cases h1:aX x y < 0
  .rw [zjp h1,dh,Jc n xs (y::ys) (by simp only [dn];omega) gx.2 hy z]
   constructor
   .rintro (rfl|h|⟨h,h2⟩)
    .exact .inl (jm ..)
    .exact .inl (fB _ h)
    .refine .inr ⟨h,λw hw=>?_⟩
     rcases dh.1 hw with rfl|hw
     .have:aX w z < 0:=by
       rcases dh.1 h with rfl|h
       .exact h1
       .exact Cj h1 (gy.1 z h)
      omega
     .exact h2 w hw
   .rintro (h|⟨h,h2⟩)
    .rcases dh.1 h with rfl|h
     .exact .inl rfl
     .exact .inr (.inl h)
    .exact .inr (.inr ⟨h,λw hw=>h2 w (fB _ hw)⟩)
  .by_cases h2:0 < aX x y
   .rw [zjo h2,dh,Jc n (x::xs) ys (by simp only [dn];omega) hx gy.2 z]
    have y5:aX y x < 0:=by
     have:=wZ x y
     omega
    constructor
    .rintro (rfl|h|⟨h,h3⟩)
     .refine .inr ⟨jm ..,λw hw=>?_⟩
      have:aX z w < 0:=by
       rcases dh.1 hw with rfl|hw
       .exact y5
       .exact Cj y5 (gx.1 w hw)
      have:=wZ w z
      omega
     .exact .inl h
     .exact .inr ⟨fB _ h,h3⟩
    .rintro (h|⟨h,h3⟩)
     .exact .inr (.inl h)
     .rcases dh.1 h with rfl|h
      .exact .inl rfl
      .exact .inr (.inr ⟨h,h3⟩)
   .have h3:aX x y=0:=by omega
    rw [zjn h3,Jc n (x::xs) ys (by simp only [dn];omega) hx gy.2 z]
    constructor
    .rintro (h|⟨h,h4⟩)
     .exact .inl h
     .exact .inr ⟨fB _ h,h4⟩
    .rintro (h|⟨h,h4⟩)
     .exact .inl h
     .rcases dh.1 h with rfl|h
      .exact absurd h3 (h4 x (jm ..))
      .exact .inr ⟨h,h4⟩
theorem S9:∀ (n:Nat) (xs ys:aS),xs.length+ys.length<=n->ef xs->ef ys->ef (nS xs ys)
 |n,[],ys,_,_,hy=>by rw [zdJ];exact hy
 |n,x::xs,[],_,hx,_=>by rw [zdg];exact hx
 |0,x::xs,y::ys,hn,_,_=>by simp at hn
 |n+1,x::xs,y::ys,hn,hx,hy=>by
  have gx:=tK.1 hx
  have gy:=tK.1 hy
  simp only [dn] at hn
  by_cases h1:aX x y < 0
  .rw [zjp h1]
   refine tK.2 ⟨λz hz=>?_,S9 n xs (y::ys) (by simp only [dn];omega) gx.2 hy⟩
   rcases (Jc _ xs (y::ys) (bj _) gx.2 hy z).1 hz with h|⟨h,_⟩
   .exact gx.1 z h
   .rcases dh.1 h with rfl|h
    .exact h1
    .exact Cj h1 (gy.1 z h)
  .by_cases h2:0 < aX x y
   .rw [zjo h2]
    have y5:aX y x < 0:=by
     have:=wZ x y
     omega
    refine tK.2 ⟨λz hz=>?_,S9 n (x::xs) ys (by simp only [dn];omega) hx gy.2⟩
    rcases (Jc _ (x::xs) ys (bj _) hx gy.2 z).1 hz with h|⟨h,_⟩
    .rcases dh.1 h with rfl|h
     .exact y5
     .exact Cj y5 (gx.1 z h)
    .exact gy.1 z h
   .rw [zjn (by omega)]
    exact S9 n (x::xs) ys (by simp only [dn];omega) hx gy.2
theorem zpG {l1 l2 s1 s2:aS} (f:bp l1 s1) (g:bp l2 s2):bp (l1++l2) (nS s1 s2):=by
 have hm:=Jc _ s1 s2 (bj _) f.hY g.hY
 refine ⟨S9 _ s1 s2 (bj _) f.hY g.hY,λy hy=>?_,λx hx=>?_⟩
 .rw [AO,List.head?_append]
  rcases (hm y).1 hy with h|⟨h,h2⟩
  .rw [f.first y h]
   rfl
  .have e:l1.filter (λx=>cL x == cL y)=[]:=by
    rw [JB]
    intro x hx dp
    have dp:cL x=cL y:=by simpa using dp
    obtain ⟨w,hw,e⟩:=f.wC x hx
    exact h2 w hw (bT.2 (e.trans dp))
   rw [e,g.first y h]
   rfl
 .rcases mj.1 hx with hx|hx
  .obtain ⟨y,hy,e⟩:=f.wC x hx
   exact ⟨y,(hm y).2 (.inl hy),e⟩
  .obtain ⟨y,hy,e⟩:=g.wC x hx
   by_cases h:∃ w∈s1,aX w y=0
   .obtain ⟨w,hw,e2⟩:=h
    exact ⟨w,(hm w).2 (.inl hw),(bT.1 e2).trans e⟩
   .exact ⟨y,(hm y).2 (.inr ⟨hy,λw hw e2=>h ⟨w,hw,e2⟩⟩),e⟩
theorem zxs (l1 l2:aS):nS (eo l1) (eo l2)=eo (l1++l2):=(zpG (qG l1) (qG l2)).is
theorem zxu {l:aS} (h:l.length < 2):eo l=l:=by
 refine Tm ?_
 match l,h with
 | [],_=>exact List.Pairwise.nil
 | [x],_=>exact List.pairwise_singleton ..
theorem zAr {T:bI} {t:TypeId} {bytes:Nat} {z:List ab} (hd:T.desc t=some (.slice u)) (hi:T.info u=some (11,bytes,z)) (hu:u≠Rm) (sU:bytes<=1000) {w:ab} {a:ak} {lw:Nat}
 (hz:h0.size<=h1.size) (ho:dG h0 h1 u w s) (hn:s.length<=10000) :
 ∃ w' H',gC T t w (.slice (some ⟨h1.size+0,0,none⟩) 1 1) (h1.lay [.row a.cells u false] lw)=some (w',H')/\dG h0 H' u w' (s++[a])/\∃ A,h0.size<=A/\eG A (h1.lay [.row a.cells u false] lw) H':=by
 obtain ⟨w',H',e,o,c⟩:=zwj (a:=a) (i:=s.length) (lw:=lw) hd hi hu sU hz ho hn (bj _)
 have lV:s.take s.length++a::s.drop s.length=s++[a]:=by rw [JW,List.drop_length]
 rw [lV] at o
 refine ⟨w',H',?_,o,c⟩
 rcases ho with ⟨rfl,yk⟩|⟨A,tl,rfl,hq,hA,hle⟩
 .rcases yk.no with rfl|⟨B,o,rfl⟩
  .simpa [rM,hd] using e
  .simpa [rM,hd] using e
 .unfold rM at e
  simp only [hd] at e
  rw [aE trivial] at e
  exact e
theorem zxv (l:aS) (a:ak):eo (eo l++[a])=cD a (eo l):=by rw [zlN,Tm (qG l).hY]
theorem zvV (s:aS) (a:ak):s.filter (λx => !bE [a] x)=eQ a s:=by
 unfold eQ
 congr 1
 funext x
 show (!(cL a == cL x || false)) = !(cL x == cL a)
 rw [Bool.or_false,BEq.comm]
end Go.Am
namespace Go.Am
variable {l:List gG} {goals out todo:aS} {x:ak}
def zx (l:List gG) (a:ak):aS:=match l.find? (λr=>r.atom == a) with
 |some r=>r.body
 |none=>[]
structure kX (l:List gG) (goals out:aS):Prop where
 hY:ef out
 plain:lN out
 lW:∀ g∈goals,g∈out
 closed:∀ x∈out,∀ b∈zx l x,b∈out
 least:∀ S:ak->Prop,(∀ g∈goals,S g)->(∀ x,S x->∀ b∈zx l x,S b)->∀ x∈out,S x
theorem kX.eq {g o1 o2:aS} (f:kX l g o1) (h:kX l g o2):o1=o2 :=
 QZ f.hY h.hY (λx=>⟨λhx=>f.least (·∈o2) h.lW h.closed x hx,λhx=>h.least (·∈o1) f.lW f.closed x hx⟩)
theorem kX.none {o:aS} (f:kX l [] o):o=[]:=by
 cases o with
 |nil=>rfl
 |cons x o=>exact (f.least (λ_=>False) (λg hg=>by cases hg) (λ_ h=>h.elim) x (jm ..)).elim
def CF (l:List gG):aS:=l.flatMap (·.body)
theorem ztq {a b:ak} (h:b∈zx l a):b∈CF l:=by
 unfold zx at h
 split at h
 .rename_i r hr
  exact List.mem_flatMap.2 ⟨r,List.mem_of_find?_eq_some hr,h⟩
 .cases h
structure mS (l:List gG) (goals out todo:aS):Prop where
 hY:ef out
 plain:lN out
 lW:∀ g∈goals,g∈out
 closed:∀ x∈out,x∈todo\/∀ b∈zx l x,b∈out
 uo:∀ x∈todo,x∈out
 least:∀ S:ak->Prop,(∀ g∈goals,S g)->(∀ x,S x->∀ b∈zx l x,S b)->∀ x∈out,S x
theorem mS.start (h:lN goals):mS l goals (eo goals) (eo goals) :=
 ⟨(qG goals).hY,h.sort,λg hg=>(zjm h).2 hg,λx hx=>.inl hx,λx hx=>hx,λS h1 _ x hx=>h1 x ((zjm h).1 hx)⟩
structure jJ (l:List gG) (goals out todo:aS) (x:ak) (j:Nat):Prop where
 hY:ef out
 plain:lN out
 lW:∀ g∈goals,g∈out
 closed:∀ y∈out,y∈todo\/y=x\/∀ b∈zx l y,b∈out
 uo:∀ y∈todo,y∈out
 here:x∈out
 done:∀ b∈(zx l x).take j,b∈out
 least:∀ S:ak->Prop,(∀ g∈goals,S g)->(∀ x,S x->∀ b∈zx l x,S b)->∀ x∈out,S x
theorem mS.enter (f:mS l goals out (x::todo)):jJ l goals out todo x 0 :=
 ⟨f.hY,f.plain,f.lW,λy hy=>by
  rcases f.closed y hy with h|h
  .rcases dh.1 h with h|h
   .exact .inr (.inl h)
   .exact .inl h
  .exact .inr (.inr h),λy hy=>f.uo y (fB _ hy),f.uo x (jm ..),by simp,f.least⟩
theorem jJ.add {a:ak} {j:Nat} (f:jJ l goals out todo x j) (ha:(zx l x)[j]? = some a) (hp:iI a):jJ l goals (cD a out) (todo++[a]) x (j+1):=by
 have nG:∀ y,y∈cD a out↔y∈out\/y=a:=λy=>by
  rw [Hw f.hY]
  constructor
  .rintro (h|⟨rfl,_⟩)
   .exact .inl h
   .exact .inr rfl
  .rintro (h|rfl)
   .exact .inl h
   .by_cases hy:y∈out
    .exact .inl hy
    .refine .inr ⟨rfl,λz hz e=>hy ?_⟩
     rw [(zxj hp (f.plain z hz)).1 e]
     exact hz
 have b8:a∈zx l x:=ic ha
 refine ⟨Qx f.hY,λy hy=>?_,λg hg=>(nG g).2 (.inl (f.lW g hg)),λy hy=>?_,λy hy=>?_,(nG x).2 (.inl f.here),λb hb=>?_,λS h1 h2 y hy=>?_⟩
 .rcases (nG y).1 hy with h|rfl
  .exact f.plain y h
  .exact hp
 .rcases (nG y).1 hy with h|rfl
  .rcases f.closed y h with h|h|h
   .exact .inl (List.mem_append_left _ h)
   .exact .inr (.inl h)
   .exact .inr (.inr (λb hb=>(nG b).2 (.inl (h b hb))))
  .exact .inl (TL _ (jm ..))
 .rcases mj.1 hy with h|h
  .exact (nG y).2 (.inl (f.uo y h))
  .have:y=a:=by simpa using h
   exact (nG y).2 (.inr this)
 .rw [oW,ha] at hb
  rcases mj.1 hb with hb|hb
  .exact (nG b).2 (.inl (f.done b hb))
  .have:b=a:=by simpa using hb
   exact (nG b).2 (.inr this)
 .rcases (nG y).1 hy with h|rfl
  .exact f.least S h1 h2 y h
  .exact h2 x (f.least S h1 h2 x f.here) y b8
theorem jJ.len {j:Nat} (f:jJ l goals out todo x j) (hp:lN (goals++CF l)):out.length<=goals.length+(CF l).length:=by
 have h1:∀ y∈out,y∈goals++CF l:=f.least (·∈goals++CF l) (λg hg=>List.mem_append_left _ hg) (λy _ b hb=>TL _ (ztq hb))
 have h2:∀ y,y∈out->y∈eo (goals++CF l):=λy hy=>(zjm hp).2 (h1 y hy)
 have h3:=zp (goals++CF l)
 have h4:out.length<=(eo (goals++CF l)).length:=by
  have e:out=(eo (goals++CF l)).filter (λx=>decide (x∈out)):=QZ f.hY (ztm _ (qG _).hY) (λy=>by
   rw [H3,decide_eq_true_iff]
   exact ⟨λhy=>⟨h2 y hy,hy⟩,λhy=>hy.2⟩)
  rw [e]
  exact CI _ _
 rw [dy] at h3
 omega
end Go.Am
namespace Go.Am
variable {s:aS} {u:TypeId} {h0 h1:Heap}
def jb (h0 h:Heap) (u:TypeId) (v:ab) (s:aS):Prop :=
 (s=[]/\sD h v)\/∃ A o full,v=.slice (some ⟨A,o*11,none⟩) s.length (G*11+s.length)/\Holds h A (.row (aP full) u false)/\h0.size<=A/\full.drop o=s/\o<=full.length/\full.length<=100000
theorem jb.mono {h0 h h':Heap} {u:TypeId} {v:ab} {s:aS} (f:jb h0 h u v s) (i:bL h h'):jb h0 h' u v s:=by
 rcases f with ⟨e,f⟩|⟨A,o,full,e1,e2,e3⟩
 .exact .inl ⟨e,f.mono i⟩
 .exact .inr ⟨A,o,full,e1,e2.mono i,e3⟩
theorem jb.over {h2:Heap} {v:ab} {bs:List ba} {w:Nat} (f:jb h0 h1 u v s) (x:Ext (h1.lay bs w) h2):jb h0 h2 u v s:=f.mono ((bL.lay _ _ _).trans x.inc)
theorem jb.down {h:Heap} {v:ab} (f:jb h1 h u v s) (i:h0.size<=h1.size):jb h0 h u v s:=by
 rcases f with f|⟨A,o,full,e1,e2,e3,e4⟩
 .exact .inl f
 .exact .inr ⟨A,o,full,e1,e2,by omega,e4⟩
theorem jb.sl {h0 h:Heap} {u:TypeId} {v:ab} {s:aS} (f:jb h0 h u v s):Sl aM.atom h v s:=by
 rcases f with ⟨rfl,f⟩|⟨A,o,full,rfl,e2,e3,e4,e5,e6⟩
 .exact f.sl
 .have hG:=wj
  have hs:s.length<=100000:=by rw [<- e4,kP];omega
  obtain ⟨d1,d2,d3⟩:=xd (k:=11) (q:=s.length) (by decide) (by omega)
  exact zAb (o:=o) e2 (.inr ⟨d1,d2,by rw [d3];exact bj _⟩) hs (λi x hx=>by rw [<- e4,lL] at hx;exact hx)
theorem jb.tail {T:bI} {t u:TypeId} {kd:IntKind} (hd:T.desc t=some (.slice u)) (hs:dg T u=some 11) {h0 h:Heap} {v:ab} {x:ak} {s:aS} (f:jb h0 h u v (x::s)) :
 ∃ v',kV T t v (some (.int kd 1)) none none=some v'/\jb h0 h u v' s:=by
 rcases f with ⟨e,_⟩|⟨A,o,full,rfl,e2,e3,e4,e5,e6⟩
 .cases e
 .have hG:=wj
  have hl:(x::s).length=full.length - o:=by rw [<- e4,kP]
  simp only [dn] at hl
  obtain ⟨d1,d2,d3⟩:=xd (k:=11) (q:=s.length+1) (by decide) (by omega)
  refine ⟨.slice (some ⟨A,o*11+1*11,none⟩) (s.length+1 - 1) (G*11+(s.length+1 - 1)),?_,.inr ⟨A,o+1,full,?_,e2,e3,?_,by omega,e6⟩⟩
  .unfold kV
   simp only [hd,hs,dM,dn]
   rw [az (by omega),d2,aE rfl,d3]
   unfold rF
   have hb:xm (.int kd 1) (s.length+1)=some 1:=by
    have:=Ho (kd:=kd) (n:=1) (hi:=s.length+1) (by omega)
    simpa using this
   simp only [hb,dM,jn]
  .rw [<- rS]
   rfl
  .have:=congrArg List.tail e4
   rw [List.tail_cons,List.tail_drop] at this
   exact this
theorem jb.app {T:bI} {t:TypeId} {bytes:Nat} {z:List ab} (hd:T.desc t=some (.slice u)) (hi:T.info u=some (11,bytes,z)) (sU:bytes<=1000) {w:ab} {a:ak} {lw:Nat}
 (hz:h0.size<=h1.size) (ho:jb h0 h1 u w s) (hn:s.length<=10000) :
 ∃ w' H',gC T t w (.slice (some ⟨h1.size+0,0,none⟩) 1 1) (h1.lay [.row a.cells u false] lw)=some (w',H')/\jb h0 H' u w' (s++[a])/\∃ A,h0.size<=A/\(A < h1.size\/A=h1.size)/\eG A (h1.lay [.row a.cells u false] lw) H'/\(A=h1.size\/∀ hh,jb h0 hh u w s->A < hh.size):=by
 obtain ⟨H,hH⟩:∃ H,H=h1.lay [.row a.cells u false] lw:=⟨_,rfl⟩
 have Ae:H.get (h1.size+0)=some (.row a.cells u false):=by rw [hH,iB];rfl
 have RY:H.size=h1.size+1:=by rw [hH,bc];rfl
 rw [<- hH]
 have tW:cut a.cells 0 11=some a.cells:=rfl
 have bf:a.cells.all one=true:=rfl
 have jd:fw (.slice (some ⟨h1.size+0,0,none⟩) 1 1) 11 H=some (1,a.cells):=by
  unfold fw mg gD
  simp only [Ae,tW,jn,Nat.one_mul]
  rfl
 have hG:=wj
 rcases ho with ⟨rfl,yk⟩|⟨A,o,full,rfl,hq,hA,hdr,hol,hle⟩
 .have key:∀ base c,c=0->mg (.slice base 0 c) 11 H=some []->gC T t (.slice base 0 c) (.slice (some ⟨h1.size+0,0,none⟩) 1 1) H=some (.slice (some ⟨H.size,0,none⟩) 1 (G*11+1),H.push (.row a.cells u false)):=by
   intro base c hc eD
   subst hc
   unfold gC
   simp only [hd,hi,dM,jd,eD,bf]
   rw [az (by omega),az (by simp;omega),az (by simp),aE (by unfold G;omega)]
   rfl
  refine ⟨.slice (some ⟨H.size,0,none⟩) 1 (G*11+1),H.push (.row a.cells u false),?_,?_,h1.size,hz,.inr rfl,⟨by rw [Heap.size_push];omega,λB h1 h2=>by rw [Heap.bg,az (by omega)],by rw [Heap.cR];omega⟩,.inl rfl⟩
  .rcases yk.no with rfl|⟨B,o,rfl⟩
   .exact key _ _ rfl rfl
   .exact key _ _ rfl rfl
  .refine .inr ⟨H.size,0,[a],rfl,⟨by rw [Heap.size_push];omega,?_⟩,by omega,rfl,by simp,by simp⟩
   rw [Heap.bg,aE rfl]
   rfl
 .have DD:H.get A=some (.row (aP full) u false):=by rw [hH];exact hq.lay _ _
  have Ma:A < h1.size:=hq.lt
  have oa:s.length=full.length - o:=by rw [<- hdr,kP]
  obtain ⟨d1,d3,d2⟩:=xd (k:=11) (q:=s.length) (by decide) (by omega)
  have hold:mg (.slice (some ⟨A,o*11,none⟩) s.length (G*11+s.length)) 11 H=some (aP s):=by
   unfold mg
   simp only
   split
   .rename_i h0
    have:s=[]:=xu.1 (by omega)
    subst this
    rfl
   .unfold gD
    rw [DD]
    have e:full=full.take o++(s++[]):=by rw [bu,<- hdr,qv]
    simp only
    rw [e]
    exact zpu (by rw [gh];congr 1;omega) rfl
  have Mz:¬ ((s.length+1)*bytes > 140737488355328):=by
   have:(s.length+1)*bytes<=10001*1000:=EE (by omega) sU
   omega
  have nX:gC T t (.slice (some ⟨A,o*11,none⟩) s.length (G*11+s.length)) (.slice (some ⟨h1.size+0,0,none⟩) 1 1) H=some (.slice (some ⟨H.size,0,none⟩) (s.length+1) (G*11+(s.length+1)),(H.set A .dead).push (.row (aP s++a.cells) u false)):=by
   unfold gC
   simp only [hd,hi,dM,jd,bf,DD]
   rw [az (by omega),az (by simp;omega),az (by rw [d2];omega),hold]
   simp only [dM]
   rw [az (by omega),aE (by rw [d3];simp)]
  rw [nX]
  refine ⟨_,_,rfl,?_,A,hA,.inl Ma,⟨by rw [Heap.size_push,Heap.size_set];omega,λB h1 h2=>by rw [Heap.bg,Heap.size_set,az (by omega),Heap.aJ _ _ _ _ (by omega),az h2],by rw [Heap.cR,Heap.bQ];omega⟩,.inr (λhh f=>?_)⟩
  .refine .inr ⟨H.size,0,s++[a],by simp,⟨by rw [Heap.size_push,Heap.size_set];omega,by rw [Heap.bg,Heap.size_set,aE rfl,zpv]⟩,by omega,rfl,by simp,by simp only [dy,dn,dN];omega⟩
  .rcases f with ⟨_,f⟩|⟨A',o',adL,Va,Vb,_⟩
   .rcases f.no with e|⟨B,o2,e⟩
    .injection e with e4 e5 e6
     cases e4
    .injection e with e4 e5 e6
     omega
   .injection Va with e4 e5 e6
    injection e4 with e4
    injection e4 with e4 e7
    subst e4
    exact Vb.lt
end Go.Am
namespace Go.Am
section
variable {P:Program} {T:bI} {ov:Ov} {rd:Option Nat}
theorem zl2 {A:Nat} {env:Env} {ps:List Tmp} {assign body:Code} {args:List ab} {h:Heap} {K:aF} (hg:h.get A=some (.loop env ps assign body .ready none)) (hl:args.length=ps.length)
 (hw:W P T ov (some A) assign (iQ env ps args) h λx e1 h1=>x=.normal/\h1.get A=some (.loop env ps assign body .ready none) /\
  W P T ov (some A) body e1 (h1.set A (.loop env ps assign body .busy none)) λx _ h2=>h2.get A=some (.loop env ps assign body .busy none)/\match x with
    | .normal=>K (.bool true) (h2.set A (.loop env ps assign body .ready none))
    | .exit id=>K (.bool false) (h2.set A (.loop env ps assign body .done (some (.exit id))))
    | .ret=>K (.bool false) (h2.set A (.loop env ps assign body .done (some .ret)))) :
 oU P T ov args h K (.func (.yield A) #[] #[]):=by
 refine ⟨rfl,AU.round hg hl ?_⟩
 obtain ⟨x,e1,h1,hx,hq⟩:=W.one _ _ _ _ hw
 obtain ⟨rfl,Dl,hb⟩:=hx
 refine hq _ ⟨rfl,env,ps,assign,body,none,Dl,?_⟩
 obtain ⟨x,e2,h2,hx,hq⟩:=W.one _ _ _ _ hb
 refine hq _ ?_
 obtain ⟨qB,hk⟩:=hx
 unfold Cm
 rw [qB]
 cases x <;> exact hk
theorem zlI {ps:List Tmp} {assign body:Code} {e:Env} {h:Heap} {Q:Ex->Env->Heap->Prop} {f:FuncId} {ca:List ab} (hb:TQ T f=true)
 (cE:Ok P T ov f (.func (.yield h.size) ⟨[]⟩ ⟨[]⟩::ca) (h.push (.loop e ps assign body .ready none)) λ_ h2=>∃ st pd,h2.get h.size=some (.loop e ps assign body st pd) /\
  ((st=.ready/\pd=none/\Q .normal e (h2.set h.size (.loop e ps assign body .exhausted none)))\/(∃ id,st=.done/\pd=some (.exit id)/\Q (.exit id) e (h2.set h.size (.loop e ps assign body .exhausted (some (.exit id))))) \/
    (st=.done/\pd=some .ret/\Q .ret e (h2.set h.size (.loop e ps assign body .exhausted (some .ret)))))) :
 Cv P T ov none (.func (.func f) ⟨[]⟩ ⟨ca⟩) ps assign body e h Q:=by
 refine ⟨by simp [TE,hb],?_⟩
 obtain ⟨n,v,h',h1,st,pd,h2,h3⟩:=cE
 refine ⟨n,v,h',h1,?_⟩
 show JZ (D0 h.size e h') Q
 unfold D0
 rw [h2]
 rcases h3 with ⟨rfl,rfl,h3⟩|⟨id,rfl,rfl,h3⟩|⟨rfl,rfl,h3⟩
 .exact h3
 .exact h3
 .exact h3
end
end Go.Am
namespace Go.Am
variable {cs:List ab} {ro:Bool} {u:TypeId}
section
variable {Z:Type} {r:aM Z} {h0 h1:Heap} {v:ab} {l:List Z} {t e:TypeId} {A k bytes:Nat} {z:List ab} {T:bI} {bs:List ba} {w:Nat} {K:aF}
theorem zzU (hd:T.desc t=some (.slice e)) (hi:T.info e=some (k,bytes,z)) (DE:r.k=k) (hk:0 < k) {i c:Nat} {x:Z} (hg:bs[i]? = some (.row cs u ro)) (hz:h0.size<=h1.size) (f:Ow r h0 h1 e A v l) (hr:r.R (kill A (h1.lay bs w)) cs x)
 (hb:(l.length+1)*bytes<=140737488355328) (hl:l.length+1<=1152921504606846976)
 (hK:∀ v' h' A',Ow r h0 h' e A' v' (l++[x])->eG A (h1.lay bs w) h'->(A'=A\/h1.size<=A')->K v' h'):dD (gC T t v (.slice (some ⟨h1.size+i,0,none⟩) 1 c) (h1.lay bs w)) K:=by
 have vo:(h1.lay bs w).get (h1.size+i)=some (.row cs u ro):=by rw [iB];exact hg
 obtain ⟨hs,nI⟩:=Jw (r:=r) (A:=A) (c:=c) (y:=x) (by omega) vo hr
 exact Ea hd hi DE hk hz f (by rw [<- DE];exact hs) nI hb hl hK
theorem Hl {n o:Nat} {vs:List ab} {v:ab} (q:Holds h1 A (.row cs u false)) (hs:dg T t=some n) (hv:v.cells.toList=vs) (hl:vs.length=n) (hb:o+n<=cs.length) (bC:vs.all one=true)
 (hK:∀ h',Holds h' A (.row (aB cs o vs) u false)->eG A (h1.lay bs w) h'->K undef h'):iv (iH T t (.pointer (some ⟨A,o,none⟩)) v (h1.lay bs w)) K:=by
 have hg:(h1.lay bs w).get A=some (.row cs u false):=q.lay bs w
 have hA:A < (h1.lay bs w).size:=(q.on bs w).lt
 have dx:v.cells.size=n:=by rw [<- hl,<- hv];simp
 have he:iH T t (.pointer (some ⟨A,o,none⟩)) v (h1.lay bs w)=some ((h1.lay bs w).set A (.row (aB cs o vs) u false)):=by
  unfold iH
  simp only [hs,dM]
  rw [aE dx,hv]
  unfold ki
  rw [hg]
  simp only
  rw [aE (by simp only [ep,jH];exact ⟨by omega,bC⟩)]
 rw [he]
 refine hK _ ⟨by rw [Heap.size_set];exact hA,by rw [Heap.aJ _ _ _ _ hA,aE rfl]⟩ ⟨by rw [Heap.size_set];exact bj _,λB hB aQ=>by rw [Heap.aJ _ _ _ _ hA,az aQ],by rw [Heap.bQ];omega⟩
end
section
variable {P:Program} {T:bI} {ov:Ov}
theorem zhL {b:Nat} {ops:Array Oper} {l:List Oper} {j:Nat} {d:Option Tmp} {Q:Env->Heap->Prop} {e:Env} {hh:Heap} {UZ bs:List ba} {w s:Nat} {v:ab} (hl:UZ.length<=bs.length) (hb:b<=s) (hs:hh.size+UZ.length<=s)
 (hk:cx P T ov b ops l (j+1) (put e d v) (hh.lay bs s) Q):CM P T ov b ops l j d Q e (hh.lay UZ w) v (hh.lay bs s):=by
 refine ⟨⟨⟨.inl ?_,?_,?_⟩,hk⟩⟩
 .rw [bc];exact hs
 .exact hb
 .rw [bc,bc];omega
end
theorem xb {h:Heap} {A B:Nat} (aQ:B≠A):(kill A h).get B=h.get B:=by
 unfold kill
 split
 .rename_i hA
  rw [Heap.aJ _ _ _ _ hA,az aQ]
 .rfl
theorem Ht {h:Heap} {A:Nat} (hA:A < h.size):(kill A h).get A=some .dead:=by
 unfold kill
 rw [aE hA,Heap.aJ _ _ _ _ hA,aE rfl]
structure mR (B:Heap) (A:Nat) (h:Heap):Prop where
 lt:A < h.size
 inc:bL B (kill A h)
section
variable {B h1 h2:Heap} {A A':Nat} {bs:List ba} {w:Nat}
theorem mR.start (hA:A < h1.size):mR (kill A h1) A h1:=⟨hA,bL.refl _⟩
theorem mR.all (k:mR B A h1):bL B h1:=k.inc.trans (Jr _ _)
theorem Qr {a b:Heap} (i:bL a b):bL (kill A a) (kill A b):=⟨by rw [tA,tA];exact i.size,λC hC hd=>by
 by_cases FC:C=A
 .subst FC
  rw [tA] at hC
  exact absurd (Ht hC) hd
 .rw [tA] at hC
  rw [xb FC] at hd ⊢
  rw [xb FC]
  exact i.get C hC hd⟩
theorem mR.mono (k:mR B A h1) (i:bL h1 h2):mR B A h2:=⟨dB k.lt i.size,k.inc.trans (Qr i)⟩
theorem mR.over (k:mR B A h1) (x:Ext (h1.lay bs w) h2):mR B A h2:=k.mono ((bL.lay _ _ _).trans x.inc)
theorem mR.lay (k:mR B A h1) (bs:List ba) (w:Nat):mR B A (h1.lay bs w):=k.mono (bL.lay _ _ _)
theorem mR.step (k:mR B A h1) (c:eG A (h1.lay bs w) h2) (hA:A'=A\/h1.size<=A') (hl:A' < h2.size):mR B A' h2:=by
 have hs:h1.size<=(h1.lay bs w).size:=by rw [bc];omega
 refine ⟨hl,⟨by rw [tA];exact gn k.all.size (gn hs c.size),λC hC hd=>?_⟩⟩
 have h3:=k.inc.get C hC hd
 have FC:C≠A:=by
  intro e
  subst e
  rw [Ht k.lt] at h3
  exact hd h3.symm
 have RU:C < h1.size:=dB hC k.all.size
 rw [xb FC] at h3
 rw [xb (by rcases hA with e|e <;> omega),c.get C (by omega) FC,uz _ _ _ RU]
 exact h3
theorem mR.trans (k:mR B A h1) (k2:mR (kill A (h1.lay bs w)) A' h2):mR B A' h2:=⟨k2.lt,(k.lay bs w).inc.trans k2.inc⟩
theorem mR.holds {C:Nat} (k:mR B A h1) (q:Holds B C (.row cs u ro)):Holds h1 C (.row cs u ro)/\C≠A:=by
 refine ⟨q.mono k.all,λe=>?_⟩
 have:=k.inc.get C q.lt (by rw [q.get];nofun)
 rw [e,Ht k.lt,<- e,q.get] at this
 cases this
theorem mR.keep {C:Nat} (k:mR (kill A (h1.lay bs w)) A' h2) (q:Holds h1 C (.row cs u ro)) (aQ:C≠A):Holds h2 C (.row cs u ro)/\C≠A' :=
 k.holds ⟨by rw [tA];exact (q.on bs w).lt,(xb aQ).trans (q.on bs w).get⟩
end
section
variable {T:bI} {t e:TypeId} {v:ab} {B h1:Heap} {bs:List ba} {w:Nat} {K:aF} {kd:IntKind} {i:Int}
end
theorem bL.iL {a b d:Heap} {A:Nat} (i:bL a b) (c:eG A b d) (hA:a.size<=A):bL a d:=⟨gn i.size c.size,λB hB hd=>(c.get B (dB hB i.size) (by omega)).trans (i.get B hB hd)⟩
theorem znd {s:au} (h:NS s):s.size<=300:=by have:=h.len;omega
theorem fx.size {t:aZ} (h:fx t):t.s.size<=300:=by
 unfold fx at h
 split at h
 .have:=h.len;omega
 .exact znd h.1
theorem zvt {a:ak} (h0:a.says.size<=300) (h1:a.pred.size<=300) (h:∀ i,i < 4->(a.arg i).s.size<=300):a.aW=true:=by
 unfold ak.aW
 simp only [ep,jH]
 exact ⟨h0,h1,h 0 (by omega),h 1 (by omega),h 2 (by omega),h 3 (by omega)⟩
theorem gP.aW {a:ak} (h:gP a):a.aW=true:=by
 refine zvt (znd h.says.1.1) (znd h.pred.1.1) (λi hi=>?_)
 by_cases hn:(i:Int) < a.n
 .exact (h.jE i hn).size
 .rw [h.rest i (by omega) hi]
  decide
end Go.Am

/- Sorted lists of atoms, each text once: plain facts. No condition. -/
import Derived.Test.YtmamldleclamjaaGreatDoorG12
set_option linter.unusedSimpArgs false
set_option linter.unusedVariables false
namespace Go.Am
variable {a b:aj} {l s:aN}
theorem ck:aU a b=0↔cM a=cM b:=⟨λh=>I0 h,λh=>by unfold aU;rw [h,P9]⟩
theorem BP {c:aj} (h1:aU a b < 0) (h2:aU b c < 0):aU a c < 0:=PK h1 (Int.le_of_lt h2)
theorem SG (h1:aU a b < 0) (h2:aU b a < 0):False:=by
 have:=wJ a b
 omega
def dG (s:aN):Prop:=s.Pairwise (λx y=>aU x y < 0)
structure br (l s:aN):Prop where
 gK:dG s
 first:∀ y∈s,(l.filter (λx=>cM x == cM y)).head? = some y
 wk:∀ x∈l,∃ y∈s,cM y=cM x
theorem br.mem (f:br l s) {y:aj} (h:y∈s):y∈l:=(List.mem_filter.1 (List.mem_of_mem_head? (f.first y h))).1
theorem JD:∀ {s1 s2:aN},dG s1->dG s2->(∀ x,x∈s1↔x∈s2)->s1=s2
 | [],[],_,_,_=>rfl
 | [],y::r,_,_,h=>absurd ((h y).2 (fZ ..)) (by simp)
 |x::r,[],_,_,h=>absurd ((h x).1 (fZ ..)) (by simp)
 |x::r1,y::r2,h1,h2,h=>by
  have g1:=nQ.1 h1
  have g2:=nQ.1 h2
  have e:x=y:=by
   rcases cJ.1 ((h x).1 (fZ ..)) with e|hx
   .exact e
   .rcases cJ.1 ((h y).2 (fZ ..)) with e|hy
    .exact e.symm
    .exact (SG (g2.1 x hx) (g1.1 y hy)).elim
  subst e
  rw [JD (s1:=r1) (s2:=r2) g1.2 g2.2 (λz=>⟨λhz=>?_,λhz=>?_⟩)]
  .rcases cJ.1 ((h z).1 (eQ _ hz)) with e|mN
   .subst e
    have:=g1.1 z hz
    rw [Dr] at this
    omega
   .exact mN
  .rcases cJ.1 ((h z).2 (eQ _ hz)) with e|mN
   .subst e
    have:=g2.1 z hz
    rw [Dr] at this
    omega
   .exact mN
theorem br.sub {s1 s2:aN} (f:br l s1) (g:br l s2) {y:aj} (h:y∈s1):y∈s2:=by
 obtain ⟨z,hz,e⟩:=g.wk y (f.mem h)
 have h1:=f.first y h
 have h2:=g.first z hz
 rw [e] at h2
 rw [h1] at h2
 cases h2
 exact hz
theorem br.eq {s1 s2:aN} (f:br l s1) (g:br l s2):s1=s2:=JD f.gK g.gK (λx=>⟨λh=>f.sub g h,λh=>g.sub f h⟩)
def cz (a:aj):aN->aN
 | []=>[a]
 |x::r=>if aU a x < 0 then a::x::r else if aU a x=0 then x::r else x::cz a r
theorem G6 {a y:aj}:∀ {s:aN},dG s->(y∈cz a s↔y∈s\/(y=a/\∀ x∈s,aU a x≠0))
 | [],_=>by simp [cz]
 |x::r,h=>by
  have g:=nQ.1 h
  unfold cz
  by_cases h1:aU a x < 0
  .rw [aB h1,cJ]
   constructor
   .rintro (e|e)
    .right
     refine ⟨e,λz hz=>?_⟩
     rcases cJ.1 hz with e2|mN
     .subst e2;omega
     .have:=BP h1 (g.1 z mN);omega
    .exact .inl e
   .rintro (e|⟨e,_⟩)
    .exact .inr e
    .exact .inl e
  .rw [aA h1]
   by_cases h2:aU a x=0
   .rw [aB h2]
    constructor
    .exact λe=>.inl e
    .rintro (e|⟨e,e2⟩)
     .exact e
     .exact absurd h2 (e2 x (fZ ..))
   .rw [aA h2,cJ,G6 g.2,cJ]
    constructor
    .rintro (e|e|⟨e,e2⟩)
     .exact .inl (.inl e)
     .exact .inl (.inr e)
     .refine .inr ⟨e,λz hz=>?_⟩
      rcases cJ.1 hz with e3|mN
      .subst e3;exact h2
      .exact e2 z mN
    .rintro ((e|e)|⟨e,e2⟩)
     .exact .inl e
     .exact .inr (.inl e)
     .exact .inr (.inr ⟨e,λz hz=>e2 z (eQ _ hz)⟩)
theorem P8 {a:aj}:∀ {s:aN},dG s->dG (cz a s)
 | [],_=>by simp [cz,dG]
 |x::r,h=>by
  have g:=nQ.1 h
  unfold cz
  by_cases h1:aU a x < 0
  .rw [aB h1]
   refine nQ.2 ⟨λz hz=>?_,h⟩
   rcases cJ.1 hz with e|mN
   .subst e;exact h1
   .exact BP h1 (g.1 z mN)
  .rw [aA h1]
   by_cases h2:aU a x=0
   .rw [aB h2];exact h
   .rw [aA h2]
    refine nQ.2 ⟨λz hz=>?_,P8 g.2⟩
    rcases (G6 g.2).1 hz with e|⟨e,_⟩
    .exact g.1 z e
    .subst e
     have:=wJ z x
     omega
theorem br.put (f:br l s) (a:aj):br (l++[a]) (cz a s):=by
 refine ⟨P8 f.gK,λy hy=>?_,λx hx=>?_⟩
 .rw [Ao,List.head?_append]
  rcases (G6 f.gK).1 hy with e|⟨e,e2⟩
  .rw [f.first y e]
   rfl
  .subst e
   have hn:l.filter (λx=>cM x == cM y)=[]:=by
    rw [Jj]
    intro x hx dm
    rw [beq_iff_eq] at dm
    obtain ⟨z,hz,e3⟩:=f.wk x hx
    exact e2 z hz (ck.2 (e3.trans dm).symm)
   rw [hn]
   simp
 .rcases iA.1 hx with e|e
  .obtain ⟨y,hy,e2⟩:=f.wk x e
   exact ⟨y,(G6 f.gK).2 (.inl hy),e2⟩
  .have e:x=a:=by simpa using e
   subst e
   by_cases hex:∀ z∈s,aU x z≠0
   .exact ⟨x,(G6 f.gK).2 (.inr ⟨rfl,hex⟩),rfl⟩
   .have:∃ z,z∈s/\aU x z=0:=by
     apply Classical.byContradiction
     intro hn
     exact hex (λz hz e=>hn ⟨z,hz,e⟩)
    obtain ⟨z,hz,e⟩:=this
    exact ⟨z,(G6 f.gK).2 (.inl hz),(ck.1 e).symm⟩
theorem br.nil:br [] []:=⟨List.Pairwise.nil,nofun,nofun⟩
def eW (l:aN):aN:=l.foldl (λs a=>cz a s) []
theorem zuT (l:aN) (a:aj):eW (l++[a])=cz a (eW l):=by
 unfold eW
 rw [List.foldl_append]
 rfl
theorem zoN:∀ (m:aN) {l s:aN},br l s->br (l++m) (m.foldl (λs a=>cz a s) s)
 | [],l,s,f=>by rw [bG];exact f
 |a::m,l,s,f=>by
  have:=zoN m (f.put a)
  rwa [ka] at this
theorem pe (l:aN):br l (eW l):=zoN l br.nil
theorem br.is (f:br l s):s=eW l:=f.eq (pe l)
theorem zvH:∀ {l:aN},dG l->∀ {x y:aj},x∈l->y∈l->x=y\/aU x y < 0\/aU y x < 0
 | [],_,_,_,h,_=>by simp at h
 |a::l,h,x,y,hx,hy=>by
  have g:=nQ.1 h
  rcases cJ.1 hx with e1|e1
  .rcases cJ.1 hy with e2|e2
   .exact .inl (e1.trans e2.symm)
   .subst e1;exact .inr (.inl (g.1 y e2))
  .rcases cJ.1 hy with e2|e2
   .subst e2;exact .inr (.inr (g.1 x e1))
   .exact zvH g.2 e1 e2
theorem zCS (h:dG l):br l l:=by
 refine ⟨h,λy hy=>?_,λx hx=>⟨x,hx,rfl⟩⟩
 have hm:y∈l.filter (λx=>cM x == cM y):=List.mem_filter.2 ⟨hy,by simp⟩
 cases hf:l.filter (λx=>cM x == cM y) with
 |nil=>rw [hf] at hm;simp at hm
 |cons z r =>
  have hz:z∈l/\_:=List.mem_filter.1 (by rw [hf];exact fZ ..)
  have he:cM z=cM y:=by simpa using hz.2
  show some z=some y
  congr 1
  rcases zvH h hz.1 hy with g|g|g
  .exact g
  .exact absurd he (I9 g)
  .exact absurd he.symm (I9 g)
theorem SV (h:dG l):eW l=l:=(zCS h).is.symm
def pf (l:aN):Nat->aN
 |0=>[]
 |m+1=>pf l m++(if m≠0/\aU (l.getD m ae) (l.getD (m - 1) ae)=0 then [] else [l.getD m ae])
theorem zkP {m:Nat} (h:m < l.length):l.take (m+1)=l.take m++[l.getD m ae]:=by
 rw [nS,lq,ie h]
 rfl
theorem zyh {l:aN} (hs:iw l 0 l.length):∀ m,m<=l.length->br (l.take m) (pf l m)
 |0,_=>br.nil
 |m+1,hm=>by
  have f:=zyh hs m (by omega)
  rw [zkP (by omega)]
  unfold pf
  split
  .rename_i h
   rw [bG]
   refine ⟨f.gK,λy hy=>?_,λx hx=>?_⟩
   .rw [Ao,List.head?_append,f.first y hy]
    rfl
   .rcases iA.1 hx with e|e
    .exact f.wk x e
    .have e:x=l.getD m ae:=by simpa using e
     subst e
     obtain ⟨y,hy,e2⟩:=f.wk (l.getD (m - 1) ae) (by
      refine fW (i:=m - 1) ?_
      rw [mc,aB (by omega)]
      exact jJ (by omega))
     exact ⟨y,hy,e2.trans (ck.1 h.2).symm⟩
  .rename_i h
   have aW:∀ x∈l.take m,aU x (l.getD m ae) < 0:=by
    intro x hx
    obtain ⟨i,hi⟩:=sk hx
    rw [mc] at hi
    split at hi
    .rename_i vf
     have e:x=l.getD i ae:=by rw [lq,hi];rfl
     rw [e]
     have h1:=hs m (by omega) (by omega)
     have h2:aU (l.getD (m - 1) ae) (l.getD m ae)≠0:=λe2=>h ⟨by omega,by rw [wJ];omega⟩
     exact zhl (yW hs (i:=i) (j:=m - 1) (by omega) (by omega) (by omega)) (by omega)
    .cases hi
   refine ⟨List.pairwise_append.2 ⟨f.gK,Tm ..,λa ha b hb=>?_⟩,λy hy=>?_,λx hx=>?_⟩
   .have e:b=l.getD m ae:=by simpa using hb
    rw [e]
    exact aW a (f.mem ha)
   .rw [Ao,List.head?_append]
    rcases iA.1 hy with e|e
    .rw [f.first y e]
     rfl
    .have e:y=l.getD m ae:=by simpa using e
     subst e
     have hn:(l.take m).filter (λx=>cM x == cM (l.getD m ae))=[]:=by
      rw [Jj]
      intro x hx dm
      exact I9 (aW x hx) (by simpa using dm)
     rw [hn]
     simp
   .rcases iA.1 hx with e|e
    .obtain ⟨y,hy,e2⟩:=f.wk x e
     exact ⟨y,Jl _ hy,e2⟩
    .exact ⟨x,Jn _ e,rfl⟩
theorem br.over {l':aN} (f:br l' s) (hp:l'.Perm l) (eG:ff l l'):br l s:=⟨f.gK,λy hy=>by rw [<- eG];exact f.first y hy,λx hx=>f.wk x (hp.mem_iff.2 hx)⟩
theorem zvg {l':aN} (hp:l'.Perm l) (eG:ff l l') (hs:iw l' 0 l.length):pf l' l'.length=eW l:=by
 have f:=zyh (l:=l') (by rw [hp.length_eq];exact hs) l'.length (bo _)
 rw [JK] at f
 exact (f.over hp eG).is
end Go.Am
namespace Go.Am
variable {l s:aN} {v:ah} {t u:TypeId} {h0 h1:Heap} {A c i m n w:Nat} {x:aj}
theorem zkq:∀ {l:aN} {row:List ah},row.length=l.length*11->(∀ (i:Nat) (x:aj),l[i]? = some x->cut row (i*11) 11=some x.cells)->row=aQ l
 | [],row,hl,_=>by
  have:row=[]:=Ai.1 (by simpa using hl)
  rw [this]
  rfl
 |x::l,row,hl,h=>by
  have h0:=h 0 x rfl
  have kq:row.length=l.length*11+11:=by rw [hl,dY];omega
  unfold cut at h0
  rw [aB (by omega)] at h0
  simp only [Nat.zero_mul,As,eh] at h0
  have hr:=zkq (l:=l) (row:=row.drop 11) (by rw [jM];omega) (λi y hy=>by
   have hi:=(dH.1 hy).1
   have g:=h (i+1) y hy
   unfold cut at g ⊢
   rw [aB (by omega)] at g
   rw [aB (by rw [jM];omega),HF,show 11+i*11=(i+1)*11 by omega]
   exact g)
  have e:row=row.take 11++row.drop 11:=(pj 11 row).symm
  rw [e,h0,hr]
  rfl
theorem rY (l m:aN):aQ (l++m)=aQ l++aQ m:=by unfold aQ;rw [List.flatMap_append]
structure sx (h:Heap) (v:ah):Prop where
 sl:Sl aK.atom h v []
 no:v=.slice none 0 0\/∃ B o,v=.slice (some ⟨B,o,none⟩) 0 0
theorem sx.nil {h:Heap}:sx h (.slice none 0 0):=⟨Sl.nil,.inl rfl⟩
theorem sx.mono {h h':Heap} {v:ah} (f:sx h v) (i:bH h h'):sx h' v:=⟨f.sl.mono i,f.no⟩
theorem sx.lay {h:Heap} {v:ah} (f:sx h v) (bs:List ba) (w:Nat):sx (h.lay bs w) v:=⟨f.sl.lay bs w,f.no⟩
theorem sx.over {h1 h2:Heap} {v:ah} {bs:List ba} {w:Nat} (f:sx h1 v) (x:Ext (h1.lay bs w) h2):sx h2 v:=⟨f.sl.over x,f.no⟩
def eF (h0 h:Heap) (u:TypeId) (v:ah) (s:aN):Prop :=
 (s=[]/\sx h v)\/∃ A t,v=.slice (some ⟨A,0,none⟩) s.length (G*11+(s++t).length)/\Holds h A (.row (aQ (s++t)) u false)/\h0.size<=A/\(s++t).length<=100000
theorem eF.mono {h0 h h':Heap} {u:TypeId} {v:ah} {s:aN} (f:eF h0 h u v s) (i:bH h h'):eF h0 h' u v s:=by
 rcases f with ⟨e,f⟩|⟨A,t,e1,e2,e3⟩
 .exact .inl ⟨e,f.mono i⟩
 .exact .inr ⟨A,t,e1,e2.mono i,e3⟩
theorem eF.down {h:Heap} (f:eF h1 h u v s) (i:h0.size<=h1.size):eF h0 h u v s:=by
 rcases f with f|⟨A,t,e1,e2,e3,e4⟩
 .exact .inl f
 .exact .inr ⟨A,t,e1,e2,by omega,e4⟩
theorem eF.lay {h0 h:Heap} {u:TypeId} {v:ah} {s:aN} (f:eF h0 h u v s) (bs:List ba) (w:Nat):eF h0 (h.lay bs w) u v s:=f.mono (bH.lay h bs w)
theorem Aj:100000 < G:=by unfold G;omega
theorem zAw {h:Heap} {o:Nat} {ro:Bool} (q:Holds h A (.row (aQ l) u ro)) (hc:ZN 11 s.length c) (hn:s.length<=100000) (hs:∀ (i:Nat) (x:aj),s[i]? = some x->l[o+i]? = some x):Sl aK.atom h (.slice (some ⟨A,o*11,none⟩) s.length c) s:=by
 refine .inr ⟨A,o*11,c,aQ l,u,ro,rfl,(by have:(100000:Nat)<=maxLen:=by decide
                                         omega),hc,q.lt,q.get,λi x hx=>⟨x.cells,?_,rfl⟩⟩
 show cut (aQ l) (o*11+i*11) 11=_
 rw [<- tH]
 exact zsT (hs i x hx)
theorem eF.sl {h0 h:Heap} {u:TypeId} {v:ah} {s:aN} (f:eF h0 h u v s):Sl aK.atom h v s:=by
 rcases f with ⟨rfl,f⟩|⟨A,t,rfl,e2,e3,e4⟩
 .exact f.sl
 .have hG:=Aj
  obtain ⟨d1,d2,d3⟩:=yX (k:=11) (q:=(s++t).length) (by decide) (by omega)
  have hle:s.length<=(s++t).length:=by rw [dI];omega
  have:=zAw (o:=0) (s:=s) e2 (.inr ⟨d1,d2,by rw [d3];omega⟩) (by omega) (λi x hx=>by rw [j3,nz (dH.1 hx).1];exact hx)
  simpa using this
def kN (h0 h:Heap) (u:TypeId) (v:ah) (s:aN):Prop :=
 (s=[]/\sx h v)\/∃ A,v=.slice (some ⟨A,0,none⟩) s.length (G*11+s.length)/\Holds h A (.row (aQ s) u false)/\h0.size<=A/\s≠[]
theorem kN.own {h:Heap} (f:kN h0 h u v s) (hn:s.length<=100000):eF h0 h u v s:=by
 rcases f with f|⟨A,e1,e2,e3,e4⟩
 .exact .inl f
 .exact .inr ⟨A,[],by rw [bG];exact e1,by rw [bG];exact e2,e3,by rw [bG];exact hn⟩
theorem S8 {h:Heap} (f:Ow aK.atom h0 h u A v l):kN h0 h u v l:=by
 rcases f with ⟨e1,rfl,e3⟩|⟨row,rfl,e2,e3,e4,e5,e6,e7,e8⟩
 .refine .inl ⟨rfl,?_,?_⟩
  .have f2:Ow aK.atom h0 h u A v []:=.inl ⟨e1,rfl,e3⟩
   exact f2.sl (by decide)
  .rcases e3 with e3|⟨B,o,e3,_⟩
   .exact .inl e3
   .exact .inr ⟨B,o,e3⟩
 .refine .inr ⟨A,rfl,⟨e4,?_⟩,e3,e2⟩
  have:row=aQ l:=zkq e6 (λi x hx=>by
   obtain ⟨cs,g1,g2⟩:=e8 i x hx
   have g2:cs=x.cells:=g2
   rw [<- g2]
   exact g1)
  rw [<- this]
  exact e5
section
variable {P:Program} {T:bO} {ov:Ov} {d:Option Tmp} {ty:TypeId} {pos:String} {af:Array Edge} {g:Option (Nat × Bool)} {e:Env} {h:Heap} {K:aI}
theorem zyn (t:TypeId) (x:Operand):cS P T ov ⟨d,.call ⟨.builtin .clear,#[x],#[t]⟩,ty,pos,af,g⟩ e h K=iq (rA T t (bz e x) h) K:=by
 show dw ((rA T t (bz e x) h).map λh'=>(undef,h')) K=_
 cases rA T t (bz e x) h <;> rfl
theorem zj6 {T:bO} {q:Nat} {kd:IntKind} (hd:T.desc t=some (.slice u)) (hs:di T u=some 11) (hi:i<=n) (hn:n<=q) (hq:q<=100000):jL T t (.slice (some ⟨A,0,none⟩) n (G*11+q)) (some (.int kd i)) none none=some (.slice (some ⟨A,i*11,none⟩) (n - i) (G*11+(q - i))):=by
 have hG:=Aj
 obtain ⟨d1,d2,d3⟩:=yX (k:=11) (q:=q) (by decide) (by omega)
 unfold jL
 simp only [hd,hs,dX,aA (show ¬ G*11+q < G by omega),aB d2]
 rw [d3,PJ (ea.num kd 0 i) (ea.no n) hi hn,j2,j3]
theorem zxt {T:bO} {q:Nat} {kd:IntKind} (hd:T.desc t=some (.slice u)) (hs:di T u=some 11) (hi:i<=n) (hn:n<=q) (hq:q<=100000):jL T t (.slice (some ⟨A,0,none⟩) n (G*11+q)) none (some (.int kd i)) none=some (.slice (some ⟨A,0,none⟩) i (G*11+q)):=by
 have hG:=Aj
 obtain ⟨d1,d2,d3⟩:=yX (k:=11) (q:=q) (by decide) (by omega)
 unfold jL
 simp only [hd,hs,dX,aA (show ¬ G*11+q < G by omega),aB d2]
 rw [d3,PJ (ea.no 0) (ea.num kd n i) (i6 _) (by omega),j2]
 simp
theorem zp3 (n:Nat):oH ae.cells n=aQ (List.replicate n ae):=by
 unfold oH aQ
 rw [List.flatMap_def,List.map_replicate]
theorem zxI (hi:i<=l.length):aF (aQ l) (i*11) (aQ (List.replicate (l.length - i) ae))=aQ (l.take i++List.replicate (l.length - i) ae):=by
 have e:l=l.take i++l.drop i:=(pj i l).symm
 have h1:(aQ (l.take i)).length=i*11:=by rw [nL,fw];congr 1;omega
 have h2:(aQ (List.replicate (l.length - i) ae)).length=(l.length - i)*11:=by rw [nL,Jm]
 have h3:(aQ l).length=l.length*11:=nL l
 unfold aF
 rw [rY,wW (by rw [h2,h3];omega),bG]
 congr 1
 conv=>lhs;rw [e]
 rw [rY,List.take_left' h1]
theorem ztG {T:bO} {bs:List ba} {k bytes:Nat} (q:Holds h1 A (.row (aQ l) u false)) (hd:T.desc t=some (.slice u)) (hi:T.info u=some (k,bytes,ae.cells)) (hle:i<=l.length) (hn:n=l.length - i)
 (hK:∀ h',Holds h' A (.row (aQ (l.take i++List.replicate (l.length - i) ae)) u false)->eX A (h1.lay bs w) h'->K undef h'):iq (rA T t (.slice (some ⟨A,i*11,none⟩) n c) (h1.lay bs w)) K:=by
 subst hn
 by_cases h0:l.length - i=0
 .have e:rA T t (.slice (some ⟨A,i*11,none⟩) (l.length - i) c) (h1.lay bs w)=some (h1.lay bs w):=by
   unfold rA
   simp only [hd,aB h0]
  rw [e]
  refine hK _ ?_ (Ext.refl _).ji
  rw [h0,List.replicate_zero,bG,gA (by omega)]
  exact q.on bs w
 .have hg:(h1.lay bs w).get A=some (.row (aQ l) u false):=q.lay bs w
  have hA:A < (h1.lay bs w).size:=(q.on bs w).lt
  have bt:(aQ (List.replicate (l.length - i) ae)).all one=true:=by
   rw [jh]
   intro x hx
   unfold aQ at hx
   obtain ⟨y,hy,Bv⟩:=DP.1 hx
   have:=(List.mem_replicate.1 hy).2
   subst this
   exact jh.1 (by rfl:ae.cells.all one=true) x Bv
  have e:rA T t (.slice (some ⟨A,i*11,none⟩) (l.length - i) c) (h1.lay bs w)=some ((h1.lay bs w).set A (.row (aQ (l.take i++List.replicate (l.length - i) ae)) u false)):=by
   unfold rA
   simp only [hd,aA h0,hi,dX]
   unfold lY
   rw [hg]
   simp only
   rw [zp3,aB (by simp only [eo,jl];exact ⟨by rw [nL,nL,Jm];omega,bt⟩),zxI hle]
  rw [e]
  refine hK _ ⟨by rw [Heap.size_set];exact hA,by rw [Heap.aJ _ _ _ _ hA,aB rfl]⟩ ⟨by rw [Heap.size_set];exact bo _,λB hB aS=>by rw [Heap.aJ _ _ _ _ hA,aA aS],by rw [Heap.cd];omega⟩
end
theorem znf {h:Heap} {t:aN} (q:Holds h A (.row (aQ (s++t)) u false)) (hA:h0.size<=A) (hn:(s++t).length<=100000) (hl:n=s.length) (hc:c=G*11+(s++t).length):eF h0 h u (.slice (some ⟨A,0,none⟩) n c) s:=by
 subst hl hc
 exact .inr ⟨A,t,rfl,q,hA,hn⟩
theorem P4 {h:Heap} (q:Holds h A (.row (aQ s) u false)) (hA:h0.size<=A) (hn:s.length<=100000) (hc:c=G*11+s.length):eF h0 h u (.slice (some ⟨A,0,none⟩) s.length c) s :=
 znf (t:=[]) (by rw [bG];exact q) hA (by rw [bG];exact hn) rfl (by rw [bG];exact hc)
theorem zrM (h:l.length < 2):pf l l.length=l:=by
 match l,h with
 | [],_=>rfl
 | [x],_=>rfl
theorem zvf (hm:m < l.length) (h0:m≠0) (h:pf l m=l.take m) (aS:aU (l.getD m ae) (l.getD (m - 1) ae)≠0):pf l (m+1)=l.take (m+1):=by
 rw [zkP hm,<- h]
 show pf l m++_=_
 rw [aA (λg=>aS g.2)]
theorem zs6 (h0:m≠0) (he:aU (l.getD m ae) (l.getD (m - 1) ae)=0):pf l (m+1)=pf l m:=by
 show pf l m++_=_
 rw [aB ⟨h0,he⟩,bG]
theorem zyg (aS:aU (l.getD m ae) (l.getD (m - 1) ae)≠0):pf l (m+1)=pf l m++[l.getD m ae]:=by
 show pf l m++_=_
 rw [aA (λg=>aS g.2)]
theorem zzZ (hi:i < l.length):(l.set i x).take (i+1)=l.take i++[x]:=by
 rw [nS,rE,aB rfl,aB hi,List.take_set_of_le (bo _)]
 rfl
theorem zmu {p:Nat} (h:i≠p):(l.set i x).getD p ae=l.getD p ae:=by
 rw [lq,lq,rE,aA h]
theorem Qw (h:∀ k,0 < k->k < l.length->aU (l.getD (k - 1) ae) (l.getD k ae) < 0) {j:Nat} (dp:i < j) (hj:j < l.length):aU (l.getD i ae) (l.getD j ae) < 0:=by
 induction j with
 |zero=>omega
 |succ j ih =>
  have g:=h (j+1) (by omega) hj
  rw [Cd] at g
  by_cases e:i=j
  .subst e
   exact g
  .exact BP (ih (by omega) (by omega)) g
theorem iH:dG l↔∀ k,0 < k->k < l.length->aU (l.getD (k - 1) ae) (l.getD k ae) < 0:=by
 constructor
 .intro h k h1 h2
  have:=Qa.1 h (k - 1) k (by omega) h2 (by omega)
  rw [lq,lq,ie h2,ie (show k - 1 < l.length by omega)]
  exact this
 .intro h
  refine Qa.2 (λi j hi hj dp=>?_)
  have:=Qw h dp hj
  rw [lq,lq,ie hj,ie hi] at this
  exact this
def Iw (l:aN):Bool:=(List.range l.length).all (λk=>k == 0 || decide (aU (l.getD (k - 1) ae) (l.getD k ae) < 0))
theorem pS:Iw l=true↔dG l:=by
 rw [iH]
 unfold Iw
 rw [jh]
 constructor
 .intro h k h1 h2
  have:=h k (zj.2 h2)
  simp only [su,beq_iff_eq,jl] at this
  rcases this with e|e
  .omega
  .exact e
 .intro h k hk
  simp only [su,beq_iff_eq,jl]
  by_cases e:k=0
  .exact .inl e
  .exact .inr (h k (by omega) (zj.1 hk))
theorem zDb (h:¬ dG l):Iw l=false:=by
 cases e:Iw l
 .rfl
 .exact absurd (pS.1 e) h
def bL (l:aN) (a:aj):Bool:=l.any (λx=>cM x == cM a)
theorem dh {a:aj}:bL l a=true↔∃ x∈l,cM x=cM a:=by
 unfold bL
 rw [tF]
 simp only [beq_iff_eq]
theorem IV (l:aN) (a:aj):bL (eW l) a=bL l a:=by
 have f:=pe l
 rw [Bool.eq_iff_iff,dh,dh]
 constructor
 .rintro ⟨x,hx,e⟩
  exact ⟨x,f.mem hx,e⟩
 .rintro ⟨x,hx,e⟩
  obtain ⟨y,hy,e2⟩:=f.wk x hx
  exact ⟨y,hy,e2.trans e⟩
theorem ID (h:∀ x∈l,x.aY=true):∀ x∈eW l,x.aY=true:=λx hx=>h x ((pe l).mem hx)
theorem zkj (a:aj):∀ s:aN,(cz a s).length<=s.length+1
 | []=>by simp [cz]
 |x::r=>by
  have:=zkj a r
  unfold cz
  repeat' split
  all_goals simp only [dY]
  all_goals omega
theorem ze2:∀ (m s:aN),(m.foldl (λs a=>cz a s) s).length<=s.length+m.length
 | [],s=>by simp
 |a::m,s=>by
  have h1:=ze2 m (cz a s)
  have h2:=zkj a s
  simp only [uG,dY]
  omega
theorem BO (l:aN):(eW l).length<=l.length:=by
 have:=ze2 l []
 simpa [eW] using this
structure fp (l:aN) (a:aj) (i:Nat):Prop where
 le:i<=l.length
 lo:∀ k,k < i->aU (l.getD k ae) a < 0
 hi:∀ k,i<=k->k < l.length->¬ aU (l.getD k ae) a < 0
theorem fp.has {a:aj} (p:fp l a i) (hs:dG l):bL l a=true↔i < l.length/\aU (l.getD i ae) a=0:=by
 rw [dh]
 constructor
 .rintro ⟨x,hx,e⟩
  obtain ⟨k,hk⟩:=sk hx
  have kX:=(dH.1 hk).1
  have e2:l.getD k ae=x:=by rw [lq,hk];rfl
  have h0:aU (l.getD k ae) a=0:=by rw [e2];exact ck.2 e
  have vd:i<=k:=by
   rcases lB k i with g|g
   .have:=p.lo k g;omega
   .exact g
  refine ⟨by omega,?_⟩
  rcases Nat.eq_or_lt_of_le vd with g|g
  .rw [g];exact h0
  .have h1:=Qw (iH.1 hs) g kX
   have h2:=p.hi i (bo _) (by omega)
   have h3:=PK h1 (Int.le_of_eq h0)
   exact absurd h3 h2
 .rintro ⟨h1,h2⟩
  exact ⟨_,fW (jJ h1),ck.1 h2⟩
theorem zzI (hi:i+n<=l.length):aF (aQ l) (i*11) (aQ (List.replicate n ae))=aQ (l.take i++(List.replicate n ae++l.drop (i+n))):=by
 have e:l=l.take i++l.drop i:=(pj i l).symm
 have h1:(aQ (l.take i)).length=i*11:=by rw [nL,fw];congr 1;omega
 have e2:l=l.take (i+n)++l.drop (i+n):=(pj (i+n) l).symm
 have h2:(aQ (l.take (i+n))).length=i*11+(aQ (List.replicate n ae)).length:=by rw [nL,nL,fw,Jm,<- tH];congr 1;omega
 unfold aF
 have f1:(aQ l).take (i*11)=aQ (l.take i):=by
  conv=>lhs;rw [e]
  rw [rY,List.take_left' h1]
 have f2:(aQ l).drop (i*11+(aQ (List.replicate n ae)).length)=aQ (l.drop (i+n)):=by
  conv=>lhs;rw [e2]
  rw [rY,List.drop_left' h2]
 rw [f1,f2,rY,rY,ka]
theorem zv2 {T:bO} {bs:List ba} {k bytes:Nat} {K:aI} (q:Holds h1 A (.row (aQ l) u false)) (hd:T.desc t=some (.slice u)) (hi:T.info u=some (k,bytes,ae.cells)) (hle:i+n<=l.length)
 (hK:∀ h',Holds h' A (.row (aQ (l.take i++(List.replicate n ae++l.drop (i+n)))) u false)->eX A (h1.lay bs w) h'->K undef h'):iq (rA T t (.slice (some ⟨A,i*11,none⟩) n c) (h1.lay bs w)) K:=by
 by_cases h0:n=0
 .subst h0
  have e:rA T t (.slice (some ⟨A,i*11,none⟩) 0 c) (h1.lay bs w)=some (h1.lay bs w):=by
   unfold rA
   simp only [hd,if_true]
  rw [e]
  refine hK _ ?_ (Ext.refl _).ji
  rw [List.replicate_zero,pk,i0,pj]
  exact q.on bs w
 .have hg:(h1.lay bs w).get A=some (.row (aQ l) u false):=q.lay bs w
  have hA:A < (h1.lay bs w).size:=(q.on bs w).lt
  have bt:(aQ (List.replicate n ae)).all one=true:=by
   rw [jh]
   intro x hx
   unfold aQ at hx
   obtain ⟨y,hy,Bv⟩:=DP.1 hx
   have:=(List.mem_replicate.1 hy).2
   subst this
   exact jh.1 (by rfl:ae.cells.all one=true) x Bv
  have e:rA T t (.slice (some ⟨A,i*11,none⟩) n c) (h1.lay bs w)=some ((h1.lay bs w).set A (.row (aQ (l.take i++(List.replicate n ae++l.drop (i+n)))) u false)):=by
   unfold rA
   simp only [hd,aA h0,hi,dX]
   unfold lY
   rw [hg]
   simp only
   rw [zp3,aB (by simp only [eo,jl];exact ⟨by rw [nL,nL,Jm];omega,bt⟩),zzI hle]
  rw [e]
  refine hK _ ⟨by rw [Heap.size_set];exact hA,by rw [Heap.aJ _ _ _ _ hA,aB rfl]⟩ ⟨by rw [Heap.size_set];exact bo _,λB hB aS=>by rw [Heap.aJ _ _ _ _ hA,aA aS],by rw [Heap.cd];omega⟩
theorem zuY {T:bO} {cs:List ah} {K:aI} (hs:di T t=some 11) (hl:cs.length=11)
 (hK:K undef (h1.lay [.row x.cells u false] (min w (h1.size+0)))):iq (iO T t (.pointer (some ⟨h1.size+0,0,none⟩)) x.val (h1.lay [.row cs u false] w)) K:=by
 have hg:(h1.lay [.row cs u false] w).get (h1.size+0)=some (.row cs u false):=by rw [iB];rfl
 have he:iO T t (.pointer (some ⟨h1.size+0,0,none⟩)) x.val (h1.lay [.row cs u false] w)=some ((h1.lay [.row cs u false] w).set (h1.size+0) (.row x.cells u false)):=by
  unfold iO
  simp only [hs,dX]
  have e1:x.val.cells.toList=x.cells:=rfl
  have e2:x.val.cells.size=11:=rfl
  have e3:x.cells.length=11:=rfl
  have e4:x.cells.all one=true:=rfl
  rw [aB e2,e1]
  unfold lY
  rw [hg]
  simp only
  rw [aB (by simp only [eo,jl];exact ⟨by omega,e4⟩)]
  congr 2
  unfold aF
  rw [Cg,pk,wW (by omega),bG]
 rw [he,zq2 _ _ _ _ _ (by simp)]
 exact hK
abbrev aK.atoms:aK (aN) :=
 { k:=1,R:=λh cs x=>∃ v,cs=[v]/\Sl aK.atom h v x
   len:=by rintro h cs x ⟨v,rfl,_⟩;rfl
   mono:=by rintro h h' cs x i ⟨v,e,f⟩;exact ⟨v,e,f.mono i⟩
   iu:=by rintro h cs x ⟨v,rfl,f⟩;have:=f.one;simp only [nC,po,this];rfl }
end Go.Am

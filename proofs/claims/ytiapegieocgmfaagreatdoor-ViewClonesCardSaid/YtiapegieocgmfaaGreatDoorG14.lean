/- Sorted lists of atoms, each text once: plain facts. No condition. -/
import Derived.Test.YtiapegieocgmfaaGreatDoorG13
set_option linter.unusedSimpArgs false
set_option linter.unusedVariables false
namespace Go.Am
variable {a b:ak} {l s:aS}
theorem bT:aX a b=0↔cL a=cL b:=⟨λh=>Jo h,λh=>by unfold aX;rw [h,Ql]⟩
theorem Cj {c:ak} (h1:aX a b < 0) (h2:aX b c < 0):aX a c < 0:=P8 h1 (Int.le_of_lt h2)
theorem zhl (h1:aX a b < 0) (h2:aX b a < 0):False:=by
 have:=wZ a b
 omega
def ef (s:aS):Prop:=s.Pairwise (λx y=>aX x y < 0)
structure bp (l s:aS):Prop where
 hY:ef s
 first:∀ y∈s,(l.filter (λx=>cL x == cL y)).head? = some y
 wC:∀ x∈l,∃ y∈s,cL y=cL x
theorem bp.mem (f:bp l s) {y:ak} (h:y∈s):y∈l:=(H3.1 (List.mem_of_mem_head? (f.first y h))).1
theorem QZ:∀ {s1 s2:aS},ef s1->ef s2->(∀ x,x∈s1↔x∈s2)->s1=s2
 | [],[],_,_,_=>rfl
 | [],y::r,_,_,h=>absurd ((h y).2 (jm ..)) (by simp)
 |x::r,[],_,_,h=>absurd ((h x).1 (jm ..)) (by simp)
 |x::r1,y::r2,h1,h2,h=>by
  have g1:=tK.1 h1
  have g2:=tK.1 h2
  have e:x=y:=by
   rcases dh.1 ((h x).1 (jm ..)) with e|hx
   .exact e
   .rcases dh.1 ((h y).2 (jm ..)) with e|hy
    .exact e.symm
    .exact (zhl (g2.1 x hx) (g1.1 y hy)).elim
  subst e
  rw [QZ (s1:=r1) (s2:=r2) g1.2 g2.2 (λz=>⟨λhz=>?_,λhz=>?_⟩)]
  .rcases dh.1 ((h z).1 (fB _ hz)) with e|mG
   .subst e
    have:=g1.1 z hz
    rw [Jg] at this
    omega
   .exact mG
  .rcases dh.1 ((h z).2 (fB _ hz)) with e|mG
   .subst e
    have:=g2.1 z hz
    rw [Jg] at this
    omega
   .exact mG
theorem bp.sub {s1 s2:aS} (f:bp l s1) (g:bp l s2) {y:ak} (h:y∈s1):y∈s2:=by
 obtain ⟨z,hz,e⟩:=g.wC y (f.mem h)
 have h1:=f.first y h
 have h2:=g.first z hz
 rw [e] at h2
 rw [h1] at h2
 cases h2
 exact hz
theorem bp.eq {s1 s2:aS} (f:bp l s1) (g:bp l s2):s1=s2:=QZ f.hY g.hY (λx=>⟨λh=>f.sub g h,λh=>g.sub f h⟩)
def cD (a:ak):aS->aS
 | []=>[a]
 |x::r=>if aX a x < 0 then a::x::r else if aX a x=0 then x::r else x::cD a r
theorem Hw {a y:ak}:∀ {s:aS},ef s->(y∈cD a s↔y∈s\/(y=a/\∀ x∈s,aX a x≠0))
 | [],_=>by simp [cD]
 |x::r,h=>by
  have g:=tK.1 h
  unfold cD
  by_cases h1:aX a x < 0
  .rw [aE h1,dh]
   constructor
   .rintro (e|e)
    .right
     refine ⟨e,λz hz=>?_⟩
     rcases dh.1 hz with e2|mG
     .subst e2;omega
     .have:=Cj h1 (g.1 z mG);omega
    .exact .inl e
   .rintro (e|⟨e,_⟩)
    .exact .inr e
    .exact .inl e
  .rw [az h1]
   by_cases h2:aX a x=0
   .rw [aE h2]
    constructor
    .exact λe=>.inl e
    .rintro (e|⟨e,e2⟩)
     .exact e
     .exact absurd h2 (e2 x (jm ..))
   .rw [az h2,dh,Hw g.2,dh]
    constructor
    .rintro (e|e|⟨e,e2⟩)
     .exact .inl (.inl e)
     .exact .inl (.inr e)
     .refine .inr ⟨e,λz hz=>?_⟩
      rcases dh.1 hz with e3|mG
      .subst e3;exact h2
      .exact e2 z mG
    .rintro ((e|e)|⟨e,e2⟩)
     .exact .inl e
     .exact .inr (.inl e)
     .exact .inr (.inr ⟨e,λz hz=>e2 z (fB _ hz)⟩)
theorem Qx {a:ak}:∀ {s:aS},ef s->ef (cD a s)
 | [],_=>by simp [cD,ef]
 |x::r,h=>by
  have g:=tK.1 h
  unfold cD
  by_cases h1:aX a x < 0
  .rw [aE h1]
   refine tK.2 ⟨λz hz=>?_,h⟩
   rcases dh.1 hz with e|mG
   .subst e;exact h1
   .exact Cj h1 (g.1 z mG)
  .rw [az h1]
   by_cases h2:aX a x=0
   .rw [aE h2];exact h
   .rw [az h2]
    refine tK.2 ⟨λz hz=>?_,Qx g.2⟩
    rcases (Hw g.2).1 hz with e|⟨e,_⟩
    .exact g.1 z e
    .subst e
     have:=wZ z x
     omega
theorem bp.put (f:bp l s) (a:ak):bp (l++[a]) (cD a s):=by
 refine ⟨Qx f.hY,λy hy=>?_,λx hx=>?_⟩
 .rw [AO,List.head?_append]
  rcases (Hw f.hY).1 hy with e|⟨e,e2⟩
  .rw [f.first y e]
   rfl
  .subst e
   have hn:l.filter (λx=>cL x == cL y)=[]:=by
    rw [JB]
    intro x hx dp
    rw [beq_iff_eq] at dp
    obtain ⟨z,hz,e3⟩:=f.wC x hx
    exact e2 z hz (bT.2 (e3.trans dp).symm)
   rw [hn]
   simp
 .rcases mj.1 hx with e|e
  .obtain ⟨y,hy,e2⟩:=f.wC x e
   exact ⟨y,(Hw f.hY).2 (.inl hy),e2⟩
  .have e:x=a:=by simpa using e
   subst e
   by_cases hex:∀ z∈s,aX x z≠0
   .exact ⟨x,(Hw f.hY).2 (.inr ⟨rfl,hex⟩),rfl⟩
   .have:∃ z,z∈s/\aX x z=0:=by
     apply Classical.byContradiction
     intro hn
     exact hex (λz hz e=>hn ⟨z,hz,e⟩)
    obtain ⟨z,hz,e⟩:=this
    exact ⟨z,(Hw f.hY).2 (.inl hz),(bT.1 e).symm⟩
theorem bp.nil:bp [] []:=⟨List.Pairwise.nil,nofun,nofun⟩
def eo (l:aS):aS:=l.foldl (λs a=>cD a s) []
theorem zlN (l:aS) (a:ak):eo (l++[a])=cD a (eo l):=by
 unfold eo
 rw [List.foldl_append]
 rfl
theorem zoF:∀ (m:aS) {l s:aS},bp l s->bp (l++m) (m.foldl (λs a=>cD a s) s)
 | [],l,s,f=>by rw [bu];exact f
 |a::m,l,s,f=>by
  have:=zoF m (f.put a)
  rwa [j7] at this
theorem qG (l:aS):bp l (eo l):=zoF l bp.nil
theorem bp.is (f:bp l s):s=eo l:=f.eq (qG l)
theorem zvx:∀ {l:aS},ef l->∀ {x y:ak},x∈l->y∈l->x=y\/aX x y < 0\/aX y x < 0
 | [],_,_,_,h,_=>by simp at h
 |a::l,h,x,y,hx,hy=>by
  have g:=tK.1 h
  rcases dh.1 hx with e1|e1
  .rcases dh.1 hy with e2|e2
   .exact .inl (e1.trans e2.symm)
   .subst e1;exact .inr (.inl (g.1 y e2))
  .rcases dh.1 hy with e2|e2
   .subst e2;exact .inr (.inr (g.1 x e1))
   .exact zvx g.2 e1 e2
theorem zCc (h:ef l):bp l l:=by
 refine ⟨h,λy hy=>?_,λx hx=>⟨x,hx,rfl⟩⟩
 have hm:y∈l.filter (λx=>cL x == cL y):=H3.2 ⟨hy,by simp⟩
 cases hf:l.filter (λx=>cL x == cL y) with
 |nil=>rw [hf] at hm;simp at hm
 |cons z r =>
  have hz:z∈l/\_:=H3.1 (by rw [hf];exact jm ..)
  have he:cL z=cL y:=by simpa using hz.2
  show some z=some y
  congr 1
  rcases zvx h hz.1 hy with g|g|g
  .exact g
  .exact absurd he (Jt g)
  .exact absurd he.symm (Jt g)
theorem Tm (h:ef l):eo l=l:=(zCc h).is.symm
def pC (l:aS):Nat->aS
 |0=>[]
 |m+1=>pC l m++(if m≠0/\aX (l.getD m ae) (l.getD (m - 1) ae)=0 then [] else [l.getD m ae])
theorem zj4 {m:Nat} (h:m < l.length):l.take (m+1)=l.take m++[l.getD m ae]:=by
 rw [oW,lB,gF h]
 rfl
theorem zxT {l:aS} (hs:iA l 0 l.length):∀ m,m<=l.length->bp (l.take m) (pC l m)
 |0,_=>bp.nil
 |m+1,hm=>by
  have f:=zxT hs m (by omega)
  rw [zj4 (by omega)]
  unfold pC
  split
  .rename_i h
   rw [bu]
   refine ⟨f.hY,λy hy=>?_,λx hx=>?_⟩
   .rw [AO,List.head?_append,f.first y hy]
    rfl
   .rcases mj.1 hx with e|e
    .exact f.wC x e
    .have e:x=l.getD m ae:=by simpa using e
     subst e
     obtain ⟨y,hy,e2⟩:=f.wC (l.getD (m - 1) ae) (by
      refine ic (i:=m - 1) ?_
      rw [mi,aE (by omega)]
      exact jM (by omega))
     exact ⟨y,hy,e2.trans (bT.1 h.2).symm⟩
  .rename_i h
   have aT:∀ x∈l.take m,aX x (l.getD m ae) < 0:=by
    intro x hx
    obtain ⟨i,hi⟩:=uL hx
    rw [mi] at hi
    split at hi
    .rename_i vt
     have e:x=l.getD i ae:=by rw [lB,hi];rfl
     rw [e]
     have h1:=hs m (by omega) (by omega)
     have h2:aX (l.getD (m - 1) ae) (l.getD m ae)≠0:=λe2=>h ⟨by omega,by rw [wZ];omega⟩
     exact zhn (zo hs (i:=i) (j:=m - 1) (by omega) (by omega) (by omega)) (by omega)
    .cases hi
   refine ⟨List.pairwise_append.2 ⟨f.hY,List.pairwise_singleton ..,λa ha b hb=>?_⟩,λy hy=>?_,λx hx=>?_⟩
   .have e:b=l.getD m ae:=by simpa using hb
    rw [e]
    exact aT a (f.mem ha)
   .rw [AO,List.head?_append]
    rcases mj.1 hy with e|e
    .rw [f.first y e]
     rfl
    .have e:y=l.getD m ae:=by simpa using e
     subst e
     have hn:(l.take m).filter (λx=>cL x == cL (l.getD m ae))=[]:=by
      rw [JB]
      intro x hx dp
      exact Jt (aT x hx) (by simpa using dp)
     rw [hn]
     simp
   .rcases mj.1 hx with e|e
    .obtain ⟨y,hy,e2⟩:=f.wC x e
     exact ⟨y,List.mem_append_left _ hy,e2⟩
    .exact ⟨x,TL _ e,rfl⟩
theorem bp.over {l':aS} (f:bp l' s) (hp:l'.Perm l) (fj:fb l l'):bp l s:=⟨f.hY,λy hy=>by rw [<- fj];exact f.first y hy,λx hx=>f.wC x (hp.mem_iff.2 hx)⟩
theorem zu7 {l':aS} (hp:l'.Perm l) (fj:fb l l') (hs:iA l' 0 l.length):pC l' l'.length=eo l:=by
 have f:=zxT (l:=l') (by rw [hp.length_eq];exact hs) l'.length (bj _)
 rw [JW] at f
 exact (f.over hp fj).is
end Go.Am
namespace Go.Am
variable {l s:aS} {v:ab} {t u:TypeId} {h0 h1:Heap} {A c i m n w:Nat} {kd:IntKind} {bs:List ba} {x:ak}
theorem zjR:∀ {l:aS} {row:List ab},row.length=l.length*11->(∀ (i:Nat) (x:ak),l[i]? = some x->cut row (i*11) 11=some x.cells)->row=aP l
 | [],row,hl,_=>by
  have:row=[]:=xu.1 (by simpa using hl)
  rw [this]
  rfl
 |x::l,row,hl,h=>by
  have h0:=h 0 x rfl
  have iE:row.length=l.length*11+11:=by rw [hl,dn];omega
  unfold cut at h0
  rw [aE (by omega)] at h0
  simp only [Nat.zero_mul,zM,dO] at h0
  have hr:=zjR (l:=l) (row:=row.drop 11) (by rw [kP];omega) (λi y hy=>by
   have hi:=(dP.1 hy).1
   have g:=h (i+1) y hy
   unfold cut at g ⊢
   rw [aE (by omega)] at g
   rw [aE (by rw [kP];omega),H6,show 11+i*11=(i+1)*11 by omega]
   exact g)
  have e:row=row.take 11++row.drop 11:=(qv 11 row).symm
  rw [e,h0,hr]
  rfl
theorem si (l m:aS):aP (l++m)=aP l++aP m:=by unfold aP;rw [List.flatMap_append]
structure sD (h:Heap) (v:ab):Prop where
 sl:Sl aM.atom h v []
 no:v=.slice none 0 0\/∃ B o,v=.slice (some ⟨B,o,none⟩) 0 0
theorem sD.nil {h:Heap}:sD h (.slice none 0 0):=⟨Sl.nil,.inl rfl⟩
theorem sD.mono {h h':Heap} {v:ab} (f:sD h v) (i:bL h h'):sD h' v:=⟨f.sl.mono i,f.no⟩
theorem sD.lay {h:Heap} {v:ab} (f:sD h v) (bs:List ba) (w:Nat):sD (h.lay bs w) v:=⟨f.sl.lay bs w,f.no⟩
theorem sD.over {h1 h2:Heap} {v:ab} {bs:List ba} {w:Nat} (f:sD h1 v) (x:Ext (h1.lay bs w) h2):sD h2 v:=⟨f.sl.over x,f.no⟩
def dG (h0 h:Heap) (u:TypeId) (v:ab) (s:aS):Prop :=
 (s=[]/\sD h v)\/∃ A t,v=.slice (some ⟨A,0,none⟩) s.length (G*11+(s++t).length)/\Holds h A (.row (aP (s++t)) u false)/\h0.size<=A/\(s++t).length<=100000
theorem dG.mono {h0 h h':Heap} {u:TypeId} {v:ab} {s:aS} (f:dG h0 h u v s) (i:bL h h'):dG h0 h' u v s:=by
 rcases f with ⟨e,f⟩|⟨A,t,e1,e2,e3⟩
 .exact .inl ⟨e,f.mono i⟩
 .exact .inr ⟨A,t,e1,e2.mono i,e3⟩
theorem dG.down {h:Heap} (f:dG h1 h u v s) (i:h0.size<=h1.size):dG h0 h u v s:=by
 rcases f with f|⟨A,t,e1,e2,e3,e4⟩
 .exact .inl f
 .exact .inr ⟨A,t,e1,e2,by omega,e4⟩
theorem dG.lay {h0 h:Heap} {u:TypeId} {v:ab} {s:aS} (f:dG h0 h u v s) (bs:List ba) (w:Nat):dG h0 (h.lay bs w) u v s:=f.mono (bL.lay h bs w)
theorem wj:100000 < G:=by unfold G;omega
theorem zAb {h:Heap} {o:Nat} {ro:Bool} (q:Holds h A (.row (aP l) u ro)) (hc:ZT 11 s.length c) (hn:s.length<=100000) (hs:∀ (i:Nat) (x:ak),s[i]? = some x->l[o+i]? = some x):Sl aM.atom h (.slice (some ⟨A,o*11,none⟩) s.length c) s:=by
 refine .inr ⟨A,o*11,c,aP l,u,ro,rfl,(by have:(100000:Nat)<=maxLen:=by decide
                                         omega),hc,q.lt,q.get,λi x hx=>⟨x.cells,?_,rfl⟩⟩
 show cut (aP l) (o*11+i*11) 11=_
 rw [<- rS]
 exact zsQ (hs i x hx)
theorem dG.sl {h0 h:Heap} {u:TypeId} {v:ab} {s:aS} (f:dG h0 h u v s):Sl aM.atom h v s:=by
 rcases f with ⟨rfl,f⟩|⟨A,t,rfl,e2,e3,e4⟩
 .exact f.sl
 .have hG:=wj
  obtain ⟨d1,d2,d3⟩:=xd (k:=11) (q:=(s++t).length) (by decide) (by omega)
  have hle:s.length<=(s++t).length:=by rw [dy];omega
  have:=zAb (o:=0) (s:=s) e2 (.inr ⟨d1,d2,by rw [d3];omega⟩) (by omega) (λi x hx=>by rw [jo,nc (dP.1 hx).1];exact hx)
  simpa using this
def kY (h0 h:Heap) (u:TypeId) (v:ab) (s:aS):Prop :=
 (s=[]/\sD h v)\/∃ A,v=.slice (some ⟨A,0,none⟩) s.length (G*11+s.length)/\Holds h A (.row (aP s) u false)/\h0.size<=A/\s≠[]
theorem kY.own {h:Heap} (f:kY h0 h u v s) (hn:s.length<=100000):dG h0 h u v s:=by
 rcases f with f|⟨A,e1,e2,e3,e4⟩
 .exact .inl f
 .exact .inr ⟨A,[],by rw [bu];exact e1,by rw [bu];exact e2,e3,by rw [bu];exact hn⟩
theorem Tq {h:Heap} (f:Ow aM.atom h0 h u A v l):kY h0 h u v l:=by
 rcases f with ⟨e1,rfl,e3⟩|⟨row,rfl,e2,e3,e4,e5,e6,e7,e8⟩
 .refine .inl ⟨rfl,?_,?_⟩
  .have f2:Ow aM.atom h0 h u A v []:=.inl ⟨e1,rfl,e3⟩
   exact f2.sl (by decide)
  .rcases e3 with e3|⟨B,o,e3,_⟩
   .exact .inl e3
   .exact .inr ⟨B,o,e3⟩
 .refine .inr ⟨A,rfl,⟨e4,?_⟩,e3,e2⟩
  have:row=aP l:=zjR e6 (λi x hx=>by
   obtain ⟨cs,g1,g2⟩:=e8 i x hx
   have g2:cs=x.cells:=g2
   rw [<- g2]
   exact g1)
  rw [<- this]
  exact e5
section
variable {P:Program} {T:bI} {ov:Ov} {d:Option Tmp} {ty:TypeId} {pos:String} {af:Array Edge} {g:Option (Nat × Bool)} {e:Env} {h:Heap} {K:aF}
theorem zxY (t:TypeId) (x:Operand):cS P T ov ⟨d,.call ⟨.builtin .clear,#[x],#[t]⟩,ty,pos,af,g⟩ e h K=iv (rI T t (bt e x) h) K:=by
 show dD ((rI T t (bt e x) h).map λh'=>(undef,h')) K=_
 cases rI T t (bt e x) h <;> rfl
theorem zjx {T:bI} {q:Nat} (hd:T.desc t=some (.slice u)) (hs:dg T u=some 11) (hi:i<=n) (hn:n<=q) (hq:q<=100000):kV T t (.slice (some ⟨A,0,none⟩) n (G*11+q)) (some (.int kd i)) none none=some (.slice (some ⟨A,i*11,none⟩) (n - i) (G*11+(q - i))):=by
 have hG:=wj
 obtain ⟨d1,d2,d3⟩:=xd (k:=11) (q:=q) (by decide) (by omega)
 unfold kV
 simp only [hd,hs,dM,az (show ¬ G*11+q < G by omega),aE d2]
 rw [d3,P7 (ea.num kd 0 i) (ea.no n) hi hn,jn,jo]
theorem zxb {T:bI} {q:Nat} (hd:T.desc t=some (.slice u)) (hs:dg T u=some 11) (hi:i<=n) (hn:n<=q) (hq:q<=100000):kV T t (.slice (some ⟨A,0,none⟩) n (G*11+q)) none (some (.int kd i)) none=some (.slice (some ⟨A,0,none⟩) i (G*11+q)):=by
 have hG:=wj
 obtain ⟨d1,d2,d3⟩:=xd (k:=11) (q:=q) (by decide) (by omega)
 unfold kV
 simp only [hd,hs,dM,az (show ¬ G*11+q < G by omega),aE d2]
 rw [d3,P7 (ea.no 0) (ea.num kd n i) (lE _) (by omega),jn]
 simp
theorem zpY (n:Nat):oT ae.cells n=aP (List.replicate n ae):=by
 unfold oT aP
 rw [List.flatMap_def,List.map_replicate]
theorem zxn (hi:i<=l.length):aB (aP l) (i*11) (aP (List.replicate (l.length - i) ae))=aP (l.take i++List.replicate (l.length - i) ae):=by
 have e:l=l.take i++l.drop i:=(qv i l).symm
 have h1:(aP (l.take i)).length=i*11:=by rw [od,gh];congr 1;omega
 have h2:(aP (List.replicate (l.length - i) ae)).length=(l.length - i)*11:=by rw [od,HY]
 have h3:(aP l).length=l.length*11:=od l
 unfold aB
 rw [si,zG (by rw [h2,h3];omega),bu]
 congr 1
 conv=>lhs;rw [e]
 rw [si,List.take_left' h1]
theorem ztz {T:bI} {k bytes:Nat} (q:Holds h1 A (.row (aP l) u false)) (hd:T.desc t=some (.slice u)) (hi:T.info u=some (k,bytes,ae.cells)) (hle:i<=l.length) (hn:n=l.length - i)
 (hK:∀ h',Holds h' A (.row (aP (l.take i++List.replicate (l.length - i) ae)) u false)->eG A (h1.lay bs w) h'->K undef h'):iv (rI T t (.slice (some ⟨A,i*11,none⟩) n c) (h1.lay bs w)) K:=by
 subst hn
 by_cases h0:l.length - i=0
 .have e:rI T t (.slice (some ⟨A,i*11,none⟩) (l.length - i) c) (h1.lay bs w)=some (h1.lay bs w):=by
   unfold rI
   simp only [hd,aE h0]
  rw [e]
  refine hK _ ?_ (Ext.refl _).iL
  rw [h0,List.replicate_zero,bu,gE (by omega)]
  exact q.on bs w
 .have hg:(h1.lay bs w).get A=some (.row (aP l) u false):=q.lay bs w
  have hA:A < (h1.lay bs w).size:=(q.on bs w).lt
  have bf:(aP (List.replicate (l.length - i) ae)).all one=true:=by
   rw [iT]
   intro x hx
   unfold aP at hx
   obtain ⟨y,hy,BW⟩:=List.mem_flatMap.1 hx
   have:=(List.mem_replicate.1 hy).2
   subst this
   exact iT.1 (by rfl:ae.cells.all one=true) x BW
  have e:rI T t (.slice (some ⟨A,i*11,none⟩) (l.length - i) c) (h1.lay bs w)=some ((h1.lay bs w).set A (.row (aP (l.take i++List.replicate (l.length - i) ae)) u false)):=by
   unfold rI
   simp only [hd,az h0,hi,dM]
   unfold ki
   rw [hg]
   simp only
   rw [zpY,aE (by simp only [ep,jH];exact ⟨by rw [od,od,HY];omega,bf⟩),zxn hle]
  rw [e]
  refine hK _ ⟨by rw [Heap.size_set];exact hA,by rw [Heap.aJ _ _ _ _ hA,aE rfl]⟩ ⟨by rw [Heap.size_set];exact bj _,λB hB aQ=>by rw [Heap.aJ _ _ _ _ hA,az aQ],by rw [Heap.bQ];omega⟩
end
theorem zm7 {h:Heap} {t:aS} (q:Holds h A (.row (aP (s++t)) u false)) (hA:h0.size<=A) (hn:(s++t).length<=100000) (hl:n=s.length) (hc:c=G*11+(s++t).length):dG h0 h u (.slice (some ⟨A,0,none⟩) n c) s:=by
 subst hl hc
 exact .inr ⟨A,t,rfl,q,hA,hn⟩
theorem Qu {h:Heap} (q:Holds h A (.row (aP s) u false)) (hA:h0.size<=A) (hn:s.length<=100000) (hc:c=G*11+s.length):dG h0 h u (.slice (some ⟨A,0,none⟩) s.length c) s :=
 zm7 (t:=[]) (by rw [bu];exact q) hA (by rw [bu];exact hn) rfl (by rw [bu];exact hc)
theorem zrL (h:l.length < 2):pC l l.length=l:=by
 match l,h with
 | [],_=>rfl
 | [x],_=>rfl
theorem zu6 (hm:m < l.length) (h0:m≠0) (h:pC l m=l.take m) (aQ:aX (l.getD m ae) (l.getD (m - 1) ae)≠0):pC l (m+1)=l.take (m+1):=by
 rw [zj4 hm,<- h]
 show pC l m++_=_
 rw [az (λg=>aQ g.2)]
theorem zs0 (h0:m≠0) (he:aX (l.getD m ae) (l.getD (m - 1) ae)=0):pC l (m+1)=pC l m:=by
 show pC l m++_=_
 rw [aE ⟨h0,he⟩,bu]
theorem zxS (aQ:aX (l.getD m ae) (l.getD (m - 1) ae)≠0):pC l (m+1)=pC l m++[l.getD m ae]:=by
 show pC l m++_=_
 rw [az (λg=>aQ g.2)]
theorem zzB (hi:i < l.length):(l.set i x).take (i+1)=l.take i++[x]:=by
 rw [oW,sA,aE rfl,aE hi,List.take_set_of_le (bj _)]
 rfl
theorem zmj {p:Nat} (h:i≠p):(l.set i x).getD p ae=l.getD p ae:=by
 rw [lB,lB,sA,az h]
theorem QV (h:∀ k,0 < k->k < l.length->aX (l.getD (k - 1) ae) (l.getD k ae) < 0) {j:Nat} (dK:i < j) (hj:j < l.length):aX (l.getD i ae) (l.getD j ae) < 0:=by
 induction j with
 |zero=>omega
 |succ j ih =>
  have g:=h (j+1) (by omega) hj
  rw [CL] at g
  by_cases e:i=j
  .subst e
   exact g
  .exact Cj (ih (by omega) (by omega)) g
theorem iK:ef l↔∀ k,0 < k->k < l.length->aX (l.getD (k - 1) ae) (l.getD k ae) < 0:=by
 constructor
 .intro h k h1 h2
  have:=Tv.1 h (k - 1) k (by omega) h2 (by omega)
  rw [lB,lB,gF h2,gF (show k - 1 < l.length by omega)]
  exact this
 .intro h
  refine Tv.2 (λi j hi hj dK=>?_)
  have:=QV h dK hj
  rw [lB,lB,gF hj,gF hi] at this
  exact this
def IU (l:aS):Bool:=(List.range l.length).all (λk=>k == 0 || decide (aX (l.getD (k - 1) ae) (l.getD k ae) < 0))
theorem qd:IU l=true↔ef l:=by
 rw [iK]
 unfold IU
 rw [iT]
 constructor
 .intro h k h1 h2
  have:=h k (zN.2 h2)
  simp only [sB,beq_iff_eq,jH] at this
  rcases this with e|e
  .omega
  .exact e
 .intro h k hk
  simp only [sB,beq_iff_eq,jH]
  by_cases e:k=0
  .exact .inl e
  .exact .inr (h k (by omega) (zN.1 hk))
theorem zCu (h:¬ ef l):IU l=false:=by
 cases e:IU l
 .rfl
 .exact absurd (qd.1 e) h
def bE (l:aS) (a:ak):Bool:=l.any (λx=>cL x == cL a)
theorem cP {a:ak}:bE l a=true↔∃ x∈l,cL x=cL a:=by
 unfold bE
 rw [xy]
 simp only [beq_iff_eq]
theorem Ji (l:aS) (a:ak):bE (eo l) a=bE l a:=by
 have f:=qG l
 rw [Bool.eq_iff_iff,cP,cP]
 constructor
 .rintro ⟨x,hx,e⟩
  exact ⟨x,f.mem hx,e⟩
 .rintro ⟨x,hx,e⟩
  obtain ⟨y,hy,e2⟩:=f.wC x hx
  exact ⟨y,hy,e2.trans e⟩
theorem D5 (h:∀ x∈l,x.aW=true):∀ x∈eo l,x.aW=true:=λx hx=>h x ((qG l).mem hx)
theorem zjK (a:ak):∀ s:aS,(cD a s).length<=s.length+1
 | []=>by simp [cD]
 |x::r=>by
  have:=zjK a r
  unfold cD
  repeat' split
  all_goals simp only [dn]
  all_goals omega
theorem zeR:∀ (m s:aS),(m.foldl (λs a=>cD a s) s).length<=s.length+m.length
 | [],s=>by simp
 |a::m,s=>by
  have h1:=zeR m (cD a s)
  have h2:=zjK a s
  simp only [uM,dn]
  omega
theorem zp (l:aS):(eo l).length<=l.length:=by
 have:=zeR l []
 simpa [eo] using this
structure fm (l:aS) (a:ak) (i:Nat):Prop where
 le:i<=l.length
 lo:∀ k,k < i->aX (l.getD k ae) a < 0
 hi:∀ k,i<=k->k < l.length->¬ aX (l.getD k ae) a < 0
theorem fm.has {a:ak} (p:fm l a i) (hs:ef l):bE l a=true↔i < l.length/\aX (l.getD i ae) a=0:=by
 rw [cP]
 constructor
 .rintro ⟨x,hx,e⟩
  obtain ⟨k,hk⟩:=uL hx
  have lh:=(dP.1 hk).1
  have e2:l.getD k ae=x:=by rw [lB,hk];rfl
  have h0:aX (l.getD k ae) a=0:=by rw [e2];exact bT.2 e
  have vq:i<=k:=by
   rcases lM k i with g|g
   .have:=p.lo k g;omega
   .exact g
  refine ⟨by omega,?_⟩
  rcases Nat.eq_or_lt_of_le vq with g|g
  .rw [g];exact h0
  .have h1:=QV (iK.1 hs) g lh
   have h2:=p.hi i (bj _) (by omega)
   have h3:=P8 h1 (Int.le_of_eq h0)
   exact absurd h3 h2
 .rintro ⟨h1,h2⟩
  exact ⟨_,ic (jM h1),bT.1 h2⟩
theorem zzh (hi:i+n<=l.length):aB (aP l) (i*11) (aP (List.replicate n ae))=aP (l.take i++(List.replicate n ae++l.drop (i+n))):=by
 have e:l=l.take i++l.drop i:=(qv i l).symm
 have h1:(aP (l.take i)).length=i*11:=by rw [od,gh];congr 1;omega
 have e2:l=l.take (i+n)++l.drop (i+n):=(qv (i+n) l).symm
 have h2:(aP (l.take (i+n))).length=i*11+(aP (List.replicate n ae)).length:=by rw [od,od,gh,HY,<- rS];congr 1;omega
 unfold aB
 have f1:(aP l).take (i*11)=aP (l.take i):=by
  conv=>lhs;rw [e]
  rw [si,List.take_left' h1]
 have f2:(aP l).drop (i*11+(aP (List.replicate n ae)).length)=aP (l.drop (i+n)):=by
  conv=>lhs;rw [e2]
  rw [si,List.drop_left' h2]
 rw [f1,f2,si,si,j7]
theorem zvO {T:bI} {k bytes:Nat} {K:aF} (q:Holds h1 A (.row (aP l) u false)) (hd:T.desc t=some (.slice u)) (hi:T.info u=some (k,bytes,ae.cells)) (hle:i+n<=l.length)
 (hK:∀ h',Holds h' A (.row (aP (l.take i++(List.replicate n ae++l.drop (i+n)))) u false)->eG A (h1.lay bs w) h'->K undef h'):iv (rI T t (.slice (some ⟨A,i*11,none⟩) n c) (h1.lay bs w)) K:=by
 by_cases h0:n=0
 .subst h0
  have e:rI T t (.slice (some ⟨A,i*11,none⟩) 0 c) (h1.lay bs w)=some (h1.lay bs w):=by
   unfold rI
   simp only [hd,if_true]
  rw [e]
  refine hK _ ?_ (Ext.refl _).iL
  rw [List.replicate_zero,pE,iU,qv]
  exact q.on bs w
 .have hg:(h1.lay bs w).get A=some (.row (aP l) u false):=q.lay bs w
  have hA:A < (h1.lay bs w).size:=(q.on bs w).lt
  have bf:(aP (List.replicate n ae)).all one=true:=by
   rw [iT]
   intro x hx
   unfold aP at hx
   obtain ⟨y,hy,BW⟩:=List.mem_flatMap.1 hx
   have:=(List.mem_replicate.1 hy).2
   subst this
   exact iT.1 (by rfl:ae.cells.all one=true) x BW
  have e:rI T t (.slice (some ⟨A,i*11,none⟩) n c) (h1.lay bs w)=some ((h1.lay bs w).set A (.row (aP (l.take i++(List.replicate n ae++l.drop (i+n)))) u false)):=by
   unfold rI
   simp only [hd,az h0,hi,dM]
   unfold ki
   rw [hg]
   simp only
   rw [zpY,aE (by simp only [ep,jH];exact ⟨by rw [od,od,HY];omega,bf⟩),zzh hle]
  rw [e]
  refine hK _ ⟨by rw [Heap.size_set];exact hA,by rw [Heap.aJ _ _ _ _ hA,aE rfl]⟩ ⟨by rw [Heap.size_set];exact bj _,λB hB aQ=>by rw [Heap.aJ _ _ _ _ hA,az aQ],by rw [Heap.bQ];omega⟩
theorem zuM {T:bI} {cs:List ab} {K:aF} (hs:dg T t=some 11) (hl:cs.length=11)
 (hK:K undef (h1.lay [.row x.cells u false] (min w (h1.size+0)))):iv (iH T t (.pointer (some ⟨h1.size+0,0,none⟩)) x.val (h1.lay [.row cs u false] w)) K:=by
 have hg:(h1.lay [.row cs u false] w).get (h1.size+0)=some (.row cs u false):=by rw [iB];rfl
 have he:iH T t (.pointer (some ⟨h1.size+0,0,none⟩)) x.val (h1.lay [.row cs u false] w)=some ((h1.lay [.row cs u false] w).set (h1.size+0) (.row x.cells u false)):=by
  unfold iH
  simp only [hs,dM]
  have e1:x.val.cells.toList=x.cells:=rfl
  have e2:x.val.cells.size=11:=rfl
  have e3:x.cells.length=11:=rfl
  have e4:x.cells.all one=true:=rfl
  rw [aE e2,e1]
  unfold ki
  rw [hg]
  simp only
  rw [aE (by simp only [ep,jH];exact ⟨by omega,e4⟩)]
  congr 2
  unfold aB
  rw [xB,pE,zG (by omega),bu]
 rw [he,QL _ _ _ _ _ (by simp)]
 exact hK
abbrev aM.atoms:aM (aS) :=
 { k:=1,R:=λh cs x=>∃ v,cs=[v]/\Sl aM.atom h v x
   len:=by rintro h cs x ⟨v,rfl,_⟩;rfl
   mono:=by rintro h h' cs x i ⟨v,e,f⟩;exact ⟨v,e,f.mono i⟩
   jf:=by rintro h cs x ⟨v,rfl,f⟩;have:=f.one;simp only [nU,oX,this];rfl }
theorem zCv {T:bI} {e:TypeId} {i:Int} {K:aF} {l:List (aS)} {x:aS} (f:Sl aM.atoms h1 v l) (hd:T.desc t=some (.slice e)) (hs:dg T e=some 1) (h0:0<=i) (hx:l[i.toNat]? = some x) (hk:∀ p b,Sl aM.atom h1 b x->eF h1 p [b]->K p (h1.lay bs w)):aC (kh T t v (.int kd i)) (h1.lay bs w) K:=by
 have hi:=(dP.1 hx).1
 refine AB f hd hs h0 (by omega) (λx' p cs mF hr hp=>?_)
 rw [hx] at mF
 cases mF
 obtain ⟨b,rfl,hb⟩:=hr
 exact hk p b hb hp
end Go.Am

/- Sorted lists of atoms, each text once: plain facts. No condition. -/
import Derived.Test.YtkgojconmeeegaaGreatDoorG12
set_option linter.unusedSimpArgs false
set_option linter.unusedVariables false
namespace Go.Am
variable {a b:ak} {l s:aW}
theorem bW:aT a b=0↔cF a=cF b:=⟨λh=>Jt h,λh=>by unfold aT;rw [h,RA]⟩
theorem CC {c:ak} (h1:aT a b < 0) (h2:aT b c < 0):aT a c < 0:=Rh h1 (Int.le_of_lt h2)
theorem zhC (h1:aT a b < 0) (h2:aT b a < 0):False:=by
 have:=wS a b
 omega
def eh (s:aW):Prop:=s.Pairwise (λx y=>aT x y < 0)
structure bw (l s:aW):Prop where
 iU:eh s
 first:∀ y∈s,(l.filter (λx=>cF x == cF y)).head? = some y
 wC:∀ x∈l,∃ y∈s,cF y=cF x
theorem bw.mem (f:bw l s) {y:ak} (h:y∈s):y∈l:=(J5.1 (List.mem_of_mem_head? (f.first y h))).1
theorem zwy:∀ {s1 s2:aW},eh s1->eh s2->(∀ x,x∈s1↔x∈s2)->s1=s2
 | [],[],_,_,_=>rfl
 | [],y::r,_,_,h=>absurd ((h y).2 (lj ..)) (by simp)
 |x::r,[],_,_,h=>absurd ((h x).1 (lj ..)) (by simp)
 |x::r1,y::r2,h1,h2,h=>by
  have g1:=ub.1 h1
  have g2:=ub.1 h2
  have e:x=y:=by
   rcases dG.1 ((h x).1 (lj ..)) with e|hx
   .exact e
   .rcases dG.1 ((h y).2 (lj ..)) with e|hy
    .exact e.symm
    .exact (zhC (g2.1 x hx) (g1.1 y hy)).elim
  subst e
  rw [zwy (s1:=r1) (s2:=r2) g1.2 g2.2 (λz=>⟨λhz=>?_,λhz=>?_⟩)]
  .rcases dG.1 ((h z).1 (gJ _ hz)) with e|lu
   .subst e
    have:=g1.1 z hz
    rw [Jr] at this
    omega
   .exact lu
  .rcases dG.1 ((h z).2 (gJ _ hz)) with e|lu
   .subst e
    have:=g2.1 z hz
    rw [Jr] at this
    omega
   .exact lu
theorem bw.sub {s1 s2:aW} (f:bw l s1) (g:bw l s2) {y:ak} (h:y∈s1):y∈s2:=by
 obtain ⟨z,hz,e⟩:=g.wC y (f.mem h)
 have h1:=f.first y h
 have h2:=g.first z hz
 rw [e] at h2
 rw [h1] at h2
 cases h2
 exact hz
theorem bw.eq {s1 s2:aW} (f:bw l s1) (g:bw l s2):s1=s2:=zwy f.iU g.iU (λx=>⟨λh=>f.sub g h,λh=>g.sub f h⟩)
def cD (a:ak):aW->aW
 | []=>[a]
 |x::r=>if aT a x < 0 then a::x::r else if aT a x=0 then x::r else x::cD a r
theorem HD {a y:ak}:∀ {s:aW},eh s->(y∈cD a s↔y∈s\/(y=a/\∀ x∈s,aT a x≠0))
 | [],_=>by simp [cD]
 |x::r,h=>by
  have g:=ub.1 h
  unfold cD
  by_cases h1:aT a x < 0
  .rw [aE h1,dG]
   constructor
   .rintro (e|e)
    .right
     refine ⟨e,λz hz=>?_⟩
     rcases dG.1 hz with e2|lu
     .subst e2;omega
     .have:=CC h1 (g.1 z lu);omega
    .exact .inl e
   .rintro (e|⟨e,_⟩)
    .exact .inr e
    .exact .inl e
  .rw [az h1]
   by_cases h2:aT a x=0
   .rw [aE h2]
    constructor
    .exact λe=>.inl e
    .rintro (e|⟨e,e2⟩)
     .exact e
     .exact absurd h2 (e2 x (lj ..))
   .rw [az h2,dG,HD g.2,dG]
    constructor
    .rintro (e|e|⟨e,e2⟩)
     .exact .inl (.inl e)
     .exact .inl (.inr e)
     .refine .inr ⟨e,λz hz=>?_⟩
      rcases dG.1 hz with e3|lu
      .subst e3;exact h2
      .exact e2 z lu
    .rintro ((e|e)|⟨e,e2⟩)
     .exact .inl e
     .exact .inr (.inl e)
     .exact .inr (.inr ⟨e,λz hz=>e2 z (gJ _ hz)⟩)
theorem UE {a:ak}:∀ {s:aW},eh s->eh (cD a s)
 | [],_=>by simp [cD,eh]
 |x::r,h=>by
  have g:=ub.1 h
  unfold cD
  by_cases h1:aT a x < 0
  .rw [aE h1]
   refine ub.2 ⟨λz hz=>?_,h⟩
   rcases dG.1 hz with e|lu
   .subst e;exact h1
   .exact CC h1 (g.1 z lu)
  .rw [az h1]
   by_cases h2:aT a x=0
   .rw [aE h2];exact h
   .rw [az h2]
    refine ub.2 ⟨λz hz=>?_,UE g.2⟩
    rcases (HD g.2).1 hz with e|⟨e,_⟩
    .exact g.1 z e
    .subst e
     have:=wS z x
     omega
theorem bw.put (f:bw l s) (a:ak):bw (l++[a]) (cD a s):=by
 refine ⟨UE f.iU,λy hy=>?_,λx hx=>?_⟩
 .rw [zL,List.head?_append]
  rcases (HD f.iU).1 hy with e|⟨e,e2⟩
  .rw [f.first y e]
   rfl
  .subst e
   have hn:l.filter (λx=>cF x == cF y)=[]:=by
    rw [RH]
    intro x hx dj
    rw [beq_iff_eq] at dj
    obtain ⟨z,hz,e3⟩:=f.wC x hx
    exact e2 z hz (bW.2 (e3.trans dj).symm)
   rw [hn]
   simp
 .rcases oV.1 hx with e|e
  .obtain ⟨y,hy,e2⟩:=f.wC x e
   exact ⟨y,(HD f.iU).2 (.inl hy),e2⟩
  .have e:x=a:=by simpa using e
   subst e
   by_cases hex:∀ z∈s,aT x z≠0
   .exact ⟨x,(HD f.iU).2 (.inr ⟨rfl,hex⟩),rfl⟩
   .have:∃ z,z∈s/\aT x z=0:=by
     apply Classical.byContradiction
     intro hn
     exact hex (λz hz e=>hn ⟨z,hz,e⟩)
    obtain ⟨z,hz,e⟩:=this
    exact ⟨z,(HD f.iU).2 (.inl hz),(bW.1 e).symm⟩
theorem bw.nil:bw [] []:=⟨List.Pairwise.nil,nofun,nofun⟩
def eG (l:aW):aW:=l.foldl (λs a=>cD a s) []
theorem zlT (l:aW) (a:ak):eG (l++[a])=cD a (eG l):=by
 unfold eG
 rw [List.foldl_append]
 rfl
theorem zo6:∀ (m:aW) {l s:aW},bw l s->bw (l++m) (m.foldl (λs a=>cD a s) s)
 | [],l,s,f=>by rw [bu];exact f
 |a::m,l,s,f=>by
  have:=zo6 m (f.put a)
  rwa [jD] at this
theorem qK (l:aW):bw l (eG l):=zo6 l bw.nil
theorem bw.is (f:bw l s):s=eG l:=f.eq (qK l)
theorem zwx:∀ {l:aW},eh l->∀ {x y:ak},x∈l->y∈l->x=y\/aT x y < 0\/aT y x < 0
 | [],_,_,_,h,_=>by simp at h
 |a::l,h,x,y,hx,hy=>by
  have g:=ub.1 h
  rcases dG.1 hx with e1|e1
  .rcases dG.1 hy with e2|e2
   .exact .inl (e1.trans e2.symm)
   .subst e1;exact .inr (.inl (g.1 y e2))
  .rcases dG.1 hy with e2|e2
   .subst e2;exact .inr (.inr (g.1 x e1))
   .exact zwx g.2 e1 e2
theorem zDJ (h:eh l):bw l l:=by
 refine ⟨h,λy hy=>?_,λx hx=>⟨x,hx,rfl⟩⟩
 have hm:y∈l.filter (λx=>cF x == cF y):=J5.2 ⟨hy,by simp⟩
 cases hf:l.filter (λx=>cF x == cF y) with
 |nil=>rw [hf] at hm;simp at hm
 |cons z r =>
  have hz:z∈l/\_:=J5.1 (by rw [hf];exact lj ..)
  have he:cF z=cF y:=by simpa using hz.2
  show some z=some y
  congr 1
  rcases zwx h hz.1 hy with g|g|g
  .exact g
  .exact absurd he (Jw g)
  .exact absurd he.symm (Jw g)
theorem UA (h:eh l):eG l=l:=(zDJ h).is.symm
def pq (l:aW):Nat->aW
 |0=>[]
 |m+1=>pq l m++(if m≠0/\aT (l.getD m ab) (l.getD (m - 1) ab)=0 then [] else [l.getD m ab])
theorem zki {m:Nat} (h:m < l.length):l.take (m+1)=l.take m++[l.getD m ab]:=by
 rw [nT,kK,gI h]
 rfl
theorem zy8 {l:aW} (hs:ie l 0 l.length):∀ m,m<=l.length->bw (l.take m) (pq l m)
 |0,_=>bw.nil
 |m+1,hm=>by
  have f:=zy8 hs m (by omega)
  rw [zki (by omega)]
  unfold pq
  split
  .rename_i h
   rw [bu]
   refine ⟨f.iU,λy hy=>?_,λx hx=>?_⟩
   .rw [zL,List.head?_append,f.first y hy]
    rfl
   .rcases oV.1 hx with e|e
    .exact f.wC x e
    .have e:x=l.getD m ab:=by simpa using e
     subst e
     obtain ⟨y,hy,e2⟩:=f.wC (l.getD (m - 1) ab) (by
      refine ig (i:=m - 1) ?_
      rw [lX,aE (by omega)]
      exact jf (by omega))
     exact ⟨y,hy,e2.trans (bW.1 h.2).symm⟩
  .rename_i h
   have aP:∀ x∈l.take m,aT x (l.getD m ab) < 0:=by
    intro x hx
    obtain ⟨i,hi⟩:=AP hx
    rw [lX] at hi
    split at hi
    .rename_i vB
     have e:x=l.getD i ab:=by rw [kK,hi];rfl
     rw [e]
     have h1:=hs m (by omega) (by omega)
     have h2:aT (l.getD (m - 1) ab) (l.getD m ab)≠0:=λe2=>h ⟨by omega,by rw [wS];omega⟩
     exact zhE (zj hs (i:=i) (j:=m - 1) (by omega) (by omega) (by omega)) (by omega)
    .cases hi
   refine ⟨List.pairwise_append.2 ⟨f.iU,List.pairwise_singleton ..,λa ha b hb=>?_⟩,λy hy=>?_,λx hx=>?_⟩
   .have e:b=l.getD m ab:=by simpa using hb
    rw [e]
    exact aP a (f.mem ha)
   .rw [zL,List.head?_append]
    rcases oV.1 hy with e|e
    .rw [f.first y e]
     rfl
    .have e:y=l.getD m ab:=by simpa using e
     subst e
     have hn:(l.take m).filter (λx=>cF x == cF (l.getD m ab))=[]:=by
      rw [RH]
      intro x hx dj
      exact Jw (aP x hx) (by simpa using dj)
     rw [hn]
     simp
   .rcases oV.1 hx with e|e
    .obtain ⟨y,hy,e2⟩:=f.wC x e
     exact ⟨y,List.mem_append_left _ hy,e2⟩
    .exact ⟨x,UO _ e,rfl⟩
theorem bw.over {l':aW} (f:bw l' s) (hp:l'.Perm l) (eZ:eY l l'):bw l s:=⟨f.iU,λy hy=>by rw [<- eZ];exact f.first y hy,λx hx=>f.wC x (hp.mem_iff.2 hx)⟩
theorem zv7 {l':aW} (hp:l'.Perm l) (eZ:eY l l') (hs:ie l' 0 l.length):pq l' l'.length=eG l:=by
 have f:=zy8 (l:=l') (by rw [hp.length_eq];exact hs) l'.length (bo _)
 rw [AQ] at f
 exact (f.over hp eZ).is
end Go.Am
namespace Go.Am
variable {l s:aW} {v:ae} {t u:TypeId} {h0 h1:Heap} {A c i m n w:Nat} {kd:IntKind} {bs:List bh}
theorem zj6:∀ {l:aW} {row:List ae},row.length=l.length*11->(∀ (i:Nat) (x:ak),l[i]? = some x->cut row (i*11) 11=some x.cells)->row=aS l
 | [],row,hl,_=>by
  have:row=[]:=zG.1 (by simpa using hl)
  rw [this]
  rfl
 |x::l,row,hl,h=>by
  have h0:=h 0 x rfl
  have j7:row.length=l.length*11+11:=by rw [hl,de];omega
  unfold cut at h0
  rw [aE (by omega)] at h0
  simp only [Nat.zero_mul,zO,dY] at h0
  have hr:=zj6 (l:=l) (row:=row.drop 11) (by rw [lk];omega) (λi y hy=>by
   have hi:=(dz.1 hy).1
   have g:=h (i+1) y hy
   unfold cut at g ⊢
   rw [aE (by omega)] at g
   rw [aE (by rw [lk];omega),Dd,show 11+i*11=(i+1)*11 by omega]
   exact g)
  have e:row=row.take 11++row.drop 11:=(qo 11 row).symm
  rw [e,h0,hr]
  rfl
theorem sF (l m:aW):aS (l++m)=aS l++aS m:=by unfold aS;rw [List.flatMap_append]
structure ue (h:Heap) (v:ae):Prop where
 sl:Sl aJ.atom h v []
 no:v=.slice none 0 0\/∃ B o,v=.slice (some ⟨B,o,none⟩) 0 0
theorem ue.nil {h:Heap}:ue h (.slice none 0 0):=⟨Sl.nil,.inl rfl⟩
theorem ue.mono {h h':Heap} {v:ae} (f:ue h v) (i:b8 h h'):ue h' v:=⟨f.sl.mono i,f.no⟩
theorem ue.lay {h:Heap} {v:ae} (f:ue h v) (bs:List bh) (w:Nat):ue (h.lay bs w) v:=⟨f.sl.lay bs w,f.no⟩
theorem ue.over {h1 h2:Heap} {v:ae} {bs:List bh} {w:Nat} (f:ue h1 v) (x:Ext (h1.lay bs w) h2):ue h2 v:=⟨f.sl.over x,f.no⟩
def eo (h0 h:Heap) (u:TypeId) (v:ae) (s:aW):Prop :=
 (s=[]/\ue h v)\/∃ A t,v=.slice (some ⟨A,0,none⟩) s.length (G*11+(s++t).length)/\Holds h A (.row (aS (s++t)) u false)/\h0.size<=A/\(s++t).length<=100000
theorem eo.mono {h0 h h':Heap} {u:TypeId} {v:ae} {s:aW} (f:eo h0 h u v s) (i:b8 h h'):eo h0 h' u v s:=by
 rcases f with ⟨e,f⟩|⟨A,t,e1,e2,e3⟩
 .exact .inl ⟨e,f.mono i⟩
 .exact .inr ⟨A,t,e1,e2.mono i,e3⟩
theorem eo.down {h:Heap} (f:eo h1 h u v s) (i:h0.size<=h1.size):eo h0 h u v s:=by
 rcases f with f|⟨A,t,e1,e2,e3,e4⟩
 .exact .inl f
 .exact .inr ⟨A,t,e1,e2,by omega,e4⟩
theorem eo.lay {h0 h:Heap} {u:TypeId} {v:ae} {s:aW} (f:eo h0 h u v s) (bs:List bh) (w:Nat):eo h0 (h.lay bs w) u v s:=f.mono (b8.lay h bs w)
theorem AJ:100000 < G:=by unfold G;omega
theorem zEg {h:Heap} {o:Nat} {ro:Bool} (q:Holds h A (.row (aS l) u ro)) (hc:zCb 11 s.length c) (hn:s.length<=100000) (hs:∀ (i:Nat) (x:ak),s[i]? = some x->l[o+i]? = some x):Sl aJ.atom h (.slice (some ⟨A,o*11,none⟩) s.length c) s:=by
 refine .inr ⟨A,o*11,c,aS l,u,ro,rfl,(by have:(100000:Nat)<=maxLen:=by decide
                                         omega),hc,q.lt,q.get,λi x hx=>⟨x.cells,?_,rfl⟩⟩
 show cut (aS l) (o*11+i*11) 11=_
 rw [<- sZ]
 exact ztD (hs i x hx)
theorem eo.sl {h0 h:Heap} {u:TypeId} {v:ae} {s:aW} (f:eo h0 h u v s):Sl aJ.atom h v s:=by
 rcases f with ⟨rfl,f⟩|⟨A,t,rfl,e2,e3,e4⟩
 .exact f.sl
 .have hG:=AJ
  obtain ⟨d1,d2,d3⟩:=CK (k:=11) (q:=(s++t).length) (by decide) (by omega)
  have hle:s.length<=(s++t).length:=by rw [cW];omega
  have:=zEg (o:=0) (s:=s) e2 (.inr ⟨d1,d2,by rw [d3];omega⟩) (by omega) (λi x hx=>by rw [iu,mX (dz.1 hx).1];exact hx)
  simpa using this
def kM (h0 h:Heap) (u:TypeId) (v:ae) (s:aW):Prop :=
 (s=[]/\ue h v)\/∃ A,v=.slice (some ⟨A,0,none⟩) s.length (G*11+s.length)/\Holds h A (.row (aS s) u false)/\h0.size<=A/\s≠[]
theorem kM.own {h:Heap} (f:kM h0 h u v s) (hn:s.length<=100000):eo h0 h u v s:=by
 rcases f with f|⟨A,e1,e2,e3,e4⟩
 .exact .inl f
 .exact .inr ⟨A,[],by rw [bu];exact e1,by rw [bu];exact e2,e3,by rw [bu];exact hn⟩
theorem Ux {h:Heap} (f:Ow aJ.atom h0 h u A v l):kM h0 h u v l:=by
 rcases f with ⟨e1,rfl,e3⟩|⟨row,rfl,e2,e3,e4,e5,e6,e7,e8⟩
 .refine .inl ⟨rfl,?_,?_⟩
  .have f2:Ow aJ.atom h0 h u A v []:=.inl ⟨e1,rfl,e3⟩
   exact f2.sl (by decide)
  .rcases e3 with e3|⟨B,o,e3,_⟩
   .exact .inl e3
   .exact .inr ⟨B,o,e3⟩
 .refine .inr ⟨A,rfl,⟨e4,?_⟩,e3,e2⟩
  have:row=aS l:=zj6 e6 (λi x hx=>by
   obtain ⟨cs,g1,g2⟩:=e8 i x hx
   have g2:cs=x.cells:=g2
   rw [<- g2]
   exact g1)
  rw [<- this]
  exact e5
section
variable {P:Program} {T:bL} {ov:Ov} {d:Option Tmp} {ty:TypeId} {pos:String} {af:Array Edge} {g:Option (Nat × Bool)} {e:Env} {h:Heap} {K:aG}
theorem zzd (t:TypeId) (x:Operand):cy P T ov ⟨d,.call ⟨.builtin .clear,#[x],#[t]⟩,ty,pos,af,g⟩ e h K=iH (rV T t (bz e x) h) K:=by
 show dx ((rV T t (bz e x) h).map λh'=>(undef,h')) K=_
 cases rV T t (bz e x) h <;> rfl
theorem zjO {T:bL} {q:Nat} (hd:T.desc t=some (.slice u)) (hs:cN T u=some 11) (hi:i<=n) (hn:n<=q) (hq:q<=100000):jY T t (.slice (some ⟨A,0,none⟩) n (G*11+q)) (some (.int kd i)) none none=some (.slice (some ⟨A,i*11,none⟩) (n - i) (G*11+(q - i))):=by
 have hG:=AJ
 obtain ⟨d1,d2,d3⟩:=CK (k:=11) (q:=q) (by decide) (by omega)
 unfold jY
 simp only [hd,hs,dX,az (show ¬ G*11+q < G by omega),aE d2]
 rw [d3,Rf (ef.num kd 0 i) (ef.no n) hi hn,jZ,iu]
theorem zyp {T:bL} {q:Nat} (hd:T.desc t=some (.slice u)) (hs:cN T u=some 11) (hi:i<=n) (hn:n<=q) (hq:q<=100000):jY T t (.slice (some ⟨A,0,none⟩) n (G*11+q)) none (some (.int kd i)) none=some (.slice (some ⟨A,0,none⟩) i (G*11+q)):=by
 have hG:=AJ
 obtain ⟨d1,d2,d3⟩:=CK (k:=11) (q:=q) (by decide) (by omega)
 unfold jY
 simp only [hd,hs,dX,az (show ¬ G*11+q < G by omega),aE d2]
 rw [d3,Rf (ef.no 0) (ef.num kd n i) (sg _) (by omega),jZ]
 simp
theorem zqC (n:Nat):oU ab.cells n=aS (List.replicate n ab):=by
 unfold oU aS
 rw [List.flatMap_def,List.map_replicate]
theorem zyC (hi:i<=l.length):aF (aS l) (i*11) (aS (List.replicate (l.length - i) ab))=aS (l.take i++List.replicate (l.length - i) ab):=by
 have e:l=l.take i++l.drop i:=(qo i l).symm
 have h1:(aS (l.take i)).length=i*11:=by rw [ob,fj];congr 1;omega
 have h2:(aS (List.replicate (l.length - i) ab)).length=(l.length - i)*11:=by rw [ob,H6]
 have h3:(aS l).length=l.length*11:=ob l
 unfold aF
 rw [sF,zE (by rw [h2,h3];omega),bu]
 congr 1
 conv=>lhs;rw [e]
 rw [sF,List.take_left' h1]
theorem zun {T:bL} {k bytes:Nat} (q:Holds h1 A (.row (aS l) u false)) (hd:T.desc t=some (.slice u)) (hi:T.info u=some (k,bytes,ab.cells)) (hle:i<=l.length) (hn:n=l.length - i)
 (hK:∀ h',Holds h' A (.row (aS (l.take i++List.replicate (l.length - i) ab)) u false)->fB A (h1.lay bs w) h'->K undef h'):iH (rV T t (.slice (some ⟨A,i*11,none⟩) n c) (h1.lay bs w)) K:=by
 subst hn
 by_cases h0:l.length - i=0
 .have e:rV T t (.slice (some ⟨A,i*11,none⟩) (l.length - i) c) (h1.lay bs w)=some (h1.lay bs w):=by
   unfold rV
   simp only [hd,aE h0]
  rw [e]
  refine hK _ ?_ (Ext.refl _).iW
  rw [h0,List.replicate_zero,bu,fX (by omega)]
  exact q.on bs w
 .have hg:(h1.lay bs w).get A=some (.row (aS l) u false):=q.lay bs w
  have hA:A < (h1.lay bs w).size:=(q.on bs w).lt
  have bn:(aS (List.replicate (l.length - i) ab)).all one=true:=by
   rw [gK]
   intro x hx
   unfold aS at hx
   obtain ⟨y,hy,yV⟩:=J1.1 hx
   have:=(List.mem_replicate.1 hy).2
   subst this
   exact gK.1 (by rfl:ab.cells.all one=true) x yV
  have e:rV T t (.slice (some ⟨A,i*11,none⟩) (l.length - i) c) (h1.lay bs w)=some ((h1.lay bs w).set A (.row (aS (l.take i++List.replicate (l.length - i) ab)) u false)):=by
   unfold rV
   simp only [hd,az h0,hi,dX]
   unfold kH
   rw [hg]
   simp only
   rw [zqC,aE (by simp only [dP,gY];exact ⟨by rw [ob,ob,H6];omega,bn⟩),zyC hle]
  rw [e]
  refine hK _ ⟨by rw [Heap.size_set];exact hA,by rw [Heap.aR _ _ _ _ hA,aE rfl]⟩ ⟨by rw [Heap.size_set];exact bo _,λB hB ba=>by rw [Heap.aR _ _ _ _ hA,az ba],by rw [Heap.bX];omega⟩
end
theorem znc {h:Heap} {t:aW} (q:Holds h A (.row (aS (s++t)) u false)) (hA:h0.size<=A) (hn:(s++t).length<=100000) (hl:n=s.length) (hc:c=G*11+(s++t).length):eo h0 h u (.slice (some ⟨A,0,none⟩) n c) s:=by
 subst hl hc
 exact .inr ⟨A,t,rfl,q,hA,hn⟩
theorem RE {h:Heap} (q:Holds h A (.row (aS s) u false)) (hA:h0.size<=A) (hn:s.length<=100000) (hc:c=G*11+s.length):eo h0 h u (.slice (some ⟨A,0,none⟩) s.length c) s :=
 znc (t:=[]) (by rw [bu];exact q) hA (by rw [bu];exact hn) rfl (by rw [bu];exact hc)
theorem zsD (h:l.length < 2):pq l l.length=l:=by
 match l,h with
 | [],_=>rfl
 | [x],_=>rfl
theorem zv6 (hm:m < l.length) (h0:m≠0) (h:pq l m=l.take m) (ba:aT (l.getD m ab) (l.getD (m - 1) ab)≠0):pq l (m+1)=l.take (m+1):=by
 rw [zki hm,<- h]
 show pq l m++_=_
 rw [az (λg=>ba g.2)]
theorem ztM (h0:m≠0) (he:aT (l.getD m ab) (l.getD (m - 1) ab)=0):pq l (m+1)=pq l m:=by
 show pq l m++_=_
 rw [aE ⟨h0,he⟩,bu]
theorem zy7 (ba:aT (l.getD m ab) (l.getD (m - 1) ab)≠0):pq l (m+1)=pq l m++[l.getD m ab]:=by
 show pq l m++_=_
 rw [az (λg=>ba g.2)]
theorem zA2 {x:ak} (hi:i < l.length):(l.set i x).take (i+1)=l.take i++[x]:=by
 rw [nT,sX,aE rfl,aE hi,List.take_set_of_le (bo _)]
 rfl
theorem zml {p:Nat} {x:ak} (h:i≠p):(l.set i x).getD p ab=l.getD p ab:=by
 rw [kK,kK,sX,az h]
theorem Sn (h:∀ k,0 < k->k < l.length->aT (l.getD (k - 1) ab) (l.getD k ab) < 0) {j:Nat} (dF:i < j) (hj:j < l.length):aT (l.getD i ab) (l.getD j ab) < 0:=by
 induction j with
 |zero=>omega
 |succ j ih =>
  have g:=h (j+1) (by omega) hj
  rw [C7] at g
  by_cases e:i=j
  .subst e
   exact g
  .exact CC (ih (by omega) (by omega)) g
theorem fQ:eh l↔∀ k,0 < k->k < l.length->aT (l.getD (k - 1) ab) (l.getD k ab) < 0:=by
 constructor
 .intro h k h1 h2
  have:=Jz.1 h (k - 1) k (by omega) h2 (by omega)
  rw [kK,kK,gI h2,gI (show k - 1 < l.length by omega)]
  exact this
 .intro h
  refine Jz.2 (λi j hi hj dF=>?_)
  have:=Sn h dF hj
  rw [kK,kK,gI hj,gI hi] at this
  exact this
def D9 (l:aW):Bool:=(List.range l.length).all (λk=>k == 0 || decide (aT (l.getD (k - 1) ab) (l.getD k ab) < 0))
theorem kY:D9 l=true↔eh l:=by
 rw [fQ]
 unfold D9
 rw [gK]
 constructor
 .intro h k h1 h2
  have:=h k (uc.2 h2)
  simp only [qt,beq_iff_eq,gY] at this
  rcases this with e|e
  .omega
  .exact e
 .intro h k hk
  simp only [qt,beq_iff_eq,gY]
  by_cases e:k=0
  .exact .inl e
  .exact .inr (h k (by omega) (uc.1 hk))
theorem zBx (h:¬ eh l):D9 l=false:=by
 cases e:D9 l
 .rfl
 .exact absurd (kY.1 e) h
def bH (l:aW) (a:ak):Bool:=l.any (λx=>cF x == cF a)
theorem cY {a:ak}:bH l a=true↔∃ x∈l,cF x=cF a:=by
 unfold bH
 rw [wq]
 simp only [beq_iff_eq]
theorem Jm (l:aW) (a:ak):bH (eG l) a=bH l a:=by
 have f:=qK l
 rw [Bool.eq_iff_iff,cY,cY]
 constructor
 .rintro ⟨x,hx,e⟩
  exact ⟨x,f.mem hx,e⟩
 .rintro ⟨x,hx,e⟩
  obtain ⟨y,hy,e2⟩:=f.wC x hx
  exact ⟨y,hy,e2.trans e⟩
theorem Es (h:∀ x∈l,x.aV=true):∀ x∈eG l,x.aV=true:=λx hx=>h x ((qK l).mem hx)
theorem zjZ (a:ak):∀ s:aW,(cD a s).length<=s.length+1
 | []=>by simp [cD]
 |x::r=>by
  have:=zjZ a r
  unfold cD
  repeat' split
  all_goals simp only [de]
  all_goals omega
theorem zfh:∀ (m s:aW),(m.foldl (λs a=>cD a s) s).length<=s.length+m.length
 | [],s=>by simp
 |a::m,s=>by
  have h1:=zfh m (cD a s)
  have h2:=zjZ a s
  simp only [wu,de]
  omega
theorem zk (l:aW):(eG l).length<=l.length:=by
 have:=zfh l []
 simpa [eG] using this
structure fm (l:aW) (a:ak) (i:Nat):Prop where
 le:i<=l.length
 lo:∀ k,k < i->aT (l.getD k ab) a < 0
 hi:∀ k,i<=k->k < l.length->¬ aT (l.getD k ab) a < 0
theorem fm.has {a:ak} (p:fm l a i) (hs:eh l):bH l a=true↔i < l.length/\aT (l.getD i ab) a=0:=by
 rw [cY]
 constructor
 .rintro ⟨x,hx,e⟩
  obtain ⟨k,hk⟩:=AP hx
  have kF:=(dz.1 hk).1
  have e2:l.getD k ab=x:=by rw [kK,hk];rfl
  have h0:aT (l.getD k ab) a=0:=by rw [e2];exact bW.2 e
  have ry:i<=k:=by
   rcases mq k i with g|g
   .have:=p.lo k g;omega
   .exact g
  refine ⟨by omega,?_⟩
  rcases Nat.eq_or_lt_of_le ry with g|g
  .rw [g];exact h0
  .have h1:=Sn (fQ.1 hs) g kF
   have h2:=p.hi i (bo _) (by omega)
   have h3:=Rh h1 (Int.le_of_eq h0)
   exact absurd h3 h2
 .rintro ⟨h1,h2⟩
  exact ⟨_,ig (jf h1),bW.1 h2⟩
theorem zAD (hi:i+n<=l.length):aF (aS l) (i*11) (aS (List.replicate n ab))=aS (l.take i++(List.replicate n ab++l.drop (i+n))):=by
 have e:l=l.take i++l.drop i:=(qo i l).symm
 have h1:(aS (l.take i)).length=i*11:=by rw [ob,fj];congr 1;omega
 have e2:l=l.take (i+n)++l.drop (i+n):=(qo (i+n) l).symm
 have h2:(aS (l.take (i+n))).length=i*11+(aS (List.replicate n ab)).length:=by rw [ob,ob,fj,H6,<- sZ];congr 1;omega
 unfold aF
 have f1:(aS l).take (i*11)=aS (l.take i):=by
  conv=>lhs;rw [e]
  rw [sF,List.take_left' h1]
 have f2:(aS l).drop (i*11+(aS (List.replicate n ab)).length)=aS (l.drop (i+n)):=by
  conv=>lhs;rw [e2]
  rw [sF,List.drop_left' h2]
 rw [f1,f2,sF,sF,jD]
theorem zwT {T:bL} {k bytes:Nat} {K:aG} (q:Holds h1 A (.row (aS l) u false)) (hd:T.desc t=some (.slice u)) (hi:T.info u=some (k,bytes,ab.cells)) (hle:i+n<=l.length)
 (hK:∀ h',Holds h' A (.row (aS (l.take i++(List.replicate n ab++l.drop (i+n)))) u false)->fB A (h1.lay bs w) h'->K undef h'):iH (rV T t (.slice (some ⟨A,i*11,none⟩) n c) (h1.lay bs w)) K:=by
 by_cases h0:n=0
 .subst h0
  have e:rV T t (.slice (some ⟨A,i*11,none⟩) 0 c) (h1.lay bs w)=some (h1.lay bs w):=by
   unfold rV
   simp only [hd,if_true]
  rw [e]
  refine hK _ ?_ (Ext.refl _).iW
  rw [List.replicate_zero,qu,jh,qo]
  exact q.on bs w
 .have hg:(h1.lay bs w).get A=some (.row (aS l) u false):=q.lay bs w
  have hA:A < (h1.lay bs w).size:=(q.on bs w).lt
  have bn:(aS (List.replicate n ab)).all one=true:=by
   rw [gK]
   intro x hx
   unfold aS at hx
   obtain ⟨y,hy,yV⟩:=J1.1 hx
   have:=(List.mem_replicate.1 hy).2
   subst this
   exact gK.1 (by rfl:ab.cells.all one=true) x yV
  have e:rV T t (.slice (some ⟨A,i*11,none⟩) n c) (h1.lay bs w)=some ((h1.lay bs w).set A (.row (aS (l.take i++(List.replicate n ab++l.drop (i+n)))) u false)):=by
   unfold rV
   simp only [hd,az h0,hi,dX]
   unfold kH
   rw [hg]
   simp only
   rw [zqC,aE (by simp only [dP,gY];exact ⟨by rw [ob,ob,H6];omega,bn⟩),zAD hle]
  rw [e]
  refine hK _ ⟨by rw [Heap.size_set];exact hA,by rw [Heap.aR _ _ _ _ hA,aE rfl]⟩ ⟨by rw [Heap.size_set];exact bo _,λB hB ba=>by rw [Heap.aR _ _ _ _ hA,az ba],by rw [Heap.bX];omega⟩
abbrev aJ.atoms:aJ (aW) :=
 { k:=1,R:=λh cs x=>∃ v,cs=[v]/\Sl aJ.atom h v x
   len:=by rintro h cs x ⟨v,rfl,_⟩;rfl
   mono:=by rintro h h' cs x i ⟨v,e,f⟩;exact ⟨v,e,f.mono i⟩
   i9:=by rintro h cs x ⟨v,rfl,f⟩;have:=f.one;simp only [gL,ij,this];rfl }
theorem zDW {T:bL} {e:TypeId} {i:Int} {K:aG} {l:List (aW)} {x:aW} (f:Sl aJ.atoms h1 v l) (hd:T.desc t=some (.slice e)) (hs:cN T e=some 1) (h0:0<=i) (hx:l[i.toNat]? = some x) (hk:∀ p b,Sl aJ.atom h1 b x->ei h1 p [b]->K p (h1.lay bs w)):aD (jF T t v (.int kd i)) (h1.lay bs w) K:=by
 have hi:=(dz.1 hx).1
 refine zt f hd hs h0 (by omega) (λx' p cs kW hr hp=>?_)
 rw [hx] at kW
 cases kW
 obtain ⟨b,rfl,hb⟩:=hr
 exact hk p b hb hp
end Go.Am

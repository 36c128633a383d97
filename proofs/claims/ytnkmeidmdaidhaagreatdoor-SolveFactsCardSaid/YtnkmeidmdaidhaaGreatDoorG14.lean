/- Sorted lists of atoms, each text once: plain facts. No condition. -/
import Derived.Test.YtnkmeidmdaidhaaGreatDoorG13
set_option linter.unusedSimpArgs false
set_option linter.unusedVariables false
namespace Go.Am
variable {a b:ae} {l s:aN}
theorem je:bj a b=0↔iG a=iG b:=⟨λh=>Qm h,λh=>by unfold bj;rw [h,Ql]⟩
theorem zgO {c:ae} (h1:bj a b < 0) (h2:bj b c < 0):bj a c < 0:=XP h1 (Int.le_of_lt h2)
theorem zlr (h1:bj a b < 0) (h2:bj b a < 0):False:=by
 have:=HA a b
 omega
def gh (s:aN):Prop:=s.Pairwise (λx y=>bj x y < 0)
structure bw (l s:aN):Prop where
 kJ:gh s
 first:∀ y∈s,(l.filter (λx=>iG x == iG y)).head? = some y
 BU:∀ x∈l,∃ y∈s,iG y=iG x
theorem bw.mem (f:bw l s) {y:ae} (h:y∈s):y∈l:=(Il.1 (List.mem_of_mem_head? (f.first y h))).1
theorem Ia:∀ {s1 s2:aN},gh s1->gh s2->(∀ x,x∈s1↔x∈s2)->s1=s2
 | [],[],_,_,_=>rfl
 | [],y::r,_,_,h=>absurd ((h y).2 (np ..)) (by simp)
 |x::r,[],_,_,h=>absurd ((h x).1 (np ..)) (by simp)
 |x::r1,y::r2,h1,h2,h=>by
  have g1:=vt.1 h1
  have g2:=vt.1 h2
  have e:x=y:=by
   rcases df.1 ((h x).1 (np ..)) with e|hx
   .exact e
   .rcases df.1 ((h y).2 (np ..)) with e|hy
    .exact e.symm
    .exact (zlr (g2.1 x hx) (g1.1 y hy)).elim
  subst e
  rw [Ia (s1:=r1) (s2:=r2) g1.2 g2.2 (λz=>⟨λhz=>?_,λhz=>?_⟩)]
  .rcases df.1 ((h z).1 (pS _ hz)) with e|lg
   .subst e
    have:=g1.1 z hz
    rw [FR] at this
    omega
   .exact lg
  .rcases df.1 ((h z).2 (pS _ hz)) with e|lg
   .subst e
    have:=g2.1 z hz
    rw [FR] at this
    omega
   .exact lg
theorem bw.sub {s1 s2:aN} (f:bw l s1) (g:bw l s2) {y:ae} (h:y∈s1):y∈s2:=by
 obtain ⟨z,hz,e⟩:=g.BU y (f.mem h)
 have h1:=f.first y h
 have h2:=g.first z hz
 rw [e] at h2
 rw [h1] at h2
 cases h2
 exact hz
theorem bw.eq {s1 s2:aN} (f:bw l s1) (g:bw l s2):s1=s2:=Ia f.kJ g.kJ (λx=>⟨λh=>f.sub g h,λh=>g.sub f h⟩)
def iZ (a:ae):aN->aN
 | []=>[a]
 |x::r=>if bj a x < 0 then a::x::r else if bj a x=0 then x::r else x::iZ a r
theorem FV {a y:ae}:∀ {s:aN},gh s->(y∈iZ a s↔y∈s\/(y=a/\∀ x∈s,bj a x≠0))
 | [],_=>by simp [iZ]
 |x::r,h=>by
  have g:=vt.1 h
  unfold iZ
  by_cases h1:bj a x < 0
  .rw [aD h1,df]
   constructor
   .rintro (e|e)
    .right
     refine ⟨e,λz hz=>?_⟩
     rcases df.1 hz with e2|lg
     .subst e2;omega
     .have:=zgO h1 (g.1 z lg);omega
    .exact .inl e
   .rintro (e|⟨e,_⟩)
    .exact .inr e
    .exact .inl e
  .rw [az h1]
   by_cases h2:bj a x=0
   .rw [aD h2]
    constructor
    .exact λe=>.inl e
    .rintro (e|⟨e,e2⟩)
     .exact e
     .exact absurd h2 (e2 x (np ..))
   .rw [az h2,df,FV g.2,df]
    constructor
    .rintro (e|e|⟨e,e2⟩)
     .exact .inl (.inl e)
     .exact .inl (.inr e)
     .refine .inr ⟨e,λz hz=>?_⟩
      rcases df.1 hz with e3|lg
      .subst e3;exact h2
      .exact e2 z lg
    .rintro ((e|e)|⟨e,e2⟩)
     .exact .inl e
     .exact .inr (.inl e)
     .exact .inr (.inr ⟨e,λz hz=>e2 z (pS _ hz)⟩)
theorem Yy {a:ae}:∀ {s:aN},gh s->gh (iZ a s)
 | [],_=>by simp [iZ,gh]
 |x::r,h=>by
  have g:=vt.1 h
  unfold iZ
  by_cases h1:bj a x < 0
  .rw [aD h1]
   refine vt.2 ⟨λz hz=>?_,h⟩
   rcases df.1 hz with e|lg
   .subst e;exact h1
   .exact zgO h1 (g.1 z lg)
  .rw [az h1]
   by_cases h2:bj a x=0
   .rw [aD h2];exact h
   .rw [az h2]
    refine vt.2 ⟨λz hz=>?_,Yy g.2⟩
    rcases (FV g.2).1 hz with e|⟨e,_⟩
    .exact g.1 z e
    .subst e
     have:=HA z x
     omega
theorem bw.put (f:bw l s) (a:ae):bw (l++[a]) (iZ a s):=by
 refine ⟨Yy f.kJ,λy hy=>?_,λx hx=>?_⟩
 .rw [NH,List.head?_append]
  rcases (FV f.kJ).1 hy with e|⟨e,e2⟩
  .rw [f.first y e]
   rfl
  .subst e
   have hn:l.filter (λx=>iG x == iG y)=[]:=by
    rw [Qg]
    intro x hx cS
    rw [beq_iff_eq] at cS
    obtain ⟨z,hz,e3⟩:=f.BU x hx
    exact e2 z hz (je.2 (e3.trans cS).symm)
   rw [hn]
   simp
 .rcases gg.1 hx with e|e
  .obtain ⟨y,hy,e2⟩:=f.BU x e
   exact ⟨y,(FV f.kJ).2 (.inl hy),e2⟩
  .have e:x=a:=by simpa using e
   subst e
   by_cases hex:∀ z∈s,bj x z≠0
   .exact ⟨x,(FV f.kJ).2 (.inr ⟨rfl,hex⟩),rfl⟩
   .have:∃ z,z∈s/\bj x z=0:=by
     apply Classical.byContradiction
     intro hn
     exact hex (λz hz e=>hn ⟨z,hz,e⟩)
    obtain ⟨z,hz,e⟩:=this
    exact ⟨z,(FV f.kJ).2 (.inl hz),(je.1 e).symm⟩
theorem bw.nil:bw [] []:=⟨List.Pairwise.nil,nofun,nofun⟩
def gW (l:aN):aN:=l.foldl (λs a=>iZ a s) []
theorem zoL:∀ (m:aN) {l s:aN},bw l s->bw (l++m) (m.foldl (λs a=>iZ a s) s)
 | [],l,s,f=>by rw [bC];exact f
 |a::m,l,s,f=>by
  have:=zoL m (f.put a)
  rwa [se] at this
theorem yQ (l:aN):bw l (gW l):=zoL l bw.nil
theorem bw.is (f:bw l s):s=gW l:=f.eq (yQ l)
def oH (l:aN):Nat->aN
 |0=>[]
 |m+1=>oH l m++(if m≠0/\bj (l.getD m ah) (l.getD (m - 1) ah)=0 then [] else [l.getD m ah])
theorem Yh {m:Nat} (h:m < l.length):l.take (m+1)=l.take m++[l.getD m ah]:=by
 rw [lr,me,iH h]
 rfl
theorem zya {l:aN} (hs:gQ l 0 l.length):∀ m,m<=l.length->bw (l.take m) (oH l m)
 |0,_=>bw.nil
 |m+1,hm=>by
  have f:=zya hs m (by omega)
  rw [Yh (by omega)]
  unfold oH
  split
  .rename_i h
   rw [bC]
   refine ⟨f.kJ,λy hy=>?_,λx hx=>?_⟩
   .rw [NH,List.head?_append,f.first y hy]
    rfl
   .rcases gg.1 hx with e|e
    .exact f.BU x e
    .have e:x=l.getD m ah:=by simpa using e
     subst e
     obtain ⟨y,hy,e2⟩:=f.BU (l.getD (m - 1) ah) (by
      refine en (i:=m - 1) ?_
      rw [qN,aD (by omega)]
      exact lO (by omega))
     exact ⟨y,hy,e2.trans (je.1 h.2).symm⟩
  .rename_i h
   have aT:∀ x∈l.take m,bj x (l.getD m ah) < 0:=by
    intro x hx
    obtain ⟨i,hi⟩:=Gd hx
    rw [qN] at hi
    split at hi
    .rename_i tS
     have e:x=l.getD i ah:=by rw [me,hi];rfl
     rw [e]
     have h1:=hs m (by omega) (by omega)
     have h2:bj (l.getD (m - 1) ah) (l.getD m ah)≠0:=λe2=>h ⟨by omega,by rw [HA];omega⟩
     exact XO (xK hs (i:=i) (j:=m - 1) (by omega) (by omega) (by omega)) (by omega)
    .cases hi
   refine ⟨List.pairwise_append.2 ⟨f.kJ,List.pairwise_singleton ..,λa ha b hb=>?_⟩,λy hy=>?_,λx hx=>?_⟩
   .have e:b=l.getD m ah:=by simpa using hb
    rw [e]
    exact aT a (f.mem ha)
   .rw [NH,List.head?_append]
    rcases gg.1 hy with e|e
    .rw [f.first y e]
     rfl
    .have e:y=l.getD m ah:=by simpa using e
     subst e
     have hn:(l.take m).filter (λx=>iG x == iG (l.getD m ah))=[]:=by
      rw [Qg]
      intro x hx cS
      exact Qx (aT x hx) (by simpa using cS)
     rw [hn]
     simp
   .rcases gg.1 hx with e|e
    .obtain ⟨y,hy,e2⟩:=f.BU x e
     exact ⟨y,xX _ hy,e2⟩
    .exact ⟨x,H3 _ e,rfl⟩
theorem bw.over {l':aN} (f:bw l' s) (hp:l'.Perm l) (cZ:eM l l'):bw l s:=⟨f.kJ,λy hy=>by rw [<- cZ];exact f.first y hy,λx hx=>f.BU x (hp.mem_iff.2 hx)⟩
theorem zvp {l':aN} (hp:l'.Perm l) (cZ:eM l l') (hs:gQ l' 0 l.length):oH l' l'.length=gW l:=by
 have f:=zya (l:=l') (by rw [hp.length_eq];exact hs) l'.length (aR _)
 rw [Ge] at f
 exact (f.over hp cZ).is
end Go.Am
namespace Go.Am
variable {l s:aN} {v:ai} {t u:TypeId} {h0:Heap} {A c i m n:Nat}
theorem zj8:∀ {l:aN} {row:List ai},row.length=l.length*11->(∀ (i:Nat) (x:ae),l[i]? = some x->cut row (i*11) 11=some x.cells)->row=bm l
 | [],row,hl,_=>by
  have:row=[]:=C8.1 (by simpa using hl)
  rw [this]
  rfl
 |x::l,row,hl,h=>by
  have h0:=h 0 x rfl
  have nb:row.length=l.length*11+11:=by rw [hl,ek];omega
  unfold cut at h0
  rw [aD (by omega)] at h0
  simp only [Nat.zero_mul,Gr,eh] at h0
  have hr:=zj8 (l:=l) (row:=row.drop 11) (by rw [mf];omega) (λi y hy=>by
   have hi:=(fG.1 hy).1
   have g:=h (i+1) y hy
   unfold cut at g ⊢
   rw [aD (by omega)] at g
   rw [aD (by rw [mf];omega),BG,show 11+i*11=(i+1)*11 by omega]
   exact g)
  have e:row=row.take 11++row.drop 11:=(H4 11 row).symm
  rw [e,h0,hr]
  rfl
theorem MH (l m:aN):bm (l++m)=bm l++bm m:=by unfold bm;rw [List.flatMap_append]
structure rm (h:Heap) (v:ai):Prop where
 sl:Sl aC.atom h v []
 no:v=.slice none 0 0\/∃ B o,v=.slice (some ⟨B,o,none⟩) 0 0
theorem rm.nil {h:Heap}:rm h (.slice none 0 0):=⟨Sl.nil,.inl rfl⟩
theorem rm.mono {h h':Heap} {v:ai} (f:rm h v) (i:bN h h'):rm h' v:=⟨f.sl.mono i,f.no⟩
theorem rm.lay {h:Heap} {v:ai} (f:rm h v) (bs:List aZ) (w:Nat):rm (h.lay bs w) v:=⟨f.sl.lay bs w,f.no⟩
theorem rm.over {h1 h2:Heap} {v:ai} {bs:List aZ} {w:Nat} (f:rm h1 v) (x:Ext (h1.lay bs w) h2):rm h2 v:=⟨f.sl.over x,f.no⟩
def jo (h0 h:Heap) (u:TypeId) (v:ai) (s:aN):Prop :=
 (s=[]/\rm h v)\/∃ A t,v=.slice (some ⟨A,0,none⟩) s.length (G*11+(s++t).length)/\Holds h A (.row (bm (s++t)) u false)/\h0.size<=A/\(s++t).length<=100000
theorem jo.mono {h0 h h':Heap} {u:TypeId} {v:ai} {s:aN} (f:jo h0 h u v s) (i:bN h h'):jo h0 h' u v s:=by
 rcases f with ⟨e,f⟩|⟨A,t,e1,e2,e3⟩
 .exact .inl ⟨e,f.mono i⟩
 .exact .inr ⟨A,t,e1,e2.mono i,e3⟩
theorem jo.down {h1 h:Heap} (f:jo h1 h u v s) (i:h0.size<=h1.size):jo h0 h u v s:=by
 rcases f with f|⟨A,t,e1,e2,e3,e4⟩
 .exact .inl f
 .exact .inr ⟨A,t,e1,e2,by omega,e4⟩
theorem jo.lay {h0 h:Heap} {u:TypeId} {v:ai} {s:aN} (f:jo h0 h u v s) (bs:List aZ) (w:Nat):jo h0 (h.lay bs w) u v s:=f.mono (bN.lay h bs w)
theorem NZ:100000 < G:=by unfold G;omega
theorem zAy {h:Heap} {o:Nat} {ro:Bool} (q:Holds h A (.row (bm l) u ro)) (hc:QW 11 s.length c) (hn:s.length<=100000) (hs:∀ (i:Nat) (x:ae),s[i]? = some x->l[o+i]? = some x):Sl aC.atom h (.slice (some ⟨A,o*11,none⟩) s.length c) s:=by
 refine .inr ⟨A,o*11,c,bm l,u,ro,rfl,(by have:(100000:Nat)<=maxLen:=by decide
                                         omega),hc,q.lt,q.get,λi x hx=>⟨x.cells,?_,rfl⟩⟩
 show cut (bm l) (o*11+i*11) 11=_
 rw [<- rk]
 exact zs5 (hs i x hx)
theorem jo.sl {h0 h:Heap} {u:TypeId} {v:ai} {s:aN} (f:jo h0 h u v s):Sl aC.atom h v s:=by
 rcases f with ⟨rfl,f⟩|⟨A,t,rfl,e2,e3,e4⟩
 .exact f.sl
 .have hG:=NZ
  obtain ⟨d1,d2,d3⟩:=HO (k:=11) (q:=(s++t).length) (by decide) (by omega)
  have hle:s.length<=(s++t).length:=by rw [cE];omega
  have:=zAy (o:=0) (s:=s) e2 (.inr ⟨d1,d2,by rw [d3];omega⟩) (by omega) (λi x hx=>by rw [iA,jz (fG.1 hx).1];exact hx)
  simpa using this
def zm (h0 h:Heap) (u:TypeId) (v:ai) (s:aN):Prop :=
 (s=[]/\rm h v)\/∃ A,v=.slice (some ⟨A,0,none⟩) s.length (G*11+s.length)/\Holds h A (.row (bm s) u false)/\h0.size<=A/\s≠[]
theorem zm.own {h:Heap} (f:zm h0 h u v s) (hn:s.length<=100000):jo h0 h u v s:=by
 rcases f with f|⟨A,e1,e2,e3,e4⟩
 .exact .inl f
 .exact .inr ⟨A,[],by rw [bC];exact e1,by rw [bC];exact e2,e3,by rw [bC];exact hn⟩
theorem zxA {h:Heap} (f:Ow aC.atom h0 h u A v l):zm h0 h u v l:=by
 rcases f with ⟨e1,rfl,e3⟩|⟨row,rfl,e2,e3,e4,e5,e6,e7,e8⟩
 .refine .inl ⟨rfl,?_,?_⟩
  .have f2:Ow aC.atom h0 h u A v []:=.inl ⟨e1,rfl,e3⟩
   exact f2.sl (by decide)
  .rcases e3 with e3|⟨B,o,e3,_⟩
   .exact .inl e3
   .exact .inr ⟨B,o,e3⟩
 .refine .inr ⟨A,rfl,⟨e4,?_⟩,e3,e2⟩
  have:row=bm l:=zj8 e6 (λi x hx=>by
   obtain ⟨cs,g1,g2⟩:=e8 i x hx
   have g2:cs=x.cells:=g2
   rw [<- g2]
   exact g1)
  rw [<- this]
  exact e5
section
variable {P:Program} {T:bJ} {ov:Ov} {d:Option Tmp} {ty:TypeId} {pos:String} {af:Array Edge} {g:Option (Nat × Bool)} {e:Env} {h:Heap} {K:aJ}
theorem zCe (t:TypeId) (x:Operand):cv P T ov ⟨d,.call ⟨.builtin .clear,#[x],#[t]⟩,ty,pos,af,g⟩ e h K=lG (vp T t (bz e x) h) K:=by
 show dv ((vp T t (bz e x) h).map λh'=>(undef,h')) K=_
 cases vp T t (bz e x) h <;> rfl
theorem zpn {T:bJ} {q:Nat} {kd:IntKind} (hd:T.desc t=some (.slice u)) (hs:dJ T u=some 11) (hi:i<=n) (hn:n<=q) (hq:q<=100000):lN T t (.slice (some ⟨A,0,none⟩) n (G*11+q)) (some (.int kd i)) none none=some (.slice (some ⟨A,i*11,none⟩) (n - i) (G*11+(q - i))):=by
 have hG:=NZ
 obtain ⟨d1,d2,d3⟩:=HO (k:=11) (q:=q) (by decide) (by omega)
 unfold lN
 simp only [hd,hs,dO,az (show ¬ G*11+q < G by omega),aD d2]
 rw [d3,MS (fp.num kd 0 i) (fp.no n) hi hn,lu,iA]
theorem zBW {T:bJ} {q:Nat} {kd:IntKind} (hd:T.desc t=some (.slice u)) (hs:dJ T u=some 11) (hi:i<=n) (hn:n<=q) (hq:q<=100000):lN T t (.slice (some ⟨A,0,none⟩) n (G*11+q)) none (some (.int kd i)) none=some (.slice (some ⟨A,0,none⟩) i (G*11+q)):=by
 have hG:=NZ
 obtain ⟨d1,d2,d3⟩:=HO (k:=11) (q:=q) (by decide) (by omega)
 unfold lN
 simp only [hd,hs,dO,az (show ¬ G*11+q < G by omega),aD d2]
 rw [d3,MS (fp.no 0) (fp.num kd n i) (iN _) (by omega),lu]
 simp
theorem zyl (n:Nat):nN ah.cells n=bm (List.replicate n ah):=by
 unfold nN bm
 rw [List.flatMap_def,List.map_replicate]
theorem zxI (hi:i<=l.length):aI (bm l) (i*11) (bm (List.replicate (l.length - i) ah))=bm (l.take i++List.replicate (l.length - i) ah):=by
 have e:l=l.take i++l.drop i:=(H4 i l).symm
 have h1:(bm (l.take i)).length=i*11:=by rw [Bd,gR];congr 1;omega
 have h2:(bm (List.replicate (l.length - i) ah)).length=(l.length - i)*11:=by rw [Bd,List.length_replicate]
 have h3:(bm l).length=l.length*11:=Bd l
 unfold aI
 rw [MH,C6 (by rw [h2,h3];omega),bC]
 congr 1
 conv=>lhs;rw [e]
 rw [MH,List.take_left' h1]
theorem zt1 {T:bJ} {h1:Heap} {bs:List aZ} {w k bytes:Nat} (q:Holds h1 A (.row (bm l) u false)) (hd:T.desc t=some (.slice u)) (hi:T.info u=some (k,bytes,ah.cells)) (hle:i<=l.length) (hn:n=l.length - i)
 (hK:∀ h',Holds h' A (.row (bm (l.take i++List.replicate (l.length - i) ah)) u false)->ff A (h1.lay bs w) h'->K undef h'):lG (vp T t (.slice (some ⟨A,i*11,none⟩) n c) (h1.lay bs w)) K:=by
 subst hn
 by_cases h0:l.length - i=0
 .have e:vp T t (.slice (some ⟨A,i*11,none⟩) (l.length - i) c) (h1.lay bs w)=some (h1.lay bs w):=by
   unfold vp
   simp only [hd,aD h0]
  rw [e]
  refine hK _ ?_ (Ext.refl _).eV
  rw [h0,List.replicate_zero,bC,gb (by omega)]
  exact q.on bs w
 .have hg:(h1.lay bs w).get A=some (.row (bm l) u false):=q.lay bs w
  have hA:A < (h1.lay bs w).size:=(q.on bs w).lt
  have iV:(bm (List.replicate (l.length - i) ah)).all one=true:=by
   rw [iM]
   intro x hx
   unfold bm at hx
   obtain ⟨y,hy,K9⟩:=BE.1 hx
   have:=(List.mem_replicate.1 hy).2
   subst this
   exact iM.1 (by rfl:ah.cells.all one=true) x K9
  have e:vp T t (.slice (some ⟨A,i*11,none⟩) (l.length - i) c) (h1.lay bs w)=some ((h1.lay bs w).set A (.row (bm (l.take i++List.replicate (l.length - i) ah)) u false)):=by
   unfold vp
   simp only [hd,az h0,hi,dO]
   unfold nM
   rw [hg]
   simp only
   rw [zyl,aD (by simp only [dK,jm];exact ⟨by rw [Bd,Bd,List.length_replicate];omega,iV⟩),zxI hle]
  rw [e]
  refine hK _ ⟨by rw [Heap.size_set];exact hA,by rw [Heap.aG _ _ _ _ hA,aD rfl]⟩ ⟨by rw [Heap.size_set];exact aR _,λB hB aM=>by rw [Heap.aG _ _ _ _ hA,az aM],by rw [Heap.cM];omega⟩
end
theorem zsY {h:Heap} {t:aN} (q:Holds h A (.row (bm (s++t)) u false)) (hA:h0.size<=A) (hn:(s++t).length<=100000) (hl:n=s.length) (hc:c=G*11+(s++t).length):jo h0 h u (.slice (some ⟨A,0,none⟩) n c) s:=by
 subst hl hc
 exact .inr ⟨A,t,rfl,q,hA,hn⟩
theorem zsZ {h:Heap} (q:Holds h A (.row (bm s) u false)) (hA:h0.size<=A) (hn:s.length<=100000) (hc:c=G*11+s.length):jo h0 h u (.slice (some ⟨A,0,none⟩) s.length c) s :=
 zsY (t:=[]) (by rw [bC];exact q) hA (by rw [bC];exact hn) rfl (by rw [bC];exact hc)
theorem zrO (h:l.length < 2):oH l l.length=l:=by
 match l,h with
 | [],_=>rfl
 | [x],_=>rfl
theorem zvo (hm:m < l.length) (h0:m≠0) (h:oH l m=l.take m) (aM:bj (l.getD m ah) (l.getD (m - 1) ah)≠0):oH l (m+1)=l.take (m+1):=by
 rw [Yh hm,<- h]
 show oH l m++_=_
 rw [az (λg=>aM g.2)]
theorem ztg (h0:m≠0) (he:bj (l.getD m ah) (l.getD (m - 1) ah)=0):oH l (m+1)=oH l m:=by
 show oH l m++_=_
 rw [aD ⟨h0,he⟩,bC]
theorem zx9 (aM:bj (l.getD m ah) (l.getD (m - 1) ah)≠0):oH l (m+1)=oH l m++[l.getD m ah]:=by
 show oH l m++_=_
 rw [az (λg=>aM g.2)]
theorem zzQ {x:ae} (hi:i < l.length):(l.set i x).take (i+1)=l.take i++[x]:=by
 rw [lr,Ik,aD rfl,aD hi,List.take_set_of_le (aR _)]
 rfl
theorem zma {p:Nat} {x:ae} (h:i≠p):(l.set i x).getD p ah=l.getD p ah:=by
 rw [me,me,Ik,az h]
theorem zj5 (a:ae):∀ s:aN,(iZ a s).length<=s.length+1
 | []=>by simp [iZ]
 |x::r=>by
  have:=zj5 a r
  unfold iZ
  repeat' split
  all_goals simp only [ek]
  all_goals omega
theorem ze4:∀ (m s:aN),(m.foldl (λs a=>iZ a s) s).length<=s.length+m.length
 | [],s=>by simp
 |a::m,s=>by
  have h1:=ze4 m (iZ a s)
  have h2:=zj5 a s
  simp only [uL,ek]
  omega
theorem He (l:aN):(gW l).length<=l.length:=by
 have:=ze4 l []
 simpa [gW] using this
structure Oj (l:aN) (a:ae) (i:Nat):Prop where
 le:i<=l.length
 lo:∀ k,k < i->bj (l.getD k ah) a < 0
 hi:∀ k,i<=k->k < l.length->¬ bj (l.getD k ah) a < 0
abbrev aC.atoms:aC (aN) :=
 { k:=1,R:=λh cs x=>∃ v,cs=[v]/\Sl aC.atom h v x
   len:=by rintro h cs x ⟨v,rfl,_⟩;rfl
   mono:=by rintro h h' cs x i ⟨v,e,f⟩;exact ⟨v,e,f.mono i⟩
   gu:=by rintro h cs x ⟨v,rfl,f⟩;have:=f.one;simp only [gS,iI,this];rfl }
end Go.Am

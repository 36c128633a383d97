/- Sorted lists of atoms, each text once: plain facts. No condition. -/
import Derived.Test.YtnkmeidmdaidhaaGreatDoorG18
set_option linter.unusedSimpArgs false
set_option linter.unusedVariables false
namespace Go.Am
variable {a b:ae} {l s:aU}
theorem je:aZ a b=0↔gu a=gu b:=⟨λh=>MF h,λh=>by unfold aZ;rw [h,ME]⟩
theorem Zq {c:ae} (h1:aZ a b < 0) (h2:aZ b c < 0):aZ a c < 0:=TB h1 (Int.le_of_lt h2)
theorem zsj (h1:aZ a b < 0) (h2:aZ b a < 0):False:=by
 have:=El a b
 omega
def jB (s:aU):Prop:=s.Pairwise (λx y=>aZ x y < 0)
structure bn (l s:aU):Prop where
 oM:jB s
 first:∀ y∈s,(l.filter (λx=>gu x == gu y)).head? = some y
 yK:∀ x∈l,∃ y∈s,gu y=gu x
theorem bn.mem (f:bn l s) {y:ae} (h:y∈s):y∈l:=(List.mem_filter.1 (List.mem_of_mem_head? (f.first y h))).1
theorem UP:∀ {s1 s2:aU},jB s1->jB s2->(∀ x,x∈s1↔x∈s2)->s1=s2
 | [],[],_,_,_=>rfl
 | [],y::r,_,_,h=>absurd ((h y).2 (pO ..)) (by simp)
 |x::r,[],_,_,h=>absurd ((h x).1 (pO ..)) (by simp)
 |x::r1,y::r2,h1,h2,h=>by
  have g1:=wg.1 h1
  have g2:=wg.1 h2
  have e:x=y:=by
   rcases dg.1 ((h x).1 (pO ..)) with e|hx
   .exact e
   .rcases dg.1 ((h y).2 (pO ..)) with e|hy
    .exact e.symm
    .exact (zsj (g2.1 x hx) (g1.1 y hy)).elim
  subst e
  rw [UP (s1:=r1) (s2:=r2) g1.2 g2.2 (λz=>⟨λhz=>?_,λhz=>?_⟩)]
  .rcases dg.1 ((h z).1 (sn _ hz)) with e|kD
   .subst e
    have:=g1.1 z hz
    rw [L6] at this
    omega
   .exact kD
  .rcases dg.1 ((h z).2 (sn _ hz)) with e|kD
   .subst e
    have:=g2.1 z hz
    rw [L6] at this
    omega
   .exact kD
theorem bn.sub {s1 s2:aU} (f:bn l s1) (g:bn l s2) {y:ae} (h:y∈s1):y∈s2:=by
 obtain ⟨z,hz,e⟩:=g.yK y (f.mem h)
 have h1:=f.first y h
 have h2:=g.first z hz
 rw [e] at h2
 rw [h1] at h2
 cases h2
 exact hz
theorem bn.eq {s1 s2:aU} (f:bn l s1) (g:bn l s2):s1=s2:=UP f.oM g.oM (λx=>⟨λh=>f.sub g h,λh=>g.sub f h⟩)
def iz (a:ae):aU->aU
 | []=>[a]
 |x::r=>if aZ a x < 0 then a::x::r else if aZ a x=0 then x::r else x::iz a r
theorem Ew {a y:ae}:∀ {s:aU},jB s->(y∈iz a s↔y∈s\/(y=a/\∀ x∈s,aZ a x≠0))
 | [],_=>by simp [iz]
 |x::r,h=>by
  have g:=wg.1 h
  unfold iz
  by_cases h1:aZ a x < 0
  .rw [aG h1,dg]
   constructor
   .rintro (e|e)
    .right
     refine ⟨e,λz hz=>?_⟩
     rcases dg.1 hz with e2|kD
     .subst e2;omega
     .have:=Zq h1 (g.1 z kD);omega
    .exact .inl e
   .rintro (e|⟨e,_⟩)
    .exact .inr e
    .exact .inl e
  .rw [aA h1]
   by_cases h2:aZ a x=0
   .rw [aG h2]
    constructor
    .exact λe=>.inl e
    .rintro (e|⟨e,e2⟩)
     .exact e
     .exact absurd h2 (e2 x (pO ..))
   .rw [aA h2,dg,Ew g.2,dg]
    constructor
    .rintro (e|e|⟨e,e2⟩)
     .exact .inl (.inl e)
     .exact .inl (.inr e)
     .refine .inr ⟨e,λz hz=>?_⟩
      rcases dg.1 hz with e3|kD
      .subst e3;exact h2
      .exact e2 z kD
    .rintro ((e|e)|⟨e,e2⟩)
     .exact .inl e
     .exact .inr (.inl e)
     .exact .inr (.inr ⟨e,λz hz=>e2 z (sn _ hz)⟩)
theorem zqG {a:ae}:∀ {s:aU},jB s->jB (iz a s)
 | [],_=>by simp [iz,jB]
 |x::r,h=>by
  have g:=wg.1 h
  unfold iz
  by_cases h1:aZ a x < 0
  .rw [aG h1]
   refine wg.2 ⟨λz hz=>?_,h⟩
   rcases dg.1 hz with e|kD
   .subst e;exact h1
   .exact Zq h1 (g.1 z kD)
  .rw [aA h1]
   by_cases h2:aZ a x=0
   .rw [aG h2];exact h
   .rw [aA h2]
    refine wg.2 ⟨λz hz=>?_,zqG g.2⟩
    rcases (Ew g.2).1 hz with e|⟨e,_⟩
    .exact g.1 z e
    .subst e
     have:=El z x
     omega
theorem bn.put (f:bn l s) (a:ae):bn (l++[a]) (iz a s):=by
 refine ⟨zqG f.oM,λy hy=>?_,λx hx=>?_⟩
 .rw [J3,List.head?_append]
  rcases (Ew f.oM).1 hy with e|⟨e,e2⟩
  .rw [f.first y e]
   rfl
  .subst e
   have hn:l.filter (λx=>gu x == gu y)=[]:=by
    rw [Mx]
    intro x hx cJ
    rw [beq_iff_eq] at cJ
    obtain ⟨z,hz,e3⟩:=f.yK x hx
    exact e2 z hz (je.2 (e3.trans cJ).symm)
   rw [hn]
   simp
 .rcases ju.1 hx with e|e
  .obtain ⟨y,hy,e2⟩:=f.yK x e
   exact ⟨y,(Ew f.oM).2 (.inl hy),e2⟩
  .have e:x=a:=by simpa using e
   subst e
   by_cases hex:∀ z∈s,aZ x z≠0
   .exact ⟨x,(Ew f.oM).2 (.inr ⟨rfl,hex⟩),rfl⟩
   .have:∃ z,z∈s/\aZ x z=0:=by
     apply Classical.byContradiction
     intro hn
     exact hex (λz hz e=>hn ⟨z,hz,e⟩)
    obtain ⟨z,hz,e⟩:=this
    exact ⟨z,(Ew f.oM).2 (.inl hz),(je.1 e).symm⟩
theorem bn.nil:bn [] []:=⟨List.Pairwise.nil,nofun,nofun⟩
def j8 (l:aU):aU:=l.foldl (λs a=>iz a s) []
theorem znx:∀ (m:aU) {l s:aU},bn l s->bn (l++m) (m.foldl (λs a=>iz a s) s)
 | [],l,s,f=>by rw [bu];exact f
 |a::m,l,s,f=>by
  have:=znx m (f.put a)
  rwa [uX] at this
theorem JM (l:aU):bn l (j8 l):=znx l bn.nil
theorem bn.is (f:bn l s):s=j8 l:=f.eq (JM l)
def mw (l:aU):Nat->aU
 |0=>[]
 |m+1=>mw l m++(if m≠0/\aZ (l.getD m ah) (l.getD (m - 1) ah)=0 then [] else [l.getD m ah])
theorem TR {m:Nat} (h:m < l.length):l.take (m+1)=l.take m++[l.getD m ah]:=by
 rw [od,lk,i4 h]
 rfl
theorem zv4 {l:aU} (hs:fA l 0 l.length):∀ m,m<=l.length->bn (l.take m) (mw l m)
 |0,_=>bn.nil
 |m+1,hm=>by
  have f:=zv4 hs m (by omega)
  rw [TR (by omega)]
  unfold mw
  split
  .rename_i h
   rw [bu]
   refine ⟨f.oM,λy hy=>?_,λx hx=>?_⟩
   .rw [J3,List.head?_append,f.first y hy]
    rfl
   .rcases ju.1 hx with e|e
    .exact f.yK x e
    .have e:x=l.getD m ah:=by simpa using e
     subst e
     obtain ⟨y,hy,e2⟩:=f.yK (l.getD (m - 1) ah) (by
      refine fV (i:=m - 1) ?_
      rw [oG,aG (by omega)]
      exact jO (by omega))
     exact ⟨y,hy,e2.trans (je.1 h.2).symm⟩
  .rename_i h
   have aW:∀ x∈l.take m,aZ x (l.getD m ah) < 0:=by
    intro x hx
    obtain ⟨i,hi⟩:=Dd hx
    rw [oG] at hi
    split at hi
    .rename_i qW
     have e:x=l.getD i ah:=by rw [lk,hi];rfl
     rw [e]
     have h1:=hs m (by omega) (by omega)
     have h2:aZ (l.getD (m - 1) ah) (l.getD m ah)≠0:=λe2=>h ⟨by omega,by rw [El];omega⟩
     exact TA (uH hs (i:=i) (j:=m - 1) (by omega) (by omega) (by omega)) (by omega)
    .cases hi
   refine ⟨List.pairwise_append.2 ⟨f.oM,List.pairwise_singleton ..,λa ha b hb=>?_⟩,λy hy=>?_,λx hx=>?_⟩
   .have e:b=l.getD m ah:=by simpa using hb
    rw [e]
    exact aW a (f.mem ha)
   .rw [J3,List.head?_append]
    rcases ju.1 hy with e|e
    .rw [f.first y e]
     rfl
    .have e:y=l.getD m ah:=by simpa using e
     subst e
     have hn:(l.take m).filter (λx=>gu x == gu (l.getD m ah))=[]:=by
      rw [Mx]
      intro x hx cJ
      exact Mw (aW x hx) (by simpa using cJ)
     rw [hn]
     simp
   .rcases ju.1 hx with e|e
    .obtain ⟨y,hy,e2⟩:=f.yK x e
     exact ⟨y,List.mem_append_left _ hy,e2⟩
    .exact ⟨x,zBJ _ e,rfl⟩
theorem bn.over {l':aU} (f:bn l' s) (hp:l'.Perm l) (dh:dP l l'):bn l s:=⟨f.oM,λy hy=>by rw [<- dh];exact f.first y hy,λx hx=>f.yK x (hp.mem_iff.2 hx)⟩
theorem ztD {l':aU} (hp:l'.Perm l) (dh:dP l l') (hs:fA l' 0 l.length):mw l' l'.length=j8 l:=by
 have f:=zv4 (l:=l') (by rw [hp.length_eq];exact hs) l'.length (aS _)
 rw [List.take_length] at f
 exact (f.over hp dh).is
end Go.Am
namespace Go.Am
variable {l s:aU} {v:ai} {t u:TypeId} {h0:Heap} {A c i m n:Nat}
theorem Z9:∀ {l:aU} {row:List ai},row.length=l.length*11->(∀ (i:Nat) (x:ae),l[i]? = some x->cut row (i*11) 11=some x.cells)->row=bl l
 | [],row,hl,_=>by
  have:row=[]:=EP.1 (by simpa using hl)
  rw [this]
  rfl
 |x::l,row,hl,h=>by
  have h0:=h 0 x rfl
  have lZ:row.length=l.length*11+11:=by rw [hl,dB];omega
  unfold cut at h0
  rw [aG (by omega)] at h0
  simp only [Nat.zero_mul,List.drop_zero,dy] at h0
  have hr:=Z9 (l:=l) (row:=row.drop 11) (by rw [oe];omega) (λi y hy=>by
   have hi:=(fD.1 hy).1
   have g:=h (i+1) y hy
   unfold cut at g ⊢
   rw [aG (by omega)] at g
   rw [aG (by rw [oe];omega),yz,show 11+i*11=(i+1)*11 by omega]
   exact g)
  have e:row=row.take 11++row.drop 11:=(JV 11 row).symm
  rw [e,h0,hr]
  rfl
theorem Z8 (l m:aU):bl (l++m)=bl l++bl m:=by unfold bl;rw [List.flatMap_append]
structure oI (h:Heap) (v:ai):Prop where
 sl:Sl aF.atom h v []
 no:v=.slice none 0 0\/∃ B o,v=.slice (some ⟨B,o,none⟩) 0 0
theorem oI.nil {h:Heap}:oI h (.slice none 0 0):=⟨Sl.nil,.inl rfl⟩
theorem oI.mono {h h':Heap} {v:ai} (f:oI h v) (i:bQ h h'):oI h' v:=⟨f.sl.mono i,f.no⟩
theorem oI.lay {h:Heap} {v:ai} (f:oI h v) (bs:List bc) (w:Nat):oI (h.lay bs w) v:=⟨f.sl.lay bs w,f.no⟩
theorem oI.over {h1 h2:Heap} {v:ai} {bs:List bc} {w:Nat} (f:oI h1 v) (x:Ext (h1.lay bs w) h2):oI h2 v:=⟨f.sl.over x,f.no⟩
def im (h0 h:Heap) (u:TypeId) (v:ai) (s:aU):Prop :=
 (s=[]/\oI h v)\/∃ A t,v=.slice (some ⟨A,0,none⟩) s.length (G*11+(s++t).length)/\ak h A (.row (bl (s++t)) u false)/\h0.size<=A/\(s++t).length<=100000
theorem im.mono {h0 h h':Heap} {u:TypeId} {v:ai} {s:aU} (f:im h0 h u v s) (i:bQ h h'):im h0 h' u v s:=by
 rcases f with ⟨e,f⟩|⟨A,t,e1,e2,e3⟩
 .exact .inl ⟨e,f.mono i⟩
 .exact .inr ⟨A,t,e1,e2.mono i,e3⟩
theorem im.down {h1 h:Heap} (f:im h1 h u v s) (i:h0.size<=h1.size):im h0 h u v s:=by
 rcases f with f|⟨A,t,e1,e2,e3,e4⟩
 .exact .inl f
 .exact .inr ⟨A,t,e1,e2,by omega,e4⟩
theorem im.lay {h0 h:Heap} {u:TypeId} {v:ai} {s:aU} (f:im h0 h u v s) (bs:List bc) (w:Nat):im h0 (h.lay bs w) u v s:=f.mono (bQ.lay h bs w)
theorem Vb:100000 < G:=by unfold G;omega
theorem zAD {h:Heap} {o:Nat} {ro:Bool} (q:ak h A (.row (bl l) u ro)) (hc:Zb 11 s.length c) (hn:s.length<=100000) (hs:∀ (i:Nat) (x:ae),s[i]? = some x->l[o+i]? = some x):Sl aF.atom h (.slice (some ⟨A,o*11,none⟩) s.length c) s:=by
 refine .inr ⟨A,o*11,c,bl l,u,ro,rfl,(by have:(100000:Nat)<=maxLen:=by decide
                                         omega),hc,q.lt,q.get,λi x hx=>⟨x.cells,?_,rfl⟩⟩
 show cut (bl l) (o*11+i*11) 11=_
 rw [<- oH]
 exact zrw (hs i x hx)
theorem im.sl {h0 h:Heap} {u:TypeId} {v:ai} {s:aU} (f:im h0 h u v s):Sl aF.atom h v s:=by
 rcases f with ⟨rfl,f⟩|⟨A,t,rfl,e2,e3,e4⟩
 .exact f.sl
 .have hG:=Vb
  obtain ⟨d1,d2,d3⟩:=Mr (k:=11) (q:=(s++t).length) (by decide) (by omega)
  have hle:s.length<=(s++t).length:=by rw [dx];omega
  have:=zAD (o:=0) (s:=s) e2 (.inr ⟨d1,d2,by rw [d3];omega⟩) (by omega) (λi x hx=>by rw [ia,kY (fD.1 hx).1];exact hx)
  simpa using this
def FQ (h0 h:Heap) (u:TypeId) (v:ai) (s:aU):Prop :=
 (s=[]/\oI h v)\/∃ A,v=.slice (some ⟨A,0,none⟩) s.length (G*11+s.length)/\ak h A (.row (bl s) u false)/\h0.size<=A/\s≠[]
theorem FQ.own {h:Heap} (f:FQ h0 h u v s) (hn:s.length<=100000):im h0 h u v s:=by
 rcases f with f|⟨A,e1,e2,e3,e4⟩
 .exact .inl f
 .exact .inr ⟨A,[],by rw [bu];exact e1,by rw [bu];exact e2,e3,by rw [bu];exact hn⟩
theorem zvA {h:Heap} (f:Ow aF.atom h0 h u A v l):FQ h0 h u v l:=by
 rcases f with ⟨e1,rfl,e3⟩|⟨row,rfl,e2,e3,e4,e5,e6,e7,e8⟩
 .refine .inl ⟨rfl,?_,?_⟩
  .have f2:Ow aF.atom h0 h u A v []:=.inl ⟨e1,rfl,e3⟩
   exact f2.sl (by decide)
  .rcases e3 with e3|⟨B,o,e3,_⟩
   .exact .inl e3
   .exact .inr ⟨B,o,e3⟩
 .refine .inr ⟨A,rfl,⟨e4,?_⟩,e3,e2⟩
  have:row=bl l:=Z9 e6 (λi x hx=>by
   obtain ⟨cs,g1,g2⟩:=e8 i x hx
   have g2:cs=x.cells:=g2
   rw [<- g2]
   exact g1)
  rw [<- this]
  exact e5
section
variable {P:Program} {T:bx} {ov:Ov} {d:Option Tmp} {ty:TypeId} {pos:String} {af:Array Edge} {g:Option (Nat × Bool)} {e:Env} {h:Heap} {K:aL}
theorem zzM (t:TypeId) (x:Operand):bU P T ov ⟨d,.call ⟨.builtin .clear,#[x],#[t]⟩,ty,pos,af,g⟩ e h K=jM (r8 T t (br e x) h) K:=by
 show da ((r8 T t (br e x) h).map λh'=>(undef,h')) K=_
 cases r8 T t (br e x) h <;> rfl
theorem zn5 {T:bx} {q:Nat} {kd:IntKind} (hd:T.desc t=some (.slice u)) (hs:de T u=some 11) (hi:i<=n) (hn:n<=q) (hq:q<=100000):jQ T t (.slice (some ⟨A,0,none⟩) n (G*11+q)) (some (.int kd i)) none none=some (.slice (some ⟨A,i*11,none⟩) (n - i) (G*11+(q - i))):=by
 have hG:=Vb
 obtain ⟨d1,d2,d3⟩:=Mr (k:=11) (q:=q) (by decide) (by omega)
 unfold jQ
 simp only [hd,hs,dz,aA (show ¬ G*11+q < G by omega),aG d2]
 rw [d3,Jm (ei.num kd 0 i) (ei.no n) hi hn,jT,ia]
theorem zzz {T:bx} {q:Nat} {kd:IntKind} (hd:T.desc t=some (.slice u)) (hs:de T u=some 11) (hi:i<=n) (hn:n<=q) (hq:q<=100000):jQ T t (.slice (some ⟨A,0,none⟩) n (G*11+q)) none (some (.int kd i)) none=some (.slice (some ⟨A,0,none⟩) i (G*11+q)):=by
 have hG:=Vb
 obtain ⟨d1,d2,d3⟩:=Mr (k:=11) (q:=q) (by decide) (by omega)
 unfold jQ
 simp only [hd,hs,dz,aA (show ¬ G*11+q < G by omega),aG d2]
 rw [d3,Jm (ei.no 0) (ei.num kd n i) (jv _) (by omega),jT]
 simp
theorem zwe (n:Nat):lO ah.cells n=bl (List.replicate n ah):=by
 unfold lO bl
 rw [List.flatMap_def,List.map_replicate]
theorem zvE (hi:i<=l.length):aJ (bl l) (i*11) (bl (List.replicate (l.length - i) ah))=bl (l.take i++List.replicate (l.length - i) ah):=by
 have e:l=l.take i++l.drop i:=(JV i l).symm
 have h1:(bl (l.take i)).length=i*11:=by rw [CA,hZ];congr 1;omega
 have h2:(bl (List.replicate (l.length - i) ah)).length=(l.length - i)*11:=by rw [CA,List.length_replicate]
 have h3:(bl l).length=l.length*11:=CA l
 unfold aJ
 rw [Z8,C8 (by rw [h2,h3];omega),bu]
 congr 1
 conv=>lhs;rw [e]
 rw [Z8,List.take_left' h1]
theorem zsi {T:bx} {h1:Heap} {bs:List bc} {w k bytes:Nat} (q:ak h1 A (.row (bl l) u false)) (hd:T.desc t=some (.slice u)) (hi:T.info u=some (k,bytes,ah.cells)) (hle:i<=l.length) (hn:n=l.length - i)
 (hK:∀ h',ak h' A (.row (bl (l.take i++List.replicate (l.length - i) ah)) u false)->fW A (h1.lay bs w) h'->K undef h'):jM (r8 T t (.slice (some ⟨A,i*11,none⟩) n c) (h1.lay bs w)) K:=by
 subst hn
 by_cases h0:l.length - i=0
 .have e:r8 T t (.slice (some ⟨A,i*11,none⟩) (l.length - i) c) (h1.lay bs w)=some (h1.lay bs w):=by
   unfold r8
   simp only [hd,aG h0]
  rw [e]
  refine hK _ ?_ (Ext.refl _).ec
  rw [h0,List.replicate_zero,bu,iK (by omega)]
  exact q.on bs w
 .have hg:(h1.lay bs w).get A=some (.row (bl l) u false):=q.lay bs w
  have hA:A < (h1.lay bs w).size:=(q.on bs w).lt
  have nI:(bl (List.replicate (l.length - i) ah)).all one=true:=by
   rw [gz]
   intro x hx
   unfold bl at hx
   obtain ⟨y,hy,RW⟩:=List.mem_flatMap.1 hx
   have:=(List.mem_replicate.1 hy).2
   subst this
   exact gz.1 (by rfl:ah.cells.all one=true) x RW
  have e:r8 T t (.slice (some ⟨A,i*11,none⟩) (l.length - i) c) (h1.lay bs w)=some ((h1.lay bs w).set A (.row (bl (l.take i++List.replicate (l.length - i) ah)) u false)):=by
   unfold r8
   simp only [hd,aA h0,hi,dz]
   unfold np
   rw [hg]
   simp only
   rw [zwe,aG (by simp only [dj,iC];exact ⟨by rw [CA,CA,List.length_replicate];omega,nI⟩),zvE hle]
  rw [e]
  refine hK _ ⟨by rw [Heap.size_set];exact hA,by rw [Heap.aM _ _ _ _ hA,aG rfl]⟩ ⟨by rw [Heap.size_set];exact aS _,λB hB aO=>by rw [Heap.aM _ _ _ _ hA,aA aO],by rw [Heap.cC];omega⟩
end
theorem zrt {h:Heap} {t:aU} (q:ak h A (.row (bl (s++t)) u false)) (hA:h0.size<=A) (hn:(s++t).length<=100000) (hl:n=s.length) (hc:c=G*11+(s++t).length):im h0 h u (.slice (some ⟨A,0,none⟩) n c) s:=by
 subst hl hc
 exact .inr ⟨A,t,rfl,q,hA,hn⟩
theorem zru {h:Heap} (q:ak h A (.row (bl s) u false)) (hA:h0.size<=A) (hn:s.length<=100000) (hc:c=G*11+s.length):im h0 h u (.slice (some ⟨A,0,none⟩) s.length c) s :=
 zrt (t:=[]) (by rw [bu];exact q) hA (by rw [bu];exact hn) rfl (by rw [bu];exact hc)
theorem zqn (h:l.length < 2):mw l l.length=l:=by
 match l,h with
 | [],_=>rfl
 | [x],_=>rfl
theorem ztC (hm:m < l.length) (h0:m≠0) (h:mw l m=l.take m) (aO:aZ (l.getD m ah) (l.getD (m - 1) ah)≠0):mw l (m+1)=l.take (m+1):=by
 rw [TR hm,<- h]
 show mw l m++_=_
 rw [aA (λg=>aO g.2)]
theorem zrE (h0:m≠0) (he:aZ (l.getD m ah) (l.getD (m - 1) ah)=0):mw l (m+1)=mw l m:=by
 show mw l m++_=_
 rw [aG ⟨h0,he⟩,bu]
theorem zv3 (aO:aZ (l.getD m ah) (l.getD (m - 1) ah)≠0):mw l (m+1)=mw l m++[l.getD m ah]:=by
 show mw l m++_=_
 rw [aA (λg=>aO g.2)]
theorem zxx {x:ae} (hi:i < l.length):(l.set i x).take (i+1)=l.take i++[x]:=by
 rw [od,Fa,aG rfl,aG hi,List.take_set_of_le (aS _)]
 rfl
theorem zlg {p:Nat} {x:ae} (h:i≠p):(l.set i x).getD p ah=l.getD p ah:=by
 rw [lk,lk,Fa,aA h]
theorem Z6 (a:ae):∀ s:aU,(iz a s).length<=s.length+1
 | []=>by simp [iz]
 |x::r=>by
  have:=Z6 a r
  unfold iz
  repeat' split
  all_goals simp only [dB]
  all_goals omega
theorem Zm:∀ (m s:aU),(m.foldl (λs a=>iz a s) s).length<=s.length+m.length
 | [],s=>by simp
 |a::m,s=>by
  have h1:=Zm m (iz a s)
  have h2:=Z6 a s
  simp only [rL,dB]
  omega
theorem LQ (l:aU):(j8 l).length<=l.length:=by
 have:=Zm l []
 simpa [j8] using this
structure KB (l:aU) (a:ae) (i:Nat):Prop where
 le:i<=l.length
 lo:∀ k,k < i->aZ (l.getD k ah) a < 0
 hi:∀ k,i<=k->k < l.length->¬ aZ (l.getD k ah) a < 0
abbrev aF.atoms:aF (aU) :=
 { k:=1,R:=λh cs x=>∃ v,cs=[v]/\Sl aF.atom h v x
   len:=by rintro h cs x ⟨v,rfl,_⟩;rfl
   mono:=by rintro h h' cs x i ⟨v,e,f⟩;exact ⟨v,e,f.mono i⟩
   hU:=by rintro h cs x ⟨v,rfl,f⟩;have:=f.one;simp only [gA,il,this];rfl }
end Go.Am

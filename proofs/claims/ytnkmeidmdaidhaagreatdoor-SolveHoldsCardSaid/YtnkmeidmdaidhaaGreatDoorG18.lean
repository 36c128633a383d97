/- Sorted lists of atoms, each text once: plain facts. No condition. -/
import Derived.Test.YtnkmeidmdaidhaaGreatDoorG17
set_option linter.unusedSimpArgs false
set_option linter.unusedVariables false
namespace Go.Am
variable {a b:ae} {l s:aN}
theorem iW:bg a b=0↔iu a=iu b:=⟨λh=>OI h,λh=>by unfold bg;rw [h,OH]⟩
theorem zgC {c:ae} (h1:bg a b < 0) (h2:bg b c < 0):bg a c < 0:=V2 h1 (Int.le_of_lt h2)
theorem zlh (h1:bg a b < 0) (h2:bg b a < 0):False:=by
 have:=Gg a b
 omega
def gI (s:aN):Prop:=s.Pairwise (λx y=>bg x y < 0)
structure bw (l s:aN):Prop where
 lu:gI s
 first:∀ y∈s,(l.filter (λx=>iu x == iu y)).head? = some y
 AH:∀ x∈l,∃ y∈s,iu y=iu x
theorem bw.mem (f:bw l s) {y:ae} (h:y∈s):y∈l:=(List.mem_filter.1 (List.mem_of_mem_head? (f.first y h))).1
theorem L8:∀ {s1 s2:aN},gI s1->gI s2->(∀ x,x∈s1↔x∈s2)->s1=s2
 | [],[],_,_,_=>rfl
 | [],y::r,_,_,h=>absurd ((h y).2 (nU ..)) (by simp)
 |x::r,[],_,_,h=>absurd ((h x).1 (nU ..)) (by simp)
 |x::r1,y::r2,h1,h2,h=>by
  have g1:=uF.1 h1
  have g2:=uF.1 h2
  have e:x=y:=by
   rcases db.1 ((h x).1 (nU ..)) with e|hx
   .exact e
   .rcases db.1 ((h y).2 (nU ..)) with e|hy
    .exact e.symm
    .exact (zlh (g2.1 x hx) (g1.1 y hy)).elim
  subst e
  rw [L8 (s1:=r1) (s2:=r2) g1.2 g2.2 (λz=>⟨λhz=>?_,λhz=>?_⟩)]
  .rcases db.1 ((h z).1 (rN _ hz)) with e|mi
   .subst e
    have:=g1.1 z hz
    rw [EH] at this
    omega
   .exact mi
  .rcases db.1 ((h z).2 (rN _ hz)) with e|mi
   .subst e
    have:=g2.1 z hz
    rw [EH] at this
    omega
   .exact mi
theorem bw.sub {s1 s2:aN} (f:bw l s1) (g:bw l s2) {y:ae} (h:y∈s1):y∈s2:=by
 obtain ⟨z,hz,e⟩:=g.AH y (f.mem h)
 have h1:=f.first y h
 have h2:=g.first z hz
 rw [e] at h2
 rw [h1] at h2
 cases h2
 exact hz
theorem bw.eq {s1 s2:aN} (f:bw l s1) (g:bw l s2):s1=s2:=L8 f.lu g.lu (λx=>⟨λh=>f.sub g h,λh=>g.sub f h⟩)
def iH (a:ae):aN->aN
 | []=>[a]
 |x::r=>if bg a x < 0 then a::x::r else if bg a x=0 then x::r else x::iH a r
theorem EJ {a y:ae}:∀ {s:aN},gI s->(y∈iH a s↔y∈s\/(y=a/\∀ x∈s,bg a x≠0))
 | [],_=>by simp [iH]
 |x::r,h=>by
  have g:=uF.1 h
  unfold iH
  by_cases h1:bg a x < 0
  .rw [aB h1,db]
   constructor
   .rintro (e|e)
    .right
     refine ⟨e,λz hz=>?_⟩
     rcases db.1 hz with e2|mi
     .subst e2;omega
     .have:=zgC h1 (g.1 z mi);omega
    .exact .inl e
   .rintro (e|⟨e,_⟩)
    .exact .inr e
    .exact .inl e
  .rw [aA h1]
   by_cases h2:bg a x=0
   .rw [aB h2]
    constructor
    .exact λe=>.inl e
    .rintro (e|⟨e,e2⟩)
     .exact e
     .exact absurd h2 (e2 x (nU ..))
   .rw [aA h2,db,EJ g.2,db]
    constructor
    .rintro (e|e|⟨e,e2⟩)
     .exact .inl (.inl e)
     .exact .inl (.inr e)
     .refine .inr ⟨e,λz hz=>?_⟩
      rcases db.1 hz with e3|mi
      .subst e3;exact h2
      .exact e2 z mi
    .rintro ((e|e)|⟨e,e2⟩)
     .exact .inl e
     .exact .inr (.inl e)
     .exact .inr (.inr ⟨e,λz hz=>e2 z (rN _ hz)⟩)
theorem Wt {a:ae}:∀ {s:aN},gI s->gI (iH a s)
 | [],_=>by simp [iH,gI]
 |x::r,h=>by
  have g:=uF.1 h
  unfold iH
  by_cases h1:bg a x < 0
  .rw [aB h1]
   refine uF.2 ⟨λz hz=>?_,h⟩
   rcases db.1 hz with e|mi
   .subst e;exact h1
   .exact zgC h1 (g.1 z mi)
  .rw [aA h1]
   by_cases h2:bg a x=0
   .rw [aB h2];exact h
   .rw [aA h2]
    refine uF.2 ⟨λz hz=>?_,Wt g.2⟩
    rcases (EJ g.2).1 hz with e|⟨e,_⟩
    .exact g.1 z e
    .subst e
     have:=Gg z x
     omega
theorem bw.put (f:bw l s) (a:ae):bw (l++[a]) (iH a s):=by
 refine ⟨Wt f.lu,λy hy=>?_,λx hx=>?_⟩
 .rw [L4,List.head?_append]
  rcases (EJ f.lu).1 hy with e|⟨e,e2⟩
  .rw [f.first y e]
   rfl
  .subst e
   have hn:l.filter (λx=>iu x == iu y)=[]:=by
    rw [OW]
    intro x hx cN
    rw [beq_iff_eq] at cN
    obtain ⟨z,hz,e3⟩:=f.AH x hx
    exact e2 z hz (iW.2 (e3.trans cN).symm)
   rw [hn]
   simp
 .rcases iT.1 hx with e|e
  .obtain ⟨y,hy,e2⟩:=f.AH x e
   exact ⟨y,(EJ f.lu).2 (.inl hy),e2⟩
  .have e:x=a:=by simpa using e
   subst e
   by_cases hex:∀ z∈s,bg x z≠0
   .exact ⟨x,(EJ f.lu).2 (.inr ⟨rfl,hex⟩),rfl⟩
   .have:∃ z,z∈s/\bg x z=0:=by
     apply Classical.byContradiction
     intro hn
     exact hex (λz hz e=>hn ⟨z,hz,e⟩)
    obtain ⟨z,hz,e⟩:=this
    exact ⟨z,(EJ f.lu).2 (.inl hz),(iW.1 e).symm⟩
theorem bw.nil:bw [] []:=⟨List.Pairwise.nil,nofun,nofun⟩
def dY (l:aN):aN:=l.foldl (λs a=>iH a s) []
theorem zou:∀ (m:aN) {l s:aN},bw l s->bw (l++m) (m.foldl (λs a=>iH a s) s)
 | [],l,s,f=>by rw [bD];exact f
 |a::m,l,s,f=>by
  have:=zou m (f.put a)
  rwa [sE] at this
theorem xT (l:aN):bw l (dY l):=zou l bw.nil
theorem bw.is (f:bw l s):s=dY l:=f.eq (xT l)
def nS (l:aN):Nat->aN
 |0=>[]
 |m+1=>nS l m++(if m≠0/\bg (l.getD m ah) (l.getD (m - 1) ah)=0 then [] else [l.getD m ah])
theorem Wo {m:Nat} (h:m < l.length):l.take (m+1)=l.take m++[l.getD m ah]:=by
 rw [oT,ni,gG h]
 rfl
theorem zxb {l:aN} (hs:gC l 0 l.length):∀ m,m<=l.length->bw (l.take m) (nS l m)
 |0,_=>bw.nil
 |m+1,hm=>by
  have f:=zxb hs m (by omega)
  rw [Wo (by omega)]
  unfold nS
  split
  .rename_i h
   rw [bD]
   refine ⟨f.lu,λy hy=>?_,λx hx=>?_⟩
   .rw [L4,List.head?_append,f.first y hy]
    rfl
   .rcases iT.1 hx with e|e
    .exact f.AH x e
    .have e:x=l.getD m ah:=by simpa using e
     subst e
     obtain ⟨y,hy,e2⟩:=f.AH (l.getD (m - 1) ah) (by
      refine ek (i:=m - 1) ?_
      rw [qF,aB (by omega)]
      exact lg (by omega))
     exact ⟨y,hy,e2.trans (iW.1 h.2).symm⟩
  .rename_i h
   have bc:∀ x∈l.take m,bg x (l.getD m ah) < 0:=by
    intro x hx
    obtain ⟨i,hi⟩:=E6 hx
    rw [qF] at hi
    split at hi
    .rename_i tf
     have e:x=l.getD i ah:=by rw [ni,hi];rfl
     rw [e]
     have h1:=hs m (by omega) (by omega)
     have h2:bg (l.getD (m - 1) ah) (l.getD m ah)≠0:=λe2=>h ⟨by omega,by rw [Gg];omega⟩
     exact V1 (wV hs (i:=i) (j:=m - 1) (by omega) (by omega) (by omega)) (by omega)
    .cases hi
   refine ⟨List.pairwise_append.2 ⟨f.lu,List.pairwise_singleton ..,λa ha b hb=>?_⟩,λy hy=>?_,λx hx=>?_⟩
   .have e:b=l.getD m ah:=by simpa using hb
    rw [e]
    exact bc a (f.mem ha)
   .rw [L4,List.head?_append]
    rcases iT.1 hy with e|e
    .rw [f.first y e]
     rfl
    .have e:y=l.getD m ah:=by simpa using e
     subst e
     have hn:(l.take m).filter (λx=>iu x == iu (l.getD m ah))=[]:=by
      rw [OW]
      intro x hx cN
      exact OV (bc x hx) (by simpa using cN)
     rw [hn]
     simp
   .rcases iT.1 hx with e|e
    .obtain ⟨y,hy,e2⟩:=f.AH x e
     exact ⟨y,yg _ hy,e2⟩
    .exact ⟨x,L3 _ e,rfl⟩
theorem bw.over {l':aN} (f:bw l' s) (hp:l'.Perm l) (cV:eI l l'):bw l s:=⟨f.lu,λy hy=>by rw [<- cV];exact f.first y hy,λx hx=>f.AH x (hp.mem_iff.2 hx)⟩
theorem zuA {l':aN} (hp:l'.Perm l) (cV:eI l l') (hs:gC l' 0 l.length):nS l' l'.length=dY l:=by
 have f:=zxb (l:=l') (by rw [hp.length_eq];exact hs) l'.length (aQ _)
 rw [Mf] at f
 exact (f.over hp cV).is
end Go.Am
namespace Go.Am
variable {l s:aN} {v:ai} {t u:TypeId} {h0:Heap} {A c i m n:Nat}
theorem zjW:∀ {l:aN} {row:List ai},row.length=l.length*11->(∀ (i:Nat) (x:ae),l[i]? = some x->cut row (i*11) 11=some x.cells)->row=bj l
 | [],row,hl,_=>by
  have:row=[]:=Cc.1 (by simpa using hl)
  rw [this]
  rfl
 |x::l,row,hl,h=>by
  have h0:=h 0 x rfl
  have oD:row.length=l.length*11+11:=by rw [hl,eB];omega
  unfold cut at h0
  rw [aB (by omega)] at h0
  simp only [Nat.zero_mul,Fi,dR] at h0
  have hr:=zjW (l:=l) (row:=row.drop 11) (by rw [mB];omega) (λi y hy=>by
   have hi:=(fR.1 hy).1
   have g:=h (i+1) y hy
   unfold cut at g ⊢
   rw [aB (by omega)] at g
   rw [aB (by rw [mB];omega),Fh,show 11+i*11=(i+1)*11 by omega]
   exact g)
  have e:row=row.take 11++row.drop 11:=(GS 11 row).symm
  rw [e,h0,hr]
  rfl
theorem La (l m:aN):bj (l++m)=bj l++bj m:=by unfold bj;rw [List.flatMap_append]
structure qI (h:Heap) (v:ai):Prop where
 sl:Sl aG.atom h v []
 no:v=.slice none 0 0\/∃ B o,v=.slice (some ⟨B,o,none⟩) 0 0
theorem qI.nil {h:Heap}:qI h (.slice none 0 0):=⟨Sl.nil,.inl rfl⟩
theorem qI.mono {h h':Heap} {v:ai} (f:qI h v) (i:bP h h'):qI h' v:=⟨f.sl.mono i,f.no⟩
theorem qI.lay {h:Heap} {v:ai} (f:qI h v) (bs:List aZ) (w:Nat):qI (h.lay bs w) v:=⟨f.sl.lay bs w,f.no⟩
theorem qI.over {h1 h2:Heap} {v:ai} {bs:List aZ} {w:Nat} (f:qI h1 v) (x:Ext (h1.lay bs w) h2):qI h2 v:=⟨f.sl.over x,f.no⟩
def i9 (h0 h:Heap) (u:TypeId) (v:ai) (s:aN):Prop :=
 (s=[]/\qI h v)\/∃ A t,v=.slice (some ⟨A,0,none⟩) s.length (G*11+(s++t).length)/\ak h A (.row (bj (s++t)) u false)/\h0.size<=A/\(s++t).length<=100000
theorem i9.mono {h0 h h':Heap} {u:TypeId} {v:ai} {s:aN} (f:i9 h0 h u v s) (i:bP h h'):i9 h0 h' u v s:=by
 rcases f with ⟨e,f⟩|⟨A,t,e1,e2,e3⟩
 .exact .inl ⟨e,f.mono i⟩
 .exact .inr ⟨A,t,e1,e2.mono i,e3⟩
theorem i9.down {h1 h:Heap} (f:i9 h1 h u v s) (i:h0.size<=h1.size):i9 h0 h u v s:=by
 rcases f with f|⟨A,t,e1,e2,e3,e4⟩
 .exact .inl f
 .exact .inr ⟨A,t,e1,e2,by omega,e4⟩
theorem i9.lay {h0 h:Heap} {u:TypeId} {v:ai} {s:aN} (f:i9 h0 h u v s) (bs:List aZ) (w:Nat):i9 h0 (h.lay bs w) u v s:=f.mono (bP.lay h bs w)
theorem Mp:100000 < G:=by unfold G;omega
theorem zzu {h:Heap} {o:Nat} {ro:Bool} (q:ak h A (.row (bj l) u ro)) (hc:zBg 11 s.length c) (hn:s.length<=100000) (hs:∀ (i:Nat) (x:ae),s[i]? = some x->l[o+i]? = some x):Sl aG.atom h (.slice (some ⟨A,o*11,none⟩) s.length c) s:=by
 refine .inr ⟨A,o*11,c,bj l,u,ro,rfl,(by have:(100000:Nat)<=maxLen:=by decide
                                         omega),hc,q.lt,q.get,λi x hx=>⟨x.cells,?_,rfl⟩⟩
 show cut (bj l) (o*11+i*11) 11=_
 rw [<- qH]
 exact zsn (hs i x hx)
theorem i9.sl {h0 h:Heap} {u:TypeId} {v:ai} {s:aN} (f:i9 h0 h u v s):Sl aG.atom h v s:=by
 rcases f with ⟨rfl,f⟩|⟨A,t,rfl,e2,e3,e4⟩
 .exact f.sl
 .have hG:=Mp
  obtain ⟨d1,d2,d3⟩:=GD (k:=11) (q:=(s++t).length) (by decide) (by omega)
  have hle:s.length<=(s++t).length:=by rw [cT];omega
  have:=zzu (o:=0) (s:=s) e2 (.inr ⟨d1,d2,by rw [d3];omega⟩) (by omega) (λi x hx=>by rw [i5,jC (fR.1 hx).1];exact hx)
  simpa using this
def ym (h0 h:Heap) (u:TypeId) (v:ai) (s:aN):Prop :=
 (s=[]/\qI h v)\/∃ A,v=.slice (some ⟨A,0,none⟩) s.length (G*11+s.length)/\ak h A (.row (bj s) u false)/\h0.size<=A/\s≠[]
theorem ym.own {h:Heap} (f:ym h0 h u v s) (hn:s.length<=100000):i9 h0 h u v s:=by
 rcases f with f|⟨A,e1,e2,e3,e4⟩
 .exact .inl f
 .exact .inr ⟨A,[],by rw [bD];exact e1,by rw [bD];exact e2,e3,by rw [bD];exact hn⟩
theorem zwy {h:Heap} (f:Ow aG.atom h0 h u A v l):ym h0 h u v l:=by
 rcases f with ⟨e1,rfl,e3⟩|⟨row,rfl,e2,e3,e4,e5,e6,e7,e8⟩
 .refine .inl ⟨rfl,?_,?_⟩
  .have f2:Ow aG.atom h0 h u A v []:=.inl ⟨e1,rfl,e3⟩
   exact f2.sl (by decide)
  .rcases e3 with e3|⟨B,o,e3,_⟩
   .exact .inl e3
   .exact .inr ⟨B,o,e3⟩
 .refine .inr ⟨A,rfl,⟨e4,?_⟩,e3,e2⟩
  have:row=bj l:=zjW e6 (λi x hx=>by
   obtain ⟨cs,g1,g2⟩:=e8 i x hx
   have g2:cs=x.cells:=g2
   rw [<- g2]
   exact g1)
  rw [<- this]
  exact e5
section
variable {P:Program} {T:bN} {ov:Ov} {d:Option Tmp} {ty:TypeId} {pos:String} {af:Array Edge} {g:Option (Nat × Bool)} {e:Env} {h:Heap} {K:aO}
theorem zAS (t:TypeId) (x:Operand):cO P T ov ⟨d,.call ⟨.builtin .clear,#[x],#[t]⟩,ty,pos,af,g⟩ e h K=kX (uy T t (bE e x) h) K:=by
 show dz ((uy T t (bE e x) h).map λh'=>(undef,h')) K=_
 cases uy T t (bE e x) h <;> rfl
theorem zo2 {T:bN} {q:Nat} {kd:IntKind} (hd:T.desc t=some (.slice u)) (hs:dF T u=some 11) (hi:i<=n) (hn:n<=q) (hq:q<=100000):lf T t (.slice (some ⟨A,0,none⟩) n (G*11+q)) (some (.int kd i)) none none=some (.slice (some ⟨A,i*11,none⟩) (n - i) (G*11+(q - i))):=by
 have hG:=Mp
 obtain ⟨d1,d2,d3⟩:=GD (k:=11) (q:=q) (by decide) (by omega)
 unfold lf
 simp only [hd,hs,dH,aA (show ¬ G*11+q < G by omega),aB d2]
 rw [d3,K7 (eZ.num kd 0 i) (eZ.no n) hi hn,kK,i5]
theorem zAE {T:bN} {q:Nat} {kd:IntKind} (hd:T.desc t=some (.slice u)) (hs:dF T u=some 11) (hi:i<=n) (hn:n<=q) (hq:q<=100000):lf T t (.slice (some ⟨A,0,none⟩) n (G*11+q)) none (some (.int kd i)) none=some (.slice (some ⟨A,0,none⟩) i (G*11+q)):=by
 have hG:=Mp
 obtain ⟨d1,d2,d3⟩:=GD (k:=11) (q:=q) (by decide) (by omega)
 unfold lf
 simp only [hd,hs,dH,aA (show ¬ G*11+q < G by omega),aB d2]
 rw [d3,K7 (eZ.no 0) (eZ.num kd n i) (jl _) (by omega),kK]
 simp
theorem zxm (n:Nat):nh ah.cells n=bj (List.replicate n ah):=by
 unfold nh bj
 rw [List.flatMap_def,List.map_replicate]
theorem zwG (hi:i<=l.length):aI (bj l) (i*11) (bj (List.replicate (l.length - i) ah))=bj (l.take i++List.replicate (l.length - i) ah):=by
 have e:l=l.take i++l.drop i:=(GS i l).symm
 have h1:(bj (l.take i)).length=i*11:=by rw [zM,gR];congr 1;omega
 have h2:(bj (List.replicate (l.length - i) ah)).length=(l.length - i)*11:=by rw [zM,List.length_replicate]
 have h3:(bj l).length=l.length*11:=zM l
 unfold aI
 rw [La,B8 (by rw [h2,h3];omega),bD]
 congr 1
 conv=>lhs;rw [e]
 rw [La,List.take_left' h1]
theorem zti {T:bN} {h1:Heap} {bs:List aZ} {w k bytes:Nat} (q:ak h1 A (.row (bj l) u false)) (hd:T.desc t=some (.slice u)) (hi:T.info u=some (k,bytes,ah.cells)) (hle:i<=l.length) (hn:n=l.length - i)
 (hK:∀ h',ak h' A (.row (bj (l.take i++List.replicate (l.length - i) ah)) u false)->fc A (h1.lay bs w) h'->K undef h'):kX (uy T t (.slice (some ⟨A,i*11,none⟩) n c) (h1.lay bs w)) K:=by
 subst hn
 by_cases h0:l.length - i=0
 .have e:uy T t (.slice (some ⟨A,i*11,none⟩) (l.length - i) c) (h1.lay bs w)=some (h1.lay bs w):=by
   unfold uy
   simp only [hd,aB h0]
  rw [e]
  refine hK _ ?_ (Ext.refl _).eN
  rw [h0,List.replicate_zero,bD,iR (by omega)]
  exact q.on bs w
 .have hg:(h1.lay bs w).get A=some (.row (bj l) u false):=q.lay bs w
  have hA:A < (h1.lay bs w).size:=(q.on bs w).lt
  have jw:(bj (List.replicate (l.length - i) ah)).all one=true:=by
   rw [jE]
   intro x hx
   unfold bj at hx
   obtain ⟨y,hy,Uc⟩:=G4.1 hx
   have:=(List.mem_replicate.1 hy).2
   subst this
   exact jE.1 (by rfl:ah.cells.all one=true) x Uc
  have e:uy T t (.slice (some ⟨A,i*11,none⟩) (l.length - i) c) (h1.lay bs w)=some ((h1.lay bs w).set A (.row (bj (l.take i++List.replicate (l.length - i) ah)) u false)):=by
   unfold uy
   simp only [hd,aA h0,hi,dH]
   unfold nQ
   rw [hg]
   simp only
   rw [zxm,aB (by simp only [dW,ix];exact ⟨by rw [zM,zM,List.length_replicate];omega,jw⟩),zwG hle]
  rw [e]
  refine hK _ ⟨by rw [Heap.size_set];exact hA,by rw [Heap.aH _ _ _ _ hA,aB rfl]⟩ ⟨by rw [Heap.size_set];exact aQ _,λB hB aL=>by rw [Heap.aH _ _ _ _ hA,aA aL],by rw [Heap.cA];omega⟩
end
theorem zsh {h:Heap} {t:aN} (q:ak h A (.row (bj (s++t)) u false)) (hA:h0.size<=A) (hn:(s++t).length<=100000) (hl:n=s.length) (hc:c=G*11+(s++t).length):i9 h0 h u (.slice (some ⟨A,0,none⟩) n c) s:=by
 subst hl hc
 exact .inr ⟨A,t,rfl,q,hA,hn⟩
theorem zsi {h:Heap} (q:ak h A (.row (bj s) u false)) (hA:h0.size<=A) (hn:s.length<=100000) (hc:c=G*11+s.length):i9 h0 h u (.slice (some ⟨A,0,none⟩) s.length c) s :=
 zsh (t:=[]) (by rw [bD];exact q) hA (by rw [bD];exact hn) rfl (by rw [bD];exact hc)
theorem zre (h:l.length < 2):nS l l.length=l:=by
 match l,h with
 | [],_=>rfl
 | [x],_=>rfl
theorem zuz (hm:m < l.length) (h0:m≠0) (h:nS l m=l.take m) (aL:bg (l.getD m ah) (l.getD (m - 1) ah)≠0):nS l (m+1)=l.take (m+1):=by
 rw [Wo hm,<- h]
 show nS l m++_=_
 rw [aA (λg=>aL g.2)]
theorem zsA (h0:m≠0) (he:bg (l.getD m ah) (l.getD (m - 1) ah)=0):nS l (m+1)=nS l m:=by
 show nS l m++_=_
 rw [aB ⟨h0,he⟩,bD]
theorem zxa (aL:bg (l.getD m ah) (l.getD (m - 1) ah)≠0):nS l (m+1)=nS l m++[l.getD m ah]:=by
 show nS l m++_=_
 rw [aA (λg=>aL g.2)]
theorem zyL {x:ae} (hi:i < l.length):(l.set i x).take (i+1)=l.take i++[x]:=by
 rw [oT,G1,aB rfl,aB hi,List.take_set_of_le (aQ _)]
 rfl
theorem zlX {p:Nat} {x:ae} (h:i≠p):(l.set i x).getD p ah=l.getD p ah:=by
 rw [ni,ni,G1,aA h]
theorem zjT (a:ae):∀ s:aN,(iH a s).length<=s.length+1
 | []=>by simp [iH]
 |x::r=>by
  have:=zjT a r
  unfold iH
  repeat' split
  all_goals simp only [eB]
  all_goals omega
theorem zeP:∀ (m s:aN),(m.foldl (λs a=>iH a s) s).length<=s.length+m.length
 | [],s=>by simp
 |a::m,s=>by
  have h1:=zeP m (iH a s)
  have h2:=zjT a s
  simp only [tP,eB]
  omega
theorem BH (l:aN):(dY l).length<=l.length:=by
 have:=zeP l []
 simpa [dY] using this
structure ME (l:aN) (a:ae) (i:Nat):Prop where
 le:i<=l.length
 lo:∀ k,k < i->bg (l.getD k ah) a < 0
 hi:∀ k,i<=k->k < l.length->¬ bg (l.getD k ah) a < 0
abbrev aG.atoms:aG (aN) :=
 { k:=1,R:=λh cs x=>∃ v,cs=[v]/\Sl aG.atom h v x
   len:=by rintro h cs x ⟨v,rfl,_⟩;rfl
   mono:=by rintro h h' cs x i ⟨v,e,f⟩;exact ⟨v,e,f.mono i⟩
   ig:=by rintro h cs x ⟨v,rfl,f⟩;have:=f.one;simp only [iy,jt,this];rfl }
end Go.Am

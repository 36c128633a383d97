/- Inserting into a list of one's own, in plain terms. No condition. -/
import Derived.Test.YtkgojconmeeegaaGreatDoorGIns
import Derived.Test.YtkgojconmeeegaaGreatDoorG13
set_option linter.unusedSimpArgs false
set_option linter.unusedVariables false
namespace Go.Am
theorem zp5 {s t:aW} {n:Nat} (hn:n=s.length*11):cut (aS (s++t)) 0 n=some (aS s):=by
 rw [sF]
 have h1:(aS s).length=n:=by rw [ob,hn]
 refine sQ (by rw [cW,h1];omega) h1 (λi hi=>?_)
 rw [iu,mX (by omega)]
theorem zng (s:aW):(aS s).all one=true:=by
 rw [gK]
 intro x hx
 unfold aS at hx
 obtain ⟨y,hy,yV⟩:=J1.1 hx
 exact gK.1 (by rfl:y.cells.all one=true) x yV
theorem zyB (s:aW) (a:ak):aS s++a.cells=aS (s++[a]):=by
 rw [sF]
 unfold aS
 simp
theorem zAC (s:aW) (a:ak) (i:Nat) (hi:i<=s.length):(aS s).take (i*11)++a.cells++(aS s).drop (i*11)=aS (s.take i++a::s.drop i):=by
 have h1:(aS (s.take i)).length=i*11:=by rw [ob,fj];congr 1;omega
 have e:aS s=aS (s.take i)++aS (s.drop i):=by rw [<- sF,qo]
 rw [e,List.take_left' h1,List.drop_left' h1,sF,jD]
 congr 1
theorem zxt {T:bL} {t u:TypeId} {bytes:Nat} {z:List ae} (hd:T.desc t=some (.slice u)) (hi:T.info u=some (11,bytes,z)) (hu:u≠SC) (vq:bytes<=1000) {h0 h1:Heap} {w:ae} {s:aW} {a:ak} {i lw:Nat}
 (hz:h0.size<=h1.size) (ho:eo h0 h1 u w s) (hn:s.length<=10000) (aK:i<=s.length) :
 ∃ w' H',rQ T t [w,.int .i64 i,.slice (some ⟨h1.size+0,0,none⟩) 1 1] (h1.lay [.row a.cells u false] lw)=some (w',H')/\eo h0 H' u w' (s.take i++a::s.drop i)/\∃ A,h0.size<=A/\fB A (h1.lay [.row a.cells u false] lw) H':=by
 obtain ⟨H,hH⟩:∃ H,H=h1.lay [.row a.cells u false] lw:=⟨_,rfl⟩
 have DJ:H.get (h1.size+0)=some (.row a.cells u false):=by rw [hH,gH];rfl
 have zU:H.size=h1.size+1:=by rw [hH,bf];rfl
 rw [<- hH]
 have Dy:cut a.cells 0 11=some a.cells:=rfl
 have bn:a.cells.all one=true:=rfl
 have ku:fT (.slice (some ⟨h1.size+0,0,none⟩) 1 1) 11 H=some (1,a.cells):=by
  unfold fT nQ gS
  simp only [DJ,Dy,jZ,Nat.one_mul]
  rfl
 have GI:∀ b,fB h1.size H (H.push b):=λb=>⟨by rw [Heap.size_push];omega,λB h1 h2=>by rw [Heap.bx,az (by omega)],by rw [Heap.dv];omega⟩
 have hG:=AJ
 rcases ho with ⟨rfl,Ge⟩|⟨A,tl,rfl,hq,hA,hle⟩
 .-- nothing there
  have ru:i=0:=by simpa using aK
  subst ru
  have key:∀ base c,c=0->nQ (.slice base 0 c) 11 H=some []->iP T t (.slice base 0 c) (.slice (some ⟨h1.size+0,0,none⟩) 1 1) H=some (.slice (some ⟨H.size,0,none⟩) 1 (G*11+1),H.push (.row a.cells u false)):=by
   intro base c hc eV
   subst hc
   unfold iP
   simp only [hd,hi,dX,ku,eV,bn]
   rw [az (by omega),az (by simp;omega),az (by simp),aE (by unfold G;omega)]
   rfl
  refine ⟨.slice (some ⟨H.size,0,none⟩) 1 (G*11+1),H.push (.row a.cells u false),?_,?_,h1.size,hz,GI _⟩
  .rcases Ge.no with rfl|⟨B,o,rfl⟩
   .unfold rQ
    simp only [hd]
    rw [aE trivial]
    exact key _ _ rfl rfl
   .unfold rQ
    simp only [hd]
    rw [aE trivial]
    exact key _ _ rfl rfl
  .refine RE (s:=[a]) (A:=H.size) ⟨by rw [Heap.size_push];omega,?_⟩ (by omega) (by simp) rfl
   rw [Heap.bx,aE rfl]
   rfl
 .have NZ:H.get A=some (.row (aS (s++tl)) u false):=by rw [hH];exact hq.lay _ _
  have ana:A < h1.size:=hq.lt
  have hlen:(s++tl).length=s.length+tl.length:=cW
  obtain ⟨d1,d3,d2⟩:=CK (k:=11) (q:=(s++tl).length) (by decide) (by omega)
  have hold:nQ (.slice (some ⟨A,0,none⟩) s.length (G*11+(s++tl).length)) 11 H=some (aS s):=by
   unfold nQ
   simp only
   split
   .rename_i h0
    have:s=[]:=zG.1 (by omega)
    subst this
    rfl
   .unfold gS
    rw [NZ]
    exact zp5 rfl
  have yu:∀ b,fB A H ((H.set A .dead).push b):=λb=>⟨by rw [Heap.size_push,Heap.size_set];omega,λB h1 h2=>by rw [Heap.bx,Heap.size_set,az (by omega),Heap.aR _ _ _ _ (by omega),az h2],by rw [Heap.dv,Heap.bX];omega⟩
  by_cases jO:i=s.length
  .subst jO
   have Gt:rQ T t [.slice (some ⟨A,0,none⟩) s.length (G*11+(s++tl).length),.int .i64 s.length,.slice (some ⟨h1.size+0,0,none⟩) 1 1] H=iP T t (.slice (some ⟨A,0,none⟩) s.length (G*11+(s++tl).length)) (.slice (some ⟨h1.size+0,0,none⟩) 1 1) H:=by
    unfold rQ
    simp only [hd]
    rw [aE trivial]
   rw [Gt]
   have lM:s.take s.length++a::s.drop s.length=s++[a]:=by rw [AQ,List.drop_length]
   rw [lM]
   have Ye:¬ ((s.length+1)*bytes > 140737488355328):=by
    have:(s.length+1)*bytes<=10001*1000:=J8 (by omega) vq
    omega
   cases tl with
   |nil =>
    have o8:iP T t (.slice (some ⟨A,0,none⟩) s.length (G*11+(s++[]).length)) (.slice (some ⟨h1.size+0,0,none⟩) 1 1) H=some (.slice (some ⟨H.size,0,none⟩) (s.length+1) (G*11+(s.length+1)),(H.set A .dead).push (.row (aS s++a.cells) u false)):=by
     unfold iP
     simp only [hd,hi,dX,ku,bn,NZ]
     rw [az (by omega),az (by simp;omega),az (by rw [d2];simp),hold]
     simp only [dX]
     rw [az (by omega),aE (by rw [d3];simp)]
    rw [o8]
    refine ⟨_,_,rfl,?_,A,hA,yu _⟩
    have:=RE (h0:=h0) (u:=u) (s:=s++[a]) (A:=H.size) (h:=(H.set A .dead).push (.row (aS s++a.cells) u false)) ⟨by rw [Heap.size_push,Heap.size_set];omega,by rw [Heap.bx,Heap.size_set,aE rfl,zyB]⟩ (by omega) (by rw [cW];simp;omega) rfl
    simpa using this
   |cons x tl =>
    have YI:s.length < (s++x::tl).length:=by rw [cW];simp
    have jT:(s++x::tl).set s.length a=s++[a]++tl:=by
     rw [List.set_append_right _ _ (bo _),Df,gX]
     simp
    have hw:kH A (0+s.length*11) a.cells H=some (H.set A (.row (aS (s++[a]++tl)) u false)):=by
     unfold kH
     rw [NZ]
     simp only
     rw [iu,ztE YI,jT,aE]
     simp only [dP,gY]
     refine ⟨?_,bn⟩
     rw [ob,show a.cells.length=11 from rfl]
     omega
    have o8:iP T t (.slice (some ⟨A,0,none⟩) s.length (G*11+(s++x::tl).length)) (.slice (some ⟨h1.size+0,0,none⟩) 1 1) H=some (.slice (some ⟨A,0,none⟩) (s.length+1) (G*11+(s++x::tl).length),H.set A (.row (aS (s++[a]++tl)) u false)):=by
     unfold iP
     simp only [hd,hi,dX,ku,bn]
     rw [az (by omega),az (by simp;omega),aE (by rw [d2];omega),aE (by rw [d3];simp),hw]
     rfl
    rw [o8]
    refine ⟨_,_,rfl,?_,A,hA,⟨by rw [Heap.size_set];omega,λB h1 h2=>by rw [Heap.aR _ _ _ _ (by omega),az h2],by rw [Heap.bX];omega⟩⟩
    refine znc (s:=s++[a]) (t:=tl) (A:=A) ⟨by rw [Heap.size_set];omega,by rw [Heap.aR _ _ _ _ (by omega),aE rfl]⟩ hA ?_ (by simp) ?_
    .simp only [cW,de,dr] at hle ⊢
     omega
    .congr 1
     simp only [cW,de,dr]
     omega
  .have tE:i < s.length:=by omega
   have Gt:rQ T t [.slice (some ⟨A,0,none⟩) s.length (G*11+(s++tl).length),.int .i64 i,.slice (some ⟨h1.size+0,0,none⟩) 1 1] H=some (.slice (some ⟨H.size,0,none⟩) (s.length+1) (G*11+(s.length+1)),(H.set A .dead).push (.row ((aS s).take (i*11)++a.cells++(aS s).drop (i*11)) u false)):=by
    unfold rQ
    simp only [hd]
    rw [az (by omega)]
    simp only [hi,DJ,NZ]
    rw [aE (by
     refine ⟨⟨by omega,by omega,by omega,trivial,trivial,hu,by decide,d1,d3⟩,?_,by omega⟩
     have:(s.length+1)*bytes<=10001*1000:=J8 (by omega) vq
     omega)]
    have e1:gS A 0 (s.length*11) H=some (aS s):=by
     unfold gS
     rw [NZ]
     exact zp5 rfl
    have e2:gS (h1.size+0) 0 11 H=some a.cells:=by
     unfold gS
     rw [DJ]
     exact Dy
    simp only [e1,e2,dX]
    rw [aE ⟨bn,zng s⟩,R3]
   rw [Gt]
   refine ⟨_,_,rfl,?_,A,hA,yu _⟩
   have hl:(s.take i++a::s.drop i).length=s.length+1:=by simp only [cW,fj,de,lk];omega
   have:=RE (h0:=h0) (u:=u) (s:=s.take i++a::s.drop i) (A:=H.size) (c:=G*11+(s.length+1)) (h:=(H.set A .dead).push (.row ((aS s).take (i*11)++a.cells++(aS s).drop (i*11)) u false)) ⟨by rw [Heap.size_push,Heap.size_set];omega,by rw [Heap.bx,Heap.size_set,aE rfl,zAC s a i (by omega)]⟩ (by omega) (by omega) (by rw [hl])
   rw [hl] at this
   exact this
end Go.Am
namespace Go.Am
variable {i:Nat} {a:ak} {s:aW}
theorem fm.tail {x:ak} {r:aW} (p:fm (x::r) a (i+1)):fm r a i :=
 ⟨by have:=p.le;simp at this;exact this,λk hk=>by have:=p.lo (k+1) (by omega);simpa using this,λk h1 h2=>by have:=p.hi (k+1) (by omega) (by simp;omega);simpa using this⟩
theorem zpW:∀ {s:aW} {a:ak} {i:Nat},fm s a i->bH s a=false->s.take i++a::s.drop i=cD a s
 | [],a,i,p,h=>by
  have:i=0:=by have:=p.le;simpa using this
  subst this
  rfl
 |x::r,a,0,p,h=>by
  have h1:=p.hi 0 (bo _) (by simp)
  simp only [List.getD_cons_zero] at h1
  have h2:aT x a≠0:=λe=>by
   have:bH (x::r) a=true:=cY.2 ⟨x,lj ..,bW.1 e⟩
   rw [h] at this
   cases this
  have h3:aT a x < 0:=by
   have:=wS a x
   omega
  unfold cD
  rw [aE h3]
  rfl
 |x::r,a,i+1,p,h=>by
  have h1:=p.lo 0 (by omega)
  simp only [List.getD_cons_zero] at h1
  have h3:¬ aT a x < 0:=λg=>zhC g h1
  have h4:¬ aT a x=0:=λg=>by
   have:=wS a x
   omega
  unfold cD
  rw [az h3,az h4]
  have h5:bH r a=false:=by
   cases e:bH r a
   .rfl
   .obtain ⟨y,hy,e2⟩:=cY.1 e
    have:bH (x::r) a=true:=cY.2 ⟨y,gJ _ hy,e2⟩
    rw [h] at this
    cases this
  rw [<- zpW p.tail h5]
  rfl
theorem zr8:∀ {s:aW} {a:ak},eh s->bH s a=true->cD a s=s
 | [],a,_,h=>by simp [bH] at h
 |x::r,a,hs,h=>by
  have g:=ub.1 hs
  unfold cD
  obtain ⟨y,hy,e⟩:=cY.1 h
  rcases dG.1 hy with rfl|hy
  .have e0:aT a y=0:=bW.2 e.symm
   rw [az (by omega),aE e0]
  .have e0:aT y a=0:=bW.2 e
   have h1:aT x a < 0:=Rh (g.1 y hy) (Int.le_of_eq e0)
   have h3:¬ aT a x < 0:=λg=>zhC g h1
   have h4:¬ aT a x=0:=λg=>by
    have:=wS a x
    omega
   rw [az h3,az h4,zr8 g.2 (cY.2 ⟨y,hy,e⟩)]
def fG (a:ak) (s:aW):aW:=s.filter (λx=>cF x != cF a)
theorem zBo (h:bH s a=false):fG a s=s:=by
 refine RX.2 (λx hx=>?_)
 cases e:cF x != cF a
 .have e2:cF x=cF a:=by simpa using e
  have:bH s a=true:=cY.2 ⟨x,hx,e2⟩
  rw [h] at this
  cases this
 .rfl
theorem zw3 (hs:eh s) (p:fm s a i) (h:bH s a=true):i < s.length/\s.take i++s.drop (i+1)=fG a s:=by
 obtain ⟨hi,e0⟩:=(p.has hs).1 h
 refine ⟨hi,?_⟩
 have hd:s.drop i=s.getD i ab::s.drop (i+1):=by
  rw [C0 hi]
  congr 1
  rw [kK,gI hi]
  rfl
 unfold fG
 conv=>rhs;rw [<- qo i s]
 rw [zL,hd]
 congr 1
 .symm
  refine RX.2 (λx hx=>?_)
  obtain ⟨k,hk⟩:=AP hx
  rw [lX] at hk
  split at hk
  .rename_i qB
   have h1:=p.lo k qB
   rw [kK,hk] at h1
   have h1:aT x a < 0:=h1
   rw [bne_iff_ne]
   intro e
   have:=bW.2 e
   omega
  .cases hk
 .have e1:cF (s.getD i ab)=cF a:=bW.1 e0
  rw [ER,az (by rw [e1];simp)]
  symm
  refine RX.2 (λx hx=>?_)
  obtain ⟨k,hk⟩:=AP hx
  rw [lA] at hk
  have kF:=(dz.1 hk).1
  have h1:=Sn (fQ.1 hs) (show i < i+1+k by omega) kF
  rw [kK (i:=i+1+k),hk] at h1
  have h1:aT (s.getD i ab) x < 0:=h1
  rw [bne_iff_ne]
  intro e
  have h2:aT (s.getD i ab) x=0:=bW.2 (e1.trans e.symm)
  omega
theorem zse {l m:aW} (hi:i+m.length<=l.length):aF (aS l) (i*11) (aS m)=aS (l.take i++(m++l.drop (i+m.length))):=by
 have e:l=l.take i++l.drop i:=(qo i l).symm
 have h1:(aS (l.take i)).length=i*11:=by rw [ob,fj];congr 1;omega
 have e2:l=l.take (i+m.length)++l.drop (i+m.length):=(qo (i+m.length) l).symm
 have h2:(aS (l.take (i+m.length))).length=i*11+(aS m).length:=by rw [ob,ob,fj,<- sZ];congr 1;omega
 unfold aF
 have f1:(aS l).take (i*11)=aS (l.take i):=by
  conv=>lhs;rw [e]
  rw [sF,List.take_left' h1]
 have f2:(aS l).drop (i*11+(aS m).length)=aS (l.drop (i+m.length)):=by
  conv=>lhs;rw [e2]
  rw [sF,List.drop_left' h2]
 rw [f1,f2,sF,sF,jD]
theorem zyA {l m p:aW} {o n:Nat} (h1:o=l.length*11) (h2:n=m.length*11):cut (aS (l++(m++p))) o n=some (aS m):=by
 have g1:(aS l).length=o:=by rw [ob,h1]
 have g2:(aS m).length=n:=by rw [ob,h2]
 rw [sF,sF]
 refine sQ (by simp only [cW,g1,g2];omega) g2 (λi hi=>?_)
 rw [px (by omega),g1,mX (by omega)]
 congr 1
 omega
theorem zut {T:bL} {t u:TypeId} {bytes:Nat} {z:List ae} (hd:T.desc t=some (.slice u)) (hi:T.info u=some (11,bytes,z)) (vq:bytes<=1000) {h:Heap} {A C2:Nat} {tl:aW}
 (q:Holds h A (.row (aS (s++tl)) u false)) (aK:i < s.length) (hn:s.length<=10000) (hle:(s++tl).length<=100000) :
 ∃ h',iP T t (.slice (some ⟨A,0,none⟩) i (G*11+(s++tl).length)) (.slice (some ⟨A,(i+1)*11,none⟩) (s.length - (i+1)) C2) h=some (.slice (some ⟨A,0,none⟩) (s.length - 1) (G*11+(s++tl).length),h') /\
   Holds h' A (.row (aS (s.take i++s.drop (i+1)++(s.drop (s.length - 1)++tl))) u false)/\fB A h h':=by
 have hG:=AJ
 obtain ⟨d1,d3,d2⟩:=CK (k:=11) (q:=(s++tl).length) (by decide) (by omega)
 have hg:h.get A=some (.row (aS (s++tl)) u false):=q.get
 have hA:A < h.size:=q.lt
 have hlen:(s++tl).length=s.length+tl.length:=cW
 have GH:s++tl=s.take (i+1)++(s.drop (i+1)++tl):=by rw [<- jD,qo]
 have hm:s.length - (i+1)=(s.drop (i+1)).length:=by rw [lk]
 by_cases h0:s.length - (i+1)=0
 .have iD:i=s.length - 1:=by omega
  have ku:fT (.slice (some ⟨A,(i+1)*11,none⟩) (s.length - (i+1)) C2) 11 h=some (0,[]):=by
   rw [h0]
   rfl
  have o8:iP T t (.slice (some ⟨A,0,none⟩) i (G*11+(s++tl).length)) (.slice (some ⟨A,(i+1)*11,none⟩) (s.length - (i+1)) C2) h=some (.slice (some ⟨A,0,none⟩) i (G*11+(s++tl).length),h):=by
   unfold iP
   simp only [hd,hi,dX,ku]
   rw [aE trivial]
  rw [o8]
  refine ⟨h,by rw [iD],?_,⟨bo _,λ_ _ _=>rfl,by omega⟩⟩
  have e:s.take i++s.drop (i+1)++(s.drop (s.length - 1)++tl)=s++tl:=by
   rw [show s.drop (i+1)=[] from zE (by omega),bu,<- iD,<- jD,qo]
  rw [e]
  exact q
 .have ku:fT (.slice (some ⟨A,(i+1)*11,none⟩) (s.length - (i+1)) C2) 11 h=some (s.length - (i+1),aS (s.drop (i+1))):=by
   unfold fT nQ
   simp only
   rw [az (by omega)]
   unfold gS
   rw [hg]
   simp only
   rw [GH,zyA (by rw [fj];congr 1;omega) (by rw [hm])]
   rfl
  have hl:i+(s.drop (i+1)).length<=(s++tl).length:=by rw [<- hm,hlen];omega
  have cP:aF (aS (s++tl)) (i*11) (aS (s.drop (i+1)))=aS (s.take i++s.drop (i+1)++(s.drop (s.length - 1)++tl)):=by
   rw [zse hl]
   congr 1
   rw [List.take_append_of_le_length (by omega),jD]
   congr 2
   rw [<- hm,show i+(s.length - (i+1))=s.length - 1 by omega,List.drop_append_of_le_length (by omega)]
  have hw:kH A (0+i*11) (aS (s.drop (i+1))) h=some (h.set A (.row (aS (s.take i++s.drop (i+1)++(s.drop (s.length - 1)++tl))) u false)):=by
   unfold kH
   rw [hg]
   simp only
   rw [iu,cP,aE]
   simp only [dP,gY]
   refine ⟨?_,zng _⟩
   rw [ob,ob,<- sZ]
   exact py _ hl
  have o8:iP T t (.slice (some ⟨A,0,none⟩) i (G*11+(s++tl).length)) (.slice (some ⟨A,(i+1)*11,none⟩) (s.length - (i+1)) C2) h=some (.slice (some ⟨A,0,none⟩) (s.length - 1) (G*11+(s++tl).length),h.set A (.row (aS (s.take i++s.drop (i+1)++(s.drop (s.length - 1)++tl))) u false)):=by
   have Ye:¬ ((i+(s.length - (i+1)))*bytes > 140737488355328):=by
    have:(i+(s.length - (i+1)))*bytes<=10001*1000:=J8 (by omega) vq
    omega
   unfold iP
   simp only [hd,hi,dX,ku,zng]
   rw [az h0,az (by simp;omega),aE (by rw [d2];omega),aE (by rw [d3];simp),hw]
   simp only [jZ]
   rw [show i+(s.length - (i+1))=s.length - 1 by omega]
  rw [o8]
  exact ⟨_,rfl,⟨by rw [Heap.size_set];exact hA,by rw [Heap.aR _ _ _ _ hA,aE rfl]⟩,⟨by rw [Heap.size_set];omega,λB h1 h2=>by rw [Heap.aR _ _ _ _ hA,az h2],by rw [Heap.bX];omega⟩⟩
end Go.Am

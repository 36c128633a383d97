/- Inserting into a list of one's own, in plain terms. No condition. -/
import Derived.Test.YtiapegieocgmfaaGreatDoorGIns
import Derived.Test.YtiapegieocgmfaaGreatDoorG16
set_option linter.unusedSimpArgs false
set_option linter.unusedVariables false
namespace Go.Am
theorem zpw {s t:aS} {n:Nat} (hn:n=s.length*11):cut (aP (s++t)) 0 n=some (aP s):=by
 rw [si]
 have h1:(aP s).length=n:=by rw [od,hn]
 refine sq (by rw [dy,h1];omega) h1 (λi hi=>?_)
 rw [jo,nc (by omega)]
theorem znc (s:aS):(aP s).all one=true:=by
 rw [iT]
 intro x hx
 unfold aP at hx
 obtain ⟨y,hy,BW⟩:=List.mem_flatMap.1 hx
 exact iT.1 (by rfl:y.cells.all one=true) x BW
theorem zpv (s:aS) (a:ak):aP s++a.cells=aP (s++[a]):=by
 rw [si]
 unfold aP
 simp
theorem zzg (s:aS) (a:ak) (i:Nat) (hi:i<=s.length):(aP s).take (i*11)++a.cells++(aP s).drop (i*11)=aP (s.take i++a::s.drop i):=by
 have h1:(aP (s.take i)).length=i*11:=by rw [od,gh];congr 1;omega
 have e:aP s=aP (s.take i)++aP (s.drop i):=by rw [<- si,qv]
 rw [e,List.take_left' h1,List.drop_left' h1,si,j7]
 congr 1
theorem zwj {T:bI} {t u:TypeId} {bytes:Nat} {z:List ab} (hd:T.desc t=some (.slice u)) (hi:T.info u=some (11,bytes,z)) (hu:u≠Rm) (sU:bytes<=1000) {h0 h1:Heap} {w:ab} {s:aS} {a:ak} {i lw:Nat}
 (hz:h0.size<=h1.size) (ho:dG h0 h1 u w s) (hn:s.length<=10000) (aO:i<=s.length) :
 ∃ w' H',rM T t [w,.int .i64 i,.slice (some ⟨h1.size+0,0,none⟩) 1 1] (h1.lay [.row a.cells u false] lw)=some (w',H')/\dG h0 H' u w' (s.take i++a::s.drop i)/\∃ A,h0.size<=A/\eG A (h1.lay [.row a.cells u false] lw) H':=by
 obtain ⟨H,hH⟩:∃ H,H=h1.lay [.row a.cells u false] lw:=⟨_,rfl⟩
 have Ae:H.get (h1.size+0)=some (.row a.cells u false):=by rw [hH,iB];rfl
 have RY:H.size=h1.size+1:=by rw [hH,bc];rfl
 rw [<- hH]
 have tW:cut a.cells 0 11=some a.cells:=rfl
 have bf:a.cells.all one=true:=rfl
 have jd:fw (.slice (some ⟨h1.size+0,0,none⟩) 1 1) 11 H=some (1,a.cells):=by
  unfold fw mg gD
  simp only [Ae,tW,jn,Nat.one_mul]
  rfl
 have Gu:∀ b,eG h1.size H (H.push b):=λb=>⟨by rw [Heap.size_push];omega,λB h1 h2=>by rw [Heap.bg,az (by omega)],by rw [Heap.cR];omega⟩
 have hG:=wj
 rcases ho with ⟨rfl,yk⟩|⟨A,tl,rfl,hq,hA,hle⟩
 .-- nothing there
  have sY:i=0:=by simpa using aO
  subst sY
  have key:∀ base c,c=0->mg (.slice base 0 c) 11 H=some []->gC T t (.slice base 0 c) (.slice (some ⟨h1.size+0,0,none⟩) 1 1) H=some (.slice (some ⟨H.size,0,none⟩) 1 (G*11+1),H.push (.row a.cells u false)):=by
   intro base c hc eD
   subst hc
   unfold gC
   simp only [hd,hi,dM,jd,eD,bf]
   rw [az (by omega),az (by simp;omega),az (by simp),aE (by unfold G;omega)]
   rfl
  refine ⟨.slice (some ⟨H.size,0,none⟩) 1 (G*11+1),H.push (.row a.cells u false),?_,?_,h1.size,hz,Gu _⟩
  .rcases yk.no with rfl|⟨B,o,rfl⟩
   .unfold rM
    simp only [hd]
    rw [aE trivial]
    exact key _ _ rfl rfl
   .unfold rM
    simp only [hd]
    rw [aE trivial]
    exact key _ _ rfl rfl
  .refine Qu (s:=[a]) (A:=H.size) ⟨by rw [Heap.size_push];omega,?_⟩ (by omega) (by simp) rfl
   rw [Heap.bg,aE rfl]
   rfl
 .have DD:H.get A=some (.row (aP (s++tl)) u false):=by rw [hH];exact hq.lay _ _
  have Ma:A < h1.size:=hq.lt
  have hlen:(s++tl).length=s.length+tl.length:=dy
  obtain ⟨d1,d3,d2⟩:=xd (k:=11) (q:=(s++tl).length) (by decide) (by omega)
  have hold:mg (.slice (some ⟨A,0,none⟩) s.length (G*11+(s++tl).length)) 11 H=some (aP s):=by
   unfold mg
   simp only
   split
   .rename_i h0
    have:s=[]:=xu.1 (by omega)
    subst this
    rfl
   .unfold gD
    rw [DD]
    exact zpw rfl
  have yy:∀ b,eG A H ((H.set A .dead).push b):=λb=>⟨by rw [Heap.size_push,Heap.size_set];omega,λB h1 h2=>by rw [Heap.bg,Heap.size_set,az (by omega),Heap.aJ _ _ _ _ (by omega),az h2],by rw [Heap.cR,Heap.bQ];omega⟩
  by_cases k9:i=s.length
  .subst k9
   have Gd:rM T t [.slice (some ⟨A,0,none⟩) s.length (G*11+(s++tl).length),.int .i64 s.length,.slice (some ⟨h1.size+0,0,none⟩) 1 1] H=gC T t (.slice (some ⟨A,0,none⟩) s.length (G*11+(s++tl).length)) (.slice (some ⟨h1.size+0,0,none⟩) 1 1) H:=by
    unfold rM
    simp only [hd]
    rw [aE trivial]
   rw [Gd]
   have lV:s.take s.length++a::s.drop s.length=s++[a]:=by rw [JW,List.drop_length]
   rw [lV]
   have Mz:¬ ((s.length+1)*bytes > 140737488355328):=by
    have:(s.length+1)*bytes<=10001*1000:=EE (by omega) sU
    omega
   cases tl with
   |nil =>
    have nX:gC T t (.slice (some ⟨A,0,none⟩) s.length (G*11+(s++[]).length)) (.slice (some ⟨h1.size+0,0,none⟩) 1 1) H=some (.slice (some ⟨H.size,0,none⟩) (s.length+1) (G*11+(s.length+1)),(H.set A .dead).push (.row (aP s++a.cells) u false)):=by
     unfold gC
     simp only [hd,hi,dM,jd,bf,DD]
     rw [az (by omega),az (by simp;omega),az (by rw [d2];simp),hold]
     simp only [dM]
     rw [az (by omega),aE (by rw [d3];simp)]
    rw [nX]
    refine ⟨_,_,rfl,?_,A,hA,yy _⟩
    have:=Qu (h0:=h0) (u:=u) (s:=s++[a]) (A:=H.size) (h:=(H.set A .dead).push (.row (aP s++a.cells) u false)) ⟨by rw [Heap.size_push,Heap.size_set];omega,by rw [Heap.bg,Heap.size_set,aE rfl,zpv]⟩ (by omega) (by rw [dy];simp;omega) rfl
    simpa using this
   |cons x tl =>
    have XS:s.length < (s++x::tl).length:=by rw [dy];simp
    have iN:(s++x::tl).set s.length a=s++[a]++tl:=by
     rw [List.set_append_right _ _ (bj _),EF,oV]
     simp
    have hw:ki A (0+s.length*11) a.cells H=some (H.set A (.row (aP (s++[a]++tl)) u false)):=by
     unfold ki
     rw [DD]
     simp only
     rw [jo,zsR XS,iN,aE]
     simp only [ep,jH]
     refine ⟨?_,bf⟩
     rw [od,show a.cells.length=11 from rfl]
     omega
    have nX:gC T t (.slice (some ⟨A,0,none⟩) s.length (G*11+(s++x::tl).length)) (.slice (some ⟨h1.size+0,0,none⟩) 1 1) H=some (.slice (some ⟨A,0,none⟩) (s.length+1) (G*11+(s++x::tl).length),H.set A (.row (aP (s++[a]++tl)) u false)):=by
     unfold gC
     simp only [hd,hi,dM,jd,bf]
     rw [az (by omega),az (by simp;omega),aE (by rw [d2];omega),aE (by rw [d3];simp),hw]
     rfl
    rw [nX]
    refine ⟨_,_,rfl,?_,A,hA,⟨by rw [Heap.size_set];omega,λB h1 h2=>by rw [Heap.aJ _ _ _ _ (by omega),az h2],by rw [Heap.bQ];omega⟩⟩
    refine zm7 (s:=s++[a]) (t:=tl) (A:=A) ⟨by rw [Heap.size_set];omega,by rw [Heap.aJ _ _ _ _ (by omega),aE rfl]⟩ hA ?_ (by simp) ?_
    .simp only [dy,dn,dN] at hle ⊢
     omega
    .congr 1
     simp only [dy,dn,dN]
     omega
  .have sZ:i < s.length:=by omega
   have Gd:rM T t [.slice (some ⟨A,0,none⟩) s.length (G*11+(s++tl).length),.int .i64 i,.slice (some ⟨h1.size+0,0,none⟩) 1 1] H=some (.slice (some ⟨H.size,0,none⟩) (s.length+1) (G*11+(s.length+1)),(H.set A .dead).push (.row ((aP s).take (i*11)++a.cells++(aP s).drop (i*11)) u false)):=by
    unfold rM
    simp only [hd]
    rw [az (by omega)]
    simp only [hi,Ae,DD]
    rw [aE (by
     refine ⟨⟨by omega,by omega,by omega,trivial,trivial,hu,by decide,d1,d3⟩,?_,by omega⟩
     have:(s.length+1)*bytes<=10001*1000:=EE (by omega) sU
     omega)]
    have e1:gD A 0 (s.length*11) H=some (aP s):=by
     unfold gD
     rw [DD]
     exact zpw rfl
    have e2:gD (h1.size+0) 0 11 H=some a.cells:=by
     unfold gD
     rw [Ae]
     exact tW
    simp only [e1,e2,dM]
    rw [aE ⟨bf,znc s⟩,Q0]
   rw [Gd]
   refine ⟨_,_,rfl,?_,A,hA,yy _⟩
   have hl:(s.take i++a::s.drop i).length=s.length+1:=by simp only [dy,gh,dn,kP];omega
   have:=Qu (h0:=h0) (u:=u) (s:=s.take i++a::s.drop i) (A:=H.size) (c:=G*11+(s.length+1)) (h:=(H.set A .dead).push (.row ((aP s).take (i*11)++a.cells++(aP s).drop (i*11)) u false)) ⟨by rw [Heap.size_push,Heap.size_set];omega,by rw [Heap.bg,Heap.size_set,aE rfl,zzg s a i (by omega)]⟩ (by omega) (by omega) (by rw [hl])
   rw [hl] at this
   exact this
end Go.Am
namespace Go.Am
variable {i:Nat} {a:ak} {s:aS}
theorem fm.tail {x:ak} {r:aS} (p:fm (x::r) a (i+1)):fm r a i :=
 ⟨by have:=p.le;simp at this;exact this,λk hk=>by have:=p.lo (k+1) (by omega);simpa using this,λk h1 h2=>by have:=p.hi (k+1) (by omega) (by simp;omega);simpa using this⟩
theorem zpl:∀ {s:aS} {a:ak} {i:Nat},fm s a i->bE s a=false->s.take i++a::s.drop i=cD a s
 | [],a,i,p,h=>by
  have:i=0:=by have:=p.le;simpa using this
  subst this
  rfl
 |x::r,a,0,p,h=>by
  have h1:=p.hi 0 (bj _) (by simp)
  simp only [List.getD_cons_zero] at h1
  have h2:aX x a≠0:=λe=>by
   have:bE (x::r) a=true:=cP.2 ⟨x,jm ..,bT.1 e⟩
   rw [h] at this
   cases this
  have h3:aX a x < 0:=by
   have:=wZ a x
   omega
  unfold cD
  rw [aE h3]
  rfl
 |x::r,a,i+1,p,h=>by
  have h1:=p.lo 0 (by omega)
  simp only [List.getD_cons_zero] at h1
  have h3:¬ aX a x < 0:=λg=>zhl g h1
  have h4:¬ aX a x=0:=λg=>by
   have:=wZ a x
   omega
  unfold cD
  rw [az h3,az h4]
  have h5:bE r a=false:=by
   cases e:bE r a
   .rfl
   .obtain ⟨y,hy,e2⟩:=cP.1 e
    have:bE (x::r) a=true:=cP.2 ⟨y,fB _ hy,e2⟩
    rw [h] at this
    cases this
  rw [<- zpl p.tail h5]
  rfl
theorem zrh:∀ {s:aS} {a:ak},ef s->bE s a=true->cD a s=s
 | [],a,_,h=>by simp [bE] at h
 |x::r,a,hs,h=>by
  have g:=tK.1 hs
  unfold cD
  obtain ⟨y,hy,e⟩:=cP.1 h
  rcases dh.1 hy with rfl|hy
  .have e0:aX a y=0:=bT.2 e.symm
   rw [az (by omega),aE e0]
  .have e0:aX y a=0:=bT.2 e
   have h1:aX x a < 0:=P8 (g.1 y hy) (Int.le_of_eq e0)
   have h3:¬ aX a x < 0:=λg=>zhl g h1
   have h4:¬ aX a x=0:=λg=>by
    have:=wZ a x
    omega
   rw [az h3,az h4,zrh g.2 (cP.2 ⟨y,hy,e⟩)]
def eQ (a:ak) (s:aS):aS:=s.filter (λx=>cL x != cL a)
theorem zzX (h:bE s a=false):eQ a s=s:=by
 refine QP.2 (λx hx=>?_)
 cases e:cL x != cL a
 .have e2:cL x=cL a:=by simpa using e
  have:bE s a=true:=cP.2 ⟨x,hx,e2⟩
  rw [h] at this
  cases this
 .rfl
theorem zvW (hs:ef s) (p:fm s a i) (h:bE s a=true):i < s.length/\s.take i++s.drop (i+1)=eQ a s:=by
 obtain ⟨hi,e0⟩:=(p.has hs).1 h
 refine ⟨hi,?_⟩
 have hd:s.drop i=s.getD i ae::s.drop (i+1):=by
  rw [Eg hi]
  congr 1
  rw [lB,gF hi]
  rfl
 unfold eQ
 conv=>rhs;rw [<- qv i s]
 rw [AO,hd]
 congr 1
 .symm
  refine QP.2 (λx hx=>?_)
  obtain ⟨k,hk⟩:=uL hx
  rw [mi] at hk
  split at hk
  .rename_i vu
   have h1:=p.lo k vu
   rw [lB,hk] at h1
   have h1:aX x a < 0:=h1
   rw [bne_iff_ne]
   intro e
   have:=bT.2 e
   omega
  .cases hk
 .have e1:cL (s.getD i ae)=cL a:=bT.1 e0
  rw [HZ,az (by rw [e1];simp)]
  symm
  refine QP.2 (λx hx=>?_)
  obtain ⟨k,hk⟩:=uL hx
  rw [lL] at hk
  have lh:=(dP.1 hk).1
  have h1:=QV (iK.1 hs) (show i < i+1+k by omega) lh
  rw [lB (i:=i+1+k),hk] at h1
  have h1:aX (s.getD i ae) x < 0:=h1
  rw [bne_iff_ne]
  intro e
  have h2:aX (s.getD i ae) x=0:=bT.2 (e1.trans e.symm)
  omega
theorem zrn {l m:aS} (hi:i+m.length<=l.length):aB (aP l) (i*11) (aP m)=aP (l.take i++(m++l.drop (i+m.length))):=by
 have e:l=l.take i++l.drop i:=(qv i l).symm
 have h1:(aP (l.take i)).length=i*11:=by rw [od,gh];congr 1;omega
 have e2:l=l.take (i+m.length)++l.drop (i+m.length):=(qv (i+m.length) l).symm
 have h2:(aP (l.take (i+m.length))).length=i*11+(aP m).length:=by rw [od,od,gh,<- rS];congr 1;omega
 unfold aB
 have f1:(aP l).take (i*11)=aP (l.take i):=by
  conv=>lhs;rw [e]
  rw [si,List.take_left' h1]
 have f2:(aP l).drop (i*11+(aP m).length)=aP (l.drop (i+m.length)):=by
  conv=>lhs;rw [e2]
  rw [si,List.drop_left' h2]
 rw [f1,f2,si,si,j7]
theorem zpu {l m p:aS} {o n:Nat} (h1:o=l.length*11) (h2:n=m.length*11):cut (aP (l++(m++p))) o n=some (aP m):=by
 have g1:(aP l).length=o:=by rw [od,h1]
 have g2:(aP m).length=n:=by rw [od,h2]
 rw [si,si]
 refine sq (by simp only [dy,g1,g2];omega) g2 (λi hi=>?_)
 rw [qu (by omega),g1,nc (by omega)]
 congr 1
 omega
theorem ztG {T:bI} {t u:TypeId} {bytes:Nat} {z:List ab} (hd:T.desc t=some (.slice u)) (hi:T.info u=some (11,bytes,z)) (sU:bytes<=1000) {h:Heap} {A C2:Nat} {tl:aS}
 (q:Holds h A (.row (aP (s++tl)) u false)) (aO:i < s.length) (hn:s.length<=10000) (hle:(s++tl).length<=100000) :
 ∃ h',gC T t (.slice (some ⟨A,0,none⟩) i (G*11+(s++tl).length)) (.slice (some ⟨A,(i+1)*11,none⟩) (s.length - (i+1)) C2) h=some (.slice (some ⟨A,0,none⟩) (s.length - 1) (G*11+(s++tl).length),h') /\
   Holds h' A (.row (aP (s.take i++s.drop (i+1)++(s.drop (s.length - 1)++tl))) u false)/\eG A h h':=by
 have hG:=wj
 obtain ⟨d1,d3,d2⟩:=xd (k:=11) (q:=(s++tl).length) (by decide) (by omega)
 have hg:h.get A=some (.row (aP (s++tl)) u false):=q.get
 have hA:A < h.size:=q.lt
 have hlen:(s++tl).length=s.length+tl.length:=dy
 have Gt:s++tl=s.take (i+1)++(s.drop (i+1)++tl):=by rw [<- j7,qv]
 have hm:s.length - (i+1)=(s.drop (i+1)).length:=by rw [kP]
 by_cases h0:s.length - (i+1)=0
 .have ij:i=s.length - 1:=by omega
  have jd:fw (.slice (some ⟨A,(i+1)*11,none⟩) (s.length - (i+1)) C2) 11 h=some (0,[]):=by
   rw [h0]
   rfl
  have nX:gC T t (.slice (some ⟨A,0,none⟩) i (G*11+(s++tl).length)) (.slice (some ⟨A,(i+1)*11,none⟩) (s.length - (i+1)) C2) h=some (.slice (some ⟨A,0,none⟩) i (G*11+(s++tl).length),h):=by
   unfold gC
   simp only [hd,hi,dM,jd]
   rw [aE trivial]
  rw [nX]
  refine ⟨h,by rw [ij],?_,⟨bj _,λ_ _ _=>rfl,by omega⟩⟩
  have e:s.take i++s.drop (i+1)++(s.drop (s.length - 1)++tl)=s++tl:=by
   rw [show s.drop (i+1)=[] from zG (by omega),bu,<- ij,<- j7,qv]
  rw [e]
  exact q
 .have jd:fw (.slice (some ⟨A,(i+1)*11,none⟩) (s.length - (i+1)) C2) 11 h=some (s.length - (i+1),aP (s.drop (i+1))):=by
   unfold fw mg
   simp only
   rw [az (by omega)]
   unfold gD
   rw [hg]
   simp only
   rw [Gt,zpu (by rw [gh];congr 1;omega) (by rw [hm])]
   rfl
  have hl:i+(s.drop (i+1)).length<=(s++tl).length:=by rw [<- hm,hlen];omega
  have cG:aB (aP (s++tl)) (i*11) (aP (s.drop (i+1)))=aP (s.take i++s.drop (i+1)++(s.drop (s.length - 1)++tl)):=by
   rw [zrn hl]
   congr 1
   rw [List.take_append_of_le_length (by omega),j7]
   congr 2
   rw [<- hm,show i+(s.length - (i+1))=s.length - 1 by omega,List.drop_append_of_le_length (by omega)]
  have hw:ki A (0+i*11) (aP (s.drop (i+1))) h=some (h.set A (.row (aP (s.take i++s.drop (i+1)++(s.drop (s.length - 1)++tl))) u false)):=by
   unfold ki
   rw [hg]
   simp only
   rw [jo,cG,aE]
   simp only [ep,jH]
   refine ⟨?_,znc _⟩
   rw [od,od,<- rS]
   exact qw _ hl
  have nX:gC T t (.slice (some ⟨A,0,none⟩) i (G*11+(s++tl).length)) (.slice (some ⟨A,(i+1)*11,none⟩) (s.length - (i+1)) C2) h=some (.slice (some ⟨A,0,none⟩) (s.length - 1) (G*11+(s++tl).length),h.set A (.row (aP (s.take i++s.drop (i+1)++(s.drop (s.length - 1)++tl))) u false)):=by
   have Mz:¬ ((i+(s.length - (i+1)))*bytes > 140737488355328):=by
    have:(i+(s.length - (i+1)))*bytes<=10001*1000:=EE (by omega) sU
    omega
   unfold gC
   simp only [hd,hi,dM,jd,znc]
   rw [az h0,az (by simp;omega),aE (by rw [d2];omega),aE (by rw [d3];simp),hw]
   simp only [jn]
   rw [show i+(s.length - (i+1))=s.length - 1 by omega]
  rw [nX]
  exact ⟨_,rfl,⟨by rw [Heap.size_set];exact hA,by rw [Heap.aJ _ _ _ _ hA,aE rfl]⟩,⟨by rw [Heap.size_set];omega,λB h1 h2=>by rw [Heap.aJ _ _ _ _ hA,az h2],by rw [Heap.bQ];omega⟩⟩
end Go.Am
namespace Go.Am
def atR (l:List gG) (a:ak):Int:=kE (λx=>decide (x.atom=a)) l
end Go.Am
namespace Go.Am
variable {a:ak}
structure Good (l:List dQ):Prop where
 up:zB2 l l.length
 ok:∀ b∈l,b.term.v=false/\b.term.s≠⟨#[]⟩
theorem zrA (x:dQ) (l:List dQ) (s:au):HS (x::l) s=if x.var=s then (x.term,true) else HS l s:=by
 unfold HS
 rw [List.find?_cons]
 by_cases h:x.var=s <;> simp [h]
theorem zuN {l:List dQ} {s:au} {t:aZ} (h:HS l s=(t,true)):⟨s,t⟩∈l:=by
 induction l with
 |nil=>cases h
 |cons x l ih =>
  rw [zrA] at h
  split at h
  .rename_i hx
   cases h
   subst hx
   exact jm
  .exact fB _ (ih h)
theorem Good.get {l:List dQ} (h:Good l) {s:au} {t:aZ} (e:HS l s=(t,true)):t.v=false/\t.s≠⟨#[]⟩:=h.ok _ (zuN e)
def Ic (l m:List dQ):Prop:=∀ s t,HS l s=(t,true)->HS m s=(t,true)
theorem Ic.refl (l:List dQ):Ic l l:=λ_ _ h=>h
theorem Ic.trans {a b c:List dQ} (h:Ic a b) (g:Ic b c):Ic a c:=λs t e=>g s t (h s t e)
def gB (σ:au->aZ) (t:aZ):aZ:=if t.v=true then σ t.s else t
theorem zCj (h0:0<=a.n) (h4:a.n<=4):a.cO=a.n.toNat:=by unfold ak.cO;omega
theorem zmx (a:ak):a.cO<=4:=by unfold ak.cO;omega
theorem gP.var (h:gP a) {i:Nat} (hi:i < a.cO) (hv:(a.arg i).v=true):(a.arg i).s≠⟨#[]⟩:=by
 have:=h.jE i (kq.1 hi).2
 unfold fx at this
 rw [aE hv] at this
 intro e
 have hp:=this.pos
 rw [e] at hp
 exact absurd hp (by decide)
theorem j8.term (h:j8 a) {i:Nat} (hi:i < a.cO):(a.arg i).v=false/\(a.arg i).s≠⟨#[]⟩/\js (a.arg i).s:=by
 have hv:=kx.1 h.ground i hi
 have:=h.valid.jE i (kq.1 hi).2
 unfold fx at this
 rw [az (by rw [hv];decide)] at this
 refine ⟨hv,λe=>?_,this⟩
 have hp:=this.1.pos
 rw [e] at hp
 exact absurd hp (by decide)
theorem Qp {Z β:Type} (f:Z->List β) (m:Nat):∀ (l:List Z),(∀ a∈l,(f a).length<=m)->(l.flatMap f).length<=l.length*m
 | [],_=>by simp
 |a::l,h=>by
  rw [Ew,dy,dn,qx]
  have:=Qp f m l (λb hb=>h b (fB _ hb))
  have:=h a jm
  omega
theorem j8.plain {a:ak} (h:j8 a):iI a:=h.valid.valid.plain
section
variable {cl:List cB} {facts:aS}
end
end Go.Am

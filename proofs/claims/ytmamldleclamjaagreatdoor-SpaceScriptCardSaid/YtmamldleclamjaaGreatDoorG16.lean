/- Inserting into a list of one's own, in plain terms. No condition. -/
import Derived.Test.YtmamldleclamjaaGreatDoorGIns
import Derived.Test.YtmamldleclamjaaGreatDoorG13
set_option linter.unusedSimpArgs false
set_option linter.unusedVariables false
namespace Go.Am
theorem zpD {s t:aN} {n:Nat} (hn:n=s.length*11):cut (aQ (s++t)) 0 n=some (aQ s):=by
 rw [rY]
 have h1:(aQ s).length=n:=by rw [nL,hn]
 refine se (by rw [dI,h1];omega) h1 (λi hi=>?_)
 rw [j3,nz (by omega)]
theorem znj (s:aN):(aQ s).all one=true:=by
 rw [jh]
 intro x hx
 unfold aQ at hx
 obtain ⟨y,hy,Bv⟩:=DP.1 hx
 exact jh.1 (by rfl:y.cells.all one=true) x Bv
theorem zpC (s:aN) (a:aj):aQ s++a.cells=aQ (s++[a]):=by
 rw [rY]
 unfold aQ
 simp
theorem zzH (s:aN) (a:aj) (i:Nat) (hi:i<=s.length):(aQ s).take (i*11)++a.cells++(aQ s).drop (i*11)=aQ (s.take i++a::s.drop i):=by
 have h1:(aQ (s.take i)).length=i*11:=by rw [nL,fw];congr 1;omega
 have e:aQ s=aQ (s.take i)++aQ (s.drop i):=by rw [<- rY,pj]
 rw [e,List.take_left' h1,List.drop_left' h1,rY,ka]
 congr 1
theorem zwC {T:bO} {t u:TypeId} {bytes:Nat} {z:List ah} (hd:T.desc t=some (.slice u)) (hi:T.info u=some (11,bytes,z)) (hu:u≠QS) (uX:bytes<=1000) {h0 h1:Heap} {w:ah} {s:aN} {a:aj} {i lw:Nat}
 (hz:h0.size<=h1.size) (ho:eF h0 h1 u w s) (hn:s.length<=10000) (aP:i<=s.length) :
 ∃ w' H',ru T t [w,.int .i64 i,.slice (some ⟨h1.size+0,0,none⟩) 1 1] (h1.lay [.row a.cells u false] lw)=some (w',H')/\eF h0 H' u w' (s.take i++a::s.drop i)/\∃ A,h0.size<=A/\eX A (h1.lay [.row a.cells u false] lw) H':=by
 obtain ⟨H,hH⟩:∃ H,H=h1.lay [.row a.cells u false] lw:=⟨_,rfl⟩
 have zG:H.get (h1.size+0)=some (.row a.cells u false):=by rw [hH,iB];rfl
 have Rt:H.size=h1.size+1:=by rw [hH,bd];rfl
 rw [<- hH]
 have tT:cut a.cells 0 11=some a.cells:=rfl
 have bt:a.cells.all one=true:=rfl
 have jd:fN (.slice (some ⟨h1.size+0,0,none⟩) 1 1) 11 H=some (1,a.cells):=by
  unfold fN ma iQ
  simp only [zG,tT,j2,Nat.one_mul]
  rfl
 have FV:∀ b,eX h1.size H (H.push b):=λb=>⟨by rw [Heap.size_push];omega,λB h1 h2=>by rw [Heap.bC,aA (by omega)],by rw [Heap.dB];omega⟩
 have hG:=Aj
 rcases ho with ⟨rfl,xN⟩|⟨A,tl,rfl,hq,hA,hle⟩
 .-- nothing there
  have sU:i=0:=by simpa using aP
  subst sU
  have key:∀ base c,c=0->ma (.slice base 0 c) 11 H=some []->iy T t (.slice base 0 c) (.slice (some ⟨h1.size+0,0,none⟩) 1 1) H=some (.slice (some ⟨H.size,0,none⟩) 1 (G*11+1),H.push (.row a.cells u false)):=by
   intro base c hc eY
   subst hc
   unfold iy
   simp only [hd,hi,dX,jd,eY,bt]
   rw [aA (by omega),aA (by simp;omega),aA (by simp),aB (by unfold G;omega)]
   rfl
  refine ⟨.slice (some ⟨H.size,0,none⟩) 1 (G*11+1),H.push (.row a.cells u false),?_,?_,h1.size,hz,FV _⟩
  .rcases xN.no with rfl|⟨B,o,rfl⟩
   .unfold ru
    simp only [hd]
    rw [aB trivial]
    exact key _ _ rfl rfl
   .unfold ru
    simp only [hd]
    rw [aB trivial]
    exact key _ _ rfl rfl
  .refine P4 (s:=[a]) (A:=H.size) ⟨by rw [Heap.size_push];omega,?_⟩ (by omega) (by simp) rfl
   rw [Heap.bC,aB rfl]
   rfl
 .have CY:H.get A=some (.row (aQ (s++tl)) u false):=by rw [hH];exact hq.lay _ _
  have LP:A < h1.size:=hq.lt
  have hlen:(s++tl).length=s.length+tl.length:=dI
  obtain ⟨d1,d3,d2⟩:=yX (k:=11) (q:=(s++tl).length) (by decide) (by omega)
  have hold:ma (.slice (some ⟨A,0,none⟩) s.length (G*11+(s++tl).length)) 11 H=some (aQ s):=by
   unfold ma
   simp only
   split
   .rename_i h0
    have:s=[]:=Ai.1 (by omega)
    subst this
    rfl
   .unfold iQ
    rw [CY]
    exact zpD rfl
  have xW:∀ b,eX A H ((H.set A .dead).push b):=λb=>⟨by rw [Heap.size_push,Heap.size_set];omega,λB h1 h2=>by rw [Heap.bC,Heap.size_set,aA (by omega),Heap.aJ _ _ _ _ (by omega),aA h2],by rw [Heap.dB,Heap.cd];omega⟩
  by_cases od:i=s.length
  .subst od
   have FA:ru T t [.slice (some ⟨A,0,none⟩) s.length (G*11+(s++tl).length),.int .i64 s.length,.slice (some ⟨h1.size+0,0,none⟩) 1 1] H=iy T t (.slice (some ⟨A,0,none⟩) s.length (G*11+(s++tl).length)) (.slice (some ⟨h1.size+0,0,none⟩) 1 1) H:=by
    unfold ru
    simp only [hd]
    rw [aB trivial]
   rw [FA]
   have lI:s.take s.length++a::s.drop s.length=s++[a]:=by rw [JK,List.drop_length]
   rw [lI]
   have Mh:¬ ((s.length+1)*bytes > 140737488355328):=by
    have:(s.length+1)*bytes<=10001*1000:=HG (by omega) uX
    omega
   cases tl with
   |nil =>
    have mi:iy T t (.slice (some ⟨A,0,none⟩) s.length (G*11+(s++[]).length)) (.slice (some ⟨h1.size+0,0,none⟩) 1 1) H=some (.slice (some ⟨H.size,0,none⟩) (s.length+1) (G*11+(s.length+1)),(H.set A .dead).push (.row (aQ s++a.cells) u false)):=by
     unfold iy
     simp only [hd,hi,dX,jd,bt,CY]
     rw [aA (by omega),aA (by simp;omega),aA (by rw [d2];simp),hold]
     simp only [dX]
     rw [aA (by omega),aB (by rw [d3];simp)]
    rw [mi]
    refine ⟨_,_,rfl,?_,A,hA,xW _⟩
    have:=P4 (h0:=h0) (u:=u) (s:=s++[a]) (A:=H.size) (h:=(H.set A .dead).push (.row (aQ s++a.cells) u false)) ⟨by rw [Heap.size_push,Heap.size_set];omega,by rw [Heap.bC,Heap.size_set,aB rfl,zpC]⟩ (by omega) (by rw [dI];simp;omega) rfl
    simpa using this
   |cons x tl =>
    have XF:s.length < (s++x::tl).length:=by rw [dI];simp
    have iL:(s++x::tl).set s.length a=s++[a]++tl:=by
     rw [List.set_append_right _ _ (bo _),Nat.sub_self,nR]
     simp
    have hw:lY A (0+s.length*11) a.cells H=some (H.set A (.row (aQ (s++[a]++tl)) u false)):=by
     unfold lY
     rw [CY]
     simp only
     rw [j3,zsU XF,iL,aB]
     simp only [eo,jl]
     refine ⟨?_,bt⟩
     rw [nL,show a.cells.length=11 from rfl]
     omega
    have mi:iy T t (.slice (some ⟨A,0,none⟩) s.length (G*11+(s++x::tl).length)) (.slice (some ⟨h1.size+0,0,none⟩) 1 1) H=some (.slice (some ⟨A,0,none⟩) (s.length+1) (G*11+(s++x::tl).length),H.set A (.row (aQ (s++[a]++tl)) u false)):=by
     unfold iy
     simp only [hd,hi,dX,jd,bt]
     rw [aA (by omega),aA (by simp;omega),aB (by rw [d2];omega),aB (by rw [d3];simp),hw]
     rfl
    rw [mi]
    refine ⟨_,_,rfl,?_,A,hA,⟨by rw [Heap.size_set];omega,λB h1 h2=>by rw [Heap.aJ _ _ _ _ (by omega),aA h2],by rw [Heap.cd];omega⟩⟩
    refine znf (s:=s++[a]) (t:=tl) (A:=A) ⟨by rw [Heap.size_set];omega,by rw [Heap.aJ _ _ _ _ (by omega),aB rfl]⟩ hA ?_ (by simp) ?_
    .simp only [dI,dY,dK] at hle ⊢
     omega
    .congr 1
     simp only [dI,dY,dK]
     omega
  .have sV:i < s.length:=by omega
   have FA:ru T t [.slice (some ⟨A,0,none⟩) s.length (G*11+(s++tl).length),.int .i64 i,.slice (some ⟨h1.size+0,0,none⟩) 1 1] H=some (.slice (some ⟨H.size,0,none⟩) (s.length+1) (G*11+(s.length+1)),(H.set A .dead).push (.row ((aQ s).take (i*11)++a.cells++(aQ s).drop (i*11)) u false)):=by
    unfold ru
    simp only [hd]
    rw [aA (by omega)]
    simp only [hi,zG,CY]
    rw [aB (by
     refine ⟨⟨by omega,by omega,by omega,trivial,trivial,hu,by decide,d1,d3⟩,?_,by omega⟩
     have:(s.length+1)*bytes<=10001*1000:=HG (by omega) uX
     omega)]
    have e1:iQ A 0 (s.length*11) H=some (aQ s):=by
     unfold iQ
     rw [CY]
     exact zpD rfl
    have e2:iQ (h1.size+0) 0 11 H=some a.cells:=by
     unfold iQ
     rw [zG]
     exact tT
    simp only [e1,e2,dX]
    rw [aB ⟨bt,znj s⟩,Qz]
   rw [FA]
   refine ⟨_,_,rfl,?_,A,hA,xW _⟩
   have hl:(s.take i++a::s.drop i).length=s.length+1:=by simp only [dI,fw,dY,jM];omega
   have:=P4 (h0:=h0) (u:=u) (s:=s.take i++a::s.drop i) (A:=H.size) (c:=G*11+(s.length+1)) (h:=(H.set A .dead).push (.row ((aQ s).take (i*11)++a.cells++(aQ s).drop (i*11)) u false)) ⟨by rw [Heap.size_push,Heap.size_set];omega,by rw [Heap.bC,Heap.size_set,aB rfl,zzH s a i (by omega)]⟩ (by omega) (by omega) (by rw [hl])
   rw [hl] at this
   exact this
end Go.Am
namespace Go.Am
variable {i:Nat} {a:aj} {s:aN}
theorem fp.tail {x:aj} {r:aN} (p:fp (x::r) a (i+1)):fp r a i :=
 ⟨by have:=p.le;simp at this;exact this,λk hk=>by have:=p.lo (k+1) (by omega);simpa using this,λk h1 h2=>by have:=p.hi (k+1) (by omega) (by simp;omega);simpa using this⟩
theorem zpu:∀ {s:aN} {a:aj} {i:Nat},fp s a i->bL s a=false->s.take i++a::s.drop i=cz a s
 | [],a,i,p,h=>by
  have:i=0:=by have:=p.le;simpa using this
  subst this
  rfl
 |x::r,a,0,p,h=>by
  have h1:=p.hi 0 (bo _) (by simp)
  simp only [List.getD_cons_zero] at h1
  have h2:aU x a≠0:=λe=>by
   have:bL (x::r) a=true:=dh.2 ⟨x,fZ ..,ck.1 e⟩
   rw [h] at this
   cases this
  have h3:aU a x < 0:=by
   have:=wJ a x
   omega
  unfold cz
  rw [aB h3]
  rfl
 |x::r,a,i+1,p,h=>by
  have h1:=p.lo 0 (by omega)
  simp only [List.getD_cons_zero] at h1
  have h3:¬ aU a x < 0:=λg=>SG g h1
  have h4:¬ aU a x=0:=λg=>by
   have:=wJ a x
   omega
  unfold cz
  rw [aA h3,aA h4]
  have h5:bL r a=false:=by
   cases e:bL r a
   .rfl
   .obtain ⟨y,hy,e2⟩:=dh.1 e
    have:bL (x::r) a=true:=dh.2 ⟨y,eQ _ hy,e2⟩
    rw [h] at this
    cases this
  rw [<- zpu p.tail h5]
  rfl
theorem zrk:∀ {s:aN} {a:aj},dG s->bL s a=true->cz a s=s
 | [],a,_,h=>by simp [bL] at h
 |x::r,a,hs,h=>by
  have g:=nQ.1 hs
  unfold cz
  obtain ⟨y,hy,e⟩:=dh.1 h
  rcases cJ.1 hy with rfl|hy
  .have e0:aU a y=0:=ck.2 e.symm
   rw [aA (by omega),aB e0]
  .have e0:aU y a=0:=ck.2 e
   have h1:aU x a < 0:=PK (g.1 y hy) (Int.le_of_eq e0)
   have h3:¬ aU a x < 0:=λg=>SG g h1
   have h4:¬ aU a x=0:=λg=>by
    have:=wJ a x
    omega
   rw [aA h3,aA h4,zrk g.2 (dh.2 ⟨y,hy,e⟩)]
def eR (a:aj) (s:aN):aN:=s.filter (λx=>cM x != cM a)
theorem zAk (h:bL s a=false):eR a s=s:=by
 refine Qr.2 (λx hx=>?_)
 cases e:cM x != cM a
 .have e2:cM x=cM a:=by simpa using e
  have:bL s a=true:=dh.2 ⟨x,hx,e2⟩
  rw [h] at this
  cases this
 .rfl
theorem zwb (hs:dG s) (p:fp s a i) (h:bL s a=true):i < s.length/\s.take i++s.drop (i+1)=eR a s:=by
 obtain ⟨hi,e0⟩:=(p.has hs).1 h
 refine ⟨hi,?_⟩
 have hd:s.drop i=s.getD i ae::s.drop (i+1):=by
  rw [DE hi]
  congr 1
  rw [lq,ie hi]
  rfl
 unfold eR
 conv=>rhs;rw [<- pj i s]
 rw [Ao,hd]
 congr 1
 .symm
  refine Qr.2 (λx hx=>?_)
  obtain ⟨k,hk⟩:=sk hx
  rw [mc] at hk
  split at hk
  .rename_i sX
   have h1:=p.lo k sX
   rw [lq,hk] at h1
   have h1:aU x a < 0:=h1
   rw [bne_iff_ne]
   intro e
   have:=ck.2 e
   omega
  .cases hk
 .have e1:cM (s.getD i ae)=cM a:=ck.1 e0
  rw [HB,aA (by rw [e1];simp)]
  symm
  refine Qr.2 (λx hx=>?_)
  obtain ⟨k,hk⟩:=sk hx
  rw [kL] at hk
  have kX:=(dH.1 hk).1
  have h1:=Qw (iH.1 hs) (show i < i+1+k by omega) kX
  rw [lq (i:=i+1+k),hk] at h1
  have h1:aU (s.getD i ae) x < 0:=h1
  rw [bne_iff_ne]
  intro e
  have h2:aU (s.getD i ae) x=0:=ck.2 (e1.trans e.symm)
  omega
theorem zrq {l m:aN} (hi:i+m.length<=l.length):aF (aQ l) (i*11) (aQ m)=aQ (l.take i++(m++l.drop (i+m.length))):=by
 have e:l=l.take i++l.drop i:=(pj i l).symm
 have h1:(aQ (l.take i)).length=i*11:=by rw [nL,fw];congr 1;omega
 have e2:l=l.take (i+m.length)++l.drop (i+m.length):=(pj (i+m.length) l).symm
 have h2:(aQ (l.take (i+m.length))).length=i*11+(aQ m).length:=by rw [nL,nL,fw,<- tH];congr 1;omega
 unfold aF
 have f1:(aQ l).take (i*11)=aQ (l.take i):=by
  conv=>lhs;rw [e]
  rw [rY,List.take_left' h1]
 have f2:(aQ l).drop (i*11+(aQ m).length)=aQ (l.drop (i+m.length)):=by
  conv=>lhs;rw [e2]
  rw [rY,List.drop_left' h2]
 rw [f1,f2,rY,rY,ka]
theorem zpB {l m p:aN} {o n:Nat} (h1:o=l.length*11) (h2:n=m.length*11):cut (aQ (l++(m++p))) o n=some (aQ m):=by
 have g1:(aQ l).length=o:=by rw [nL,h1]
 have g2:(aQ m).length=n:=by rw [nL,h2]
 rw [rY,rY]
 refine se (by simp only [dI,g1,g2];omega) g2 (λi hi=>?_)
 rw [qC (by omega),g1,nz (by omega)]
 congr 1
 omega
theorem ztN {T:bO} {t u:TypeId} {bytes:Nat} {z:List ah} (hd:T.desc t=some (.slice u)) (hi:T.info u=some (11,bytes,z)) (uX:bytes<=1000) {h:Heap} {A C2:Nat} {tl:aN}
 (q:Holds h A (.row (aQ (s++tl)) u false)) (aP:i < s.length) (hn:s.length<=10000) (hle:(s++tl).length<=100000) :
 ∃ h',iy T t (.slice (some ⟨A,0,none⟩) i (G*11+(s++tl).length)) (.slice (some ⟨A,(i+1)*11,none⟩) (s.length - (i+1)) C2) h=some (.slice (some ⟨A,0,none⟩) (s.length - 1) (G*11+(s++tl).length),h') /\
   Holds h' A (.row (aQ (s.take i++s.drop (i+1)++(s.drop (s.length - 1)++tl))) u false)/\eX A h h':=by
 have hG:=Aj
 obtain ⟨d1,d3,d2⟩:=yX (k:=11) (q:=(s++tl).length) (by decide) (by omega)
 have hg:h.get A=some (.row (aQ (s++tl)) u false):=q.get
 have hA:A < h.size:=q.lt
 have hlen:(s++tl).length=s.length+tl.length:=dI
 have FT:s++tl=s.take (i+1)++(s.drop (i+1)++tl):=by rw [<- ka,pj]
 have hm:s.length - (i+1)=(s.drop (i+1)).length:=by rw [jM]
 by_cases h0:s.length - (i+1)=0
 .have gr:i=s.length - 1:=by omega
  have jd:fN (.slice (some ⟨A,(i+1)*11,none⟩) (s.length - (i+1)) C2) 11 h=some (0,[]):=by
   rw [h0]
   rfl
  have mi:iy T t (.slice (some ⟨A,0,none⟩) i (G*11+(s++tl).length)) (.slice (some ⟨A,(i+1)*11,none⟩) (s.length - (i+1)) C2) h=some (.slice (some ⟨A,0,none⟩) i (G*11+(s++tl).length),h):=by
   unfold iy
   simp only [hd,hi,dX,jd]
   rw [aB trivial]
  rw [mi]
  refine ⟨h,by rw [gr],?_,⟨bo _,λ_ _ _=>rfl,by omega⟩⟩
  have e:s.take i++s.drop (i+1)++(s.drop (s.length - 1)++tl)=s++tl:=by
   rw [show s.drop (i+1)=[] from wW (by omega),bG,<- gr,<- ka,pj]
  rw [e]
  exact q
 .have jd:fN (.slice (some ⟨A,(i+1)*11,none⟩) (s.length - (i+1)) C2) 11 h=some (s.length - (i+1),aQ (s.drop (i+1))):=by
   unfold fN ma
   simp only
   rw [aA (by omega)]
   unfold iQ
   rw [hg]
   simp only
   rw [FT,zpB (by rw [fw];congr 1;omega) (by rw [hm])]
   rfl
  have hl:i+(s.drop (i+1)).length<=(s++tl).length:=by rw [<- hm,hlen];omega
  have cR:aF (aQ (s++tl)) (i*11) (aQ (s.drop (i+1)))=aQ (s.take i++s.drop (i+1)++(s.drop (s.length - 1)++tl)):=by
   rw [zrq hl]
   congr 1
   rw [List.take_append_of_le_length (by omega),ka]
   congr 2
   rw [<- hm,show i+(s.length - (i+1))=s.length - 1 by omega,List.drop_append_of_le_length (by omega)]
  have hw:lY A (0+i*11) (aQ (s.drop (i+1))) h=some (h.set A (.row (aQ (s.take i++s.drop (i+1)++(s.drop (s.length - 1)++tl))) u false)):=by
   unfold lY
   rw [hg]
   simp only
   rw [j3,cR,aB]
   simp only [eo,jl]
   refine ⟨?_,znj _⟩
   rw [nL,nL,<- tH]
   exact qj _ hl
  have mi:iy T t (.slice (some ⟨A,0,none⟩) i (G*11+(s++tl).length)) (.slice (some ⟨A,(i+1)*11,none⟩) (s.length - (i+1)) C2) h=some (.slice (some ⟨A,0,none⟩) (s.length - 1) (G*11+(s++tl).length),h.set A (.row (aQ (s.take i++s.drop (i+1)++(s.drop (s.length - 1)++tl))) u false)):=by
   have Mh:¬ ((i+(s.length - (i+1)))*bytes > 140737488355328):=by
    have:(i+(s.length - (i+1)))*bytes<=10001*1000:=HG (by omega) uX
    omega
   unfold iy
   simp only [hd,hi,dX,jd,znj]
   rw [aA h0,aA (by simp;omega),aB (by rw [d2];omega),aB (by rw [d3];simp),hw]
   simp only [j2]
   rw [show i+(s.length - (i+1))=s.length - 1 by omega]
  rw [mi]
  exact ⟨_,rfl,⟨by rw [Heap.size_set];exact hA,by rw [Heap.aJ _ _ _ _ hA,aB rfl]⟩,⟨by rw [Heap.size_set];omega,λB h1 h2=>by rw [Heap.aJ _ _ _ _ hA,aA h2],by rw [Heap.cd];omega⟩⟩
end Go.Am
namespace Go.Am
def atR (l:List gJ) (a:aj):Int:=mr (λx=>decide (x.atom=a)) l
end Go.Am

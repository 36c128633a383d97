/- Inserting into a list of one's own, in plain terms. No condition. -/
import Derived.Test.YtkgojconmeeegaaGreatDoorGIns
import Derived.Test.YtkgojconmeeegaaGreatDoorG14
set_option linter.unusedSimpArgs false
set_option linter.unusedVariables false
namespace Go.Am
theorem zoO {s t:List ab} {n:Nat} (hn:n=s.length*11):cut (aO (s++t)) 0 n=some (aO s):=by
 rw [rf]
 have h1:(aO s).length=n:=by rw [nt,hn]
 refine ru (by rw [List.length_append,h1];omega) h1 (fun i hi=>?_)
 rw [Nat.zero_add,List.getElem?_append_left (by omega)]
theorem Us (s:List ab):(aO s).all one=true:=by
 rw [List.all_eq_true]
 intro x hx
 unfold aO at hx
 obtain ⟨y,hy,G3⟩:=List.mem_flatMap.1 hx
 exact List.all_eq_true.1 (by rfl:y.cells.all one=true) x G3
theorem zwq (s:List ab) (a:ab):aO s++a.cells=aO (s++[a]):=by
 rw [rf]
 unfold aO
 simp
theorem zCQ (s:List ab) (a:ab) (i:Nat) (hi:i≤s.length):(aO s).take (i*11)++a.cells++(aO s).drop (i*11)=aO (s.take i++a::s.drop i):=by
 have h1:(aO (s.take i)).length=i*11:=by rw [nt,List.length_take];congr 1;omega
 have e:aO s=aO (s.take i)++aO (s.drop i):=by rw [← rf,List.take_append_drop]
 rw [e,List.take_left' h1,List.drop_left' h1,rf,List.append_assoc]
 congr 1
theorem zvn {T:bK} {t u:TypeId} {bytes:Nat} {z:List Value} (hd:T.desc t=some (.slice u)) (hi:T.info u=some (11,bytes,z)) (hu:u≠SG) (tL:bytes≤1000) {h0 h1:Heap} {w:Value} {s:List ab} {a:ab} {i lw:Nat}
 (hz:h0.size≤h1.size) (ho:dw h0 h1 u w s) (hn:s.length≤10000) (aL:i≤s.length) :
 ∃ w' H',qT T t [w,.int .i64 i,.slice (some ⟨h1.size+0,0,none⟩) 1 1] (h1.lay [.row a.cells u false] lw)=some (w',H')∧dw h0 H' u w' (s.take i++a::s.drop i)∧∃ A,h0.size≤A∧fp A (h1.lay [.row a.cells u false] lw) H':=by
 obtain ⟨H,hH⟩:∃ H,H=h1.lay [.row a.cells u false] lw:=⟨_,rfl⟩
 have DI:H.get (h1.size+0)=some (.row a.cells u false):=by rw [hH,iR];rfl
 have zO:H.size=h1.size+1:=by rw [hH,bm];rfl
 rw [← hH]
 have Dz:cut a.cells 0 11=some a.cells:=rfl
 have bf:a.cells.all one=true:=rfl
 have jZ:fO (.slice (some ⟨h1.size+0,0,none⟩) 1 1) 11 H=some (1,a.cells):=by
  unfold fO nc gQ
  simp only [DI,Dz,Option.map_some,Nat.one_mul]
  rfl
 have GG:∀ b,fp h1.size H (H.push b):=fun b=>⟨by rw [Heap.size_push];omega,fun B h1 h2=>by rw [Heap.bu,if_neg (by omega)],by rw [Heap.de];omega⟩
 have hG:=zh
 rcases ho with ⟨rfl,Gc⟩|⟨A,tl,rfl,hq,hA,hle⟩
 ·-- nothing there
  have rP:i=0:=by simpa using aL
  subst rP
  have key:∀ base c,c=0→nc (.slice base 0 c) 11 H=some []→hZ T t (.slice base 0 c) (.slice (some ⟨h1.size+0,0,none⟩) 1 1) H=some (.slice (some ⟨H.size,0,none⟩) 1 (G*11+1),H.push (.row a.cells u false)):=by
   intro base c hc eQ
   subst hc
   unfold hZ
   simp only [hd,hi,Option.bind_some,jZ,eQ,bf]
   rw [if_neg (by omega),if_neg (by simp;omega),if_neg (by simp),if_pos (by unfold G;omega)]
   rfl
  refine ⟨.slice (some ⟨H.size,0,none⟩) 1 (G*11+1),H.push (.row a.cells u false),?_,?_,h1.size,hz,GG _⟩
  ·rcases Gc.no with rfl|⟨B,o,rfl⟩
   ·unfold qT
    simp only [hd]
    rw [if_pos trivial]
    exact key _ _ rfl rfl
   ·unfold qT
    simp only [hd]
    rw [if_pos trivial]
    exact key _ _ rfl rfl
  ·refine RV (s:=[a]) (A:=H.size) ⟨by rw [Heap.size_push];omega,?_⟩ (by omega) (by simp) rfl
   rw [Heap.bu,if_pos rfl]
   rfl
 ·have Oq:H.get A=some (.row (aO (s++tl)) u false):=by rw [hH];exact hq.lay _ _
  have aqP:A < h1.size:=hq.lt
  have hlen:(s++tl).length=s.length+tl.length:=List.length_append
  obtain ⟨d1,d3,d2⟩:=CK (k:=11) (q:=(s++tl).length) (by decide) (by omega)
  have hold:nc (.slice (some ⟨A,0,none⟩) s.length (G*11+(s++tl).length)) 11 H=some (aO s):=by
   unfold nc
   simp only
   split
   ·rename_i h0
    have:s=[]:=List.length_eq_zero_iff.1 (by omega)
    subst this
    rfl
   ·unfold gQ
    rw [Oq]
    exact zoO rfl
  have wT:∀ b,fp A H ((H.set A .dead).push b):=fun b=>⟨by rw [Heap.size_push,Heap.size_set];omega,fun B h1 h2=>by rw [Heap.bu,Heap.size_set,if_neg (by omega),Heap.aD _ _ _ _ (by omega),if_neg h2],by rw [Heap.de,Heap.bW];omega⟩
  by_cases kA:i=s.length
  ·subst kA
   have Gr:qT T t [.slice (some ⟨A,0,none⟩) s.length (G*11+(s++tl).length),.int .i64 s.length,.slice (some ⟨h1.size+0,0,none⟩) 1 1] H=hZ T t (.slice (some ⟨A,0,none⟩) s.length (G*11+(s++tl).length)) (.slice (some ⟨h1.size+0,0,none⟩) 1 1) H:=by
    unfold qT
    simp only [hd]
    rw [if_pos trivial]
   rw [Gr]
   have ld:s.take s.length++a::s.drop s.length=s++[a]:=by rw [List.take_length,List.drop_length]
   rw [ld]
   have abQ:¬ ((s.length+1)*bytes > 140737488355328):=by
    have:(s.length+1)*bytes≤10001*1000:=Nat.mul_le_mul (by omega) tL
    omega
   cases tl with
   |nil =>
    have mG:hZ T t (.slice (some ⟨A,0,none⟩) s.length (G*11+(s++[]).length)) (.slice (some ⟨h1.size+0,0,none⟩) 1 1) H=some (.slice (some ⟨H.size,0,none⟩) (s.length+1) (G*11+(s.length+1)),(H.set A .dead).push (.row (aO s++a.cells) u false)):=by
     unfold hZ
     simp only [hd,hi,Option.bind_some,jZ,bf,Oq]
     rw [if_neg (by omega),if_neg (by simp;omega),if_neg (by rw [d2];simp),hold]
     simp only [Option.bind_some]
     rw [if_neg (by omega),if_pos (by rw [d3];simp)]
    rw [mG]
    refine ⟨_,_,rfl,?_,A,hA,wT _⟩
    have:=RV (h0:=h0) (u:=u) (s:=s++[a]) (A:=H.size) (h:=(H.set A .dead).push (.row (aO s++a.cells) u false)) ⟨by rw [Heap.size_push,Heap.size_set];omega,by rw [Heap.bu,Heap.size_set,if_pos rfl,zwq]⟩ (by omega) (by rw [List.length_append];simp;omega) rfl
    simpa using this
   |cons x tl =>
    have acn:s.length < (s++x::tl).length:=by rw [List.length_append];simp
    have jA:(s++x::tl).set s.length a=s++[a]++tl:=by
     rw [List.set_append_right _ _ (Nat.le_refl _),Nat.sub_self,List.set_cons_zero]
     simp
    have hw:kj A (0+s.length*11) a.cells H=some (H.set A (.row (aO (s++[a]++tl)) u false)):=by
     unfold kj
     rw [Oq]
     simp only
     rw [Nat.zero_add,zrW acn,jA,if_pos]
     simp only [Bool.and_eq_true,decide_eq_true_eq]
     refine ⟨?_,bf⟩
     rw [nt,show a.cells.length=11 from rfl]
     omega
    have mG:hZ T t (.slice (some ⟨A,0,none⟩) s.length (G*11+(s++x::tl).length)) (.slice (some ⟨h1.size+0,0,none⟩) 1 1) H=some (.slice (some ⟨A,0,none⟩) (s.length+1) (G*11+(s++x::tl).length),H.set A (.row (aO (s++[a]++tl)) u false)):=by
     unfold hZ
     simp only [hd,hi,Option.bind_some,jZ,bf]
     rw [if_neg (by omega),if_neg (by simp;omega),if_pos (by rw [d2];omega),if_pos (by rw [d3];simp),hw]
     rfl
    rw [mG]
    refine ⟨_,_,rfl,?_,A,hA,⟨by rw [Heap.size_set];omega,fun B h1 h2=>by rw [Heap.aD _ _ _ _ (by omega),if_neg h2],by rw [Heap.bW];omega⟩⟩
    refine Ur (s:=s++[a]) (t:=tl) (A:=A) ⟨by rw [Heap.size_set];omega,by rw [Heap.aD _ _ _ _ (by omega),if_pos rfl]⟩ hA ?_ (by simp) ?_
    ·simp only [List.length_append,List.length_cons,List.length_nil] at hle ⊢
     omega
    ·congr 1
     simp only [List.length_append,List.length_cons,List.length_nil]
     omega
  ·have rQ:i < s.length:=by omega
   have Gr:qT T t [.slice (some ⟨A,0,none⟩) s.length (G*11+(s++tl).length),.int .i64 i,.slice (some ⟨h1.size+0,0,none⟩) 1 1] H=some (.slice (some ⟨H.size,0,none⟩) (s.length+1) (G*11+(s.length+1)),(H.set A .dead).push (.row ((aO s).take (i*11)++a.cells++(aO s).drop (i*11)) u false)):=by
    unfold qT
    simp only [hd]
    rw [if_neg (by omega)]
    simp only [hi,DI,Oq]
    rw [if_pos (by
     refine ⟨⟨by omega,by omega,by omega,trivial,trivial,hu,by decide,d1,d3⟩,?_,by omega⟩
     have:(s.length+1)*bytes≤10001*1000:=Nat.mul_le_mul (by omega) tL
     omega)]
    have e1:gQ A 0 (s.length*11) H=some (aO s):=by
     unfold gQ
     rw [Oq]
     exact zoO rfl
    have e2:gQ (h1.size+0) 0 11 H=some a.cells:=by
     unfold gQ
     rw [DI]
     exact Dz
    simp only [e1,e2,Option.bind_some]
    rw [if_pos ⟨bf,Us s⟩,Int.toNat_natCast]
   rw [Gr]
   refine ⟨_,_,rfl,?_,A,hA,wT _⟩
   have hl:(s.take i++a::s.drop i).length=s.length+1:=by simp only [List.length_append,List.length_take,List.length_cons,List.length_drop];omega
   have:=RV (h0:=h0) (u:=u) (s:=s.take i++a::s.drop i) (A:=H.size) (c:=G*11+(s.length+1)) (h:=(H.set A .dead).push (.row ((aO s).take (i*11)++a.cells++(aO s).drop (i*11)) u false)) ⟨by rw [Heap.size_push,Heap.size_set];omega,by rw [Heap.bu,Heap.size_set,if_pos rfl,zCQ s a i (by omega)]⟩ (by omega) (by omega) (by rw [hl])
   rw [hl] at this
   exact this
end Go.Am
namespace Go.Am
theorem eY.tail {x a:ab} {r:List ab} {i:Nat} (p:eY (x::r) a (i+1)):eY r a i :=
 ⟨by have:=p.le;simp at this;exact this,fun k hk=>by have:=p.lo (k+1) (by omega);simpa using this,fun k h1 h2=>by have:=p.hi (k+1) (by omega) (by simp;omega);simpa using this⟩
theorem zoG:∀ {s:List ab} {a:ab} {i:Nat},eY s a i→bC s a=false→s.take i++a::s.drop i=cA a s
 | [],a,i,p,h=>by
  have:i=0:=by have:=p.le;simpa using this
  subst this
  rfl
 |x::r,a,0,p,h=>by
  have h1:=p.hi 0 (Nat.le_refl _) (by simp)
  simp only [List.getD_cons_zero] at h1
  have h2:aQ x a≠0:=fun e=>by
   have:bC (x::r) a=true:=cR.2 ⟨x,List.mem_cons_self ..,bT.1 e⟩
   rw [h] at this
   cases this
  have h3:aQ a x < 0:=by
   have:=vx a x
   omega
  unfold cA
  rw [if_pos h3]
  rfl
 |x::r,a,i+1,p,h=>by
  have h1:=p.lo 0 (by omega)
  simp only [List.getD_cons_zero] at h1
  have h3:¬ aQ a x < 0:=fun g=>TR g h1
  have h4:¬ aQ a x=0:=fun g=>by
   have:=vx a x
   omega
  unfold cA
  rw [if_neg h3,if_neg h4]
  have h5:bC r a=false:=by
   cases e:bC r a
   ·rfl
   ·obtain ⟨y,hy,e2⟩:=cR.1 e
    have:bC (x::r) a=true:=cR.2 ⟨y,List.mem_cons_of_mem _ hy,e2⟩
    rw [h] at this
    cases this
  rw [← zoG p.tail h5]
  rfl
theorem UP:∀ {s:List ab} {a:ab},dR s→bC s a=true→cA a s=s
 | [],a,_,h=>by simp [bC] at h
 |x::r,a,hs,h=>by
  have g:=List.pairwise_cons.1 hs
  unfold cA
  obtain ⟨y,hy,e⟩:=cR.1 h
  rcases List.mem_cons.1 hy with rfl|hy
  ·have e0:aQ a y=0:=bT.2 e.symm
   rw [if_neg (by omega),if_pos e0]
  ·have e0:aQ y a=0:=bT.2 e
   have h1:aQ x a < 0:=Rq (g.1 y hy) (Int.le_of_eq e0)
   have h3:¬ aQ a x < 0:=fun g=>TR g h1
   have h4:¬ aQ a x=0:=fun g=>by
    have:=vx a x
    omega
   rw [if_neg h3,if_neg h4,UP g.2 (cR.2 ⟨y,hy,e⟩)]
def eW (a:ab) (s:List ab):List ab:=s.filter (fun x=>cI x != cI a)
theorem Jg {s:List ab} {a:ab} (h:bC s a=false):eW a s=s:=by
 refine List.filter_eq_self.2 (fun x hx=>?_)
 cases e:cI x != cI a
 ·have e2:cI x=cI a:=by simpa using e
  have:bC s a=true:=cR.2 ⟨x,hx,e2⟩
  rw [h] at this
  cases this
 ·rfl
theorem zuP {s:List ab} {a:ab} {i:Nat} (hs:dR s) (p:eY s a i) (h:bC s a=true):i < s.length∧s.take i++s.drop (i+1)=eW a s:=by
 obtain ⟨hi,e0⟩:=(p.has hs).1 h
 refine ⟨hi,?_⟩
 have hd:s.drop i=s.getD i aj::s.drop (i+1):=by
  rw [List.drop_eq_getElem_cons hi]
  congr 1
  rw [List.getD_eq_getElem?_getD,List.getElem?_eq_getElem hi]
  rfl
 unfold eW
 conv=>rhs;rw [← List.take_append_drop i s]
 rw [List.filter_append,hd]
 congr 1
 ·symm
  refine List.filter_eq_self.2 (fun x hx=>?_)
  obtain ⟨k,hk⟩:=List.getElem?_of_mem hx
  rw [List.getElem?_take] at hk
  split at hk
  ·rename_i rS
   have h1:=p.lo k rS
   rw [List.getD_eq_getElem?_getD,hk] at h1
   have h1:aQ x a < 0:=h1
   rw [bne_iff_ne]
   intro e
   have:=bT.2 e
   omega
  ·cases hk
 ·have e1:cI (s.getD i aj)=cI a:=bT.1 e0
  rw [List.filter_cons,if_neg (by rw [e1];simp)]
  symm
  refine List.filter_eq_self.2 (fun x hx=>?_)
  obtain ⟨k,hk⟩:=List.getElem?_of_mem hx
  rw [List.getElem?_drop] at hk
  have kB:=(List.getElem?_eq_some_iff.1 hk).1
  have h1:=Sg (ij.1 hs) (show i < i+1+k by omega) kB
  rw [List.getD_eq_getElem?_getD (i:=i+1+k),hk] at h1
  have h1:aQ (s.getD i aj) x < 0:=h1
  rw [bne_iff_ne]
  intro e
  have h2:aQ (s.getD i aj) x=0:=bT.2 (e1.trans e.symm)
  omega
theorem zqL {l m:List ab} {i:Nat} (hi:i+m.length≤l.length):az (aO l) (i*11) (aO m)=aO (l.take i++(m++l.drop (i+m.length))):=by
 have e:l=l.take i++l.drop i:=(List.take_append_drop i l).symm
 have h1:(aO (l.take i)).length=i*11:=by rw [nt,List.length_take];congr 1;omega
 have e2:l=l.take (i+m.length)++l.drop (i+m.length):=(List.take_append_drop (i+m.length) l).symm
 have h2:(aO (l.take (i+m.length))).length=i*11+(aO m).length:=by rw [nt,nt,List.length_take,← Nat.add_mul];congr 1;omega
 unfold az
 have f1:(aO l).take (i*11)=aO (l.take i):=by
  conv=>lhs;rw [e]
  rw [rf,List.take_left' h1]
 have f2:(aO l).drop (i*11+(aO m).length)=aO (l.drop (i+m.length)):=by
  conv=>lhs;rw [e2]
  rw [rf,List.drop_left' h2]
 rw [f1,f2,rf,rf,List.append_assoc]
theorem zwp {l m p:List ab} {o n:Nat} (h1:o=l.length*11) (h2:n=m.length*11):cut (aO (l++(m++p))) o n=some (aO m):=by
 have g1:(aO l).length=o:=by rw [nt,h1]
 have g2:(aO m).length=n:=by rw [nt,h2]
 rw [rf,rf]
 refine ru (by simp only [List.length_append,g1,g2];omega) g2 (fun i hi=>?_)
 rw [List.getElem?_append_right (by omega),g1,List.getElem?_append_left (by omega)]
 congr 1
 omega
theorem zsA {T:bK} {t u:TypeId} {bytes:Nat} {z:List Value} (hd:T.desc t=some (.slice u)) (hi:T.info u=some (11,bytes,z)) (tL:bytes≤1000) {h:Heap} {A i C2:Nat} {s tl:List ab}
 (q:Holds h A (.row (aO (s++tl)) u false)) (aL:i < s.length) (hn:s.length≤10000) (hle:(s++tl).length≤100000) :
 ∃ h',hZ T t (.slice (some ⟨A,0,none⟩) i (G*11+(s++tl).length)) (.slice (some ⟨A,(i+1)*11,none⟩) (s.length - (i+1)) C2) h=some (.slice (some ⟨A,0,none⟩) (s.length - 1) (G*11+(s++tl).length),h') ∧
   Holds h' A (.row (aO (s.take i++s.drop (i+1)++(s.drop (s.length - 1)++tl))) u false)∧fp A h h':=by
 have hG:=zh
 obtain ⟨d1,d3,d2⟩:=CK (k:=11) (q:=(s++tl).length) (by decide) (by omega)
 have hg:h.get A=some (.row (aO (s++tl)) u false):=q.get
 have hA:A < h.size:=q.lt
 have hlen:(s++tl).length=s.length+tl.length:=List.length_append
 have GF:s++tl=s.take (i+1)++(s.drop (i+1)++tl):=by rw [← List.append_assoc,List.take_append_drop]
 have hm:s.length - (i+1)=(s.drop (i+1)).length:=by rw [List.length_drop]
 by_cases h0:s.length - (i+1)=0
 ·have gZ:i=s.length - 1:=by omega
  have jZ:fO (.slice (some ⟨A,(i+1)*11,none⟩) (s.length - (i+1)) C2) 11 h=some (0,[]):=by
   rw [h0]
   rfl
  have mG:hZ T t (.slice (some ⟨A,0,none⟩) i (G*11+(s++tl).length)) (.slice (some ⟨A,(i+1)*11,none⟩) (s.length - (i+1)) C2) h=some (.slice (some ⟨A,0,none⟩) i (G*11+(s++tl).length),h):=by
   unfold hZ
   simp only [hd,hi,Option.bind_some,jZ]
   rw [if_pos trivial]
  rw [mG]
  refine ⟨h,by rw [gZ],?_,⟨Nat.le_refl _,fun _ _ _=>rfl,by omega⟩⟩
  have e:s.take i++s.drop (i+1)++(s.drop (s.length - 1)++tl)=s++tl:=by
   rw [show s.drop (i+1)=[] from List.drop_of_length_le (by omega),List.append_nil,← gZ,← List.append_assoc,List.take_append_drop]
  rw [e]
  exact q
 ·have jZ:fO (.slice (some ⟨A,(i+1)*11,none⟩) (s.length - (i+1)) C2) 11 h=some (s.length - (i+1),aO (s.drop (i+1))):=by
   unfold fO nc
   simp only
   rw [if_neg (by omega)]
   unfold gQ
   rw [hg]
   simp only
   rw [GF,zwp (by rw [List.length_take];congr 1;omega) (by rw [hm])]
   rfl
  have hl:i+(s.drop (i+1)).length≤(s++tl).length:=by rw [← hm,hlen];omega
  have cF:az (aO (s++tl)) (i*11) (aO (s.drop (i+1)))=aO (s.take i++s.drop (i+1)++(s.drop (s.length - 1)++tl)):=by
   rw [zqL hl]
   congr 1
   rw [List.take_append_of_le_length (by omega),List.append_assoc]
   congr 2
   rw [← hm,show i+(s.length - (i+1))=s.length - 1 by omega,List.drop_append_of_le_length (by omega)]
  have hw:kj A (0+i*11) (aO (s.drop (i+1))) h=some (h.set A (.row (aO (s.take i++s.drop (i+1)++(s.drop (s.length - 1)++tl))) u false)):=by
   unfold kj
   rw [hg]
   simp only
   rw [Nat.zero_add,cF,if_pos]
   simp only [Bool.and_eq_true,decide_eq_true_eq]
   refine ⟨?_,Us _⟩
   rw [nt,nt,← Nat.add_mul]
   exact Nat.mul_le_mul_right _ hl
  have mG:hZ T t (.slice (some ⟨A,0,none⟩) i (G*11+(s++tl).length)) (.slice (some ⟨A,(i+1)*11,none⟩) (s.length - (i+1)) C2) h=some (.slice (some ⟨A,0,none⟩) (s.length - 1) (G*11+(s++tl).length),h.set A (.row (aO (s.take i++s.drop (i+1)++(s.drop (s.length - 1)++tl))) u false)):=by
   have abQ:¬ ((i+(s.length - (i+1)))*bytes > 140737488355328):=by
    have:(i+(s.length - (i+1)))*bytes≤10001*1000:=Nat.mul_le_mul (by omega) tL
    omega
   unfold hZ
   simp only [hd,hi,Option.bind_some,jZ,Us]
   rw [if_neg h0,if_neg (by simp;omega),if_pos (by rw [d2];omega),if_pos (by rw [d3];simp),hw]
   simp only [Option.map_some]
   rw [show i+(s.length - (i+1))=s.length - 1 by omega]
  rw [mG]
  exact ⟨_,rfl,⟨by rw [Heap.size_set];exact hA,by rw [Heap.aD _ _ _ _ hA,if_pos rfl]⟩,⟨by rw [Heap.size_set];omega,fun B h1 h2=>by rw [Heap.aD _ _ _ _ hA,if_neg h2],by rw [Heap.bW];omega⟩⟩
end Go.Am

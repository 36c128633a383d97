/- Inserting into a list of one's own, in plain terms. No condition. -/
import Derived.Test.YtdplfgoifjjniaaGreatDoorGIns
import Derived.Test.YtdplfgoifjjniaaGreatDoorG17
set_option linter.unusedSimpArgs false
set_option linter.unusedVariables false
namespace Go.Am
theorem znI {s t:List ab} {n:Nat} (hn:n=s.length*11):cut (aG (s++t)) 0 n=some (aG s):=by
 rw [pC]
 have h1:(aG s).length=n:=by rw [lR,hn]
 refine pH (by rw [List.length_append,h1];omega) h1 (fun i hi=>?_)
 rw [Nat.zero_add,List.getElem?_append_left (by omega)]
theorem ZE (s:List ab):(aG s).all one=true:=by
 rw [List.all_eq_true]
 intro x hx
 unfold aG at hx
 obtain ⟨y,hy,DQ⟩:=List.mem_flatMap.1 hx
 exact List.all_eq_true.1 (by rfl:y.cells.all one=true) x DQ
theorem zuE (s:List ab) (a:ab):aG s++a.cells=aG (s++[a]):=by
 rw [pC]
 unfold aG
 simp
theorem zzd (s:List ab) (a:ab) (i:Nat) (hi:i≤s.length):(aG s).take (i*11)++a.cells++(aG s).drop (i*11)=aG (s.take i++a::s.drop i):=by
 have h1:(aG (s.take i)).length=i*11:=by rw [lR,List.length_take];congr 1;omega
 have e:aG s=aG (s.take i)++aG (s.drop i):=by rw [← pC,List.take_append_drop]
 rw [e,List.take_left' h1,List.drop_left' h1,pC,List.append_assoc]
 congr 1
theorem zCD {T:bD} {t u:TypeId} {bytes:Nat} {z:List Value} (hd:T.desc t=some (.slice u)) (hi:T.info u=some (11,bytes,z)) (hu:u≠PI) (w5:bytes≤1000) {h0 h1:Heap} {w:Value} {s:List ab} {a:ab} {i lw:Nat}
 (hz:h0.size≤h1.size) (ho:eh h0 h1 u w s) (hn:s.length≤10000) (aH:i≤s.length) :
 ∃ w' H',re T t [w,.int .i64 i,.slice (some ⟨h1.size+0,0,none⟩) 1 1] (h1.lay [.row a.cells u false] lw)=some (w',H')∧eh h0 H' u w' (s.take i++a::s.drop i)∧∃ A,h0.size≤A∧fK A (h1.lay [.row a.cells u false] lw) H':=by
 obtain ⟨H,hH⟩:∃ H,H=h1.lay [.row a.cells u false] lw:=⟨_,rfl⟩
 have AF:H.get (h1.size+0)=some (.row a.cells u false):=by rw [hH,kX];rfl
 have Vk:H.size=h1.size+1:=by rw [hH,bB];rfl
 rw [← hH]
 have Ar:cut a.cells 0 11=some a.cells:=rfl
 have bw:a.cells.all one=true:=rfl
 have jd:fI (.slice (some ⟨h1.size+0,0,none⟩) 1 1) 11 H=some (1,a.cells):=by
  unfold fI lU gL
  simp only [AF,Ar,Option.map_some,Nat.one_mul]
  rfl
 have Dv:∀ b,fK h1.size H (H.push b):=fun b=>⟨by rw [Heap.size_push];omega,fun B h1 h2=>by rw [Heap.bL,if_neg (by omega)],by rw [Heap.dH];omega⟩
 have hG:=E7
 rcases ho with ⟨rfl,VL⟩|⟨A,tl,rfl,hq,hA,hle⟩
 ·-- nothing there
  have qe:i=0:=by simpa using aH
  subst qe
  have key:∀ base c,c=0→lU (.slice base 0 c) 11 H=some []→il T t (.slice base 0 c) (.slice (some ⟨h1.size+0,0,none⟩) 1 1) H=some (.slice (some ⟨H.size,0,none⟩) 1 (G*11+1),H.push (.row a.cells u false)):=by
   intro base c hc eX
   subst hc
   unfold il
   simp only [hd,hi,Option.bind_some,jd,eX,bw]
   rw [if_neg (by omega),if_neg (by simp;omega),if_neg (by simp),if_pos (by unfold G;omega)]
   rfl
  refine ⟨.slice (some ⟨H.size,0,none⟩) 1 (G*11+1),H.push (.row a.cells u false),?_,?_,h1.size,hz,Dv _⟩
  ·rcases VL.no with rfl|⟨B,o,rfl⟩
   ·unfold re
    simp only [hd]
    rw [if_pos trivial]
    exact key _ _ rfl rfl
   ·unfold re
    simp only [hd]
    rw [if_pos trivial]
    exact key _ _ rfl rfl
  ·refine Mn (s:=[a]) (A:=H.size) ⟨by rw [Heap.size_push];omega,?_⟩ (by omega) (by simp) rfl
   rw [Heap.bL,if_pos rfl]
   rfl
 ·have JW:H.get A=some (.row (aG (s++tl)) u false):=by rw [hH];exact hq.lay _ _
  have aj6:A < h1.size:=hq.lt
  have hlen:(s++tl).length=s.length+tl.length:=List.length_append
  obtain ⟨d1,d3,d2⟩:=Bo (k:=11) (q:=(s++tl).length) (by decide) (by omega)
  have hold:lU (.slice (some ⟨A,0,none⟩) s.length (G*11+(s++tl).length)) 11 H=some (aG s):=by
   unfold lU
   simp only
   split
   ·rename_i h0
    have:s=[]:=List.length_eq_zero_iff.1 (by omega)
    subst this
    rfl
   ·unfold gL
    rw [JW]
    exact znI rfl
  have ur:∀ b,fK A H ((H.set A .dead).push b):=fun b=>⟨by rw [Heap.size_push,Heap.size_set];omega,fun B h1 h2=>by rw [Heap.bL,Heap.size_set,if_neg (by omega),Heap.aC _ _ _ _ (by omega),if_neg h2],by rw [Heap.dH,Heap.bX];omega⟩
  by_cases me:i=s.length
  ·subst me
   have Db:re T t [.slice (some ⟨A,0,none⟩) s.length (G*11+(s++tl).length),.int .i64 s.length,.slice (some ⟨h1.size+0,0,none⟩) 1 1] H=il T t (.slice (some ⟨A,0,none⟩) s.length (G*11+(s++tl).length)) (.slice (some ⟨h1.size+0,0,none⟩) 1 1) H:=by
    unfold re
    simp only [hd]
    rw [if_pos trivial]
   rw [Db]
   have lq:s.take s.length++a::s.drop s.length=s++[a]:=by rw [List.take_length,List.drop_length]
   rw [lq]
   have VA:¬ ((s.length+1)*bytes > 140737488355328):=by
    have:(s.length+1)*bytes≤10001*1000:=Nat.mul_le_mul (by omega) w5
    omega
   cases tl with
   |nil =>
    have ld:il T t (.slice (some ⟨A,0,none⟩) s.length (G*11+(s++[]).length)) (.slice (some ⟨h1.size+0,0,none⟩) 1 1) H=some (.slice (some ⟨H.size,0,none⟩) (s.length+1) (G*11+(s.length+1)),(H.set A .dead).push (.row (aG s++a.cells) u false)):=by
     unfold il
     simp only [hd,hi,Option.bind_some,jd,bw,JW]
     rw [if_neg (by omega),if_neg (by simp;omega),if_neg (by rw [d2];simp),hold]
     simp only [Option.bind_some]
     rw [if_neg (by omega),if_pos (by rw [d3];simp)]
    rw [ld]
    refine ⟨_,_,rfl,?_,A,hA,ur _⟩
    have:=Mn (h0:=h0) (u:=u) (s:=s++[a]) (A:=H.size) (h:=(H.set A .dead).push (.row (aG s++a.cells) u false)) ⟨by rw [Heap.size_push,Heap.size_set];omega,by rw [Heap.bL,Heap.size_set,if_pos rfl,zuE]⟩ (by omega) (by rw [List.length_append];simp;omega) rfl
    simpa using this
   |cons x tl =>
    have V6:s.length < (s++x::tl).length:=by rw [List.length_append];simp
    have iH:(s++x::tl).set s.length a=s++[a]++tl:=by
     rw [List.set_append_right _ _ (Nat.le_refl _),Nat.sub_self,List.set_cons_zero]
     simp
    have hw:kW A (0+s.length*11) a.cells H=some (H.set A (.row (aG (s++[a]++tl)) u false)):=by
     unfold kW
     rw [JW]
     simp only
     rw [Nat.zero_add,zqy V6,iH,if_pos]
     simp only [Bool.and_eq_true,decide_eq_true_eq]
     refine ⟨?_,bw⟩
     rw [lR,show a.cells.length=11 from rfl]
     omega
    have ld:il T t (.slice (some ⟨A,0,none⟩) s.length (G*11+(s++x::tl).length)) (.slice (some ⟨h1.size+0,0,none⟩) 1 1) H=some (.slice (some ⟨A,0,none⟩) (s.length+1) (G*11+(s++x::tl).length),H.set A (.row (aG (s++[a]++tl)) u false)):=by
     unfold il
     simp only [hd,hi,Option.bind_some,jd,bw]
     rw [if_neg (by omega),if_neg (by simp;omega),if_pos (by rw [d2];omega),if_pos (by rw [d3];simp),hw]
     rfl
    rw [ld]
    refine ⟨_,_,rfl,?_,A,hA,⟨by rw [Heap.size_set];omega,fun B h1 h2=>by rw [Heap.aC _ _ _ _ (by omega),if_neg h2],by rw [Heap.bX];omega⟩⟩
    refine ZD (s:=s++[a]) (t:=tl) (A:=A) ⟨by rw [Heap.size_set];omega,by rw [Heap.aC _ _ _ _ (by omega),if_pos rfl]⟩ hA ?_ (by simp) ?_
    ·simp only [List.length_append,List.length_cons,List.length_nil] at hle ⊢
     omega
    ·congr 1
     simp only [List.length_append,List.length_cons,List.length_nil]
     omega
  ·have qf:i < s.length:=by omega
   have Db:re T t [.slice (some ⟨A,0,none⟩) s.length (G*11+(s++tl).length),.int .i64 i,.slice (some ⟨h1.size+0,0,none⟩) 1 1] H=some (.slice (some ⟨H.size,0,none⟩) (s.length+1) (G*11+(s.length+1)),(H.set A .dead).push (.row ((aG s).take (i*11)++a.cells++(aG s).drop (i*11)) u false)):=by
    unfold re
    simp only [hd]
    rw [if_neg (by omega)]
    simp only [hi,AF,JW]
    rw [if_pos (by
     refine ⟨⟨by omega,by omega,by omega,trivial,trivial,hu,by decide,d1,d3⟩,?_,by omega⟩
     have:(s.length+1)*bytes≤10001*1000:=Nat.mul_le_mul (by omega) w5
     omega)]
    have e1:gL A 0 (s.length*11) H=some (aG s):=by
     unfold gL
     rw [JW]
     exact znI rfl
    have e2:gL (h1.size+0) 0 11 H=some a.cells:=by
     unfold gL
     rw [AF]
     exact Ar
    simp only [e1,e2,Option.bind_some]
    rw [if_pos ⟨bw,ZE s⟩,Int.toNat_natCast]
   rw [Db]
   refine ⟨_,_,rfl,?_,A,hA,ur _⟩
   have hl:(s.take i++a::s.drop i).length=s.length+1:=by simp only [List.length_append,List.length_take,List.length_cons,List.length_drop];omega
   have:=Mn (h0:=h0) (u:=u) (s:=s.take i++a::s.drop i) (A:=H.size) (c:=G*11+(s.length+1)) (h:=(H.set A .dead).push (.row ((aG s).take (i*11)++a.cells++(aG s).drop (i*11)) u false)) ⟨by rw [Heap.size_push,Heap.size_set];omega,by rw [Heap.bL,Heap.size_set,if_pos rfl,zzd s a i (by omega)]⟩ (by omega) (by omega) (by rw [hl])
   rw [hl] at this
   exact this
end Go.Am
namespace Go.Am
theorem eG.tail {x a:ab} {r:List ab} {i:Nat} (p:eG (x::r) a (i+1)):eG r a i :=
 ⟨by have:=p.le;simp at this;exact this,fun k hk=>by have:=p.lo (k+1) (by omega);simpa using this,fun k h1 h2=>by have:=p.hi (k+1) (by omega) (by simp;omega);simpa using this⟩
theorem znC:∀ {s:List ab} {a:ab} {i:Nat},eG s a i→bV s a=false→s.take i++a::s.drop i=cB a s
 | [],a,i,p,h=>by
  have:i=0:=by have:=p.le;simpa using this
  subst this
  rfl
 |x::r,a,0,p,h=>by
  have h1:=p.hi 0 (Nat.le_refl _) (by simp)
  simp only [List.getD_cons_zero] at h1
  have h2:aM x a≠0:=fun e=>by
   have:bV (x::r) a=true:=dm.2 ⟨x,List.mem_cons_self ..,cG.1 e⟩
   rw [h] at this
   cases this
  have h3:aM a x < 0:=by
   have:=zI a x
   omega
  unfold cB
  rw [if_pos h3]
  rfl
 |x::r,a,i+1,p,h=>by
  have h1:=p.lo 0 (by omega)
  simp only [List.getD_cons_zero] at h1
  have h3:¬ aM a x < 0:=fun g=>YP g h1
  have h4:¬ aM a x=0:=fun g=>by
   have:=zI a x
   omega
  unfold cB
  rw [if_neg h3,if_neg h4]
  have h5:bV r a=false:=by
   cases e:bV r a
   ·rfl
   ·obtain ⟨y,hy,e2⟩:=dm.1 e
    have:bV (x::r) a=true:=dm.2 ⟨y,List.mem_cons_of_mem _ hy,e2⟩
    rw [h] at this
    cases this
  rw [← znC p.tail h5]
  rfl
theorem zuA:∀ {s:List ab} {a:ab},ez s→bV s a=true→cB a s=s
 | [],a,_,h=>by simp [bV] at h
 |x::r,a,hs,h=>by
  have g:=List.pairwise_cons.1 hs
  unfold cB
  obtain ⟨y,hy,e⟩:=dm.1 h
  rcases List.mem_cons.1 hy with rfl|hy
  ·have e0:aM a y=0:=cG.2 e.symm
   rw [if_neg (by omega),if_pos e0]
  ·have e0:aM y a=0:=cG.2 e
   have h1:aM x a < 0:=L6 (g.1 y hy) (Int.le_of_eq e0)
   have h3:¬ aM a x < 0:=fun g=>YP g h1
   have h4:¬ aM a x=0:=fun g=>by
    have:=zI a x
    omega
   rw [if_neg h3,if_neg h4,zuA g.2 (dm.2 ⟨y,hy,e⟩)]
def fB (a:ab) (s:List ab):List ab:=s.filter (fun x=>cO x != cO a)
theorem zA8 {s:List ab} {a:ab} (h:bV s a=false):fB a s=s:=by
 refine List.filter_eq_self.2 (fun x hx=>?_)
 cases e:cO x != cO a
 ·have e2:cO x=cO a:=by simpa using e
  have:bV s a=true:=dm.2 ⟨x,hx,e2⟩
  rw [h] at this
  cases this
 ·rfl
theorem ztc {s:List ab} {a:ab} {i:Nat} (hs:ez s) (p:eG s a i) (h:bV s a=true):i < s.length∧s.take i++s.drop (i+1)=fB a s:=by
 obtain ⟨hi,e0⟩:=(p.has hs).1 h
 refine ⟨hi,?_⟩
 have hd:s.drop i=s.getD i ah::s.drop (i+1):=by
  rw [List.drop_eq_getElem_cons hi]
  congr 1
  rw [List.getD_eq_getElem?_getD,List.getElem?_eq_getElem hi]
  rfl
 unfold fB
 conv=>rhs;rw [← List.take_append_drop i s]
 rw [List.filter_append,hd]
 congr 1
 ·symm
  refine List.filter_eq_self.2 (fun x hx=>?_)
  obtain ⟨k,hk⟩:=List.getElem?_of_mem hx
  rw [List.getElem?_take] at hk
  split at hk
  ·rename_i qh
   have h1:=p.lo k qh
   rw [List.getD_eq_getElem?_getD,hk] at h1
   have h1:aM x a < 0:=h1
   rw [bne_iff_ne]
   intro e
   have:=cG.2 e
   omega
  ·cases hk
 ·have e1:cO (s.getD i ah)=cO a:=cG.1 e0
  rw [List.filter_cons,if_neg (by rw [e1];simp)]
  symm
  refine List.filter_eq_self.2 (fun x hx=>?_)
  obtain ⟨k,hk⟩:=List.getElem?_of_mem hx
  rw [List.getElem?_drop] at hk
  have kU:=(List.getElem?_eq_some_iff.1 hk).1
  have h1:=MV (fb.1 hs) (show i < i+1+k by omega) kU
  rw [List.getD_eq_getElem?_getD (i:=i+1+k),hk] at h1
  have h1:aM (s.getD i ah) x < 0:=h1
  rw [bne_iff_ne]
  intro e
  have h2:aM (s.getD i ah) x=0:=cG.2 (e1.trans e.symm)
  omega
theorem zpp {l m:List ab} {i:Nat} (hi:i+m.length≤l.length):ay (aG l) (i*11) (aG m)=aG (l.take i++(m++l.drop (i+m.length))):=by
 have e:l=l.take i++l.drop i:=(List.take_append_drop i l).symm
 have h1:(aG (l.take i)).length=i*11:=by rw [lR,List.length_take];congr 1;omega
 have e2:l=l.take (i+m.length)++l.drop (i+m.length):=(List.take_append_drop (i+m.length) l).symm
 have h2:(aG (l.take (i+m.length))).length=i*11+(aG m).length:=by rw [lR,lR,List.length_take,← Nat.add_mul];congr 1;omega
 unfold ay
 have f1:(aG l).take (i*11)=aG (l.take i):=by
  conv=>lhs;rw [e]
  rw [pC,List.take_left' h1]
 have f2:(aG l).drop (i*11+(aG m).length)=aG (l.drop (i+m.length)):=by
  conv=>lhs;rw [e2]
  rw [pC,List.drop_left' h2]
 rw [f1,f2,pC,pC,List.append_assoc]
theorem zuD {l m p:List ab} {o n:Nat} (h1:o=l.length*11) (h2:n=m.length*11):cut (aG (l++(m++p))) o n=some (aG m):=by
 have g1:(aG l).length=o:=by rw [lR,h1]
 have g2:(aG m).length=n:=by rw [lR,h2]
 rw [pC,pC]
 refine pH (by simp only [List.length_append,g1,g2];omega) g2 (fun i hi=>?_)
 rw [List.getElem?_append_right (by omega),g1,List.getElem?_append_left (by omega)]
 congr 1
 omega
theorem zq9 {T:bD} {t u:TypeId} {bytes:Nat} {z:List Value} (hd:T.desc t=some (.slice u)) (hi:T.info u=some (11,bytes,z)) (w5:bytes≤1000) {h:Heap} {A i C2:Nat} {s tl:List ab}
 (q:Holds h A (.row (aG (s++tl)) u false)) (aH:i < s.length) (hn:s.length≤10000) (hle:(s++tl).length≤100000) :
 ∃ h',il T t (.slice (some ⟨A,0,none⟩) i (G*11+(s++tl).length)) (.slice (some ⟨A,(i+1)*11,none⟩) (s.length - (i+1)) C2) h=some (.slice (some ⟨A,0,none⟩) (s.length - 1) (G*11+(s++tl).length),h') ∧
   Holds h' A (.row (aG (s.take i++s.drop (i+1)++(s.drop (s.length - 1)++tl))) u false)∧fK A h h':=by
 have hG:=E7
 obtain ⟨d1,d3,d2⟩:=Bo (k:=11) (q:=(s++tl).length) (by decide) (by omega)
 have hg:h.get A=some (.row (aG (s++tl)) u false):=q.get
 have hA:A < h.size:=q.lt
 have hlen:(s++tl).length=s.length+tl.length:=List.length_append
 have Ds:s++tl=s.take (i+1)++(s.drop (i+1)++tl):=by rw [← List.append_assoc,List.take_append_drop]
 have hm:s.length - (i+1)=(s.drop (i+1)).length:=by rw [List.length_drop]
 by_cases h0:s.length - (i+1)=0
 ·have lM:i=s.length - 1:=by omega
  have jd:fI (.slice (some ⟨A,(i+1)*11,none⟩) (s.length - (i+1)) C2) 11 h=some (0,[]):=by
   rw [h0]
   rfl
  have ld:il T t (.slice (some ⟨A,0,none⟩) i (G*11+(s++tl).length)) (.slice (some ⟨A,(i+1)*11,none⟩) (s.length - (i+1)) C2) h=some (.slice (some ⟨A,0,none⟩) i (G*11+(s++tl).length),h):=by
   unfold il
   simp only [hd,hi,Option.bind_some,jd]
   rw [if_pos trivial]
  rw [ld]
  refine ⟨h,by rw [lM],?_,⟨Nat.le_refl _,fun _ _ _=>rfl,by omega⟩⟩
  have e:s.take i++s.drop (i+1)++(s.drop (s.length - 1)++tl)=s++tl:=by
   rw [show s.drop (i+1)=[] from List.drop_of_length_le (by omega),List.append_nil,← lM,← List.append_assoc,List.take_append_drop]
  rw [e]
  exact q
 ·have jd:fI (.slice (some ⟨A,(i+1)*11,none⟩) (s.length - (i+1)) C2) 11 h=some (s.length - (i+1),aG (s.drop (i+1))):=by
   unfold fI lU
   simp only
   rw [if_neg (by omega)]
   unfold gL
   rw [hg]
   simp only
   rw [Ds,zuD (by rw [List.length_take];congr 1;omega) (by rw [hm])]
   rfl
  have hl:i+(s.drop (i+1)).length≤(s++tl).length:=by rw [← hm,hlen];omega
  have cA:ay (aG (s++tl)) (i*11) (aG (s.drop (i+1)))=aG (s.take i++s.drop (i+1)++(s.drop (s.length - 1)++tl)):=by
   rw [zpp hl]
   congr 1
   rw [List.take_append_of_le_length (by omega),List.append_assoc]
   congr 2
   rw [← hm,show i+(s.length - (i+1))=s.length - 1 by omega,List.drop_append_of_le_length (by omega)]
  have hw:kW A (0+i*11) (aG (s.drop (i+1))) h=some (h.set A (.row (aG (s.take i++s.drop (i+1)++(s.drop (s.length - 1)++tl))) u false)):=by
   unfold kW
   rw [hg]
   simp only
   rw [Nat.zero_add,cA,if_pos]
   simp only [Bool.and_eq_true,decide_eq_true_eq]
   refine ⟨?_,ZE _⟩
   rw [lR,lR,← Nat.add_mul]
   exact Nat.mul_le_mul_right _ hl
  have ld:il T t (.slice (some ⟨A,0,none⟩) i (G*11+(s++tl).length)) (.slice (some ⟨A,(i+1)*11,none⟩) (s.length - (i+1)) C2) h=some (.slice (some ⟨A,0,none⟩) (s.length - 1) (G*11+(s++tl).length),h.set A (.row (aG (s.take i++s.drop (i+1)++(s.drop (s.length - 1)++tl))) u false)):=by
   have VA:¬ ((i+(s.length - (i+1)))*bytes > 140737488355328):=by
    have:(i+(s.length - (i+1)))*bytes≤10001*1000:=Nat.mul_le_mul (by omega) w5
    omega
   unfold il
   simp only [hd,hi,Option.bind_some,jd,ZE]
   rw [if_neg h0,if_neg (by simp;omega),if_pos (by rw [d2];omega),if_pos (by rw [d3];simp),hw]
   simp only [Option.map_some]
   rw [show i+(s.length - (i+1))=s.length - 1 by omega]
  rw [ld]
  exact ⟨_,rfl,⟨by rw [Heap.size_set];exact hA,by rw [Heap.aC _ _ _ _ hA,if_pos rfl]⟩,⟨by rw [Heap.size_set];omega,fun B h1 h2=>by rw [Heap.aC _ _ _ _ hA,if_neg h2],by rw [Heap.bX];omega⟩⟩
end Go.Am

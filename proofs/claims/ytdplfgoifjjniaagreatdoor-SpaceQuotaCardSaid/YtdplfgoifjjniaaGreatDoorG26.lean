/- Inserting into a list of one's own, in plain terms. No condition. -/
import Derived.Test.YtdplfgoifjjniaaGreatDoorG25
set_option linter.unusedSimpArgs false
set_option linter.unusedVariables false
namespace Go.Am
theorem zmU {s t:List AtomD} {n:Nat} (hn:n=s.length*11):cut (rowA (s++t)) 0 n=some (rowA s):=by
 rw [zaO]
 have h1:(rowA s).length=n:=by rw [zaC,hn]
 refine zc8 (by rw [List.length_append,h1];omega) h1 (fun i hi=>?_)
 rw [Nat.zero_add,List.getElem?_append_left (by omega)]
theorem zlm (s:List AtomD):(rowA s).all one=true:=by
 rw [List.all_eq_true]
 intro x hx
 unfold rowA at hx
 obtain ⟨y,hy,hx2⟩:=List.mem_flatMap.1 hx
 exact List.all_eq_true.1 (by rfl:y.cells.all one=true) x hx2
theorem zmT (s:List AtomD) (a:AtomD):rowA s++a.cells=rowA (s++[a]):=by
 rw [zaO]
 unfold rowA
 simp
theorem zvU (s:List AtomD) (a:AtomD) (i:Nat) (hi:i≤s.length):(rowA s).take (i*11)++a.cells++(rowA s).drop (i*11)=rowA (s.take i++a::s.drop i):=by
 have h1:(rowA (s.take i)).length=i*11:=by rw [zaC,List.length_take];congr 1;omega
 have e:rowA s=rowA (s.take i)++rowA (s.drop i):=by rw [← zaO,List.take_append_drop]
 rw [e,List.take_left' h1,List.drop_left' h1,zaO,List.append_assoc]
 congr 1
theorem zyO {T:Tab} {t u:TypeId} {bytes:Nat} {z:List Value} (hd:T.desc t=some (.slice u)) (hi:T.info u=some (11,bytes,z)) (hu:u≠zuU) (hby:bytes≤1000) {h0 h1:Heap} {w:Value} {s:List AtomD} {a:AtomD} {i lw:Nat}
 (hz:h0.size≤h1.size) (ho:OwnA h0 h1 u w s) (hn:s.length≤10000) (hin:i≤s.length) :
 ∃ w' H',zcx T t [w,.int .i64 i,.slice (some ⟨h1.size+0,0,none⟩) 1 1] (h1.lay [.row a.cells u false] lw)=some (w',H')∧OwnA h0 H' u w' (s.take i++a::s.drop i)∧∃ A,h0.size≤A∧Chg A (h1.lay [.row a.cells u false] lw) H':=by
 obtain ⟨H,hH⟩:∃ H,H=h1.lay [.row a.cells u false] lw:=⟨_,rfl⟩
 have hgB:H.get (h1.size+0)=some (.row a.cells u false):=by rw [hH,zbd];rfl
 have hHs:H.size=h1.size+1:=by rw [hH,zad];rfl
 rw [← hH]
 have hacut:cut a.cells 0 11=some a.cells:=rfl
 have hone:a.cells.all one=true:=rfl
 have hsrc:srcA (.slice (some ⟨h1.size+0,0,none⟩) 1 1) 11 H=some (1,a.cells):=by
  unfold srcA zbG zaI
  simp only [hgB,hacut,Option.map_some,Nat.one_mul]
  rfl
 have hpushX:∀ b,Chg h1.size H (H.push b):=fun b=>⟨by rw [Heap.size_push];omega,fun B h1 h2=>by rw [Heap.get_push,if_neg (by omega)],by rw [Heap.low_push];omega⟩
 have hG:=zjo
 rcases ho with ⟨rfl,hemp⟩|⟨A,tl,rfl,hq,hA,hle⟩
 ·-- nothing there
  have hi0:i=0:=by simpa using hin
  subst hi0
  have key:∀ base c,c=0→zbG (.slice base 0 c) 11 H=some []→zaH T t (.slice base 0 c) (.slice (some ⟨h1.size+0,0,none⟩) 1 1) H=some (.slice (some ⟨H.size,0,none⟩) 1 (G*11+1),H.push (.row a.cells u false)):=by
   intro base c hc hcell
   subst hc
   unfold zaH
   simp only [hd,hi,Option.bind_some,hsrc,hcell,hone]
   rw [if_neg (by omega),if_neg (by simp;omega),if_neg (by simp),if_pos (by unfold G;omega)]
   rfl
  refine ⟨.slice (some ⟨H.size,0,none⟩) 1 (G*11+1),H.push (.row a.cells u false),?_,?_,h1.size,hz,hpushX _⟩
  ·rcases hemp.no with rfl|⟨B,o,rfl⟩
   ·unfold zcx
    simp only [hd]
    rw [if_pos trivial]
    exact key _ _ rfl rfl
   ·unfold zcx
    simp only [hd]
    rw [if_pos trivial]
    exact key _ _ rfl rfl
  ·refine zgA (s:=[a]) (A:=H.size) ⟨by rw [Heap.size_push];omega,?_⟩ (by omega) (by simp) rfl
   rw [Heap.get_push,if_pos rfl]
   rfl
 ·have hqH:H.get A=some (.row (rowA (s++tl)) u false):=by rw [hH];exact hq.lay _ _
  have hAlt:A < h1.size:=hq.lt
  have hlen:(s++tl).length=s.length+tl.length:=List.length_append
  obtain ⟨d1,d3,d2⟩:=zcA (k:=11) (q:=(s++tl).length) (by decide) (by omega)
  have hold:zbG (.slice (some ⟨A,0,none⟩) s.length (G*11+(s++tl).length)) 11 H=some (rowA s):=by
   unfold zbG
   simp only
   split
   ·rename_i h0
    have:s=[]:=List.length_eq_zero_iff.1 (by omega)
    subst this
    rfl
   ·unfold zaI
    rw [hqH]
    exact zmU rfl
  have hkp:∀ b,Chg A H ((H.set A .dead).push b):=fun b=>⟨by rw [Heap.size_push,Heap.size_set];omega,fun B h1 h2=>by rw [Heap.get_push,Heap.size_set,if_neg (by omega),Heap.get_set _ _ _ _ (by omega),if_neg h2],by rw [Heap.low_push,Heap.low_set];omega⟩
  by_cases hend:i=s.length
  ·subst hend
   have hins:zcx T t [.slice (some ⟨A,0,none⟩) s.length (G*11+(s++tl).length),.int .i64 s.length,.slice (some ⟨h1.size+0,0,none⟩) 1 1] H=zaH T t (.slice (some ⟨A,0,none⟩) s.length (G*11+(s++tl).length)) (.slice (some ⟨h1.size+0,0,none⟩) 1 1) H:=by
    unfold zcx
    simp only [hd]
    rw [if_pos trivial]
   rw [hins]
   have hfin:s.take s.length++a::s.drop s.length=s++[a]:=by rw [List.take_length,List.drop_length]
   rw [hfin]
   have hb48:¬ ((s.length+1)*bytes > 140737488355328):=by
    have:(s.length+1)*bytes≤10001*1000:=Nat.mul_le_mul (by omega) hby
    omega
   cases tl with
   |nil =>
    have hap:zaH T t (.slice (some ⟨A,0,none⟩) s.length (G*11+(s++[]).length)) (.slice (some ⟨h1.size+0,0,none⟩) 1 1) H=some (.slice (some ⟨H.size,0,none⟩) (s.length+1) (G*11+(s.length+1)),(H.set A .dead).push (.row (rowA s++a.cells) u false)):=by
     unfold zaH
     simp only [hd,hi,Option.bind_some,hsrc,hone,hqH]
     rw [if_neg (by omega),if_neg (by simp;omega),if_neg (by rw [d2];simp),hold]
     simp only [Option.bind_some]
     rw [if_neg (by omega),if_pos (by rw [d3];simp)]
    rw [hap]
    refine ⟨_,_,rfl,?_,A,hA,hkp _⟩
    have:=zgA (h0:=h0) (u:=u) (s:=s++[a]) (A:=H.size) (h:=(H.set A .dead).push (.row (rowA s++a.cells) u false)) ⟨by rw [Heap.size_push,Heap.size_set];omega,by rw [Heap.get_push,Heap.size_set,if_pos rfl,zmT]⟩ (by omega) (by rw [List.length_append];simp;omega) rfl
    simpa using this
   |cons x tl =>
    have hidx:s.length < (s++x::tl).length:=by rw [List.length_append];simp
    have hset:(s++x::tl).set s.length a=s++[a]++tl:=by
     rw [List.set_append_right _ _ (Nat.le_refl _),Nat.sub_self,List.set_cons_zero]
     simp
    have hw:zbQ A (0+s.length*11) a.cells H=some (H.set A (.row (rowA (s++[a]++tl)) u false)):=by
     unfold zbQ
     rw [hqH]
     simp only
     rw [Nat.zero_add,zpA hidx,hset,if_pos]
     simp only [Bool.and_eq_true,decide_eq_true_eq]
     refine ⟨?_,hone⟩
     rw [zaC,show a.cells.length=11 from rfl]
     omega
    have hap:zaH T t (.slice (some ⟨A,0,none⟩) s.length (G*11+(s++x::tl).length)) (.slice (some ⟨h1.size+0,0,none⟩) 1 1) H=some (.slice (some ⟨A,0,none⟩) (s.length+1) (G*11+(s++x::tl).length),H.set A (.row (rowA (s++[a]++tl)) u false)):=by
     unfold zaH
     simp only [hd,hi,Option.bind_some,hsrc,hone]
     rw [if_neg (by omega),if_neg (by simp;omega),if_pos (by rw [d2];omega),if_pos (by rw [d3];simp),hw]
     rfl
    rw [hap]
    refine ⟨_,_,rfl,?_,A,hA,⟨by rw [Heap.size_set];omega,fun B h1 h2=>by rw [Heap.get_set _ _ _ _ (by omega),if_neg h2],by rw [Heap.low_set];omega⟩⟩
    refine zlg (s:=s++[a]) (t:=tl) (A:=A) ⟨by rw [Heap.size_set];omega,by rw [Heap.get_set _ _ _ _ (by omega),if_pos rfl]⟩ hA ?_ (by simp) ?_
    ·simp only [List.length_append,List.length_cons,List.length_nil] at hle ⊢
     omega
    ·congr 1
     simp only [List.length_append,List.length_cons,List.length_nil]
     omega
  ·have hilt:i < s.length:=by omega
   have hins:zcx T t [.slice (some ⟨A,0,none⟩) s.length (G*11+(s++tl).length),.int .i64 i,.slice (some ⟨h1.size+0,0,none⟩) 1 1] H=some (.slice (some ⟨H.size,0,none⟩) (s.length+1) (G*11+(s.length+1)),(H.set A .dead).push (.row ((rowA s).take (i*11)++a.cells++(rowA s).drop (i*11)) u false)):=by
    unfold zcx
    simp only [hd]
    rw [if_neg (by omega)]
    simp only [hi,hgB,hqH]
    rw [if_pos (by
     refine ⟨⟨by omega,by omega,by omega,trivial,trivial,hu,by decide,d1,d3⟩,?_,by omega⟩
     have:(s.length+1)*bytes≤10001*1000:=Nat.mul_le_mul (by omega) hby
     omega)]
    have e1:zaI A 0 (s.length*11) H=some (rowA s):=by
     unfold zaI
     rw [hqH]
     exact zmU rfl
    have e2:zaI (h1.size+0) 0 11 H=some a.cells:=by
     unfold zaI
     rw [hgB]
     exact hacut
    simp only [e1,e2,Option.bind_some]
    rw [if_pos ⟨hone,zlm s⟩,Int.toNat_natCast]
   rw [hins]
   refine ⟨_,_,rfl,?_,A,hA,hkp _⟩
   have hl:(s.take i++a::s.drop i).length=s.length+1:=by simp only [List.length_append,List.length_take,List.length_cons,List.length_drop];omega
   have:=zgA (h0:=h0) (u:=u) (s:=s.take i++a::s.drop i) (A:=H.size) (c:=G*11+(s.length+1)) (h:=(H.set A .dead).push (.row ((rowA s).take (i*11)++a.cells++(rowA s).drop (i*11)) u false)) ⟨by rw [Heap.size_push,Heap.size_set];omega,by rw [Heap.get_push,Heap.size_set,if_pos rfl,zvU s a i (by omega)]⟩ (by omega) (by omega) (by rw [hl])
   rw [hl] at this
   exact this
end Go.Am
namespace Go.Am
theorem AmPlace.tail {x a:AtomD} {r:List AtomD} {i:Nat} (p:AmPlace (x::r) a (i+1)):AmPlace r a i :=
 ⟨by have:=p.le;simp at this;exact this,fun k hk=>by have:=p.lo (k+1) (by omega);simpa using this,fun k h1 h2=>by have:=p.hi (k+1) (by omega) (by simp;omega);simpa using this⟩
theorem zmL:∀ {s:List AtomD} {a:AtomD} {i:Nat},AmPlace s a i→hasA s a=false→s.take i++a::s.drop i=putA a s
 | [],a,i,p,h=>by
  have:i=0:=by have:=p.le;simpa using this
  subst this
  rfl
 |x::r,a,0,p,h=>by
  have h1:=p.hi 0 (Nat.le_refl _) (by simp)
  simp only [List.getD_cons_zero] at h1
  have h2:cmpD x a≠0:=fun e=>by
   have:hasA (x::r) a=true:=hasA_iff.2 ⟨x,List.mem_cons_self ..,cmpD_zero.1 e⟩
   rw [h] at this
   cases this
  have h3:cmpD a x < 0:=by
   have:=zct a x
   omega
  unfold putA
  rw [if_pos h3]
  rfl
 |x::r,a,i+1,p,h=>by
  have h1:=p.lo 0 (by omega)
  simp only [List.getD_cons_zero] at h1
  have h3:¬ cmpD a x < 0:=fun g=>zgU g h1
  have h4:¬ cmpD a x=0:=fun g=>by
   have:=zct a x
   omega
  unfold putA
  rw [if_neg h3,if_neg h4]
  have h5:hasA r a=false:=by
   cases e:hasA r a
   ·rfl
   ·obtain ⟨y,hy,e2⟩:=hasA_iff.1 e
    have:hasA (x::r) a=true:=hasA_iff.2 ⟨y,List.mem_cons_of_mem _ hy,e2⟩
    rw [h] at this
    cases this
  rw [← zmL p.tail h5]
  rfl
theorem ztm:∀ {s:List AtomD} {a:AtomD},AscD s→hasA s a=true→putA a s=s
 | [],a,_,h=>by simp [hasA] at h
 |x::r,a,hs,h=>by
  have g:=List.pairwise_cons.1 hs
  unfold putA
  obtain ⟨y,hy,e⟩:=hasA_iff.1 h
  rcases List.mem_cons.1 hy with rfl|hy
  ·have e0:cmpD a y=0:=cmpD_zero.2 e.symm
   rw [if_neg (by omega),if_pos e0]
  ·have e0:cmpD y a=0:=cmpD_zero.2 e
   have h1:cmpD x a < 0:=zdZ (g.1 y hy) (Int.le_of_eq e0)
   have h3:¬ cmpD a x < 0:=fun g=>zgU g h1
   have h4:¬ cmpD a x=0:=fun g=>by
    have:=zct a x
    omega
   rw [if_neg h3,if_neg h4,ztm g.2 (hasA_iff.2 ⟨y,hy,e⟩)]
def delA (a:AtomD) (s:List AtomD):List AtomD:=s.filter (fun x=>zaP x != zaP a)
theorem zxm {s:List AtomD} {a:AtomD} (h:hasA s a=false):delA a s=s:=by
 refine List.filter_eq_self.2 (fun x hx=>?_)
 cases e:zaP x != zaP a
 ·have e2:zaP x=zaP a:=by simpa using e
  have:hasA s a=true:=hasA_iff.2 ⟨x,hx,e2⟩
  rw [h] at this
  cases this
 ·rfl
theorem zr1 {s:List AtomD} {a:AtomD} {i:Nat} (hs:AscD s) (p:AmPlace s a i) (h:hasA s a=true):i < s.length∧s.take i++s.drop (i+1)=delA a s:=by
 obtain ⟨hi,e0⟩:=(p.has hs).1 h
 refine ⟨hi,?_⟩
 have hd:s.drop i=s.getD i noAtomD::s.drop (i+1):=by
  rw [List.drop_eq_getElem_cons hi]
  congr 1
  rw [List.getD_eq_getElem?_getD,List.getElem?_eq_getElem hi]
  rfl
 unfold delA
 conv=>rhs;rw [← List.take_append_drop i s]
 rw [List.filter_append,hd]
 congr 1
 ·symm
  refine List.filter_eq_self.2 (fun x hx=>?_)
  obtain ⟨k,hk⟩:=List.getElem?_of_mem hx
  rw [List.getElem?_take] at hk
  split at hk
  ·rename_i hki
   have h1:=p.lo k hki
   rw [List.getD_eq_getElem?_getD,hk] at h1
   have h1:cmpD x a < 0:=h1
   rw [bne_iff_ne]
   intro e
   have:=cmpD_zero.2 e
   omega
  ·cases hk
 ·have e1:zaP (s.getD i noAtomD)=zaP a:=cmpD_zero.1 e0
  rw [List.filter_cons,if_neg (by rw [e1];simp)]
  symm
  refine List.filter_eq_self.2 (fun x hx=>?_)
  obtain ⟨k,hk⟩:=List.getElem?_of_mem hx
  rw [List.getElem?_drop] at hk
  have hkl:=(List.getElem?_eq_some_iff.1 hk).1
  have h1:=zlG (asc_iff.1 hs) (show i < i+1+k by omega) hkl
  rw [List.getD_eq_getElem?_getD (i:=i+1+k),hk] at h1
  have h1:cmpD (s.getD i noAtomD) x < 0:=h1
  rw [bne_iff_ne]
  intro e
  have h2:cmpD (s.getD i noAtomD) x=0:=cmpD_zero.2 (e1.trans e.symm)
  omega
theorem zoz {l m:List AtomD} {i:Nat} (hi:i+m.length≤l.length):splice (rowA l) (i*11) (rowA m)=rowA (l.take i++(m++l.drop (i+m.length))):=by
 have e:l=l.take i++l.drop i:=(List.take_append_drop i l).symm
 have h1:(rowA (l.take i)).length=i*11:=by rw [zaC,List.length_take];congr 1;omega
 have e2:l=l.take (i+m.length)++l.drop (i+m.length):=(List.take_append_drop (i+m.length) l).symm
 have h2:(rowA (l.take (i+m.length))).length=i*11+(rowA m).length:=by rw [zaC,zaC,List.length_take,← Nat.add_mul];congr 1;omega
 unfold splice
 have f1:(rowA l).take (i*11)=rowA (l.take i):=by
  conv=>lhs;rw [e]
  rw [zaO,List.take_left' h1]
 have f2:(rowA l).drop (i*11+(rowA m).length)=rowA (l.drop (i+m.length)):=by
  conv=>lhs;rw [e2]
  rw [zaO,List.drop_left' h2]
 rw [f1,f2,zaO,zaO,List.append_assoc]
theorem zmS {l m p:List AtomD} {o n:Nat} (h1:o=l.length*11) (h2:n=m.length*11):cut (rowA (l++(m++p))) o n=some (rowA m):=by
 have g1:(rowA l).length=o:=by rw [zaC,h1]
 have g2:(rowA m).length=n:=by rw [zaC,h2]
 rw [zaO,zaO]
 refine zc8 (by simp only [List.length_append,g1,g2];omega) g2 (fun i hi=>?_)
 rw [List.getElem?_append_right (by omega),g1,List.getElem?_append_left (by omega)]
 congr 1
 omega
theorem zp6 {T:Tab} {t u:TypeId} {bytes:Nat} {z:List Value} (hd:T.desc t=some (.slice u)) (hi:T.info u=some (11,bytes,z)) (hby:bytes≤1000) {h:Heap} {A i C2:Nat} {s tl:List AtomD}
 (q:Holds h A (.row (rowA (s++tl)) u false)) (hin:i < s.length) (hn:s.length≤10000) (hle:(s++tl).length≤100000) :
 ∃ h',zaH T t (.slice (some ⟨A,0,none⟩) i (G*11+(s++tl).length)) (.slice (some ⟨A,(i+1)*11,none⟩) (s.length - (i+1)) C2) h=some (.slice (some ⟨A,0,none⟩) (s.length - 1) (G*11+(s++tl).length),h') ∧
   Holds h' A (.row (rowA (s.take i++s.drop (i+1)++(s.drop (s.length - 1)++tl))) u false)∧Chg A h h':=by
 have hG:=zjo
 obtain ⟨d1,d3,d2⟩:=zcA (k:=11) (q:=(s++tl).length) (by decide) (by omega)
 have hg:h.get A=some (.row (rowA (s++tl)) u false):=q.get
 have hA:A < h.size:=q.lt
 have hlen:(s++tl).length=s.length+tl.length:=List.length_append
 have hparts:s++tl=s.take (i+1)++(s.drop (i+1)++tl):=by rw [← List.append_assoc,List.take_append_drop]
 have hm:s.length - (i+1)=(s.drop (i+1)).length:=by rw [List.length_drop]
 by_cases h0:s.length - (i+1)=0
 ·have hi1:i=s.length - 1:=by omega
  have hsrc:srcA (.slice (some ⟨A,(i+1)*11,none⟩) (s.length - (i+1)) C2) 11 h=some (0,[]):=by
   rw [h0]
   rfl
  have hap:zaH T t (.slice (some ⟨A,0,none⟩) i (G*11+(s++tl).length)) (.slice (some ⟨A,(i+1)*11,none⟩) (s.length - (i+1)) C2) h=some (.slice (some ⟨A,0,none⟩) i (G*11+(s++tl).length),h):=by
   unfold zaH
   simp only [hd,hi,Option.bind_some,hsrc]
   rw [if_pos trivial]
  rw [hap]
  refine ⟨h,by rw [hi1],?_,⟨Nat.le_refl _,fun _ _ _=>rfl,by omega⟩⟩
  have e:s.take i++s.drop (i+1)++(s.drop (s.length - 1)++tl)=s++tl:=by
   rw [show s.drop (i+1)=[] from List.drop_of_length_le (by omega),List.append_nil,← hi1,← List.append_assoc,List.take_append_drop]
  rw [e]
  exact q
 ·have hsrc:srcA (.slice (some ⟨A,(i+1)*11,none⟩) (s.length - (i+1)) C2) 11 h=some (s.length - (i+1),rowA (s.drop (i+1))):=by
   unfold srcA zbG
   simp only
   rw [if_neg (by omega)]
   unfold zaI
   rw [hg]
   simp only
   rw [hparts,zmS (by rw [List.length_take];congr 1;omega) (by rw [hm])]
   rfl
  have hl:i+(s.drop (i+1)).length≤(s++tl).length:=by rw [← hm,hlen];omega
  have hsp:splice (rowA (s++tl)) (i*11) (rowA (s.drop (i+1)))=rowA (s.take i++s.drop (i+1)++(s.drop (s.length - 1)++tl)):=by
   rw [zoz hl]
   congr 1
   rw [List.take_append_of_le_length (by omega),List.append_assoc]
   congr 2
   rw [← hm,show i+(s.length - (i+1))=s.length - 1 by omega,List.drop_append_of_le_length (by omega)]
  have hw:zbQ A (0+i*11) (rowA (s.drop (i+1))) h=some (h.set A (.row (rowA (s.take i++s.drop (i+1)++(s.drop (s.length - 1)++tl))) u false)):=by
   unfold zbQ
   rw [hg]
   simp only
   rw [Nat.zero_add,hsp,if_pos]
   simp only [Bool.and_eq_true,decide_eq_true_eq]
   refine ⟨?_,zlm _⟩
   rw [zaC,zaC,← Nat.add_mul]
   exact Nat.mul_le_mul_right _ hl
  have hap:zaH T t (.slice (some ⟨A,0,none⟩) i (G*11+(s++tl).length)) (.slice (some ⟨A,(i+1)*11,none⟩) (s.length - (i+1)) C2) h=some (.slice (some ⟨A,0,none⟩) (s.length - 1) (G*11+(s++tl).length),h.set A (.row (rowA (s.take i++s.drop (i+1)++(s.drop (s.length - 1)++tl))) u false)):=by
   have hb48:¬ ((i+(s.length - (i+1)))*bytes > 140737488355328):=by
    have:(i+(s.length - (i+1)))*bytes≤10001*1000:=Nat.mul_le_mul (by omega) hby
    omega
   unfold zaH
   simp only [hd,hi,Option.bind_some,hsrc,zlm]
   rw [if_neg h0,if_neg (by simp;omega),if_pos (by rw [d2];omega),if_pos (by rw [d3];simp),hw]
   simp only [Option.map_some]
   rw [show i+(s.length - (i+1))=s.length - 1 by omega]
  rw [hap]
  exact ⟨_,rfl,⟨by rw [Heap.size_set];exact hA,by rw [Heap.get_set _ _ _ _ hA,if_pos rfl]⟩,⟨by rw [Heap.size_set];omega,fun B h1 h2=>by rw [Heap.get_set _ _ _ _ hA,if_neg h2],by rw [Heap.low_set];omega⟩⟩
end Go.Am

/- Slices and pointers by what they hold. No condition. -/
import Derived.Test.YtjildadoepadeaaGreatDoorG10
set_option linter.unusedSimpArgs false
set_option linter.unusedVariables false
namespace Go.Am
variable {cs:List ai} {p:ai} {b:bd} {B m n o:Nat}
structure aQ (Z:Type) where
 k:Nat
 R:Heap->List ai->Z->Prop
 len:∀ h cs x,R h cs x->cs.length=k
 mono:∀ h h' cs x,dz h h'->R h cs x->R h' cs x
 fk:∀ h cs x,R h cs x->cs.all one=true
def dY (h:Heap) (p:ai) (cs:List ai):Prop:=∃ A o row u ro,p=.pointer (some ⟨A,o,none⟩)/\A < h.size/\h.get A=some (.row row u ro)/\cut row o cs.length=some cs
def zxF (k n c:Nat):Prop:=(c < G/\n<=c)\/(G<=c/\c / G=k/\n<=c % G)
def Sl {Z:Type} (r:aQ Z) (h:Heap) (v:ai) (l:List Z):Prop :=
 (v=.slice none 0 0/\l=[])\/∃ A o c row u ro,v=.slice (some ⟨A,o,none⟩) l.length c/\l.length<=maxLen/\zxF r.k l.length c/\A < h.size/\h.get A=some (.row row u ro) /\
  ∀ (i:Nat) (x:Z),l[i]? = some x->∃ cs,cut row (o+i*r.k) r.k=some cs/\r.R h cs x
theorem dY.mono {h h':Heap} (f:dY h p cs) (i:dz h h'):dY h' p cs:=by
 obtain ⟨A,o,row,u,ro,rfl,hA,hg,hc⟩:=f
 exact ⟨A,o,row,u,ro,rfl,eR hA i.size,i.at hA hg,hc⟩
theorem dY.over {h1 h2:Heap} {l:List bd} {w:Nat} (f:dY h1 p cs) (x:Ext (h1.lay l w) h2):dY h2 p cs:=f.mono x.inc.nI
theorem Holds.mono {h h':Heap} {A:Nat} {u:TypeId} {ro:Bool} (hh:Holds h A (.row cs u ro)) (i:dz h h'):Holds h' A (.row cs u ro):=⟨eR hh.lt i.size,i.at hh.lt hh.get⟩
theorem Holds.over {h1 h2:Heap} {A:Nat} {l:List bd} {w:Nat} (f:Holds h1 A b) (x:Ext (h1.lay l w) h2):Holds h2 A b:=⟨eR f.lt x.inc.nI.size,(x.get A (by rw [cF];have:=f.lt;omega)).trans (f.lay l w)⟩
section
variable {Z:Type} {r:aQ Z} {h h' h1 h2:Heap} {v:ai} {l:List Z}
theorem Sl.mono (f:Sl r h v l) (i:dz h h'):Sl r h' v l:=by
 rcases f with f|⟨A,o,c,row,u,ro,e1,e2,e3,e4,e5,e6⟩
 .exact .inl f
 .refine .inr ⟨A,o,c,row,u,ro,e1,e2,e3,eR e4 i.size,i.at e4 e5,λj x hj=>?_⟩
  obtain ⟨cs,g1,g2⟩:=e6 j x hj
  exact ⟨cs,g1,r.mono _ _ _ _ i g2⟩
theorem Sl.over {bs:List bd} {w:Nat} (f:Sl r h1 v l) (x:Ext (h1.lay bs w) h2):Sl r h2 v l:=f.mono x.inc.nI
theorem Sl.lay (f:Sl r h v l) (bs:List bd) (w:Nat):Sl r (h.lay bs w) v l:=f.mono (dz.lay h bs w)
theorem Sl.le (f:Sl r h v l):l.length<=maxLen:=by
 rcases f with ⟨_,rfl⟩|⟨A,o,c,row,u,ro,e1,e2,_⟩
 .exact pN _
 .exact e2
theorem Sl.nil:Sl r h (.slice none 0 0) []:=.inl ⟨rfl,rfl⟩
variable {P:Program} {T:bm} {ov:Ov} {K:aF} {t e:TypeId} {bs:List bd} {w:Nat}
theorem Sl.bE (f:Sl r h v l) (hd:T.desc t=some (.slice e)) (h2:Heap):bE T t v h2=some (.int .i64 l.length):=by
 rcases f with ⟨rfl,rfl⟩|⟨A,o,c,row,u,ro,rfl,_⟩
 .simp [Am.bE,hd]
 .simp [Am.bE,hd]
theorem N0 (f:Sl r h v l) (hd:T.desc t=some (.slice e)) (hk:K (.int .i64 l.length) h1):aE (Am.bE T t v h1) h1 K:=by rw [f.bE hd];exact hk
theorem v8 (f:Sl r h1 v l) (hd:T.desc t=some (.slice e)) (hs:c9 T e=some r.k) {kd:IntKind} {i:Int} (h0:0<=i) (hi:i < l.length) (hk:∀ x p cs,l[i.toNat]? = some x->r.R h1 cs x->dY h1 p cs->K p (h1.lay bs w)) :
 aE (hZ T t v (.int kd i)) (h1.lay bs w) K:=by
 rcases f with ⟨rfl,rfl⟩|⟨A,o,c,row,u,ro,rfl,e2,e3,e4,e5,e6⟩
 .simp at hi;omega
 .have aS:i.toNat < l.length:=by omega
  obtain ⟨cs,g1,g2⟩:=e6 i.toNat l[i.toNat] (by simp [aS])
  unfold hZ
  simp only [hd]
  rw [aC ⟨h0,hi⟩,hs]
  refine hk _ _ cs (by simp [aS]) g2 ⟨A,_,row,u,ro,rfl,e4,e5,?_⟩
  rw [r.len _ _ _ g2]
  exact g1
theorem Gy (f:dY h1 p cs) (hg:cD T t=some true) (hs:c9 T t=some n) (hn:cs.length=n) (hk:K (.agg ⟨cs⟩) (h1.lay bs w)):aE (eQ T t p (h1.lay bs w)) (h1.lay bs w) K:=by
 obtain ⟨A,o,row,u,ro,rfl,hA,dr,hc⟩:=f
 unfold eQ
 simp only [hg,hs,cM,if_true,ia]
 rw [uz _ _ _ hA,dr]
 simp only
 rw [<- hn,hc]
 exact hk
theorem iF {x:ai} (f:dY h1 p [x]) (hg:cD T t=some false) (hk:K x (h1.lay bs w)):aE (eQ T t p (h1.lay bs w)) (h1.lay bs w) K:=by
 obtain ⟨A,o,row,u,ro,rfl,hA,dr,hc⟩:=f
 unfold eQ
 simp only [hg,cM,fb,if_false,ia]
 rw [uz _ _ _ hA,dr]
 simp only
 rw [show (1:Nat)=[x].length from rfl,hc]
 exact hk
theorem Uh {row:List ai} {off:Nat} (hc:cut row o cs.length=some cs) (hb:off+n<=cs.length):cut row (o+off) n=some ((cs.drop off).take n):=by
 unfold cut at hc ⊢
 split at hc
 .rename_i hle
  rw [aC (by omega)]
  simp only [de] at hc ⊢
  rw [<- hc,List.drop_take,List.take_take,zr]
  congr 1
  omega
 .cases hc
theorem zwb {s i off:Nat} (n:Nat) (f:dY h1 p cs) (j7:∀ A o,gg T s (.pointer (some ⟨A,o,none⟩)) i=some (.pointer (some ⟨A,o+off,none⟩))) (hb:off+n<=cs.length) (hk:∀ q,dY h1 q ((cs.drop off).take n)->K q (h1.lay bs w)) :
 aE (gg T s p i) (h1.lay bs w) K:=by
 obtain ⟨A,o,row,u,ro,rfl,hA,dr,hc⟩:=f
 rw [j7]
 refine hk _ ⟨A,_,row,u,ro,rfl,hA,dr,?_⟩
 have hl:((cs.drop off).take n).length=n:=by rw [ku,nX];omega
 rw [hl]
 exact Uh hc hb
theorem ztT {s m z:Nat} {kd:IntKind} {i:Int} (f:dY h1 p cs) (Lm:∀ A o ik i,hZ T s (.pointer (some ⟨A,o,none⟩)) (.int ik i)=if 0<=i/\i < (m:Int) then some (.pointer (some ⟨A,o+i.toNat*z,none⟩)) else none) (h0:0<=i) (hi:i < m) (hb:m*z<=cs.length)
 (hk:∀ q,dY h1 q ((cs.drop (i.toNat*z)).take z)->K q (h1.lay bs w)):aE (hZ T s p (.int kd i)) (h1.lay bs w) K:=by
 obtain ⟨A,o,row,u,ro,rfl,hA,dr,hc⟩:=f
 rw [Lm,aC ⟨h0,hi⟩]
 have hle:i.toNat*z+z<=cs.length:=by
  calc i.toNat*z+z=(i.toNat+1)*z:=by rw [sz]
   _<=m*z:=nU _ (by omega)
   _<=cs.length:=hb
 refine hk _ ⟨A,_,row,u,ro,rfl,hA,dr,?_⟩
 have hl:((cs.drop (i.toNat*z)).take z).length=z:=by rw [ku,nX];omega
 rw [hl]
 exact Uh hc hle
end
abbrev aQ.str:aQ aA:={ k:=1,R:=λ_ cs x=>cs=[.string x],len:=by rintro _ _ _ rfl;rfl,mono:=λ_ _ _ _ _ h=>h,fk:=by rintro _ _ _ rfl;rfl }
abbrev aQ.int:aQ Int:={ k:=1,R:=λ_ cs x=>cs=[.int .i64 x],len:=by rintro _ _ _ rfl;rfl,mono:=λ_ _ _ _ _ h=>h,fk:=by rintro _ _ _ rfl;rfl }
abbrev aQ.bool:aQ Bool:={ k:=1,R:=λ_ cs x=>cs=[.bool x],len:=by rintro _ _ _ rfl;rfl,mono:=λ_ _ _ _ _ h=>h,fk:=by rintro _ _ _ rfl;rfl }
abbrev aQ.sl {Z:Type} (a:aQ Z):aQ (List Z) :=
 { k:=1,R:=λh cs x=>∃ v,cs=[v]/\Sl a h v x,len:=by rintro h cs x ⟨v,rfl,_⟩;rfl
   mono:=by rintro h h' cs x i ⟨v,e,f⟩;exact ⟨v,e,f.mono i⟩
   fk:=by
    rintro h cs x ⟨v,rfl,f⟩
    rcases f with ⟨rfl,_⟩|⟨A,o,c,row,u,ro,rfl,_⟩ <;> rfl }

theorem Ext.JC {A:Nat} {h h':Heap} (x:Ext h h'):gL A h h':=⟨x.size,λB h1 _=>x.get B h1,by have:=x.low;omega⟩
theorem gL.trans {A:Nat} {a b c:Heap} (x:gL A a b) (y:gL A b c):gL A a c :=
 ⟨iG x.size y.size,λB h1 h2=>(y.get B (eR h1 x.size) h2).trans (x.get B h1 h2),by have:=x.low;have:=y.low;have:=x.size;omega⟩
theorem Ext.step {A:Nat} {h h1 h2:Heap} (z:Ext h h1) (c:gL A h1 h2) (hA:h.size<=A):Ext h h2 :=
 ⟨iG z.size c.size,λB hB=>(c.get B (eR hB z.size) (by omega)).trans (z.get B hB),by have:=z.low;have:=z.size;have:=c.low;omega⟩
theorem Ext.cX {A:Nat} {h h1 h2:Heap} {bs:List bd} {w:Nat} (z:Ext h h1) (c:gL A (h1.lay bs w) h2) (hA:h.size<=A) (hw:min h1.low h1.size<=w):Ext h h2:=(z.mO bs w hw).step c hA
theorem Holds.step {A:Nat} {h1 h2:Heap} (q:Holds h1 B b) (c:gL A h1 h2) (aV:B≠A):Holds h2 B b:=⟨eR q.lt c.size,(c.get B q.lt aV).trans q.get⟩
theorem Holds.bG {A:Nat} {h1 h2:Heap} {bs:List bd} {w:Nat} (q:Holds h1 B b) (c:gL A (h1.lay bs w) h2) (aV:B≠A):Holds h2 B b:=(q.on bs w).step c aV
theorem Holds.Eu {A i:Nat} {h1 h2:Heap} {bs:List bd} {w:Nat} (c:gL A (h1.lay bs w) h2) (hA:A < h1.size) (hi:bs[i]? = some b):Holds h2 (h1.size+i) b:=by
 have hl:i < bs.length:=(fB.1 hi).1
 refine Holds.step ⟨by rw [cF];omega,?_⟩ c (by omega)
 rw [iL]
 exact hi
def Ow {Z:Type} (r:aQ Z) (h0 h:Heap) (e:TypeId) (A:Nat) (v:ai) (l:List Z):Prop :=
 (h0.size<=A/\l=[]/\(v=.slice none 0 0\/∃ B o,v=.slice (some ⟨B,o,none⟩) 0 0/\h0.size<=B/\B < h.size/\∃ row u ro,h.get B=some (.row row u ro))) \/
 ∃ row,v=.slice (some ⟨A,0,none⟩) l.length (G*r.k+l.length)/\l≠[]/\h0.size<=A/\A < h.size/\h.get A=some (.row row e false)/\row.length=l.length*r.k/\l.length<=1152921504606846976 /\
   ∀ (i:Nat) (x:Z),l[i]? = some x->∃ cs,cut row (i*r.k) r.k=some cs/\r.R (h.set A .dead) cs x
theorem dz.kill {h h':Heap} {A:Nat} (i:dz h h') (hA:A < h.size):dz (h.set A .dead) (h'.set A .dead):=⟨i.size,λB hB hd=>by
 rw [Heap.aL _ _ _ _ hA] at hd ⊢
 rw [Heap.aL _ _ _ _ (eR hA i.size)]
 split
 .rfl
 .rename_i aV
  rw [ay aV] at hd
  exact i.get B hB hd⟩
theorem dz.rW {h:Heap} {A:Nat} (hA:A < h.size):dz (h.set A .dead) h:=⟨bg _,λB hB hd=>by
 rw [Heap.aL _ _ _ _ hA] at hd ⊢
 split
 .rename_i he;rw [aC he] at hd;exact absurd rfl hd
 .rfl⟩
section
variable {Z:Type} {r:aQ Z} {h0 h h' h1 h2:Heap} {v:ai} {l:List Z} {e:TypeId} {A:Nat}
theorem Ow.fresh (f:Ow r h0 h e A v l):h0.size<=A:=by
 rcases f with f|⟨_,_,_,h1,_⟩
 .exact f.1
 .exact h1
theorem Ow.mono (f:Ow r h0 h e A v l) (i:dz h h'):Ow r h0 h' e A v l:=by
 rcases f with ⟨f1,f2,f3⟩|⟨row,e1,e2,e3,e4,e5,e6,e7,e8⟩
 .refine .inl ⟨f1,f2,f3.imp id ?_⟩
  rintro ⟨B,o,g1,g0,g2,row,u,ro,g3⟩
  exact ⟨B,o,g1,g0,eR g2 i.size,row,u,ro,i.at g2 g3⟩
 .refine .inr ⟨row,e1,e2,e3,eR e4 i.size,i.at e4 e5,e6,e7,λj x hj=>?_⟩
  obtain ⟨cs,g1,g2⟩:=e8 j x hj
  exact ⟨cs,g1,r.mono _ _ _ _ (i.kill e4) g2⟩
theorem Ow.over {bs:List bd} {w:Nat} (f:Ow r h0 h1 e A v l) (x:Ext (h1.lay bs w) h2):Ow r h0 h2 e A v l:=f.mono x.inc.nI
theorem Ow.nil (hA:h0.size<=A):Ow r h0 h e A (.slice none 0 0) []:=.inl ⟨hA,rfl,.inl rfl⟩
theorem Ow.sl (hk:0 < r.k) (f:Ow r h0 h e A v l):Sl r h v l:=by
 rcases f with ⟨_,rfl,rfl|⟨B,o,rfl,_,g2,row,u,ro,g3⟩⟩|⟨row,e1,e2,e3,e4,e5,e6,e7,e8⟩
 .exact .nil
 .exact .inr ⟨B,o,0,row,u,ro,rfl,pN _,.inl ⟨by unfold G;omega,bg _⟩,g2,g3,λi x hx=>by simp at hx⟩
 .obtain ⟨c1,c2,c3⟩:=wc (k:=r.k) (q:=l.length) hk (by unfold G;omega)
  refine .inr ⟨A,0,_,row,e,false,e1,by unfold maxLen;omega,.inr ⟨by omega,c3,by omega⟩,e4,e5,λi x hx=>?_⟩
  obtain ⟨cs,g1,g2⟩:=e8 i x hx
  exact ⟨cs,by simpa using g1,r.mono _ _ _ _ (dz.rW e4) g2⟩
end
section
variable {Z:Type} {r:aQ Z} {h0 h1:Heap} {v x:ai} {l l2:List Z} {t e:TypeId} {A k bytes:Nat} {z:List ai} {T:bm} {bs:List bd} {w:Nat} {K:aF}
theorem zvY {a b c:List ai} (hc:cut a o n=some c):cut (a++b) o n=some c:=by
 unfold cut at hc ⊢
 split at hc
 .rename_i hle
  rw [aC (by simp;omega)]
  rw [List.drop_append_of_le_length (by omega),List.take_append_of_le_length (by simp;omega)]
  exact hc
 .cases hc
theorem ztA {a b c:List ai} (hc:cut b o n=some c):cut (a++b) (a.length+o) n=some c:=by
 unfold cut at hc ⊢
 split at hc
 .rename_i hle
  rw [aC (by simp;omega)]
  simp only [de] at hc ⊢
  rw [<- hc,List.drop_append,zzd (by omega)]
  simp
 .cases hc
def Src (r:aQ Z) (h:Heap) (m:Nat) (news:List ai) (l2:List Z):Prop :=
 l2.length=m/\news.length=m*r.k/\news.all one=true/\∀ (i:Nat) (y:Z),l2[i]? = some y->∃ cs,cut news (i*r.k) r.k=some cs/\r.R h cs y
def kill (A:Nat) (h:Heap):Heap:=if A < h.size then h.set A .dead else h
theorem AD (A:Nat) (h:Heap):(kill A h).size=h.size:=by unfold kill;split <;> rfl
theorem ztV (A:Nat) (h:Heap):dz (kill A h) h:=by
 unfold kill
 split
 .rename_i hA;exact dz.rW hA
 .exact dz.refl h
theorem Ox {h:Heap} (hd:T.desc t=some (.slice e)) (hi:T.info e=some (k,bytes,z)) (Ab:r.k=k) (hk:0 < k) (hz:h0.size<=h.size) (f:Ow r h0 h e A v l) {news:List ai} (hs:gA x k h=some (m,news)) (yk:Src r (kill A h) m news l2)
 (hb:(l.length+m)*bytes<=140737488355328) (hl:l.length+m<=1152921504606846976) :
 ∃ v' h' A',lA T t v x h=some (v',h')/\Ow r h0 h' e A' v' (l++l2)/\gL A h h'/\(A'=A\/A'=h.size)/\h0.size<=A':=by
 subst Ab
 obtain ⟨hm,DI,h1,yg⟩:=yk
 by_cases DB:m=0
 .subst DB
  have:l2=[]:=H7.1 hm
  subst this
  refine ⟨v,h,A,?_,by rw [cU];exact f,(Ext.refl h).JC,.inl rfl,f.fresh⟩
  unfold lA
  simp only [hd,hi,hs,cM]
  rcases f with ⟨_,_,rfl|⟨B,o,rfl,_⟩⟩|⟨row,rfl,_⟩ <;> simp
 .have rB:∀ (h2:Heap) (ly:List ai),h2.size=h.size->(∀ B,B < h.size->B≠A->h2.get B=h.get B)->min (min h.low h.size) A<=h2.low ->
   (∀ (i:Nat) (y:Z),(l++l2)[i]? = some y->∃ cs,cut ly (i*r.k) r.k=some cs/\r.R h2 cs y)->ly.length=(l.length+m)*r.k ->
   Ow r h0 (h2.push (.row ly e false)) e h.size (.slice (some ⟨h.size,0,none⟩) (l.length+m) (G*r.k+(l.length+m))) (l++l2)/\gL A h (h2.push (.row ly e false)):=by
   intro h2 ly e1 e2 e3 e4 e5
   have Ha:dz h2 ((h2.push (.row ly e false)).set h.size .dead):=⟨by rw [Heap.size_set,Heap.size_push];omega,λB hB _=>by
    rw [Heap.aL _ _ _ _ (by rw [Heap.size_push];omega),ay (by omega),Heap.bX,ay (by omega)]⟩
   refine ⟨.inr ⟨ly,by rw [hJ,hm],λhh=>?_,hz,?_,?_,by rw [hJ,hm];exact e5,by rw [hJ,hm];exact hl,λi y hy=>?_⟩,?_,?_,?_⟩
   .have:=congrArg List.length hh
    rw [hJ,hm] at this
    simp at this
    omega
   .rw [Heap.size_push,e1];omega
   .rw [Heap.bX,aC e1.symm]
   .obtain ⟨cs,c1,c2⟩:=e4 i y hy
    exact ⟨cs,c1,r.mono _ _ _ _ Ha c2⟩
   .rw [Heap.size_push,e1];omega
   .intro B hB aV
    rw [Heap.bX,ay (by omega)]
    exact e2 B hB aV
   .rw [Heap.dG];exact e3
  rcases f with ⟨f1,rfl,f3⟩|⟨row,rfl,e2,e3,e4,e5,e6,e7,e8⟩
  .-- to nothing
   have key:lA T t v x h=some (.slice (some ⟨h.size,0,none⟩) m (G*r.k+m),h.push (.row news e false)):=by
    rcases f3 with rfl|⟨B,o,rfl,_,g1,row,u,ro,g2⟩
    .exact zvo hd hi hk hs (by omega) h1 (by simpa using hb) (by simpa using hl)
    .unfold lA
     simp only [hd,hi,hs,cM]
     rw [ay (by omega),ay,ay]
     .have hG:0 < G:=by unfold G;omega
      simp [lO,hG]
     .have:0 % G=0:=Nat.zero_mod _
      omega
     .simp only [nY,jW,zo,h1,not_or]
      simp only [jb] at hb hl
      refine ⟨⟨⟨by omega,by omega⟩,by omega⟩,by simp⟩
   obtain ⟨a,b⟩:=rB h news rfl (λ_ _ _=>rfl) (by omega) (λi y hy=>by
    obtain ⟨cs,c1,c2⟩:=yg i y (by simpa using hy)
    exact ⟨cs,c1,r.mono _ _ _ _ (ztV A h) c2⟩) (by simpa using DI)
   refine ⟨_,_,h.size,key,?_,b,.inr rfl,hz⟩
   simpa using a
  .obtain ⟨c1,c2,c3⟩:=wc (k:=r.k) (q:=l.length) hk (by unfold G;omega)
   have Wa:0 < l.length:=List.length_pos_iff.2 e2
   have key:=zto (t:=t) (x:=x) hd hi hk e5 e6 Wa hs (by omega) h1 hb hl
   have iU:∀ B,B < h.size->B≠A->(h.set A .dead).get B=h.get B:=λB hB aV=>by rw [Heap.aL _ _ _ _ e4,ay aV]
   have Dy:kill A h=h.set A .dead:=aC e4
   rw [Dy] at yg
   obtain ⟨a,b⟩:=rB (h.set A .dead) (row++news) rfl iU (by rw [Heap.bY];omega) (λi y hy=>by
    by_cases hi:i < l.length
    .rw [kR hi] at hy
     obtain ⟨cs,g1,g2⟩:=e8 i y hy
     exact ⟨cs,zvY g1,g2⟩
    .rw [lS (by omega)] at hy
     obtain ⟨cs,g1,g2⟩:=yg _ y hy
     refine ⟨cs,?_,g2⟩
     have:=ztA (a:=row) g1
     rwa [e6,<- wF,show l.length+(i - l.length)=i by omega] at this) (by rw [hJ,e6,DI,wF])
   exact ⟨_,_,h.size,key,a,b,.inr rfl,hz⟩
theorem Ow.kill {h:Heap} {C:Nat} (mh:∀ h h' cs x,r.R h cs x->r.R h' cs x) (f:Ow r h0 h e A v l) (hC:C < h0.size):Ow r h0 (kill C h) e A v l:=by
 have get:∀ B,h0.size<=B->(Am.kill C h).get B=h.get B:=by
  intro B hB
  unfold Am.kill
  split
  .rename_i hh
   rw [Heap.aL _ _ _ _ hh,ay (by omega)]
  .rfl
 rcases f with ⟨f1,f2,f3⟩|⟨row,e1,e2,e3,e4,e5,e6,e7,e8⟩
 .refine .inl ⟨f1,f2,f3.imp id ?_⟩
  rintro ⟨B,o,g1,g0,g2,row,u,ro,g3⟩
  exact ⟨B,o,g1,g0,by rw [AD];exact g2,row,u,ro,(get B g0).trans g3⟩
 .refine .inr ⟨row,e1,e2,e3,by rw [AD];exact e4,(get A e3).trans e5,e6,e7,λi x hx=>?_⟩
  obtain ⟨cs,g1,g2⟩:=e8 i x hx
  exact ⟨cs,g1,mh _ _ _ _ g2⟩
theorem zvn (hd:T.desc t=some (.slice e)) (hi:T.info e=some (k,bytes,z)) (Ab:r.k=k) (hk:0 < k) (hz:h0.size<=h1.size) (f:Ow r h0 h1 e A v l) {news:List ai} (hs:gA x k (h1.lay bs w)=some (m,news)) (yk:Src r (kill A (h1.lay bs w)) m news l2)
 (hb:(l.length+m)*bytes<=140737488355328) (hl:l.length+m<=1152921504606846976) (hK:∀ v' h' A',Ow r h0 h' e A' v' (l++l2)->gL A (h1.lay bs w) h'->(A'=A\/h1.size<=A')->K v' h'):cK (lA T t v x (h1.lay bs w)) K:=by
 obtain ⟨v',h',A',g1,g2,g3,g4,g5⟩:=Ox hd hi Ab hk (by rw [cF];omega) (f.mono (dz.lay h1 bs w)) hs yk hb hl
 rw [g1]
 refine hK v' h' A' g2 g3 (g4.imp id ?_)
 rintro rfl
 rw [cF]
 omega
theorem Up {h:Heap} {c:Nat} {u:TypeId} {ro:Bool} {y:Z} (hk:0 < r.k) (hg:h.get B=some (.row cs u ro)) (hr:r.R (kill A h) cs y):gA (.slice (some ⟨B,0,none⟩) 1 c) r.k h=some (1,cs)/\Src r (kill A h) 1 cs [y]:=by
 have hl:=r.len _ _ _ hr
 refine ⟨?_,rfl,by rw [hl];omega,r.fk _ _ _ hr,λi y' hy=>?_⟩
 .have hc:cut cs 0 r.k=some cs:=by
   unfold cut
   rw [aC (by omega),<- hl]
   simp
  simp only [gA,lO,Nat.one_mul]
  rw [ay (by omega)]
  simp only [ia,hg,hc,gJ]
 .cases i with
  |zero =>
   simp at hy
   subst hy
   refine ⟨cs,?_,hr⟩
   unfold cut
   rw [aC (by omega),<- hl]
   simp
  |succ i=>simp at hy
theorem zxm {h:Heap} (hk:0 < r.k) (f:Sl r h x l2) (hf:∀ cs y,r.R h cs y->r.R (kill A h) cs y):∃ news,gA x r.k h=some (l2.length,news)/\Src r (kill A h) l2.length news l2:=by
 rcases f with ⟨rfl,rfl⟩|⟨B,o,c,row,u,ro,rfl,e2,e3,e4,e5,e6⟩
 .exact ⟨[],rfl,rfl,by simp,rfl,λi y hy=>by simp at hy⟩
 .by_cases h0:l2.length=0
  .have:l2=[]:=H7.1 h0
   subst this
   exact ⟨[],by simp [gA,lO],rfl,by simp,rfl,λi y hy=>by simp at hy⟩
  .have hle:o+l2.length*r.k<=row.length:=by
    obtain ⟨cs,g1,_⟩:=e6 (l2.length - 1) (l2[l2.length - 1]'(by omega)) (by simp)
    unfold cut at g1
    split at g1
    .rename_i hh
     have:(l2.length - 1)*r.k+r.k=l2.length*r.k:=by rw [<- sz];congr 1;omega
     omega
    .cases g1
   have ye:0 < l2.length*r.k:=Nat.mul_pos (by omega) hk
   refine ⟨(row.drop o).take (l2.length*r.k),?_,rfl,by rw [ku,nX];omega,?_,λi y hy=>?_⟩
   .simp only [gA,lO]
    rw [ay (by omega)]
    simp only [ia,e5,cut,aC hle,gJ]
   .rw [fD]
    intro v hv
    obtain ⟨j,hj,rfl⟩:=List.getElem_of_mem hv
    rw [ku,nX] at hj
    have xV:j / r.k < l2.length:=Nat.div_lt_of_lt_mul (by rw [sy];omega)
    obtain ⟨cs,g1,g2⟩:=e6 (j / r.k) (l2[j / r.k]) (by simp [xV])
    have g3:=fD.1 (r.fk _ _ _ g2)
    apply g3
    unfold cut at g1
    split at g1
    .simp only [de] at g1
     rw [<- g1]
     refine ig (i:=j % r.k) ?_
     have LF:=wG j hk
     rw [AW LF,ja,List.getElem_take,List.getElem_drop]
     have VH:=Nat.div_add_mod j r.k
     rw [sy] at VH
     rw [show o+j / r.k*r.k+j % r.k=o+j by omega]
     exact lD _
    .cases g1
   .obtain ⟨cs,g1,g2⟩:=e6 i y hy
    refine ⟨cs,?_,hf _ _ g2⟩
    have hi:=(fB.1 hy).1
    have aR:(i+1)*r.k<=l2.length*r.k:=nU _ (by omega)
    rw [sz] at aR
    unfold cut at g1 ⊢
    split at g1
    .rw [aC (by rw [ku,nX];omega)]
     simp only [de] at g1 ⊢
     rw [<- g1,List.drop_take,zr,List.take_take]
     congr 1
     omega
    .cases g1
end
end Go.Am
namespace Go.Am
variable {b:ai}
structure aH where
 v:Bool
 s:aA
 deriving DecidableEq
structure ae where
 says:aA
 pred:aA
 n:Int
 t0:aH
 t1:aH
 t2:aH
 t3:aH
 deriving DecidableEq
def aH.cells (t:aH):List ai:=[.bool t.v,.string t.s]
def aH.val (t:aH):ai:=.agg ⟨t.cells⟩
def ae.cells (a:ae):List ai:=[.string a.says,.string a.pred,.int .i64 a.n,.bool a.t0.v,.string a.t0.s,.bool a.t1.v,.string a.t1.s,.bool a.t2.v,.string a.t2.s,.bool a.t3.v,.string a.t3.s]
def ae.val (a:ae):ai:=.agg ⟨a.cells⟩
def ae.arg (a:ae):Nat->aH
 |0=>a.t0
 |1=>a.t1
 |2=>a.t2
 |_=>a.t3
def ae.bR (a:ae):Nat:=min a.n.toNat 4
def ae.args (a:ae):List aH:=[a.t0,a.t1,a.t2,a.t3].take a.bR
def ae.all (a:ae):List aH:=[a.t0,a.t1,a.t2,a.t3]
def aZ:aH:=⟨false,⟨#[]⟩⟩
def aw:ae:=⟨⟨#[]⟩,⟨#[]⟩,0,aZ,aZ,aZ,aZ⟩
def ae.dF (a:ae):Bool:=decide (a.says.size<=300) && (decide (a.pred.size<=300) && (decide (a.t0.s.size<=300) && (decide (a.t1.s.size<=300) && (decide (a.t2.s.size<=300) && decide (a.t3.s.size<=300)))))
structure bA where
 head:ae
 body:List ae
 deriving DecidableEq
structure el where
 atom:ae
 clause:Int
 body:List ae
 deriving DecidableEq
structure fE where
 var:aA
 term:aH
 deriving DecidableEq
def fE.cells (b:fE):List ai:=[.string b.var,.bool b.term.v,.string b.term.s]
def fE.val (b:fE):ai:=.agg ⟨b.cells⟩
abbrev aQ.atom:aQ ae:={ k:=11,R:=λ_ cs x=>cs=x.cells,len:=by rintro _ _ _ rfl;rfl,mono:=λ_ _ _ _ _ h=>h,fk:=by rintro _ _ _ rfl;rfl }
abbrev aQ.term:aQ aH:={ k:=2,R:=λ_ cs x=>cs=x.cells,len:=by rintro _ _ _ rfl;rfl,mono:=λ_ _ _ _ _ h=>h,fk:=by rintro _ _ _ rfl;rfl }
abbrev aQ.bind:aQ fE:={ k:=3,R:=λ_ cs x=>cs=x.cells,len:=by rintro _ _ _ rfl;rfl,mono:=λ_ _ _ _ _ h=>h,fk:=by rintro _ _ _ rfl;rfl }
theorem Sl.one {Z:Type} {r:aQ Z} {h:Heap} {v:ai} {l:List Z} (f:Sl r h v l):one v=true:=by
 rcases f with ⟨rfl,_⟩|⟨A,o,c,row,u,ro,rfl,_⟩ <;> rfl
abbrev aQ.clause:aQ bA :=
 { k:=12,R:=λh cs x=>∃ v,cs=x.head.cells++[v]/\Sl aQ.atom h v x.body
   len:=by rintro h cs x ⟨v,rfl,_⟩;rfl
   mono:=by rintro h h' cs x i ⟨v,e,f⟩;exact ⟨v,e,f.mono i⟩
   fk:=by rintro h cs x ⟨v,rfl,f⟩;have:=f.one;simp only [List.all_append,ae.cells,kS,mL,this];rfl }
abbrev aQ.reason:aQ el :=
 { k:=13,R:=λh cs x=>∃ v,cs=x.atom.cells++[.int .i64 x.clause,v]/\Sl aQ.atom h v x.body
   len:=by rintro h cs x ⟨v,rfl,_⟩;rfl
   mono:=by rintro h h' cs x i ⟨v,e,f⟩;exact ⟨v,e,f.mono i⟩
   fk:=by rintro h cs x ⟨v,rfl,f⟩;have:=f.one;simp only [List.all_append,ae.cells,kS,mL,this];rfl }
theorem Gz {a b:aA} (h:a.data.toList=b.data.toList):a=b:=by
 obtain ⟨⟨a⟩⟩:=a
 obtain ⟨⟨b⟩⟩:=b
 simp at h
 rw [h]
theorem Oy (a b:aA):(a.data.toList == b.data.toList)=decide (a=b):=by
 by_cases h:a=b
 .subst h;simp
 .have:¬ a.data.toList=b.data.toList:=λhh=>h (Gz hh)
  rw [pK h]
  exact beq_eq_false_iff_ne.2 this
def oK (b:Bool) (r:Option Bool):Option Bool:=(some b).bind λc=>if c then r else some false
theorem FX (b c:Bool):oK b (some c)=some (b && c):=by cases b <;> rfl
def u6 (x y:aH):Option Bool:=oK (x.v == y.v) (oK (x.s.data.toList == y.s.data.toList) (some true))
theorem Nr (x y:aH):u6 x y=some (decide (x=y)):=by
 obtain ⟨v,s⟩:=x
 obtain ⟨w,t⟩:=y
 unfold u6
 rw [FX,FX,Oy]
 simp only [aH.mk.injEq,Bool.and_true]
 by_cases h1:v=w <;> by_cases h2:s=t <;> simp [h1,h2]
def JE (a b:ae):Option Bool:=oK (a.says.data.toList == b.says.data.toList) (oK (a.pred.data.toList == b.pred.data.toList) (oK (a.n == b.n)
 (((u6 a.t0 b.t0).bind λc=>if c=true then ((u6 a.t1 b.t1).bind λc=>if c=true then ((u6 a.t2 b.t2).bind λc=>if c=true then ((u6 a.t3 b.t3).bind λc=>if c=true then some true else some false) else some false) else some false) else some false).bind λc=>if c=true then some true else some false)))
theorem ztE (a b:ae):JE a b=some (decide (a=b)):=by
 obtain ⟨s,p,n,x0,x1,x2,x3⟩:=a
 obtain ⟨s',p',n',y0,y1,y2,y3⟩:=b
 unfold JE
 simp only [Nr,cM]
 simp only [ae.mk.injEq]
 have key:(if decide (x0=y0)=true then (if decide (x1=y1)=true then (if decide (x2=y2)=true then (if decide (x3=y3)=true then some true else some false) else some false) else some false) else some false)=some (decide (x0=y0/\x1=y1/\x2=y2/\x3=y3)):=by
  by_cases h0:x0=y0 <;> by_cases h1:x1=y1 <;> by_cases h2:x2=y2 <;> by_cases h3:x3=y3 <;> simp [h0,h1,h2,h3]
 rw [key,cM]
 have k2:∀ c:Bool,(if c=true then some true else some false)=some c:=by intro c;cases c <;> rfl
 rw [k2,FX,FX,FX,Oy,Oy]
 congr 1
 by_cases h1:s=s' <;> by_cases h2:p=p' <;> by_cases h3:n=n' <;> simp [h1,h2,h3]
def ae.je (a:ae):List ai:=[.bool a.t0.v,.string a.t0.s,.bool a.t1.v,.string a.t1.s,.bool a.t2.v,.string a.t2.s,.bool a.t3.v,.string a.t3.s]
section
variable {h1:Heap} {bs:List bd} {w:Nat} {T:bm} {K:aF} {t e s:TypeId} {v p:ai} {kd:IntKind} {i:Int}
theorem Qy {l:List ae} (f:Sl aQ.atom h1 v l) (hd:T.desc t=some (.slice e)) (hs:c9 T e=some 11) (h0:0<=i) (hi:i < l.length) (hk:∀ x p,l[i.toNat]? = some x->dY h1 p x.cells->K p (h1.lay bs w)):aE (hZ T t v (.int kd i)) (h1.lay bs w) K :=
 v8 f hd hs h0 hi λx p cs hx hr hp=>hk x p hx (hr ▸ hp)
theorem W1 {l:List aH} (f:Sl aQ.term h1 v l) (hd:T.desc t=some (.slice e)) (hs:c9 T e=some 2) (h0:0<=i) (hi:i < l.length) (hk:∀ x p,l[i.toNat]? = some x->dY h1 p x.cells->K p (h1.lay bs w)):aE (hZ T t v (.int kd i)) (h1.lay bs w) K :=
 v8 f hd hs h0 hi λx p cs hx hr hp=>hk x p hx (hr ▸ hp)
theorem W0 {l:List aA} (f:Sl aQ.str h1 v l) (hd:T.desc t=some (.slice e)) (hs:c9 T e=some 1) (h0:0<=i) (hi:i < l.length) (hk:∀ x p,l[i.toNat]? = some x->dY h1 p [.string x]->K p (h1.lay bs w)):aE (hZ T t v (.int kd i)) (h1.lay bs w) K :=
 v8 f hd hs h0 hi λx p cs hx hr hp=>hk x p hx (hr ▸ hp)
theorem WY {l:List bA} (f:Sl aQ.clause h1 v l) (hd:T.desc t=some (.slice e)) (hs:c9 T e=some 12) (h0:0<=i) (hi:i < l.length) (hk:∀ x p b,l[i.toNat]? = some x->Sl aQ.atom h1 b x.body->dY h1 p (x.head.cells++[b])->K p (h1.lay bs w)):aE (hZ T t v (.int kd i)) (h1.lay bs w) K :=
 v8 f hd hs h0 hi λx p cs hx ⟨b,hr,hb⟩ hp=>hk x p b hx hb (hr ▸ hp)
theorem vJ {x:ae} (f:dY h1 p x.cells) (hg:cD T t=some true) (hs:c9 T t=some 11) (hk:K x.val (h1.lay bs w)):aE (eQ T t p (h1.lay bs w)) (h1.lay bs w) K:=Gy f hg hs rfl hk
theorem Ef {x:aH} (f:dY h1 p x.cells) (hg:cD T t=some true) (hs:c9 T t=some 2) (hk:K x.val (h1.lay bs w)):aE (eQ T t p (h1.lay bs w)) (h1.lay bs w) K:=Gy f hg hs rfl hk
theorem W3 {x:bA} (f:dY h1 p (x.head.cells++[b])) (hg:cD T t=some true) (hs:c9 T t=some 12) (hk:K (.agg ⟨x.head.cells++[b]⟩) (h1.lay bs w)):aE (eQ T t p (h1.lay bs w)) (h1.lay bs w) K:=Gy f hg hs rfl hk
theorem tB {cs ds:List ai} {j off:Nat} (f:dY h1 p cs) (j7:∀ A o,gg T s (.pointer (some ⟨A,o,none⟩)) j=some (.pointer (some ⟨A,o+off,none⟩))) (he:(cs.drop off).take ds.length=ds) (hz:0 < ds.length) (hk:∀ q,dY h1 q ds->K q (h1.lay bs w)):aE (gg T s p j) (h1.lay bs w) K:=by
 have hb:off+ds.length<=cs.length:=by
  have:=congrArg List.length he
  rw [ku,nX] at this
  omega
 refine zwb ds.length f j7 hb λq hq=>hk q ?_
 rw [he] at hq
 exact hq
theorem JV {x:ae} (f:dY h1 p (x.cells)) (j7:∀ A o,gg T s (.pointer (some ⟨A,o,none⟩)) 2=some (.pointer (some ⟨A,o+2,none⟩))) (hk:∀ q,dY h1 q ([.int .i64 x.n])->K q (h1.lay bs w)):aE (gg T s p 2) (h1.lay bs w) K:=tB (ds:=[.int .i64 x.n]) f j7 rfl (uR _) hk
theorem JW {x:ae} (f:dY h1 p (x.cells)) (j7:∀ A o,gg T s (.pointer (some ⟨A,o,none⟩)) 3=some (.pointer (some ⟨A,o+3,none⟩))) (hk:∀ q,dY h1 q (x.je)->K q (h1.lay bs w)):aE (gg T s p 3) (h1.lay bs w) K:=tB (ds:=x.je) f j7 rfl (uR _) hk
theorem xh {x:bA} (f:dY h1 p (x.head.cells++[b])) (j7:∀ A o,gg T s (.pointer (some ⟨A,o,none⟩)) 0=some (.pointer (some ⟨A,o+0,none⟩))) (hk:∀ q,dY h1 q (x.head.cells)->K q (h1.lay bs w)):aE (gg T s p 0) (h1.lay bs w) K:=tB (ds:=x.head.cells) f j7 rfl (uR _) hk
theorem xi {x:bA} (f:dY h1 p (x.head.cells++[b])) (j7:∀ A o,gg T s (.pointer (some ⟨A,o,none⟩)) 1=some (.pointer (some ⟨A,o+11,none⟩))) (hk:∀ q,dY h1 q ([b])->K q (h1.lay bs w)):aE (gg T s p 1) (h1.lay bs w) K:=tB (ds:=[b]) f j7 rfl (uR _) hk
theorem WZ {x:ae} (f:dY h1 p x.je) (Lm:∀ A o ik i,hZ T s (.pointer (some ⟨A,o,none⟩)) (.int ik i)=if 0<=i/\i < ((4:Nat):Int) then some (.pointer (some ⟨A,o+i.toNat*2,none⟩)) else none) (h0:0<=i) (hi:i < 4) (hk:∀ q,dY h1 q (x.arg i.toNat).cells->K q (h1.lay bs w)) :
 aE (hZ T s p (.int kd i)) (h1.lay bs w) K:=by
 refine ztT (m:=4) f Lm h0 (by omega) (bg 8) λq hq=>hk q ?_
 have:i=0\/i=1\/i=2\/i=3:=by omega
 rcases this with rfl|rfl|rfl|rfl <;> exact hq
end
theorem mS {Z:Type} {P:Z->Prop} {l:List Z} {i:Nat} {a:Z} (hx:l[i]? = some a) (aq:∀ x∈l.take i,P x) (ha:P a):∀ x∈l.take (i+1),P x:=by
 intro x hm
 rw [wz,hx] at hm
 simp only [Option.toList_some,pM,td] at hm
 rcases hm with hm|rfl
 .exact aq x hm
 .exact ha
theorem IQ {p:Prop} [Decidable p] {h:Heap} {K:aF} (h1:¬ p->K (.bool true) h) (h2:p->K (.bool false) h):pJ (!decide p) h K :=
 ⟨λhp=>h1 (by simpa using hp),λhp=>h2 (by simpa using hp)⟩
theorem I6 {b:Bool} {h:Heap} {K:aF} (h1:b=true->K (.bool true) h) (h2:b=false->K (.bool false) h):pJ b h K:=⟨h1,h2⟩
abbrev cR:=List ae
end Go.Am

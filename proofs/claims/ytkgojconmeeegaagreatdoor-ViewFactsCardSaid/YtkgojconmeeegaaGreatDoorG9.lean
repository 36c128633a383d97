/- Slices and pointers by what they hold. No condition. -/
import Derived.Test.YtkgojconmeeegaaGreatDoorG8
set_option linter.unusedSimpArgs false
set_option linter.unusedVariables false
namespace Go.Am
variable {cs:List ae} {b:bh} {B m n o:Nat} {p:ae}
structure aJ (Z:Type) where
 k:Nat
 R:Heap->List ae->Z->Prop
 len:∀ h cs x,R h cs x->cs.length=k
 mono:∀ h h' cs x,b8 h h'->R h cs x->R h' cs x
 i9:∀ h cs x,R h cs x->cs.all one=true
def ei (h:Heap) (p:ae) (cs:List ae):Prop:=∃ A o row u ro,p=.pointer (some ⟨A,o,none⟩)/\A < h.size/\h.get A=some (.row row u ro)/\cut row o cs.length=some cs
def zCb (k n c:Nat):Prop:=(c < G/\n<=c)\/(G<=c/\c / G=k/\n<=c % G)
def Sl {Z:Type} (r:aJ Z) (h:Heap) (v:ae) (l:List Z):Prop :=
 (v=.slice none 0 0/\l=[])\/∃ A o c row u ro,v=.slice (some ⟨A,o,none⟩) l.length c/\l.length<=maxLen/\zCb r.k l.length c/\A < h.size/\h.get A=some (.row row u ro) /\
  ∀ (i:Nat) (x:Z),l[i]? = some x->∃ cs,cut row (o+i*r.k) r.k=some cs/\r.R h cs x
theorem Holds.mono {h h':Heap} {A:Nat} {u:TypeId} {ro:Bool} (hh:Holds h A (.row cs u ro)) (i:b8 h h'):Holds h' A (.row cs u ro):=⟨eW hh.lt i.size,i.at hh.lt hh.get⟩
theorem Holds.over {h1 h2:Heap} {A:Nat} {l:List bh} {w:Nat} (f:Holds h1 A b) (x:Ext (h1.lay l w) h2):Holds h2 A b:=⟨eW f.lt x.inc.qd.size,(x.get A (by rw [bf];have:=f.lt;omega)).trans (f.lay l w)⟩
section
variable {Z:Type} {r:aJ Z} {h h' h1 h2:Heap} {v:ae} {l:List Z}
theorem Sl.mono (f:Sl r h v l) (i:b8 h h'):Sl r h' v l:=by
 rcases f with f|⟨A,o,c,row,u,ro,e1,e2,e3,e4,e5,e6⟩
 .exact .inl f
 .refine .inr ⟨A,o,c,row,u,ro,e1,e2,e3,eW e4 i.size,i.at e4 e5,λj x hj=>?_⟩
  obtain ⟨cs,g1,g2⟩:=e6 j x hj
  exact ⟨cs,g1,r.mono _ _ _ _ i g2⟩
theorem Sl.over {bs:List bh} {w:Nat} (f:Sl r h1 v l) (x:Ext (h1.lay bs w) h2):Sl r h2 v l:=f.mono x.inc.qd
theorem Sl.lay (f:Sl r h v l) (bs:List bh) (w:Nat):Sl r (h.lay bs w) v l:=f.mono (b8.lay h bs w)
theorem Sl.le (f:Sl r h v l):l.length<=maxLen:=by
 rcases f with ⟨_,rfl⟩|⟨A,o,c,row,u,ro,e1,e2,_⟩
 .exact sg _
 .exact e2
theorem Sl.nil:Sl r h (.slice none 0 0) []:=.inl ⟨rfl,rfl⟩
variable {P:Program} {T:bL} {ov:Ov} {K:aG} {t e:TypeId} {bs:List bh} {w:Nat}
theorem Sl.bt (f:Sl r h v l) (hd:T.desc t=some (.slice e)) (h2:Heap):bt T t v h2=some (.int .i64 l.length):=by
 rcases f with ⟨rfl,rfl⟩|⟨A,o,c,row,u,ro,rfl,_⟩
 .simp [Am.bt,hd]
 .simp [Am.bt,hd]
theorem uQ (f:Sl r h v l) (hd:T.desc t=some (.slice e)) (hk:K (.int .i64 l.length) h1):aD (Am.bt T t v h1) h1 K:=by rw [f.bt hd];exact hk
theorem zt (f:Sl r h1 v l) (hd:T.desc t=some (.slice e)) (hs:cN T e=some r.k) {kd:IntKind} {i:Int} (h0:0<=i) (hi:i < l.length) (hk:∀ x p cs,l[i.toNat]? = some x->r.R h1 cs x->ei h1 p cs->K p (h1.lay bs w)) :
 aD (jF T t v (.int kd i)) (h1.lay bs w) K:=by
 rcases f with ⟨rfl,rfl⟩|⟨A,o,c,row,u,ro,rfl,e2,e3,e4,e5,e6⟩
 .simp at hi;omega
 .have aP:i.toNat < l.length:=by omega
  obtain ⟨cs,g1,g2⟩:=e6 i.toNat l[i.toNat] (by simp [aP])
  unfold jF
  simp only [hd]
  rw [aE ⟨h0,hi⟩,hs]
  refine hk _ _ cs (by simp [aP]) g2 ⟨A,_,row,u,ro,rfl,e4,e5,?_⟩
  rw [r.len _ _ _ g2]
  exact g1
theorem JN (f:ei h1 p cs) (hg:ct T t=some true) (hs:cN T t=some n) (hn:cs.length=n) (hk:K (.agg ⟨cs⟩) (h1.lay bs w)):aD (fW T t p (h1.lay bs w)) (h1.lay bs w) K:=by
 obtain ⟨A,o,row,u,ro,rfl,hA,eR,hc⟩:=f
 unfold fW
 simp only [hg,hs,dX,if_true,gS]
 rw [Er _ _ _ hA,eR]
 simp only
 rw [<- hn,hc]
 exact hk
theorem fo {x:ae} (f:ei h1 p [x]) (hg:ct T t=some false) (hk:K x (h1.lay bs w)):aD (fW T t p (h1.lay bs w)) (h1.lay bs w) K:=by
 obtain ⟨A,o,row,u,ro,rfl,hA,eR,hc⟩:=f
 unfold fW
 simp only [hg,dX,gW,if_false,gS]
 rw [Er _ _ _ hA,eR]
 simp only
 rw [show (1:Nat)=[x].length from rfl,hc]
 exact hk
theorem zwZ {row:List ae} {off:Nat} (hc:cut row o cs.length=some cs) (hb:off+n<=cs.length):cut row (o+off) n=some ((cs.drop off).take n):=by
 unfold cut at hc ⊢
 split at hc
 .rename_i hle
  rw [aE (by omega)]
  simp only [dY] at hc ⊢
  rw [<- hc,List.drop_take,List.take_take,Dd]
  congr 1
  omega
 .cases hc
theorem zCv {s i off:Nat} (n:Nat) (f:ei h1 p cs) (iX:∀ A o,fU T s (.pointer (some ⟨A,o,none⟩)) i=some (.pointer (some ⟨A,o+off,none⟩))) (hb:off+n<=cs.length) (hk:∀ q,ei h1 q ((cs.drop off).take n)->K q (h1.lay bs w)) :
 aD (fU T s p i) (h1.lay bs w) K:=by
 obtain ⟨A,o,row,u,ro,rfl,hA,eR,hc⟩:=f
 rw [iX]
 refine hk _ ⟨A,_,row,u,ro,rfl,hA,eR,?_⟩
 have hl:((cs.drop off).take n).length=n:=by rw [fj,lk];omega
 rw [hl]
 exact zwZ hc hb
theorem zzQ {s m z:Nat} {kd:IntKind} {i:Int} (f:ei h1 p cs) (Tt:∀ A o ik i,jF T s (.pointer (some ⟨A,o,none⟩)) (.int ik i)=if 0<=i/\i < (m:Int) then some (.pointer (some ⟨A,o+i.toNat*z,none⟩)) else none) (h0:0<=i) (hi:i < m) (hb:m*z<=cs.length)
 (hk:∀ q,ei h1 q ((cs.drop (i.toNat*z)).take z)->K q (h1.lay bs w)):aD (jF T s p (.int kd i)) (h1.lay bs w) K:=by
 obtain ⟨A,o,row,u,ro,rfl,hA,eR,hc⟩:=f
 rw [Tt,aE ⟨h0,hi⟩]
 have hle:i.toNat*z+z<=cs.length:=by
  calc i.toNat*z+z=(i.toNat+1)*z:=by rw [r9]
   _<=m*z:=py _ (by omega)
   _<=cs.length:=hb
 refine hk _ ⟨A,_,row,u,ro,rfl,hA,eR,?_⟩
 have hl:((cs.drop (i.toNat*z)).take z).length=z:=by rw [fj,lk];omega
 rw [hl]
 exact zwZ hc hle
end
abbrev aJ.str:aJ aB:={ k:=1,R:=λ_ cs x=>cs=[.string x],len:=by rintro _ _ _ rfl;rfl,mono:=λ_ _ _ _ _ h=>h,i9:=by rintro _ _ _ rfl;rfl }
abbrev aJ.int:aJ Int:={ k:=1,R:=λ_ cs x=>cs=[.int .i64 x],len:=by rintro _ _ _ rfl;rfl,mono:=λ_ _ _ _ _ h=>h,i9:=by rintro _ _ _ rfl;rfl }
abbrev aJ.bool:aJ Bool:={ k:=1,R:=λ_ cs x=>cs=[.bool x],len:=by rintro _ _ _ rfl;rfl,mono:=λ_ _ _ _ _ h=>h,i9:=by rintro _ _ _ rfl;rfl }
abbrev aJ.sl {Z:Type} (a:aJ Z):aJ (List Z) :=
 { k:=1,R:=λh cs x=>∃ v,cs=[v]/\Sl a h v x,len:=by rintro h cs x ⟨v,rfl,_⟩;rfl
   mono:=by rintro h h' cs x i ⟨v,e,f⟩;exact ⟨v,e,f.mono i⟩
   i9:=by
    rintro h cs x ⟨v,rfl,f⟩
    rcases f with ⟨rfl,_⟩|⟨A,o,c,row,u,ro,rfl,_⟩ <;> rfl }

theorem Ext.iW {A:Nat} {h h':Heap} (x:Ext h h'):fB A h h':=⟨x.size,λB h1 _=>x.get B h1,by have:=x.low;omega⟩
theorem fB.trans {A:Nat} {a b c:Heap} (x:fB A a b) (y:fB A b c):fB A a c :=
 ⟨il x.size y.size,λB h1 h2=>(y.get B (eW h1 x.size) h2).trans (x.get B h1 h2),by have:=x.low;have:=y.low;have:=x.size;omega⟩
theorem Ext.step {A:Nat} {h h1 h2:Heap} (z:Ext h h1) (c:fB A h1 h2) (hA:h.size<=A):Ext h h2 :=
 ⟨il z.size c.size,λB hB=>(c.get B (eW hB z.size) (by omega)).trans (z.get B hB),by have:=z.low;have:=z.size;have:=c.low;omega⟩
theorem Ext.cx {A:Nat} {h h1 h2:Heap} {bs:List bh} {w:Nat} (z:Ext h h1) (c:fB A (h1.lay bs w) h2) (hA:h.size<=A) (hw:min h1.low h1.size<=w):Ext h h2:=(z.je bs w hw).step c hA
theorem Holds.step {A:Nat} {h1 h2:Heap} (q:Holds h1 B b) (c:fB A h1 h2) (ba:B≠A):Holds h2 B b:=⟨eW q.lt c.size,(c.get B q.lt ba).trans q.get⟩
theorem Holds.bj {A:Nat} {h1 h2:Heap} {bs:List bh} {w:Nat} (q:Holds h1 B b) (c:fB A (h1.lay bs w) h2) (ba:B≠A):Holds h2 B b:=(q.on bs w).step c ba
def Ow {Z:Type} (r:aJ Z) (h0 h:Heap) (e:TypeId) (A:Nat) (v:ae) (l:List Z):Prop :=
 (h0.size<=A/\l=[]/\(v=.slice none 0 0\/∃ B o,v=.slice (some ⟨B,o,none⟩) 0 0/\h0.size<=B/\B < h.size/\∃ row u ro,h.get B=some (.row row u ro))) \/
 ∃ row,v=.slice (some ⟨A,0,none⟩) l.length (G*r.k+l.length)/\l≠[]/\h0.size<=A/\A < h.size/\h.get A=some (.row row e false)/\row.length=l.length*r.k/\l.length<=1152921504606846976 /\
   ∀ (i:Nat) (x:Z),l[i]? = some x->∃ cs,cut row (i*r.k) r.k=some cs/\r.R (h.set A .dead) cs x
theorem b8.kill {h h':Heap} {A:Nat} (i:b8 h h') (hA:A < h.size):b8 (h.set A .dead) (h'.set A .dead):=⟨i.size,λB hB hd=>by
 rw [Heap.aR _ _ _ _ hA] at hd ⊢
 rw [Heap.aR _ _ _ _ (eW hA i.size)]
 split
 .rfl
 .rename_i ba
  rw [az ba] at hd
  exact i.get B hB hd⟩
theorem b8.zf {h:Heap} {A:Nat} (hA:A < h.size):b8 (h.set A .dead) h:=⟨bo _,λB hB hd=>by
 rw [Heap.aR _ _ _ _ hA] at hd ⊢
 split
 .rename_i he;rw [aE he] at hd;exact absurd rfl hd
 .rfl⟩
section
variable {Z:Type} {r:aJ Z} {h0 h h' h1 h2:Heap} {v:ae} {l:List Z} {e:TypeId} {A:Nat}
theorem Ow.fresh (f:Ow r h0 h e A v l):h0.size<=A:=by
 rcases f with f|⟨_,_,_,h1,_⟩
 .exact f.1
 .exact h1
theorem Ow.mono (f:Ow r h0 h e A v l) (i:b8 h h'):Ow r h0 h' e A v l:=by
 rcases f with ⟨f1,f2,f3⟩|⟨row,e1,e2,e3,e4,e5,e6,e7,e8⟩
 .refine .inl ⟨f1,f2,f3.imp id ?_⟩
  rintro ⟨B,o,g1,g0,g2,row,u,ro,g3⟩
  exact ⟨B,o,g1,g0,eW g2 i.size,row,u,ro,i.at g2 g3⟩
 .refine .inr ⟨row,e1,e2,e3,eW e4 i.size,i.at e4 e5,e6,e7,λj x hj=>?_⟩
  obtain ⟨cs,g1,g2⟩:=e8 j x hj
  exact ⟨cs,g1,r.mono _ _ _ _ (i.kill e4) g2⟩
theorem Ow.over {bs:List bh} {w:Nat} (f:Ow r h0 h1 e A v l) (x:Ext (h1.lay bs w) h2):Ow r h0 h2 e A v l:=f.mono x.inc.qd
theorem Ow.nil (hA:h0.size<=A):Ow r h0 h e A (.slice none 0 0) []:=.inl ⟨hA,rfl,.inl rfl⟩
theorem Ow.sl (hk:0 < r.k) (f:Ow r h0 h e A v l):Sl r h v l:=by
 rcases f with ⟨_,rfl,rfl|⟨B,o,rfl,_,g2,row,u,ro,g3⟩⟩|⟨row,e1,e2,e3,e4,e5,e6,e7,e8⟩
 .exact .nil
 .exact .inr ⟨B,o,0,row,u,ro,rfl,sg _,.inl ⟨by unfold G;omega,bo _⟩,g2,g3,λi x hx=>by simp at hx⟩
 .obtain ⟨c1,c2,c3⟩:=CN (k:=r.k) (q:=l.length) hk (by unfold G;omega)
  refine .inr ⟨A,0,_,row,e,false,e1,by unfold maxLen;omega,.inr ⟨by omega,c3,by omega⟩,e4,e5,λi x hx=>?_⟩
  obtain ⟨cs,g1,g2⟩:=e8 i x hx
  exact ⟨cs,by simpa using g1,r.mono _ _ _ _ (b8.zf e4) g2⟩
end
section
variable {Z:Type} {r:aJ Z} {h0 h1:Heap} {v x:ae} {l l2:List Z} {t e:TypeId} {A k bytes:Nat} {z:List ae} {T:bL} {bs:List bh} {w:Nat} {K:aG}
theorem zrj {a b c:List ae} (hc:cut a o n=some c):cut (a++b) o n=some c:=by
 unfold cut at hc ⊢
 split at hc
 .rename_i hle
  rw [aE (by simp;omega)]
  rw [List.drop_append_of_le_length (by omega),List.take_append_of_le_length (by simp;omega)]
  exact hc
 .cases hc
theorem zmE {a b c:List ae} (hc:cut b o n=some c):cut (a++b) (a.length+o) n=some c:=by
 unfold cut at hc ⊢
 split at hc
 .rename_i hle
  rw [aE (by simp;omega)]
  simp only [dY] at hc ⊢
  rw [<- hc,R9,zE (by omega)]
  simp
 .cases hc
def Src (r:aJ Z) (h:Heap) (m:Nat) (news:List ae) (l2:List Z):Prop :=
 l2.length=m/\news.length=m*r.k/\news.all one=true/\∀ (i:Nat) (y:Z),l2[i]? = some y->∃ cs,cut news (i*r.k) r.k=some cs/\r.R h cs y
def kill (A:Nat) (h:Heap):Heap:=if A < h.size then h.set A .dead else h
theorem Rk (A:Nat) (h:Heap):(kill A h).size=h.size:=by unfold kill;split <;> rfl
theorem ztg (A:Nat) (h:Heap):b8 (kill A h) h:=by
 unfold kill
 split
 .rename_i hA;exact b8.zf hA
 .exact b8.refl h
theorem tX {h:Heap} (hd:T.desc t=some (.slice e)) (hi:T.info e=some (k,bytes,z)) (DZ:r.k=k) (hk:0 < k) (hz:h0.size<=h.size) (f:Ow r h0 h e A v l) {news:List ae} (hs:fT x k h=some (m,news)) (lQ:Src r (kill A h) m news l2)
 (hb:(l.length+m)*bytes<=140737488355328) (hl:l.length+m<=1152921504606846976) :
 ∃ v' h' A',iP T t v x h=some (v',h')/\Ow r h0 h' e A' v' (l++l2)/\fB A h h'/\(A'=A\/A'=h.size)/\h0.size<=A':=by
 subst DZ
 obtain ⟨hm,GC,h1,yK⟩:=lQ
 by_cases Ad:m=0
 .subst Ad
  have:l2=[]:=zG.1 hm
  subst this
  refine ⟨v,h,A,?_,by rw [bu];exact f,(Ext.refl h).iW,.inl rfl,f.fresh⟩
  unfold iP
  simp only [hd,hi,hs,dX]
  rcases f with ⟨_,_,rfl|⟨B,o,rfl,_⟩⟩|⟨row,rfl,_⟩ <;> simp
 .have yI:∀ (h2:Heap) (qh:List ae),h2.size=h.size->(∀ B,B < h.size->B≠A->h2.get B=h.get B)->min (min h.low h.size) A<=h2.low ->
   (∀ (i:Nat) (y:Z),(l++l2)[i]? = some y->∃ cs,cut qh (i*r.k) r.k=some cs/\r.R h2 cs y)->qh.length=(l.length+m)*r.k ->
   Ow r h0 (h2.push (.row qh e false)) e h.size (.slice (some ⟨h.size,0,none⟩) (l.length+m) (G*r.k+(l.length+m))) (l++l2)/\fB A h (h2.push (.row qh e false)):=by
   intro h2 qh e1 e2 e3 e4 e5
   have wI:b8 h2 ((h2.push (.row qh e false)).set h.size .dead):=⟨by rw [Heap.size_set,Heap.size_push];omega,λB hB _=>by
    rw [Heap.aR _ _ _ _ (by rw [Heap.size_push];omega),az (by omega),Heap.bx,az (by omega)]⟩
   refine ⟨.inr ⟨qh,by rw [cW,hm],λhh=>?_,hz,?_,?_,by rw [cW,hm];exact e5,by rw [cW,hm];exact hl,λi y hy=>?_⟩,?_,?_,?_⟩
   .have:=congrArg List.length hh
    rw [cW,hm] at this
    simp at this
    omega
   .rw [Heap.size_push,e1];omega
   .rw [Heap.bx,aE e1.symm]
   .obtain ⟨cs,c1,c2⟩:=e4 i y hy
    exact ⟨cs,c1,r.mono _ _ _ _ wI c2⟩
   .rw [Heap.size_push,e1];omega
   .intro B hB ba
    rw [Heap.bx,az (by omega)]
    exact e2 B hB ba
   .rw [Heap.dv];exact e3
  rcases f with ⟨f1,rfl,f3⟩|⟨row,rfl,e2,e3,e4,e5,e6,e7,e8⟩
  .-- to nothing
   have key:iP T t v x h=some (.slice (some ⟨h.size,0,none⟩) m (G*r.k+m),h.push (.row news e false)):=by
    rcases f3 with rfl|⟨B,o,rfl,_,g1,row,u,ro,g2⟩
    .exact zwt hd hi hk hs (by omega) h1 (by simpa using hb) (by simpa using hl)
    .unfold iP
     simp only [hd,hi,hs,dX]
     rw [az (by omega),az,az]
     .have hG:0 < G:=by unfold G;omega
      simp [nQ,hG]
     .have:0 % G=0:=Nat.zero_mod _
      omega
     .simp only [qt,gY,C9,h1,not_or]
      simp only [dr] at hb hl
      refine ⟨⟨⟨by omega,by omega⟩,by omega⟩,by simp⟩
   obtain ⟨a,b⟩:=yI h news rfl (λ_ _ _=>rfl) (by omega) (λi y hy=>by
    obtain ⟨cs,c1,c2⟩:=yK i y (by simpa using hy)
    exact ⟨cs,c1,r.mono _ _ _ _ (ztg A h) c2⟩) (by simpa using GC)
   refine ⟨_,_,h.size,key,?_,b,.inr rfl,hz⟩
   simpa using a
  .obtain ⟨c1,c2,c3⟩:=CN (k:=r.k) (q:=l.length) hk (by unfold G;omega)
   have Tv:0 < l.length:=List.length_pos_iff.2 e2
   have key:=zzq (t:=t) (x:=x) hd hi hk e5 e6 Tv hs (by omega) h1 hb hl
   have jT:∀ B,B < h.size->B≠A->(h.set A .dead).get B=h.get B:=λB hB ba=>by rw [Heap.aR _ _ _ _ e4,az ba]
   have NC:kill A h=h.set A .dead:=aE e4
   rw [NC] at yK
   obtain ⟨a,b⟩:=yI (h.set A .dead) (row++news) rfl jT (by rw [Heap.bX];omega) (λi y hy=>by
    by_cases hi:i < l.length
    .rw [mX hi] at hy
     obtain ⟨cs,g1,g2⟩:=e8 i y hy
     exact ⟨cs,zrj g1,g2⟩
    .rw [px (by omega)] at hy
     obtain ⟨cs,g1,g2⟩:=yK _ y hy
     refine ⟨cs,?_,g2⟩
     have:=zmE (a:=row) g1
     rwa [e6,<- sZ,show l.length+(i - l.length)=i by omega] at this) (by rw [cW,e6,GC,sZ])
   exact ⟨_,_,h.size,key,a,b,.inr rfl,hz⟩
theorem EB (hd:T.desc t=some (.slice e)) (hi:T.info e=some (k,bytes,z)) (DZ:r.k=k) (hk:0 < k) (hz:h0.size<=h1.size) (f:Ow r h0 h1 e A v l) {news:List ae} (hs:fT x k (h1.lay bs w)=some (m,news)) (lQ:Src r (kill A (h1.lay bs w)) m news l2)
 (hb:(l.length+m)*bytes<=140737488355328) (hl:l.length+m<=1152921504606846976) (hK:∀ v' h' A',Ow r h0 h' e A' v' (l++l2)->fB A (h1.lay bs w) h'->(A'=A\/h1.size<=A')->K v' h'):dx (iP T t v x (h1.lay bs w)) K:=by
 obtain ⟨v',h',A',g1,g2,g3,g4,g5⟩:=tX hd hi DZ hk (by rw [bf];omega) (f.mono (b8.lay h1 bs w)) hs lQ hb hl
 rw [g1]
 refine hK v' h' A' g2 g3 (g4.imp id ?_)
 rintro rfl
 rw [bf]
 omega
theorem CO {h:Heap} {c:Nat} {u:TypeId} {ro:Bool} {y:Z} (hk:0 < r.k) (hg:h.get B=some (.row cs u ro)) (hr:r.R (kill A h) cs y):fT (.slice (some ⟨B,0,none⟩) 1 c) r.k h=some (1,cs)/\Src r (kill A h) 1 cs [y]:=by
 have hl:=r.len _ _ _ hr
 refine ⟨?_,rfl,by rw [hl];omega,r.i9 _ _ _ hr,λi y' hy=>?_⟩
 .have hc:cut cs 0 r.k=some cs:=by
   unfold cut
   rw [aE (by omega),<- hl]
   simp
  simp only [fT,nQ,Nat.one_mul]
  rw [az (by omega)]
  simp only [gS,hg,hc,jZ]
 .cases i with
  |zero =>
   simp at hy
   subst hy
   refine ⟨cs,?_,hr⟩
   unfold cut
   rw [aE (by omega),<- hl]
   simp
  |succ i=>simp at hy
theorem rX {h:Heap} (hk:0 < r.k) (f:Sl r h x l2) (hf:∀ cs y,r.R h cs y->r.R (kill A h) cs y):∃ news,fT x r.k h=some (l2.length,news)/\Src r (kill A h) l2.length news l2:=by
 rcases f with ⟨rfl,rfl⟩|⟨B,o,c,row,u,ro,rfl,e2,e3,e4,e5,e6⟩
 .exact ⟨[],rfl,rfl,by simp,rfl,λi y hy=>by simp at hy⟩
 .by_cases h0:l2.length=0
  .have:l2=[]:=zG.1 h0
   subst this
   exact ⟨[],by simp [fT,nQ],rfl,by simp,rfl,λi y hy=>by simp at hy⟩
  .have hle:o+l2.length*r.k<=row.length:=by
    obtain ⟨cs,g1,_⟩:=e6 (l2.length - 1) (l2[l2.length - 1]'(by omega)) (by simp)
    unfold cut at g1
    split at g1
    .rename_i hh
     have:(l2.length - 1)*r.k+r.k=l2.length*r.k:=by rw [<- r9];congr 1;omega
     omega
    .cases g1
   have jS:0 < l2.length*r.k:=Nat.mul_pos (by omega) hk
   refine ⟨(row.drop o).take (l2.length*r.k),?_,rfl,by rw [fj,lk];omega,?_,λi y hy=>?_⟩
   .simp only [fT,nQ]
    rw [az (by omega)]
    simp only [gS,e5,cut,aE hle,jZ]
   .rw [gK]
    intro v hv
    obtain ⟨j,hj,rfl⟩:=JR hv
    rw [fj,lk] at hj
    have Ny:j / r.k < l2.length:=Nat.div_lt_of_lt_mul (by rw [zQ];omega)
    obtain ⟨cs,g1,g2⟩:=e6 (j / r.k) (l2[j / r.k]) (by simp [Ny])
    have g3:=gK.1 (r.i9 _ _ _ g2)
    apply g3
    unfold cut at g1
    split at g1
    .simp only [dY] at g1
     rw [<- g1]
     refine ig (i:=j % r.k) ?_
     have yC:=Nat.mod_lt j hk
     rw [HQ yC,lA,List.getElem_take,List.getElem_drop]
     have hdm:=Nat.div_add_mod j r.k
     rw [zQ] at hdm
     rw [show o+j / r.k*r.k+j % r.k=o+j by omega]
     exact gI _
    .cases g1
   .obtain ⟨cs,g1,g2⟩:=e6 i y hy
    refine ⟨cs,?_,hf _ _ g2⟩
    have hi:=(dz.1 hy).1
    have aK:(i+1)*r.k<=l2.length*r.k:=py _ (by omega)
    rw [r9] at aK
    unfold cut at g1 ⊢
    split at g1
    .rw [aE (by rw [fj,lk];omega)]
     simp only [dY] at g1 ⊢
     rw [<- g1,List.drop_take,Dd,List.take_take]
     congr 1
     omega
    .cases g1
end
end Go.Am
namespace Go.Am
variable {b:ae} {h:Heap}
structure aH where
 v:Bool
 s:aB
 deriving DecidableEq
structure ak where
 says:aB
 pred:aB
 n:Int
 t0:aH
 t1:aH
 t2:aH
 t3:aH
 deriving DecidableEq
def aH.cells (t:aH):List ae:=[.bool t.v,.string t.s]
def aH.val (t:aH):ae:=.agg ⟨t.cells⟩
def ak.cells (a:ak):List ae:=[.string a.says,.string a.pred,.int .i64 a.n,.bool a.t0.v,.string a.t0.s,.bool a.t1.v,.string a.t1.s,.bool a.t2.v,.string a.t2.s,.bool a.t3.v,.string a.t3.s]
def ak.val (a:ak):ae:=.agg ⟨a.cells⟩
def ak.arg (a:ak):Nat->aH
 |0=>a.t0
 |1=>a.t1
 |2=>a.t2
 |_=>a.t3
def ak.cU (a:ak):Nat:=min a.n.toNat 4
def ak.args (a:ak):List aH:=[a.t0,a.t1,a.t2,a.t3].take a.cU
def ak.all (a:ak):List aH:=[a.t0,a.t1,a.t2,a.t3]
def cu:aH:=⟨false,⟨#[]⟩⟩
def ab:ak:=⟨⟨#[]⟩,⟨#[]⟩,0,cu,cu,cu,cu⟩
def ak.aV (a:ak):Bool:=decide (a.says.size<=300) && (decide (a.pred.size<=300) && (decide (a.t0.s.size<=300) && (decide (a.t1.s.size<=300) && (decide (a.t2.s.size<=300) && decide (a.t3.s.size<=300)))))
structure cz where
 head:ak
 body:List ak
 deriving DecidableEq
structure gD where
 atom:ak
 clause:Int
 body:List ak
 deriving DecidableEq
structure aN where
 var:aB
 term:aH
 deriving DecidableEq
def aN.cells (b:aN):List ae:=[.string b.var,.bool b.term.v,.string b.term.s]
def aN.val (b:aN):ae:=.agg ⟨b.cells⟩
abbrev aJ.atom:aJ ak:={ k:=11,R:=λ_ cs x=>cs=x.cells,len:=by rintro _ _ _ rfl;rfl,mono:=λ_ _ _ _ _ h=>h,i9:=by rintro _ _ _ rfl;rfl }
abbrev aJ.term:aJ aH:={ k:=2,R:=λ_ cs x=>cs=x.cells,len:=by rintro _ _ _ rfl;rfl,mono:=λ_ _ _ _ _ h=>h,i9:=by rintro _ _ _ rfl;rfl }
abbrev aJ.bind:aJ aN:={ k:=3,R:=λ_ cs x=>cs=x.cells,len:=by rintro _ _ _ rfl;rfl,mono:=λ_ _ _ _ _ h=>h,i9:=by rintro _ _ _ rfl;rfl }
theorem Sl.one {Z:Type} {r:aJ Z} {h:Heap} {v:ae} {l:List Z} (f:Sl r h v l):one v=true:=by
 rcases f with ⟨rfl,_⟩|⟨A,o,c,row,u,ro,rfl,_⟩ <;> rfl
abbrev aJ.clause:aJ cz :=
 { k:=12,R:=λh cs x=>∃ v,cs=x.head.cells++[v]/\Sl aJ.atom h v x.body
   len:=by rintro h cs x ⟨v,rfl,_⟩;rfl
   mono:=by rintro h h' cs x i ⟨v,e,f⟩;exact ⟨v,e,f.mono i⟩
   i9:=by rintro h cs x ⟨v,rfl,f⟩;have:=f.one;simp only [List.all_append,ak.cells,gL,ij,this];rfl }
abbrev aJ.reason:aJ gD :=
 { k:=13,R:=λh cs x=>∃ v,cs=x.atom.cells++[.int .i64 x.clause,v]/\Sl aJ.atom h v x.body
   len:=by rintro h cs x ⟨v,rfl,_⟩;rfl
   mono:=by rintro h h' cs x i ⟨v,e,f⟩;exact ⟨v,e,f.mono i⟩
   i9:=by rintro h cs x ⟨v,rfl,f⟩;have:=f.one;simp only [List.all_append,ak.cells,gL,ij,this];rfl }
theorem AF {a b:aB} (h:a.data.toList=b.data.toList):a=b:=by
 obtain ⟨⟨a⟩⟩:=a
 obtain ⟨⟨b⟩⟩:=b
 simp at h
 rw [h]
theorem U9 (a b:aB):(a.data.toList == b.data.toList)=decide (a=b):=by
 by_cases h:a=b
 .subst h;simp
 .have:¬ a.data.toList=b.data.toList:=λhh=>h (AF hh)
  rw [uW h]
  exact beq_eq_false_iff_ne.2 this
def uY (b:Bool) (r:Option Bool):Option Bool:=(some b).bind λc=>if c then r else some false
theorem Ru (b c:Bool):uY b (some c)=some (b && c):=by cases b <;> rfl
def wD (x y:aH):Option Bool:=uY (x.v == y.v) (uY (x.s.data.toList == y.s.data.toList) (some true))
theorem zmI (x y:aH):wD x y=some (decide (x=y)):=by
 obtain ⟨v,s⟩:=x
 obtain ⟨w,t⟩:=y
 unfold wD
 rw [Ru,Ru,U9]
 simp only [aH.mk.injEq,Bool.and_true]
 by_cases h1:v=w <;> by_cases h2:s=t <;> simp [h1,h2]
def Tb (a b:ak):Option Bool:=uY (a.says.data.toList == b.says.data.toList) (uY (a.pred.data.toList == b.pred.data.toList) (uY (a.n == b.n)
 (((wD a.t0 b.t0).bind λc=>if c=true then ((wD a.t1 b.t1).bind λc=>if c=true then ((wD a.t2 b.t2).bind λc=>if c=true then ((wD a.t3 b.t3).bind λc=>if c=true then some true else some false) else some false) else some false) else some false).bind λc=>if c=true then some true else some false)))
theorem zs4 (a b:ak):Tb a b=some (decide (a=b)):=by
 obtain ⟨s,p,n,x0,x1,x2,x3⟩:=a
 obtain ⟨s',p',n',y0,y1,y2,y3⟩:=b
 unfold Tb
 simp only [zmI,dX]
 simp only [ak.mk.injEq]
 have key:(if decide (x0=y0)=true then (if decide (x1=y1)=true then (if decide (x2=y2)=true then (if decide (x3=y3)=true then some true else some false) else some false) else some false) else some false)=some (decide (x0=y0/\x1=y1/\x2=y2/\x3=y3)):=by
  by_cases h0:x0=y0 <;> by_cases h1:x1=y1 <;> by_cases h2:x2=y2 <;> by_cases h3:x3=y3 <;> simp [h0,h1,h2,h3]
 rw [key,dX]
 have k2:∀ c:Bool,(if c=true then some true else some false)=some c:=by intro c;cases c <;> rfl
 rw [k2,Ru,Ru,Ru,U9,U9]
 congr 1
 by_cases h1:s=s' <;> by_cases h2:p=p' <;> by_cases h3:n=n' <;> simp [h1,h2,h3]
def ak.du (a:ak):List ae:=[.bool a.t0.v,.string a.t0.s,.bool a.t1.v,.string a.t1.s,.bool a.t2.v,.string a.t2.s,.bool a.t3.v,.string a.t3.s]
section
variable {h1:Heap} {bs:List bh} {w:Nat} {T:bL} {K:aG} {t e s:TypeId} {v p:ae} {kd:IntKind} {i:Int}
theorem ixa {l:List ak} (f:Sl aJ.atom h1 v l) (hd:T.desc t=some (.slice e)) (hs:cN T e=some 11) (h0:0<=i) (hi:i < l.length) (hk:∀ x p,l[i.toNat]? = some x->ei h1 p x.cells->K p (h1.lay bs w)):aD (jF T t v (.int kd i)) (h1.lay bs w) K :=
 zt f hd hs h0 hi λx p cs hx hr hp=>hk x p hx (hr ▸ hp)
theorem ixt {l:List aH} (f:Sl aJ.term h1 v l) (hd:T.desc t=some (.slice e)) (hs:cN T e=some 2) (h0:0<=i) (hi:i < l.length) (hk:∀ x p,l[i.toNat]? = some x->ei h1 p x.cells->K p (h1.lay bs w)):aD (jF T t v (.int kd i)) (h1.lay bs w) K :=
 zt f hd hs h0 hi λx p cs hx hr hp=>hk x p hx (hr ▸ hp)
theorem ixb {l:List aN} (f:Sl aJ.bind h1 v l) (hd:T.desc t=some (.slice e)) (hs:cN T e=some 3) (h0:0<=i) (hi:i < l.length) (hk:∀ x p,l[i.toNat]? = some x->ei h1 p x.cells->K p (h1.lay bs w)):aD (jF T t v (.int kd i)) (h1.lay bs w) K :=
 zt f hd hs h0 hi λx p cs hx hr hp=>hk x p hx (hr ▸ hp)
theorem ixs {l:List aB} (f:Sl aJ.str h1 v l) (hd:T.desc t=some (.slice e)) (hs:cN T e=some 1) (h0:0<=i) (hi:i < l.length) (hk:∀ x p,l[i.toNat]? = some x->ei h1 p [.string x]->K p (h1.lay bs w)):aD (jF T t v (.int kd i)) (h1.lay bs w) K :=
 zt f hd hs h0 hi λx p cs hx hr hp=>hk x p hx (hr ▸ hp)
theorem ixc {l:List cz} (f:Sl aJ.clause h1 v l) (hd:T.desc t=some (.slice e)) (hs:cN T e=some 12) (h0:0<=i) (hi:i < l.length) (hk:∀ x p b,l[i.toNat]? = some x->Sl aJ.atom h1 b x.body->ei h1 p (x.head.cells++[b])->K p (h1.lay bs w)):aD (jF T t v (.int kd i)) (h1.lay bs w) K :=
 zt f hd hs h0 hi λx p cs hx ⟨b,hr,hb⟩ hp=>hk x p b hx hb (hr ▸ hp)
theorem ly {x:ak} (f:ei h1 p x.cells) (hg:ct T t=some true) (hs:cN T t=some 11) (hk:K x.val (h1.lay bs w)):aD (fW T t p (h1.lay bs w)) (h1.lay bs w) K:=JN f hg hs rfl hk
theorem Cq {x:aH} (f:ei h1 p x.cells) (hg:ct T t=some true) (hs:cN T t=some 2) (hk:K x.val (h1.lay bs w)):aD (fW T t p (h1.lay bs w)) (h1.lay bs w) K:=JN f hg hs rfl hk
theorem OC {x:aN} (f:ei h1 p x.cells) (hg:ct T t=some true) (hs:cN T t=some 3) (hk:K x.val (h1.lay bs w)):aD (fW T t p (h1.lay bs w)) (h1.lay bs w) K:=JN f hg hs rfl hk
theorem ldc {x:cz} (f:ei h1 p (x.head.cells++[b])) (hg:ct T t=some true) (hs:cN T t=some 12) (hk:K (.agg ⟨x.head.cells++[b]⟩) (h1.lay bs w)):aD (fW T t p (h1.lay bs w)) (h1.lay bs w) K:=JN f hg hs rfl hk
theorem qZ {cs ds:List ae} {j off:Nat} (f:ei h1 p cs) (iX:∀ A o,fU T s (.pointer (some ⟨A,o,none⟩)) j=some (.pointer (some ⟨A,o+off,none⟩))) (he:(cs.drop off).take ds.length=ds) (hz:0 < ds.length) (hk:∀ q,ei h1 q ds->K q (h1.lay bs w)):aD (fU T s p j) (h1.lay bs w) K:=by
 have hb:off+ds.length<=cs.length:=by
  have:=congrArg List.length he
  rw [fj,lk] at this
  omega
 refine zCv ds.length f iX hb λq hq=>hk q ?_
 rw [he] at hq
 exact hq
theorem We {x:ak} (f:ei h1 p (x.cells)) (iX:∀ A o,fU T s (.pointer (some ⟨A,o,none⟩)) 0=some (.pointer (some ⟨A,o+0,none⟩))) (hk:∀ q,ei h1 q ([.string x.says])->K q (h1.lay bs w)):aD (fU T s p 0) (h1.lay bs w) K:=qZ (ds:=[.string x.says]) f iX rfl (se _) hk
theorem Wf {x:ak} (f:ei h1 p (x.cells)) (iX:∀ A o,fU T s (.pointer (some ⟨A,o,none⟩)) 2=some (.pointer (some ⟨A,o+2,none⟩))) (hk:∀ q,ei h1 q ([.int .i64 x.n])->K q (h1.lay bs w)):aD (fU T s p 2) (h1.lay bs w) K:=qZ (ds:=[.int .i64 x.n]) f iX rfl (se _) hk
theorem Wg {x:ak} (f:ei h1 p (x.cells)) (iX:∀ A o,fU T s (.pointer (some ⟨A,o,none⟩)) 3=some (.pointer (some ⟨A,o+3,none⟩))) (hk:∀ q,ei h1 q (x.du)->K q (h1.lay bs w)):aD (fU T s p 3) (h1.lay bs w) K:=qZ (ds:=x.du) f iX rfl (se _) hk
theorem Wh {x:aH} (f:ei h1 p (x.cells)) (iX:∀ A o,fU T s (.pointer (some ⟨A,o,none⟩)) 0=some (.pointer (some ⟨A,o+0,none⟩))) (hk:∀ q,ei h1 q ([.bool x.v])->K q (h1.lay bs w)):aD (fU T s p 0) (h1.lay bs w) K:=qZ (ds:=[.bool x.v]) f iX rfl (se _) hk
theorem MH {x:aH} (f:ei h1 p (x.cells)) (iX:∀ A o,fU T s (.pointer (some ⟨A,o,none⟩)) 1=some (.pointer (some ⟨A,o+1,none⟩))) (hk:∀ q,ei h1 q ([.string x.s])->K q (h1.lay bs w)):aD (fU T s p 1) (h1.lay bs w) K:=qZ (ds:=[.string x.s]) f iX rfl (se _) hk
theorem FH {x:cz} (f:ei h1 p (x.head.cells++[b])) (iX:∀ A o,fU T s (.pointer (some ⟨A,o,none⟩)) 0=some (.pointer (some ⟨A,o+0,none⟩))) (hk:∀ q,ei h1 q (x.head.cells)->K q (h1.lay bs w)):aD (fU T s p 0) (h1.lay bs w) K:=qZ (ds:=x.head.cells) f iX rfl (se _) hk
theorem FJ {x:cz} (f:ei h1 p (x.head.cells++[b])) (iX:∀ A o,fU T s (.pointer (some ⟨A,o,none⟩)) 1=some (.pointer (some ⟨A,o+11,none⟩))) (hk:∀ q,ei h1 q ([b])->K q (h1.lay bs w)):aD (fU T s p 1) (h1.lay bs w) K:=qZ (ds:=[b]) f iX rfl (se _) hk
theorem qY {x:aN} (f:ei h1 p (x.cells)) (iX:∀ A o,fU T s (.pointer (some ⟨A,o,none⟩)) 0=some (.pointer (some ⟨A,o+0,none⟩))) (hk:∀ q,ei h1 q ([.string x.var])->K q (h1.lay bs w)):aD (fU T s p 0) (h1.lay bs w) K:=qZ (ds:=[.string x.var]) f iX rfl (se _) hk
theorem xP {x:aN} (f:ei h1 p (x.cells)) (iX:∀ A o,fU T s (.pointer (some ⟨A,o,none⟩)) 1=some (.pointer (some ⟨A,o+1,none⟩))) (hk:∀ q,ei h1 q (x.term.cells)->K q (h1.lay bs w)):aD (fU T s p 1) (h1.lay bs w) K:=qZ (ds:=x.term.cells) f iX rfl (se _) hk
theorem ixg {x:ak} (f:ei h1 p x.du) (Tt:∀ A o ik i,jF T s (.pointer (some ⟨A,o,none⟩)) (.int ik i)=if 0<=i/\i < ((4:Nat):Int) then some (.pointer (some ⟨A,o+i.toNat*2,none⟩)) else none) (h0:0<=i) (hi:i < 4) (hk:∀ q,ei h1 q (x.arg i.toNat).cells->K q (h1.lay bs w)) :
 aD (jF T s p (.int kd i)) (h1.lay bs w) K:=by
 refine zzQ (m:=4) f Tt h0 (by omega) (bo 8) λq hq=>hk q ?_
 have:i=0\/i=1\/i=2\/i=3:=by omega
 rcases this with rfl|rfl|rfl|rfl <;> exact hq
end
theorem mL {Z:Type} {P:Z->Prop} {l:List Z} {i:Nat} {a:Z} (hx:l[i]? = some a) (aC:∀ x∈l.take i,P x) (ha:P a):∀ x∈l.take (i+1),P x:=by
 intro x hm
 rw [nT,hx] at hm
 simp only [Option.toList_some,oV,iq] at hm
 rcases hm with hm|rfl
 .exact aC x hm
 .exact ha
theorem Rl {a:ak} (h:a.aV=true) (k:Nat):(a.arg k).s.size<=300:=by
 simp only [ak.aV,dP,gY] at h
 obtain ⟨_,_,h0,h1,h2,h3⟩:=h
 match k with
 |0=>exact h0
 |1=>exact h1
 |2=>exact h2
 |k+3=>exact h3
theorem zhO {a:ak} (h:a.aV=true):a.says.size<=300/\a.pred.size<=300:=by
 simp only [ak.aV,dP,gY] at h
 exact ⟨h.1,h.2.1⟩
theorem zAN {a:ak} {u:TypeId} {ro:Bool} {w:Nat}:Sl aJ.atom (h.lay [.row a.cells u ro] w) (.slice (some ⟨h.size+0,0,none⟩) 1 1) [a]:=by
 refine .inr ⟨h.size+0,0,1,a.cells,u,ro,rfl,by simp [maxLen],.inl ⟨by decide,bo 1⟩,by rw [bf];simp,by rw [gH];rfl,λi x hx=>?_⟩
 cases i with
 |zero =>
  simp at hx
  subst hx
  exact ⟨a.cells,rfl,rfl⟩
 |succ i=>simp at hx
theorem uR {p:Prop} [Decidable p] {K:aG} (h1:¬ p->K (.bool true) h) (h2:p->K (.bool false) h):rY (!decide p) h K :=
 ⟨λhp=>h1 (by simpa using hp),λhp=>h2 (by simpa using hp)⟩
theorem zr {b:Bool} {K:aG} (h1:b=false->K (.bool true) h) (h2:b=true->K (.bool false) h):rY (!b) h K :=
 ⟨λhp=>h1 (by simpa using hp),λhp=>h2 (by simpa using hp)⟩
theorem tZ {b:Bool} {K:aG} (h1:b=true->K (.bool true) h) (h2:b=false->K (.bool false) h):rY b h K:=⟨h1,h2⟩
abbrev aW:=List ak
end Go.Am

/- Slices and pointers by what they hold. No condition. -/
import Derived.Test.YtmamldleclamjaaGreatDoorG9
set_option linter.unusedSimpArgs false
set_option linter.unusedVariables false
namespace Go.Am
variable {cs:List ah} {p:ah} {b:ba} {B m n o:Nat}
structure aK (Z:Type) where
 k:Nat
 R:Heap->List ah->Z->Prop
 len:∀ h cs x,R h cs x->cs.length=k
 mono:∀ h h' cs x,bH h h'->R h cs x->R h' cs x
 iu:∀ h cs x,R h cs x->cs.all one=true
def eI (h:Heap) (p:ah) (cs:List ah):Prop:=∃ A o row u ro,p=.pointer (some ⟨A,o,none⟩)/\A < h.size/\h.get A=some (.row row u ro)/\cut row o cs.length=some cs
def ZN (k n c:Nat):Prop:=(c < G/\n<=c)\/(G<=c/\c / G=k/\n<=c % G)
def Sl {Z:Type} (r:aK Z) (h:Heap) (v:ah) (l:List Z):Prop :=
 (v=.slice none 0 0/\l=[])\/∃ A o c row u ro,v=.slice (some ⟨A,o,none⟩) l.length c/\l.length<=maxLen/\ZN r.k l.length c/\A < h.size/\h.get A=some (.row row u ro) /\
  ∀ (i:Nat) (x:Z),l[i]? = some x->∃ cs,cut row (o+i*r.k) r.k=some cs/\r.R h cs x
theorem eI.mono {h h':Heap} (f:eI h p cs) (i:bH h h'):eI h' p cs:=by
 obtain ⟨A,o,row,u,ro,rfl,hA,hg,hc⟩:=f
 exact ⟨A,o,row,u,ro,rfl,dJ hA i.size,i.at hA hg,hc⟩
theorem eI.over {h1 h2:Heap} {l:List ba} {w:Nat} (f:eI h1 p cs) (x:Ext (h1.lay l w) h2):eI h2 p cs:=f.mono x.inc.kB
theorem Holds.mono {h h':Heap} {A:Nat} {u:TypeId} {ro:Bool} (hh:Holds h A (.row cs u ro)) (i:bH h h'):Holds h' A (.row cs u ro):=⟨dJ hh.lt i.size,i.at hh.lt hh.get⟩
theorem Holds.over {h1 h2:Heap} {A:Nat} {l:List ba} {w:Nat} (f:Holds h1 A b) (x:Ext (h1.lay l w) h2):Holds h2 A b:=⟨dJ f.lt x.inc.kB.size,(x.get A (by rw [bd];have:=f.lt;omega)).trans (f.lay l w)⟩
section
variable {Z:Type} {r:aK Z} {h h' h1 h2:Heap} {v:ah} {l:List Z}
theorem Sl.mono (f:Sl r h v l) (i:bH h h'):Sl r h' v l:=by
 rcases f with f|⟨A,o,c,row,u,ro,e1,e2,e3,e4,e5,e6⟩
 .exact .inl f
 .refine .inr ⟨A,o,c,row,u,ro,e1,e2,e3,dJ e4 i.size,i.at e4 e5,λj x hj=>?_⟩
  obtain ⟨cs,g1,g2⟩:=e6 j x hj
  exact ⟨cs,g1,r.mono _ _ _ _ i g2⟩
theorem Sl.over {bs:List ba} {w:Nat} (f:Sl r h1 v l) (x:Ext (h1.lay bs w) h2):Sl r h2 v l:=f.mono x.inc.kB
theorem Sl.lay (f:Sl r h v l) (bs:List ba) (w:Nat):Sl r (h.lay bs w) v l:=f.mono (bH.lay h bs w)
theorem Sl.le (f:Sl r h v l):l.length<=maxLen:=by
 rcases f with ⟨_,rfl⟩|⟨A,o,c,row,u,ro,e1,e2,_⟩
 .exact i6 _
 .exact e2
theorem Sl.nil:Sl r h (.slice none 0 0) []:=.inl ⟨rfl,rfl⟩
variable {P:Program} {T:bO} {ov:Ov} {K:aI} {t e:TypeId} {bs:List ba} {w:Nat}
theorem Sl.bn (f:Sl r h v l) (hd:T.desc t=some (.slice e)) (h2:Heap):bn T t v h2=some (.int .i64 l.length):=by
 rcases f with ⟨rfl,rfl⟩|⟨A,o,c,row,u,ro,rfl,_⟩
 .simp [Am.bn,hd]
 .simp [Am.bn,hd]
theorem Qe (f:Sl r h v l) (hd:T.desc t=some (.slice e)) (hk:K (.int .i64 l.length) h1):aH (Am.bn T t v h1) h1 K:=by rw [f.bn hd];exact hk
theorem BZ (f:Sl r h1 v l) (hd:T.desc t=some (.slice e)) (hs:di T e=some r.k) {kd:IntKind} {i:Int} (h0:0<=i) (hi:i < l.length) (hk:∀ x p cs,l[i.toNat]? = some x->r.R h1 cs x->eI h1 p cs->K p (h1.lay bs w)) :
 aH (kF T t v (.int kd i)) (h1.lay bs w) K:=by
 rcases f with ⟨rfl,rfl⟩|⟨A,o,c,row,u,ro,rfl,e2,e3,e4,e5,e6⟩
 .simp at hi;omega
 .have aW:i.toNat < l.length:=by omega
  obtain ⟨cs,g1,g2⟩:=e6 i.toNat l[i.toNat] (by simp [aW])
  unfold kF
  simp only [hd]
  rw [aB ⟨h0,hi⟩,hs]
  refine hk _ _ cs (by simp [aW]) g2 ⟨A,_,row,u,ro,rfl,e4,e5,?_⟩
  rw [r.len _ _ _ g2]
  exact g1
theorem Jx (f:eI h1 p cs) (hg:cO T t=some true) (hs:di T t=some n) (hn:cs.length=n) (hk:K (.agg ⟨cs⟩) (h1.lay bs w)):aH (ic T t p (h1.lay bs w)) (h1.lay bs w) K:=by
 obtain ⟨A,o,row,u,ro,rfl,hA,eT,hc⟩:=f
 unfold ic
 simp only [hg,hs,dX,if_true,iQ]
 rw [uo _ _ _ hA,eT]
 simp only
 rw [<- hn,hc]
 exact hk
theorem iY {x:ah} (f:eI h1 p [x]) (hg:cO T t=some false) (hk:K x (h1.lay bs w)):aH (ic T t p (h1.lay bs w)) (h1.lay bs w) K:=by
 obtain ⟨A,o,row,u,ro,rfl,hA,eT,hc⟩:=f
 unfold ic
 simp only [hg,dX,gB,if_false,iQ]
 rw [uo _ _ _ hA,eT]
 simp only
 rw [show (1:Nat)=[x].length from rfl,hc]
 exact hk
theorem zv7 {row:List ah} {off:Nat} (hc:cut row o cs.length=some cs) (hb:off+n<=cs.length):cut row (o+off) n=some ((cs.drop off).take n):=by
 unfold cut at hc ⊢
 split at hc
 .rename_i hle
  rw [aB (by omega)]
  simp only [eh] at hc ⊢
  rw [<- hc,List.drop_take,List.take_take,HF]
  congr 1
  omega
 .cases hc
theorem zBA {s i off:Nat} (n:Nat) (f:eI h1 p cs) (lH:∀ A o,jg T s (.pointer (some ⟨A,o,none⟩)) i=some (.pointer (some ⟨A,o+off,none⟩))) (hb:off+n<=cs.length) (hk:∀ q,eI h1 q ((cs.drop off).take n)->K q (h1.lay bs w)) :
 aH (jg T s p i) (h1.lay bs w) K:=by
 obtain ⟨A,o,row,u,ro,rfl,hA,eT,hc⟩:=f
 rw [lH]
 refine hk _ ⟨A,_,row,u,ro,rfl,hA,eT,?_⟩
 have hl:((cs.drop off).take n).length=n:=by rw [fw,jM];omega
 rw [hl]
 exact zv7 hc hb
theorem zy0 {s m z:Nat} {kd:IntKind} {i:Int} (f:eI h1 p cs) (RH:∀ A o ik i,kF T s (.pointer (some ⟨A,o,none⟩)) (.int ik i)=if 0<=i/\i < (m:Int) then some (.pointer (some ⟨A,o+i.toNat*z,none⟩)) else none) (h0:0<=i) (hi:i < m) (hb:m*z<=cs.length)
 (hk:∀ q,eI h1 q ((cs.drop (i.toNat*z)).take z)->K q (h1.lay bs w)):aH (kF T s p (.int kd i)) (h1.lay bs w) K:=by
 obtain ⟨A,o,row,u,ro,rfl,hA,eT,hc⟩:=f
 rw [RH,aB ⟨h0,hi⟩]
 have hle:i.toNat*z+z<=cs.length:=by
  calc i.toNat*z+z=(i.toNat+1)*z:=by rw [rF]
   _<=m*z:=qj _ (by omega)
   _<=cs.length:=hb
 refine hk _ ⟨A,_,row,u,ro,rfl,hA,eT,?_⟩
 have hl:((cs.drop (i.toNat*z)).take z).length=z:=by rw [fw,jM];omega
 rw [hl]
 exact zv7 hc hle
end
abbrev aK.str:aK au:={ k:=1,R:=λ_ cs x=>cs=[.string x],len:=by rintro _ _ _ rfl;rfl,mono:=λ_ _ _ _ _ h=>h,iu:=by rintro _ _ _ rfl;rfl }
abbrev aK.int:aK Int:={ k:=1,R:=λ_ cs x=>cs=[.int .i64 x],len:=by rintro _ _ _ rfl;rfl,mono:=λ_ _ _ _ _ h=>h,iu:=by rintro _ _ _ rfl;rfl }
abbrev aK.bool:aK Bool:={ k:=1,R:=λ_ cs x=>cs=[.bool x],len:=by rintro _ _ _ rfl;rfl,mono:=λ_ _ _ _ _ h=>h,iu:=by rintro _ _ _ rfl;rfl }
abbrev aK.sl {Z:Type} (a:aK Z):aK (List Z) :=
 { k:=1,R:=λh cs x=>∃ v,cs=[v]/\Sl a h v x,len:=by rintro h cs x ⟨v,rfl,_⟩;rfl
   mono:=by rintro h h' cs x i ⟨v,e,f⟩;exact ⟨v,e,f.mono i⟩
   iu:=by
    rintro h cs x ⟨v,rfl,f⟩
    rcases f with ⟨rfl,_⟩|⟨A,o,c,row,u,ro,rfl,_⟩ <;> rfl }

theorem Ext.ji {A:Nat} {h h':Heap} (x:Ext h h'):eX A h h':=⟨x.size,λB h1 _=>x.get B h1,by have:=x.low;omega⟩
theorem eX.trans {A:Nat} {a b c:Heap} (x:eX A a b) (y:eX A b c):eX A a c :=
 ⟨hY x.size y.size,λB h1 h2=>(y.get B (dJ h1 x.size) h2).trans (x.get B h1 h2),by have:=x.low;have:=y.low;have:=x.size;omega⟩
theorem Ext.step {A:Nat} {h h1 h2:Heap} (z:Ext h h1) (c:eX A h1 h2) (hA:h.size<=A):Ext h h2 :=
 ⟨hY z.size c.size,λB hB=>(c.get B (dJ hB z.size) (by omega)).trans (z.get B hB),by have:=z.low;have:=z.size;have:=c.low;omega⟩
theorem Ext.cw {A:Nat} {h h1 h2:Heap} {bs:List ba} {w:Nat} (z:Ext h h1) (c:eX A (h1.lay bs w) h2) (hA:h.size<=A) (hw:min h1.low h1.size<=w):Ext h h2:=(z.lk bs w hw).step c hA
theorem Holds.step {A:Nat} {h1 h2:Heap} (q:Holds h1 B b) (c:eX A h1 h2) (aS:B≠A):Holds h2 B b:=⟨dJ q.lt c.size,(c.get B q.lt aS).trans q.get⟩
theorem Holds.bK {A:Nat} {h1 h2:Heap} {bs:List ba} {w:Nat} (q:Holds h1 B b) (c:eX A (h1.lay bs w) h2) (aS:B≠A):Holds h2 B b:=(q.on bs w).step c aS
def Ow {Z:Type} (r:aK Z) (h0 h:Heap) (e:TypeId) (A:Nat) (v:ah) (l:List Z):Prop :=
 (h0.size<=A/\l=[]/\(v=.slice none 0 0\/∃ B o,v=.slice (some ⟨B,o,none⟩) 0 0/\h0.size<=B/\B < h.size/\∃ row u ro,h.get B=some (.row row u ro))) \/
 ∃ row,v=.slice (some ⟨A,0,none⟩) l.length (G*r.k+l.length)/\l≠[]/\h0.size<=A/\A < h.size/\h.get A=some (.row row e false)/\row.length=l.length*r.k/\l.length<=1152921504606846976 /\
   ∀ (i:Nat) (x:Z),l[i]? = some x->∃ cs,cut row (i*r.k) r.k=some cs/\r.R (h.set A .dead) cs x
theorem bH.kill {h h':Heap} {A:Nat} (i:bH h h') (hA:A < h.size):bH (h.set A .dead) (h'.set A .dead):=⟨i.size,λB hB hd=>by
 rw [Heap.aJ _ _ _ _ hA] at hd ⊢
 rw [Heap.aJ _ _ _ _ (dJ hA i.size)]
 split
 .rfl
 .rename_i aS
  rw [aA aS] at hd
  exact i.get B hB hd⟩
theorem bH.yQ {h:Heap} {A:Nat} (hA:A < h.size):bH (h.set A .dead) h:=⟨bo _,λB hB hd=>by
 rw [Heap.aJ _ _ _ _ hA] at hd ⊢
 split
 .rename_i he;rw [aB he] at hd;exact absurd rfl hd
 .rfl⟩
section
variable {Z:Type} {r:aK Z} {h0 h h' h1 h2:Heap} {v:ah} {l:List Z} {e:TypeId} {A:Nat}
theorem Ow.fresh (f:Ow r h0 h e A v l):h0.size<=A:=by
 rcases f with f|⟨_,_,_,h1,_⟩
 .exact f.1
 .exact h1
theorem Ow.mono (f:Ow r h0 h e A v l) (i:bH h h'):Ow r h0 h' e A v l:=by
 rcases f with ⟨f1,f2,f3⟩|⟨row,e1,e2,e3,e4,e5,e6,e7,e8⟩
 .refine .inl ⟨f1,f2,f3.imp id ?_⟩
  rintro ⟨B,o,g1,g0,g2,row,u,ro,g3⟩
  exact ⟨B,o,g1,g0,dJ g2 i.size,row,u,ro,i.at g2 g3⟩
 .refine .inr ⟨row,e1,e2,e3,dJ e4 i.size,i.at e4 e5,e6,e7,λj x hj=>?_⟩
  obtain ⟨cs,g1,g2⟩:=e8 j x hj
  exact ⟨cs,g1,r.mono _ _ _ _ (i.kill e4) g2⟩
theorem Ow.over {bs:List ba} {w:Nat} (f:Ow r h0 h1 e A v l) (x:Ext (h1.lay bs w) h2):Ow r h0 h2 e A v l:=f.mono x.inc.kB
theorem Ow.nil (hA:h0.size<=A):Ow r h0 h e A (.slice none 0 0) []:=.inl ⟨hA,rfl,.inl rfl⟩
theorem Ow.sl (hk:0 < r.k) (f:Ow r h0 h e A v l):Sl r h v l:=by
 rcases f with ⟨_,rfl,rfl|⟨B,o,rfl,_,g2,row,u,ro,g3⟩⟩|⟨row,e1,e2,e3,e4,e5,e6,e7,e8⟩
 .exact .nil
 .exact .inr ⟨B,o,0,row,u,ro,rfl,i6 _,.inl ⟨by unfold G;omega,bo _⟩,g2,g3,λi x hx=>by simp at hx⟩
 .obtain ⟨c1,c2,c3⟩:=B1 (k:=r.k) (q:=l.length) hk (by unfold G;omega)
  refine .inr ⟨A,0,_,row,e,false,e1,by unfold maxLen;omega,.inr ⟨by omega,c3,by omega⟩,e4,e5,λi x hx=>?_⟩
  obtain ⟨cs,g1,g2⟩:=e8 i x hx
  exact ⟨cs,by simpa using g1,r.mono _ _ _ _ (bH.yQ e4) g2⟩
end
section
variable {Z:Type} {r:aK Z} {h0 h1:Heap} {v x:ah} {l l2:List Z} {t e:TypeId} {A k bytes:Nat} {z:List ah} {T:bO} {bs:List ba} {w:Nat} {K:aI}
theorem zv6 {a b c:List ah} (hc:cut a o n=some c):cut (a++b) o n=some c:=by
 unfold cut at hc ⊢
 split at hc
 .rename_i hle
  rw [aB (by simp;omega)]
  rw [List.drop_append_of_le_length (by omega),List.take_append_of_le_length (by simp;omega)]
  exact hc
 .cases hc
theorem zr9 {a b c:List ah} (hc:cut b o n=some c):cut (a++b) (a.length+o) n=some c:=by
 unfold cut at hc ⊢
 split at hc
 .rename_i hle
  rw [aB (by simp;omega)]
  simp only [eh] at hc ⊢
  rw [<- hc,Qx,wW (by omega)]
  simp
 .cases hc
def Src (r:aK Z) (h:Heap) (m:Nat) (news:List ah) (l2:List Z):Prop :=
 l2.length=m/\news.length=m*r.k/\news.all one=true/\∀ (i:Nat) (y:Z),l2[i]? = some y->∃ cs,cut news (i*r.k) r.k=some cs/\r.R h cs y
def kill (A:Nat) (h:Heap):Heap:=if A < h.size then h.set A .dead else h
theorem r7 (A:Nat) (h:Heap):(kill A h).size=h.size:=by unfold kill;split <;> rfl
theorem I7 (A:Nat) (h:Heap):bH (kill A h) h:=by
 unfold kill
 split
 .rename_i hA;exact bH.yQ hA
 .exact bH.refl h
theorem uy {h:Heap} (hd:T.desc t=some (.slice e)) (hi:T.info e=some (k,bytes,z)) (Iq:r.k=k) (hk:0 < k) (hz:h0.size<=h.size) (f:Ow r h0 h e A v l) {news:List ah} (hs:fN x k h=some (m,news)) (mI:Src r (kill A h) m news l2)
 (hb:(l.length+m)*bytes<=140737488355328) (hl:l.length+m<=1152921504606846976) :
 ∃ v' h' A',iy T t v x h=some (v',h')/\Ow r h0 h' e A' v' (l++l2)/\eX A h h'/\(A'=A\/A'=h.size)/\h0.size<=A':=by
 subst Iq
 obtain ⟨hm,MS,h1,FX⟩:=mI
 by_cases vj:m=0
 .subst vj
  have:l2=[]:=Ai.1 hm
  subst this
  refine ⟨v,h,A,?_,by rw [bG];exact f,(Ext.refl h).ji,.inl rfl,f.fresh⟩
  unfold iy
  simp only [hd,hi,hs,dX]
  rcases f with ⟨_,_,rfl|⟨B,o,rfl,_⟩⟩|⟨row,rfl,_⟩ <;> simp
 .have ym:∀ (h2:Heap) (pX:List ah),h2.size=h.size->(∀ B,B < h.size->B≠A->h2.get B=h.get B)->min (min h.low h.size) A<=h2.low ->
   (∀ (i:Nat) (y:Z),(l++l2)[i]? = some y->∃ cs,cut pX (i*r.k) r.k=some cs/\r.R h2 cs y)->pX.length=(l.length+m)*r.k ->
   Ow r h0 (h2.push (.row pX e false)) e h.size (.slice (some ⟨h.size,0,none⟩) (l.length+m) (G*r.k+(l.length+m))) (l++l2)/\eX A h (h2.push (.row pX e false)):=by
   intro h2 pX e1 e2 e3 e4 e5
   have Bc:bH h2 ((h2.push (.row pX e false)).set h.size .dead):=⟨by rw [Heap.size_set,Heap.size_push];omega,λB hB _=>by
    rw [Heap.aJ _ _ _ _ (by rw [Heap.size_push];omega),aA (by omega),Heap.bC,aA (by omega)]⟩
   refine ⟨.inr ⟨pX,by rw [dI,hm],λhh=>?_,hz,?_,?_,by rw [dI,hm];exact e5,by rw [dI,hm];exact hl,λi y hy=>?_⟩,?_,?_,?_⟩
   .have:=congrArg List.length hh
    rw [dI,hm] at this
    simp at this
    omega
   .rw [Heap.size_push,e1];omega
   .rw [Heap.bC,aB e1.symm]
   .obtain ⟨cs,c1,c2⟩:=e4 i y hy
    exact ⟨cs,c1,r.mono _ _ _ _ Bc c2⟩
   .rw [Heap.size_push,e1];omega
   .intro B hB aS
    rw [Heap.bC,aA (by omega)]
    exact e2 B hB aS
   .rw [Heap.dB];exact e3
  rcases f with ⟨f1,rfl,f3⟩|⟨row,rfl,e2,e3,e4,e5,e6,e7,e8⟩
  .-- to nothing
   have key:iy T t v x h=some (.slice (some ⟨h.size,0,none⟩) m (G*r.k+m),h.push (.row news e false)):=by
    rcases f3 with rfl|⟨B,o,rfl,_,g1,row,u,ro,g2⟩
    .exact zvC hd hi hk hs (by omega) h1 (by simpa using hb) (by simpa using hl)
    .unfold iy
     simp only [hd,hi,hs,dX]
     rw [aA (by omega),aA,aA]
     .have hG:0 < G:=by unfold G;omega
      simp [ma,hG]
     .have:0 % G=0:=Nat.zero_mod _
      omega
     .simp only [su,jl,DT,h1,not_or]
      simp only [dK] at hb hl
      refine ⟨⟨⟨by omega,by omega⟩,by omega⟩,by simp⟩
   obtain ⟨a,b⟩:=ym h news rfl (λ_ _ _=>rfl) (by omega) (λi y hy=>by
    obtain ⟨cs,c1,c2⟩:=FX i y (by simpa using hy)
    exact ⟨cs,c1,r.mono _ _ _ _ (I7 A h) c2⟩) (by simpa using MS)
   refine ⟨_,_,h.size,key,?_,b,.inr rfl,hz⟩
   simpa using a
  .obtain ⟨c1,c2,c3⟩:=B1 (k:=r.k) (q:=l.length) hk (by unfold G;omega)
   have hlp:0 < l.length:=List.length_pos_iff.2 e2
   have key:=zyy (t:=t) (x:=x) hd hi hk e5 e6 hlp hs (by omega) h1 hb hl
   have iL:∀ B,B < h.size->B≠A->(h.set A .dead).get B=h.get B:=λB hB aS=>by rw [Heap.aJ _ _ _ _ e4,aA aS]
   have MF:kill A h=h.set A .dead:=aB e4
   rw [MF] at FX
   obtain ⟨a,b⟩:=ym (h.set A .dead) (row++news) rfl iL (by rw [Heap.cd];omega) (λi y hy=>by
    by_cases hi:i < l.length
    .rw [nz hi] at hy
     obtain ⟨cs,g1,g2⟩:=e8 i y hy
     exact ⟨cs,zv6 g1,g2⟩
    .rw [qC (by omega)] at hy
     obtain ⟨cs,g1,g2⟩:=FX _ y hy
     refine ⟨cs,?_,g2⟩
     have:=zr9 (a:=row) g1
     rwa [e6,<- tH,show l.length+(i - l.length)=i by omega] at this) (by rw [dI,e6,MS,tH])
   exact ⟨_,_,h.size,key,a,b,.inr rfl,hz⟩
theorem Ow.kill {h:Heap} {C:Nat} (gg:∀ h h' cs x,r.R h cs x->r.R h' cs x) (f:Ow r h0 h e A v l) (hC:C < h0.size):Ow r h0 (kill C h) e A v l:=by
 have get:∀ B,h0.size<=B->(Am.kill C h).get B=h.get B:=by
  intro B hB
  unfold Am.kill
  split
  .rename_i hh
   rw [Heap.aJ _ _ _ _ hh,aA (by omega)]
  .rfl
 rcases f with ⟨f1,f2,f3⟩|⟨row,e1,e2,e3,e4,e5,e6,e7,e8⟩
 .refine .inl ⟨f1,f2,f3.imp id ?_⟩
  rintro ⟨B,o,g1,g0,g2,row,u,ro,g3⟩
  exact ⟨B,o,g1,g0,by rw [r7];exact g2,row,u,ro,(get B g0).trans g3⟩
 .refine .inr ⟨row,e1,e2,e3,by rw [r7];exact e4,(get A e3).trans e5,e6,e7,λi x hx=>?_⟩
  obtain ⟨cs,g1,g2⟩:=e8 i x hx
  exact ⟨cs,g1,gg _ _ _ _ g2⟩
theorem G9 (hd:T.desc t=some (.slice e)) (hi:T.info e=some (k,bytes,z)) (Iq:r.k=k) (hk:0 < k) (hz:h0.size<=h1.size) (f:Ow r h0 h1 e A v l) {news:List ah} (hs:fN x k (h1.lay bs w)=some (m,news)) (mI:Src r (kill A (h1.lay bs w)) m news l2)
 (hb:(l.length+m)*bytes<=140737488355328) (hl:l.length+m<=1152921504606846976) (hK:∀ v' h' A',Ow r h0 h' e A' v' (l++l2)->eX A (h1.lay bs w) h'->(A'=A\/h1.size<=A')->K v' h'):dw (iy T t v x (h1.lay bs w)) K:=by
 obtain ⟨v',h',A',g1,g2,g3,g4,g5⟩:=uy hd hi Iq hk (by rw [bd];omega) (f.mono (bH.lay h1 bs w)) hs mI hb hl
 rw [g1]
 refine hK v' h' A' g2 g3 (g4.imp id ?_)
 rintro rfl
 rw [bd]
 omega
theorem Jc {h:Heap} {c:Nat} {u:TypeId} {ro:Bool} {y:Z} (hk:0 < r.k) (hg:h.get B=some (.row cs u ro)) (hr:r.R (kill A h) cs y):fN (.slice (some ⟨B,0,none⟩) 1 c) r.k h=some (1,cs)/\Src r (kill A h) 1 cs [y]:=by
 have hl:=r.len _ _ _ hr
 refine ⟨?_,rfl,by rw [hl];omega,r.iu _ _ _ hr,λi y' hy=>?_⟩
 .have hc:cut cs 0 r.k=some cs:=by
   unfold cut
   rw [aB (by omega),<- hl]
   simp
  simp only [fN,ma,Nat.one_mul]
  rw [aA (by omega)]
  simp only [iQ,hg,hc,j2]
 .cases i with
  |zero =>
   simp at hy
   subst hy
   refine ⟨cs,?_,hr⟩
   unfold cut
   rw [aB (by omega),<- hl]
   simp
  |succ i=>simp at hy
theorem vT {h:Heap} (hk:0 < r.k) (f:Sl r h x l2) (hf:∀ cs y,r.R h cs y->r.R (kill A h) cs y):∃ news,fN x r.k h=some (l2.length,news)/\Src r (kill A h) l2.length news l2:=by
 rcases f with ⟨rfl,rfl⟩|⟨B,o,c,row,u,ro,rfl,e2,e3,e4,e5,e6⟩
 .exact ⟨[],rfl,rfl,by simp,rfl,λi y hy=>by simp at hy⟩
 .by_cases h0:l2.length=0
  .have:l2=[]:=Ai.1 h0
   subst this
   exact ⟨[],by simp [fN,ma],rfl,by simp,rfl,λi y hy=>by simp at hy⟩
  .have hle:o+l2.length*r.k<=row.length:=by
    obtain ⟨cs,g1,_⟩:=e6 (l2.length - 1) (l2[l2.length - 1]'(by omega)) (by simp)
    unfold cut at g1
    split at g1
    .rename_i hh
     have:(l2.length - 1)*r.k+r.k=l2.length*r.k:=by rw [<- rF];congr 1;omega
     omega
    .cases g1
   have k6:0 < l2.length*r.k:=Nat.mul_pos (by omega) hk
   refine ⟨(row.drop o).take (l2.length*r.k),?_,rfl,by rw [fw,jM];omega,?_,λi y hy=>?_⟩
   .simp only [fN,ma]
    rw [aA (by omega)]
    simp only [iQ,e5,cut,aB hle,j2]
   .rw [jh]
    intro v hv
    obtain ⟨j,hj,rfl⟩:=Qt hv
    rw [fw,jM] at hj
    have Bd:j / r.k < l2.length:=Nat.div_lt_of_lt_mul (by rw [zl];omega)
    obtain ⟨cs,g1,g2⟩:=e6 (j / r.k) (l2[j / r.k]) (by simp [Bd])
    have g3:=jh.1 (r.iu _ _ _ g2)
    apply g3
    unfold cut at g1
    split at g1
    .simp only [eh] at g1
     rw [<- g1]
     refine fW (i:=j % r.k) ?_
     have FJ:=D4 j hk
     rw [Jk FJ,kL,List.getElem_take,List.getElem_drop]
     have hdm:=Nat.div_add_mod j r.k
     rw [zl] at hdm
     rw [show o+j / r.k*r.k+j % r.k=o+j by omega]
     exact ie _
    .cases g1
   .obtain ⟨cs,g1,g2⟩:=e6 i y hy
    refine ⟨cs,?_,hf _ _ g2⟩
    have hi:=(dH.1 hy).1
    have aP:(i+1)*r.k<=l2.length*r.k:=qj _ (by omega)
    rw [rF] at aP
    unfold cut at g1 ⊢
    split at g1
    .rw [aB (by rw [fw,jM];omega)]
     simp only [eh] at g1 ⊢
     rw [<- g1,List.drop_take,HF,List.take_take]
     congr 1
     omega
    .cases g1
end
end Go.Am
namespace Go.Am
variable {b:ah} {h:Heap}
structure aZ where
 v:Bool
 s:au
 deriving DecidableEq
structure aj where
 says:au
 pred:au
 n:Int
 t0:aZ
 t1:aZ
 t2:aZ
 t3:aZ
 deriving DecidableEq
def aZ.cells (t:aZ):List ah:=[.bool t.v,.string t.s]
def aZ.val (t:aZ):ah:=.agg ⟨t.cells⟩
def aj.cells (a:aj):List ah:=[.string a.says,.string a.pred,.int .i64 a.n,.bool a.t0.v,.string a.t0.s,.bool a.t1.v,.string a.t1.s,.bool a.t2.v,.string a.t2.s,.bool a.t3.v,.string a.t3.s]
def aj.val (a:aj):ah:=.agg ⟨a.cells⟩
def aj.arg (a:aj):Nat->aZ
 |0=>a.t0
 |1=>a.t1
 |2=>a.t2
 |_=>a.t3
def aj.bQ (a:aj):Nat:=min a.n.toNat 4
def aj.args (a:aj):List aZ:=[a.t0,a.t1,a.t2,a.t3].take a.bQ
def aj.all (a:aj):List aZ:=[a.t0,a.t1,a.t2,a.t3]
def cf:aZ:=⟨false,⟨#[]⟩⟩
def ae:aj:=⟨⟨#[]⟩,⟨#[]⟩,0,cf,cf,cf,cf⟩
def aj.aY (a:aj):Bool:=decide (a.says.size<=300) && (decide (a.pred.size<=300) && (decide (a.t0.s.size<=300) && (decide (a.t1.s.size<=300) && (decide (a.t2.s.size<=300) && decide (a.t3.s.size<=300)))))
structure bw where
 head:aj
 body:List aj
 deriving DecidableEq
structure gJ where
 atom:aj
 clause:Int
 body:List aj
 deriving DecidableEq
structure bp where
 var:au
 term:aZ
 deriving DecidableEq
def bp.cells (b:bp):List ah:=[.string b.var,.bool b.term.v,.string b.term.s]
def bp.val (b:bp):ah:=.agg ⟨b.cells⟩
abbrev aK.atom:aK aj:={ k:=11,R:=λ_ cs x=>cs=x.cells,len:=by rintro _ _ _ rfl;rfl,mono:=λ_ _ _ _ _ h=>h,iu:=by rintro _ _ _ rfl;rfl }
abbrev aK.term:aK aZ:={ k:=2,R:=λ_ cs x=>cs=x.cells,len:=by rintro _ _ _ rfl;rfl,mono:=λ_ _ _ _ _ h=>h,iu:=by rintro _ _ _ rfl;rfl }
abbrev aK.bind:aK bp:={ k:=3,R:=λ_ cs x=>cs=x.cells,len:=by rintro _ _ _ rfl;rfl,mono:=λ_ _ _ _ _ h=>h,iu:=by rintro _ _ _ rfl;rfl }
theorem Sl.one {Z:Type} {r:aK Z} {h:Heap} {v:ah} {l:List Z} (f:Sl r h v l):one v=true:=by
 rcases f with ⟨rfl,_⟩|⟨A,o,c,row,u,ro,rfl,_⟩ <;> rfl
abbrev aK.clause:aK bw :=
 { k:=12,R:=λh cs x=>∃ v,cs=x.head.cells++[v]/\Sl aK.atom h v x.body
   len:=by rintro h cs x ⟨v,rfl,_⟩;rfl
   mono:=by rintro h h' cs x i ⟨v,e,f⟩;exact ⟨v,e,f.mono i⟩
   iu:=by rintro h cs x ⟨v,rfl,f⟩;have:=f.one;simp only [List.all_append,aj.cells,nC,po,this];rfl }
abbrev aK.reason:aK gJ :=
 { k:=13,R:=λh cs x=>∃ v,cs=x.atom.cells++[.int .i64 x.clause,v]/\Sl aK.atom h v x.body
   len:=by rintro h cs x ⟨v,rfl,_⟩;rfl
   mono:=by rintro h h' cs x i ⟨v,e,f⟩;exact ⟨v,e,f.mono i⟩
   iu:=by rintro h cs x ⟨v,rfl,f⟩;have:=f.one;simp only [List.all_append,aj.cells,nC,po,this];rfl }
theorem Hn {a b:au} (h:a.data.toList=b.data.toList):a=b:=by
 obtain ⟨⟨a⟩⟩:=a
 obtain ⟨⟨b⟩⟩:=b
 simp at h
 rw [h]
theorem zvJ (a b:au):(a.data.toList == b.data.toList)=decide (a=b):=by
 by_cases h:a=b
 .subst h;simp
 .have:¬ a.data.toList=b.data.toList:=λhh=>h (Hn hh)
  rw [oL h]
  exact beq_eq_false_iff_ne.2 this
def uI (b:Bool) (r:Option Bool):Option Bool:=(some b).bind λc=>if c then r else some false
theorem PF (b c:Bool):uI b (some c)=some (b && c):=by cases b <;> rfl
def uR (x y:aZ):Option Bool:=uI (x.v == y.v) (uI (x.s.data.toList == y.s.data.toList) (some true))
theorem zmP (x y:aZ):uR x y=some (decide (x=y)):=by
 obtain ⟨v,s⟩:=x
 obtain ⟨w,t⟩:=y
 unfold uR
 rw [PF,PF,zvJ]
 simp only [aZ.mk.injEq,Bool.and_true]
 by_cases h1:v=w <;> by_cases h2:s=t <;> simp [h1,h2]
def Rk (a b:aj):Option Bool:=uI (a.says.data.toList == b.says.data.toList) (uI (a.pred.data.toList == b.pred.data.toList) (uI (a.n == b.n)
 (((uR a.t0 b.t0).bind λc=>if c=true then ((uR a.t1 b.t1).bind λc=>if c=true then ((uR a.t2 b.t2).bind λc=>if c=true then ((uR a.t3 b.t3).bind λc=>if c=true then some true else some false) else some false) else some false) else some false).bind λc=>if c=true then some true else some false)))
theorem zse (a b:aj):Rk a b=some (decide (a=b)):=by
 obtain ⟨s,p,n,x0,x1,x2,x3⟩:=a
 obtain ⟨s',p',n',y0,y1,y2,y3⟩:=b
 unfold Rk
 simp only [zmP,dX]
 simp only [aj.mk.injEq]
 have key:(if decide (x0=y0)=true then (if decide (x1=y1)=true then (if decide (x2=y2)=true then (if decide (x3=y3)=true then some true else some false) else some false) else some false) else some false)=some (decide (x0=y0/\x1=y1/\x2=y2/\x3=y3)):=by
  by_cases h0:x0=y0 <;> by_cases h1:x1=y1 <;> by_cases h2:x2=y2 <;> by_cases h3:x3=y3 <;> simp [h0,h1,h2,h3]
 rw [key,dX]
 have k2:∀ c:Bool,(if c=true then some true else some false)=some c:=by intro c;cases c <;> rfl
 rw [k2,PF,PF,PF,zvJ,zvJ]
 congr 1
 by_cases h1:s=s' <;> by_cases h2:p=p' <;> by_cases h3:n=n' <;> simp [h1,h2,h3]
def aj.mT (a:aj):List ah:=[.bool a.t0.v,.string a.t0.s,.bool a.t1.v,.string a.t1.s,.bool a.t2.v,.string a.t2.s,.bool a.t3.v,.string a.t3.s]
section
variable {h1:Heap} {bs:List ba} {w:Nat} {T:bO} {K:aI} {t e s:TypeId} {v p:ah} {kd:IntKind} {i:Int}
theorem YU {l:List aj} (f:Sl aK.atom h1 v l) (hd:T.desc t=some (.slice e)) (hs:di T e=some 11) (h0:0<=i) (hi:i < l.length) (hk:∀ x p,l[i.toNat]? = some x->eI h1 p x.cells->K p (h1.lay bs w)):aH (kF T t v (.int kd i)) (h1.lay bs w) K :=
 BZ f hd hs h0 hi λx p cs hx hr hp=>hk x p hx (hr ▸ hp)
theorem ixt {l:List aZ} (f:Sl aK.term h1 v l) (hd:T.desc t=some (.slice e)) (hs:di T e=some 2) (h0:0<=i) (hi:i < l.length) (hk:∀ x p,l[i.toNat]? = some x->eI h1 p x.cells->K p (h1.lay bs w)):aH (kF T t v (.int kd i)) (h1.lay bs w) K :=
 BZ f hd hs h0 hi λx p cs hx hr hp=>hk x p hx (hr ▸ hp)
theorem ixs {l:List au} (f:Sl aK.str h1 v l) (hd:T.desc t=some (.slice e)) (hs:di T e=some 1) (h0:0<=i) (hi:i < l.length) (hk:∀ x p,l[i.toNat]? = some x->eI h1 p [.string x]->K p (h1.lay bs w)):aH (kF T t v (.int kd i)) (h1.lay bs w) K :=
 BZ f hd hs h0 hi λx p cs hx hr hp=>hk x p hx (hr ▸ hp)
theorem ixc {l:List bw} (f:Sl aK.clause h1 v l) (hd:T.desc t=some (.slice e)) (hs:di T e=some 12) (h0:0<=i) (hi:i < l.length) (hk:∀ x p b,l[i.toNat]? = some x->Sl aK.atom h1 b x.body->eI h1 p (x.head.cells++[b])->K p (h1.lay bs w)):aH (kF T t v (.int kd i)) (h1.lay bs w) K :=
 BZ f hd hs h0 hi λx p cs hx ⟨b,hr,hb⟩ hp=>hk x p b hx hb (hr ▸ hp)
theorem mw {x:aj} (f:eI h1 p x.cells) (hg:cO T t=some true) (hs:di T t=some 11) (hk:K x.val (h1.lay bs w)):aH (ic T t p (h1.lay bs w)) (h1.lay bs w) K:=Jx f hg hs rfl hk
theorem Ix {x:aZ} (f:eI h1 p x.cells) (hg:cO T t=some true) (hs:di T t=some 2) (hk:K x.val (h1.lay bs w)):aH (ic T t p (h1.lay bs w)) (h1.lay bs w) K:=Jx f hg hs rfl hk
theorem ldc {x:bw} (f:eI h1 p (x.head.cells++[b])) (hg:cO T t=some true) (hs:di T t=some 12) (hk:K (.agg ⟨x.head.cells++[b]⟩) (h1.lay bs w)):aH (ic T t p (h1.lay bs w)) (h1.lay bs w) K:=Jx f hg hs rfl hk
theorem xv {cs ds:List ah} {j off:Nat} (f:eI h1 p cs) (lH:∀ A o,jg T s (.pointer (some ⟨A,o,none⟩)) j=some (.pointer (some ⟨A,o+off,none⟩))) (he:(cs.drop off).take ds.length=ds) (hz:0 < ds.length) (hk:∀ q,eI h1 q ds->K q (h1.lay bs w)):aH (jg T s p j) (h1.lay bs w) K:=by
 have hb:off+ds.length<=cs.length:=by
  have:=congrArg List.length he
  rw [fw,jM] at this
  omega
 refine zBA ds.length f lH hb λq hq=>hk q ?_
 rw [he] at hq
 exact hq
theorem U7 {x:aj} (f:eI h1 p (x.cells)) (lH:∀ A o,jg T s (.pointer (some ⟨A,o,none⟩)) 2=some (.pointer (some ⟨A,o+2,none⟩))) (hk:∀ q,eI h1 q ([.int .i64 x.n])->K q (h1.lay bs w)):aH (jg T s p 2) (h1.lay bs w) K:=xv (ds:=[.int .i64 x.n]) f lH rfl (zm _) hk
theorem U8 {x:aj} (f:eI h1 p (x.cells)) (lH:∀ A o,jg T s (.pointer (some ⟨A,o,none⟩)) 3=some (.pointer (some ⟨A,o+3,none⟩))) (hk:∀ q,eI h1 q (x.mT)->K q (h1.lay bs w)):aH (jg T s p 3) (h1.lay bs w) K:=xv (ds:=x.mT) f lH rfl (zm _) hk
theorem EK {x:bw} (f:eI h1 p (x.head.cells++[b])) (lH:∀ A o,jg T s (.pointer (some ⟨A,o,none⟩)) 0=some (.pointer (some ⟨A,o+0,none⟩))) (hk:∀ q,eI h1 q (x.head.cells)->K q (h1.lay bs w)):aH (jg T s p 0) (h1.lay bs w) K:=xv (ds:=x.head.cells) f lH rfl (zm _) hk
theorem EL {x:bw} (f:eI h1 p (x.head.cells++[b])) (lH:∀ A o,jg T s (.pointer (some ⟨A,o,none⟩)) 1=some (.pointer (some ⟨A,o+11,none⟩))) (hk:∀ q,eI h1 q ([b])->K q (h1.lay bs w)):aH (jg T s p 1) (h1.lay bs w) K:=xv (ds:=[b]) f lH rfl (zm _) hk
theorem ixg {x:aj} (f:eI h1 p x.mT) (RH:∀ A o ik i,kF T s (.pointer (some ⟨A,o,none⟩)) (.int ik i)=if 0<=i/\i < ((4:Nat):Int) then some (.pointer (some ⟨A,o+i.toNat*2,none⟩)) else none) (h0:0<=i) (hi:i < 4) (hk:∀ q,eI h1 q (x.arg i.toNat).cells->K q (h1.lay bs w)) :
 aH (kF T s p (.int kd i)) (h1.lay bs w) K:=by
 refine zy0 (m:=4) f RH h0 (by omega) (bo 8) λq hq=>hk q ?_
 have:i=0\/i=1\/i=2\/i=3:=by omega
 rcases this with rfl|rfl|rfl|rfl <;> exact hq
end
theorem oE {Z:Type} {P:Z->Prop} {l:List Z} {i:Nat} {a:Z} (hx:l[i]? = some a) (aE:∀ x∈l.take i,P x) (ha:P a):∀ x∈l.take (i+1),P x:=by
 intro x hm
 rw [nS,hx] at hm
 simp only [Option.toList_some,iA,fH] at hm
 rcases hm with hm|rfl
 .exact aE x hm
 .exact ha
theorem PO {a:aj} (h:a.aY=true) (k:Nat):(a.arg k).s.size<=300:=by
 simp only [aj.aY,eo,jl] at h
 obtain ⟨_,_,h0,h1,h2,h3⟩:=h
 match k with
 |0=>exact h0
 |1=>exact h1
 |2=>exact h2
 |k+3=>exact h3
theorem zhu {a:aj} (h:a.aY=true):a.says.size<=300/\a.pred.size<=300:=by
 simp only [aj.aY,eo,jl] at h
 exact ⟨h.1,h.2.1⟩
theorem zzO {a:aj} {u:TypeId} {ro:Bool} {w:Nat}:Sl aK.atom (h.lay [.row a.cells u ro] w) (.slice (some ⟨h.size+0,0,none⟩) 1 1) [a]:=by
 refine .inr ⟨h.size+0,0,1,a.cells,u,ro,rfl,by simp [maxLen],.inl ⟨by decide,bo 1⟩,by rw [bd];simp,by rw [iB];rfl,λi x hx=>?_⟩
 cases i with
 |zero =>
  simp at hx
  subst hx
  exact ⟨a.cells,rfl,rfl⟩
 |succ i=>simp at hx
theorem Hk {p:Prop} [Decidable p] {K:aI} (h1:¬ p->K (.bool true) h) (h2:p->K (.bool false) h):sj (!decide p) h K :=
 ⟨λhp=>h1 (by simpa using hp),λhp=>h2 (by simpa using hp)⟩
theorem zqT {b:Bool} {K:aI} (h1:b=false->K (.bool true) h) (h2:b=true->K (.bool false) h):sj (!b) h K :=
 ⟨λhp=>h1 (by simpa using hp),λhp=>h2 (by simpa using hp)⟩
theorem T5 {b:Bool} {K:aI} (h1:b=true->K (.bool true) h) (h2:b=false->K (.bool false) h):sj b h K:=⟨h1,h2⟩
abbrev aN:=List aj
end Go.Am

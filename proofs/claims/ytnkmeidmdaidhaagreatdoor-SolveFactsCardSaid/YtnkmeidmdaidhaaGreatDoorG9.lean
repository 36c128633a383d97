/- Slices and pointers by what they hold. No condition. -/
import Derived.Test.YtnkmeidmdaidhaaGreatDoorG8
set_option linter.unusedSimpArgs false
set_option linter.unusedVariables false
namespace Go.Am
variable {cs:List ai} {p:ai} {n o:Nat}
structure aC (Z:Type) where
 k:Nat
 R:Heap->List ai->Z->Prop
 len:∀ h cs x,R h cs x->cs.length=k
 mono:∀ h h' cs x,bN h h'->R h cs x->R h' cs x
 gu:∀ h cs x,R h cs x->cs.all one=true
def gy (h:Heap) (p:ai) (cs:List ai):Prop:=∃ A o row u ro,p=.pointer (some ⟨A,o,none⟩)/\A < h.size/\h.get A=some (.row row u ro)/\cut row o cs.length=some cs
def QW (k n c:Nat):Prop:=(c < G/\n<=c)\/(G<=c/\c / G=k/\n<=c % G)
def Sl {Z:Type} (r:aC Z) (h:Heap) (v:ai) (l:List Z):Prop :=
 (v=.slice none 0 0/\l=[])\/∃ A o c row u ro,v=.slice (some ⟨A,o,none⟩) l.length c/\l.length<=maxLen/\QW r.k l.length c/\A < h.size/\h.get A=some (.row row u ro) /\
  ∀ (i:Nat) (x:Z),l[i]? = some x->∃ cs,cut row (o+i*r.k) r.k=some cs/\r.R h cs x
theorem gy.mono {h h':Heap} (f:gy h p cs) (i:bN h h'):gy h' p cs:=by
 obtain ⟨A,o,row,u,ro,rfl,hA,hg,hc⟩:=f
 exact ⟨A,o,row,u,ro,rfl,dr hA i.size,i.at hA hg,hc⟩
theorem gy.over {h1 h2:Heap} {l:List aZ} {w:Nat} (f:gy h1 p cs) (x:Ext (h1.lay l w) h2):gy h2 p cs:=f.mono x.inc.mK
theorem Holds.mono {h h':Heap} {A:Nat} {u:TypeId} {ro:Bool} (hh:Holds h A (.row cs u ro)) (i:bN h h'):Holds h' A (.row cs u ro):=⟨dr hh.lt i.size,i.at hh.lt hh.get⟩
theorem Holds.over {h1 h2:Heap} {A:Nat} {b:aZ} {l:List aZ} {w:Nat} (f:Holds h1 A b) (x:Ext (h1.lay l w) h2):Holds h2 A b:=⟨dr f.lt x.inc.mK.size,(x.get A (by rw [bh];have:=f.lt;omega)).trans (f.lay l w)⟩
section
variable {Z:Type} {r:aC Z} {h h' h1 h2:Heap} {v:ai} {l:List Z}
theorem Sl.mono (f:Sl r h v l) (i:bN h h'):Sl r h' v l:=by
 rcases f with f|⟨A,o,c,row,u,ro,e1,e2,e3,e4,e5,e6⟩
 .exact .inl f
 .refine .inr ⟨A,o,c,row,u,ro,e1,e2,e3,dr e4 i.size,i.at e4 e5,λj x hj=>?_⟩
  obtain ⟨cs,g1,g2⟩:=e6 j x hj
  exact ⟨cs,g1,r.mono _ _ _ _ i g2⟩
theorem Sl.over {bs:List aZ} {w:Nat} (f:Sl r h1 v l) (x:Ext (h1.lay bs w) h2):Sl r h2 v l:=f.mono x.inc.mK
theorem Sl.lay (f:Sl r h v l) (bs:List aZ) (w:Nat):Sl r (h.lay bs w) v l:=f.mono (bN.lay h bs w)
theorem Sl.le (f:Sl r h v l):l.length<=maxLen:=by
 rcases f with ⟨_,rfl⟩|⟨A,o,c,row,u,ro,e1,e2,_⟩
 .exact iN _
 .exact e2
theorem Sl.nil:Sl r h (.slice none 0 0) []:=.inl ⟨rfl,rfl⟩
variable {P:Program} {T:bJ} {ov:Ov} {K:aJ} {t e:TypeId} {bs:List aZ} {w:Nat}
theorem Sl.bQ (f:Sl r h v l) (hd:T.desc t=some (.slice e)) (h2:Heap):bQ T t v h2=some (.int .i64 l.length):=by
 rcases f with ⟨rfl,rfl⟩|⟨A,o,c,row,u,ro,rfl,_⟩
 .simp [Am.bQ,hd]
 .simp [Am.bQ,hd]
theorem q9 (f:Sl r h v l) (hd:T.desc t=some (.slice e)) (hk:K (.int .i64 l.length) h1):aK (Am.bQ T t v h1) h1 K:=by rw [f.bQ hd];exact hk
theorem C4 (f:Sl r h1 v l) (hd:T.desc t=some (.slice e)) (hs:dJ T e=some r.k) {kd:IntKind} {i:Int} (h0:0<=i) (hi:i < l.length) (hk:∀ x p cs,l[i.toNat]? = some x->r.R h1 cs x->gy h1 p cs->K p (h1.lay bs w)) :
 aK (kC T t v (.int kd i)) (h1.lay bs w) K:=by
 rcases f with ⟨rfl,rfl⟩|⟨A,o,c,row,u,ro,rfl,e2,e3,e4,e5,e6⟩
 .simp at hi;omega
 .have aT:i.toNat < l.length:=by omega
  obtain ⟨cs,g1,g2⟩:=e6 i.toNat l[i.toNat] (by simp [aT])
  unfold kC
  simp only [hd]
  rw [aD ⟨h0,hi⟩,hs]
  refine hk _ _ cs (by simp [aT]) g2 ⟨A,_,row,u,ro,rfl,e4,e5,?_⟩
  rw [r.len _ _ _ g2]
  exact g1
theorem QU (f:gy h1 p cs) (hg:dA T t=some true) (hs:dJ T t=some n) (hn:cs.length=n) (hk:K (.agg ⟨cs⟩) (h1.lay bs w)):aK (iz T t p (h1.lay bs w)) (h1.lay bs w) K:=by
 obtain ⟨A,o,row,u,ro,rfl,hA,gq,hc⟩:=f
 unfold iz
 simp only [hg,hs,dO,if_true,kY]
 rw [sU _ _ _ hA,gq]
 simp only
 rw [<- hn,hc]
 exact hk
theorem qJ {x:ai} (f:gy h1 p [x]) (hg:dA T t=some false) (hk:K x (h1.lay bs w)):aK (iz T t p (h1.lay bs w)) (h1.lay bs w) K:=by
 obtain ⟨A,o,row,u,ro,rfl,hA,gq,hc⟩:=f
 unfold iz
 simp only [hg,dO,gX,if_false,kY]
 rw [sU _ _ _ hA,gq]
 simp only
 rw [show (1:Nat)=[x].length from rfl,hc]
 exact hk
theorem zBd {row:List ai} {off:Nat} (hc:cut row o cs.length=some cs) (hb:off+n<=cs.length):cut row (o+off) n=some ((cs.drop off).take n):=by
 unfold cut at hc ⊢
 split at hc
 .rename_i hle
  rw [aD (by omega)]
  simp only [eh] at hc ⊢
  rw [<- hc,List.drop_take,List.take_take,BG]
  congr 1
  omega
 .cases hc
theorem zBp {s i off:Nat} (n:Nat) (f:gy h1 p cs) (kS:∀ A o,lK T s (.pointer (some ⟨A,o,none⟩)) i=some (.pointer (some ⟨A,o+off,none⟩))) (hb:off+n<=cs.length) (hk:∀ q,gy h1 q ((cs.drop off).take n)->K q (h1.lay bs w)) :
 aK (lK T s p i) (h1.lay bs w) K:=by
 obtain ⟨A,o,row,u,ro,rfl,hA,gq,hc⟩:=f
 rw [kS]
 refine hk _ ⟨A,_,row,u,ro,rfl,hA,gq,?_⟩
 have hl:((cs.drop off).take n).length=n:=by rw [gR,mf];omega
 rw [hl]
 exact zBd hc hb
end
abbrev aC.str:aC aU:={ k:=1,R:=λ_ cs x=>cs=[.string x],len:=by rintro _ _ _ rfl;rfl,mono:=λ_ _ _ _ _ h=>h,gu:=by rintro _ _ _ rfl;rfl }
abbrev aC.int:aC Int:={ k:=1,R:=λ_ cs x=>cs=[.int .i64 x],len:=by rintro _ _ _ rfl;rfl,mono:=λ_ _ _ _ _ h=>h,gu:=by rintro _ _ _ rfl;rfl }
abbrev aC.bool:aC Bool:={ k:=1,R:=λ_ cs x=>cs=[.bool x],len:=by rintro _ _ _ rfl;rfl,mono:=λ_ _ _ _ _ h=>h,gu:=by rintro _ _ _ rfl;rfl }
abbrev aC.sl {Z:Type} (a:aC Z):aC (List Z) :=
 { k:=1,R:=λh cs x=>∃ v,cs=[v]/\Sl a h v x,len:=by rintro h cs x ⟨v,rfl,_⟩;rfl
   mono:=by rintro h h' cs x i ⟨v,e,f⟩;exact ⟨v,e,f.mono i⟩
   gu:=by
    rintro h cs x ⟨v,rfl,f⟩
    rcases f with ⟨rfl,_⟩|⟨A,o,c,row,u,ro,rfl,_⟩ <;> rfl }

theorem Ext.eV {A:Nat} {h h':Heap} (x:Ext h h'):ff A h h':=⟨x.size,λB h1 _=>x.get B h1,by have:=x.low;omega⟩
theorem ff.trans {A:Nat} {a b c:Heap} (x:ff A a b) (y:ff A b c):ff A a c :=
 ⟨eA x.size y.size,λB h1 h2=>(y.get B (dr h1 x.size) h2).trans (x.get B h1 h2),by have:=x.low;have:=y.low;have:=x.size;omega⟩
theorem Ext.step {A:Nat} {h h1 h2:Heap} (z:Ext h h1) (c:ff A h1 h2) (hA:h.size<=A):Ext h h2 :=
 ⟨eA z.size c.size,λB hB=>(c.get B (dr hB z.size) (by omega)).trans (z.get B hB),by have:=z.low;have:=z.size;have:=c.low;omega⟩
theorem Ext.bV {A:Nat} {h h1 h2:Heap} {bs:List aZ} {w:Nat} (z:Ext h h1) (c:ff A (h1.lay bs w) h2) (hA:h.size<=A) (hw:min h1.low h1.size<=w):Ext h h2:=(z.jC bs w hw).step c hA
theorem Holds.step {A B:Nat} {h1 h2:Heap} {b:aZ} (q:Holds h1 B b) (c:ff A h1 h2) (aM:B≠A):Holds h2 B b:=⟨dr q.lt c.size,(c.get B q.lt aM).trans q.get⟩
theorem Holds.br {A B:Nat} {h1 h2:Heap} {b:aZ} {bs:List aZ} {w:Nat} (q:Holds h1 B b) (c:ff A (h1.lay bs w) h2) (aM:B≠A):Holds h2 B b:=(q.on bs w).step c aM
def Ow {Z:Type} (r:aC Z) (h0 h:Heap) (e:TypeId) (A:Nat) (v:ai) (l:List Z):Prop :=
 (h0.size<=A/\l=[]/\(v=.slice none 0 0\/∃ B o,v=.slice (some ⟨B,o,none⟩) 0 0/\h0.size<=B/\B < h.size/\∃ row u ro,h.get B=some (.row row u ro))) \/
 ∃ row,v=.slice (some ⟨A,0,none⟩) l.length (G*r.k+l.length)/\l≠[]/\h0.size<=A/\A < h.size/\h.get A=some (.row row e false)/\row.length=l.length*r.k/\l.length<=1152921504606846976 /\
   ∀ (i:Nat) (x:Z),l[i]? = some x->∃ cs,cut row (i*r.k) r.k=some cs/\r.R (h.set A .dead) cs x
theorem bN.kill {h h':Heap} {A:Nat} (i:bN h h') (hA:A < h.size):bN (h.set A .dead) (h'.set A .dead):=⟨i.size,λB hB hd=>by
 rw [Heap.aG _ _ _ _ hA] at hd ⊢
 rw [Heap.aG _ _ _ _ (dr hA i.size)]
 split
 .rfl
 .rename_i aM
  rw [az aM] at hd
  exact i.get B hB hd⟩
theorem bN.xE {h:Heap} {A:Nat} (hA:A < h.size):bN (h.set A .dead) h:=⟨aR _,λB hB hd=>by
 rw [Heap.aG _ _ _ _ hA] at hd ⊢
 split
 .rename_i he;rw [aD he] at hd;exact absurd rfl hd
 .rfl⟩
section
variable {Z:Type} {r:aC Z} {h0 h h' h1 h2:Heap} {v:ai} {l:List Z} {e:TypeId} {A:Nat}
theorem Ow.fresh (f:Ow r h0 h e A v l):h0.size<=A:=by
 rcases f with f|⟨_,_,_,h1,_⟩
 .exact f.1
 .exact h1
theorem Ow.mono (f:Ow r h0 h e A v l) (i:bN h h'):Ow r h0 h' e A v l:=by
 rcases f with ⟨f1,f2,f3⟩|⟨row,e1,e2,e3,e4,e5,e6,e7,e8⟩
 .refine .inl ⟨f1,f2,f3.imp id ?_⟩
  rintro ⟨B,o,g1,g0,g2,row,u,ro,g3⟩
  exact ⟨B,o,g1,g0,dr g2 i.size,row,u,ro,i.at g2 g3⟩
 .refine .inr ⟨row,e1,e2,e3,dr e4 i.size,i.at e4 e5,e6,e7,λj x hj=>?_⟩
  obtain ⟨cs,g1,g2⟩:=e8 j x hj
  exact ⟨cs,g1,r.mono _ _ _ _ (i.kill e4) g2⟩
theorem Ow.over {bs:List aZ} {w:Nat} (f:Ow r h0 h1 e A v l) (x:Ext (h1.lay bs w) h2):Ow r h0 h2 e A v l:=f.mono x.inc.mK
theorem Ow.nil (hA:h0.size<=A):Ow r h0 h e A (.slice none 0 0) []:=.inl ⟨hA,rfl,.inl rfl⟩
theorem Ow.sl (hk:0 < r.k) (f:Ow r h0 h e A v l):Sl r h v l:=by
 rcases f with ⟨_,rfl,rfl|⟨B,o,rfl,_,g2,row,u,ro,g3⟩⟩|⟨row,e1,e2,e3,e4,e5,e6,e7,e8⟩
 .exact .nil
 .exact .inr ⟨B,o,0,row,u,ro,rfl,iN _,.inl ⟨by unfold G;omega,aR _⟩,g2,g3,λi x hx=>by simp at hx⟩
 .obtain ⟨c1,c2,c3⟩:=CX (k:=r.k) (q:=l.length) hk (by unfold G;omega)
  refine .inr ⟨A,0,_,row,e,false,e1,by unfold maxLen;omega,.inr ⟨by omega,c3,by omega⟩,e4,e5,λi x hx=>?_⟩
  obtain ⟨cs,g1,g2⟩:=e8 i x hx
  exact ⟨cs,by simpa using g1,r.mono _ _ _ _ (bN.xE e4) g2⟩
end
section
variable {Z:Type} {r:aC Z} {h0 h1:Heap} {v x:ai} {l l2:List Z} {t e:TypeId} {A k bytes:Nat} {z:List ai} {T:bJ} {bs:List aZ} {w:Nat} {K:aJ}
theorem YP {a b c:List ai} (hc:cut a o n=some c):cut (a++b) o n=some c:=by
 unfold cut at hc ⊢
 split at hc
 .rename_i hle
  rw [aD (by simp;omega)]
  rw [List.drop_append_of_le_length (by omega),List.take_append_of_le_length (by simp;omega)]
  exact hc
 .cases hc
theorem YG {a b c:List ai} (hc:cut b o n=some c):cut (a++b) (a.length+o) n=some c:=by
 unfold cut at hc ⊢
 split at hc
 .rename_i hle
  rw [aD (by simp;omega)]
  simp only [eh] at hc ⊢
  rw [<- hc,NL,C6 (by omega)]
  simp
 .cases hc
def Src (r:aC Z) (h:Heap) (m:Nat) (news:List ai) (l2:List Z):Prop :=
 l2.length=m/\news.length=m*r.k/\news.all one=true/\∀ (i:Nat) (y:Z),l2[i]? = some y->∃ cs,cut news (i*r.k) r.k=some cs/\r.R h cs y
def kill (A:Nat) (h:Heap):Heap:=if A < h.size then h.set A .dead else h
theorem qY (A:Nat) (h:Heap):(kill A h).size=h.size:=by unfold kill;split <;> rfl
theorem HL (A:Nat) (h:Heap):bN (kill A h) h:=by
 unfold kill
 split
 .rename_i hA;exact bN.xE hA
 .exact bN.refl h
theorem sb {h:Heap} (hd:T.desc t=some (.slice e)) (hi:T.info e=some (k,bytes,z)) (Cs:r.k=k) (hk:0 < k) (hz:h0.size<=h.size) (f:Ow r h0 h e A v l) {m:Nat} {news:List ai} (hs:fU x k h=some (m,news)) (j3:Src r (kill A h) m news l2)
 (hb:(l.length+m)*bytes<=140737488355328) (hl:l.length+m<=1152921504606846976) :
 ∃ v' h' A',jT T t v x h=some (v',h')/\Ow r h0 h' e A' v' (l++l2)/\ff A h h'/\(A'=A\/A'=h.size)/\h0.size<=A':=by
 subst Cs
 obtain ⟨hm,Ey,h1,wW⟩:=j3
 by_cases Ai:m=0
 .subst Ai
  have:l2=[]:=C8.1 hm
  subst this
  refine ⟨v,h,A,?_,by rw [bC];exact f,(Ext.refl h).eV,.inl rfl,f.fresh⟩
  unfold jT
  simp only [hd,hi,hs,dO]
  rcases f with ⟨_,_,rfl|⟨B,o,rfl,_⟩⟩|⟨row,rfl,_⟩ <;> simp
 .have wT:∀ (h2:Heap) (pw:List ai),h2.size=h.size->(∀ B,B < h.size->B≠A->h2.get B=h.get B)->min (min h.low h.size) A<=h2.low ->
   (∀ (i:Nat) (y:Z),(l++l2)[i]? = some y->∃ cs,cut pw (i*r.k) r.k=some cs/\r.R h2 cs y)->pw.length=(l.length+m)*r.k ->
   Ow r h0 (h2.push (.row pw e false)) e h.size (.slice (some ⟨h.size,0,none⟩) (l.length+m) (G*r.k+(l.length+m))) (l++l2)/\ff A h (h2.push (.row pw e false)):=by
   intro h2 pw e1 e2 e3 e4 e5
   have wF:bN h2 ((h2.push (.row pw e false)).set h.size .dead):=⟨by rw [Heap.size_set,Heap.size_push];omega,λB hB _=>by
    rw [Heap.aG _ _ _ _ (by rw [Heap.size_push];omega),az (by omega),Heap.bA,az (by omega)]⟩
   refine ⟨.inr ⟨pw,by rw [cE,hm],λhh=>?_,hz,?_,?_,by rw [cE,hm];exact e5,by rw [cE,hm];exact hl,λi y hy=>?_⟩,?_,?_,?_⟩
   .have:=congrArg List.length hh
    rw [cE,hm] at this
    simp at this
    omega
   .rw [Heap.size_push,e1];omega
   .rw [Heap.bA,aD e1.symm]
   .obtain ⟨cs,c1,c2⟩:=e4 i y hy
    exact ⟨cs,c1,r.mono _ _ _ _ wF c2⟩
   .rw [Heap.size_push,e1];omega
   .intro B hB aM
    rw [Heap.bA,az (by omega)]
    exact e2 B hB aM
   .rw [Heap.eY];exact e3
  rcases f with ⟨f1,rfl,f3⟩|⟨row,rfl,e2,e3,e4,e5,e6,e7,e8⟩
  .-- to nothing
   have key:jT T t v x h=some (.slice (some ⟨h.size,0,none⟩) m (G*r.k+m),h.push (.row news e false)):=by
    rcases f3 with rfl|⟨B,o,rfl,_,g1,row,u,ro,g2⟩
    .exact zvM hd hi hk hs (by omega) h1 (by simpa using hb) (by simpa using hl)
    .unfold jT
     simp only [hd,hi,hs,dO]
     rw [az (by omega),az,az]
     .have hG:0 < G:=by unfold G;omega
      simp [nj,hG]
     .have:0 % G=0:=Nat.zero_mod _
      omega
     .simp only [sg,jm,zi,h1,not_or]
      simp only [db] at hb hl
      refine ⟨⟨⟨by omega,by omega⟩,by omega⟩,by simp⟩
   obtain ⟨a,b⟩:=wT h news rfl (λ_ _ _=>rfl) (by omega) (λi y hy=>by
    obtain ⟨cs,c1,c2⟩:=wW i y (by simpa using hy)
    exact ⟨cs,c1,r.mono _ _ _ _ (HL A h) c2⟩) (by simpa using Ey)
   refine ⟨_,_,h.size,key,?_,b,.inr rfl,hz⟩
   simpa using a
  .obtain ⟨c1,c2,c3⟩:=CX (k:=r.k) (q:=l.length) hk (by unfold G;omega)
   have hlp:0 < l.length:=List.length_pos_iff.2 e2
   have key:=zyv (t:=t) (x:=x) hd hi hk e5 e6 hlp hs (by omega) h1 hb hl
   have kl:∀ B,B < h.size->B≠A->(h.set A .dead).get B=h.get B:=λB hB aM=>by rw [Heap.aG _ _ _ _ e4,az aM]
   have Kq:kill A h=h.set A .dead:=aD e4
   rw [Kq] at wW
   obtain ⟨a,b⟩:=wT (h.set A .dead) (row++news) rfl kl (by rw [Heap.cM];omega) (λi y hy=>by
    by_cases hi:i < l.length
    .rw [jz hi] at hy
     obtain ⟨cs,g1,g2⟩:=e8 i y hy
     exact ⟨cs,YP g1,g2⟩
    .rw [lp (by omega)] at hy
     obtain ⟨cs,g1,g2⟩:=wW _ y hy
     refine ⟨cs,?_,g2⟩
     have:=YG (a:=row) g1
     rwa [e6,<- rk,show l.length+(i - l.length)=i by omega] at this) (by rw [cE,e6,Ey,rk])
   exact ⟨_,_,h.size,key,a,b,.inr rfl,hz⟩
theorem Ow.kill {h:Heap} {C:Nat} (ef:∀ h h' cs x,r.R h cs x->r.R h' cs x) (f:Ow r h0 h e A v l) (hC:C < h0.size):Ow r h0 (kill C h) e A v l:=by
 have get:∀ B,h0.size<=B->(Am.kill C h).get B=h.get B:=by
  intro B hB
  unfold Am.kill
  split
  .rename_i hh
   rw [Heap.aG _ _ _ _ hh,az (by omega)]
  .rfl
 rcases f with ⟨f1,f2,f3⟩|⟨row,e1,e2,e3,e4,e5,e6,e7,e8⟩
 .refine .inl ⟨f1,f2,f3.imp id ?_⟩
  rintro ⟨B,o,g1,g0,g2,row,u,ro,g3⟩
  exact ⟨B,o,g1,g0,by rw [qY];exact g2,row,u,ro,(get B g0).trans g3⟩
 .refine .inr ⟨row,e1,e2,e3,by rw [qY];exact e4,(get A e3).trans e5,e6,e7,λi x hx=>?_⟩
  obtain ⟨cs,g1,g2⟩:=e8 i x hx
  exact ⟨cs,g1,ef _ _ _ _ g2⟩
theorem YZ (hd:T.desc t=some (.slice e)) (hi:T.info e=some (k,bytes,z)) (Cs:r.k=k) (hk:0 < k) (hz:h0.size<=h1.size) (f:Ow r h0 h1 e A v l) {m:Nat} {news:List ai} (hs:fU x k (h1.lay bs w)=some (m,news)) (j3:Src r (kill A (h1.lay bs w)) m news l2)
 (hb:(l.length+m)*bytes<=140737488355328) (hl:l.length+m<=1152921504606846976) (hK:∀ v' h' A',Ow r h0 h' e A' v' (l++l2)->ff A (h1.lay bs w) h'->(A'=A\/h1.size<=A')->K v' h'):dv (jT T t v x (h1.lay bs w)) K:=by
 obtain ⟨v',h',A',g1,g2,g3,g4,g5⟩:=sb hd hi Cs hk (by rw [bh];omega) (f.mono (bN.lay h1 bs w)) hs j3 hb hl
 rw [g1]
 refine hK v' h' A' g2 g3 (g4.imp id ?_)
 rintro rfl
 rw [bh]
 omega
theorem Bo {h:Heap} {B c:Nat} {u:TypeId} {ro:Bool} {y:Z} (hk:0 < r.k) (hg:h.get B=some (.row cs u ro)) (hr:r.R (kill A h) cs y):fU (.slice (some ⟨B,0,none⟩) 1 c) r.k h=some (1,cs)/\Src r (kill A h) 1 cs [y]:=by
 have hl:=r.len _ _ _ hr
 refine ⟨?_,rfl,by rw [hl];omega,r.gu _ _ _ hr,λi y' hy=>?_⟩
 .have hc:cut cs 0 r.k=some cs:=by
   unfold cut
   rw [aD (by omega),<- hl]
   simp
  simp only [fU,nj,Nat.one_mul]
  rw [az (by omega)]
  simp only [kY,hg,hc,lu]
 .cases i with
  |zero =>
   simp at hy
   subst hy
   refine ⟨cs,?_,hr⟩
   unfold cut
   rw [aD (by omega),<- hl]
   simp
  |succ i=>simp at hy
theorem xR {h:Heap} (hk:0 < r.k) (f:Sl r h x l2) (hf:∀ cs y,r.R h cs y->r.R (kill A h) cs y):∃ news,fU x r.k h=some (l2.length,news)/\Src r (kill A h) l2.length news l2:=by
 rcases f with ⟨rfl,rfl⟩|⟨B,o,c,row,u,ro,rfl,e2,e3,e4,e5,e6⟩
 .exact ⟨[],rfl,rfl,by simp,rfl,λi y hy=>by simp at hy⟩
 .by_cases h0:l2.length=0
  .have:l2=[]:=C8.1 h0
   subst this
   exact ⟨[],by simp [fU,nj],rfl,by simp,rfl,λi y hy=>by simp at hy⟩
  .have hle:o+l2.length*r.k<=row.length:=by
    obtain ⟨cs,g1,_⟩:=e6 (l2.length - 1) (l2[l2.length - 1]'(by omega)) (by simp)
    unfold cut at g1
    split at g1
    .rename_i hh
     have:(l2.length - 1)*r.k+r.k=l2.length*r.k:=by rw [<- vz];congr 1;omega
     omega
    .cases g1
   have tX:0 < l2.length*r.k:=Nat.mul_pos (by omega) hk
   refine ⟨(row.drop o).take (l2.length*r.k),?_,rfl,by rw [gR,mf];omega,?_,λi y hy=>?_⟩
   .simp only [fU,nj]
    rw [az (by omega)]
    simp only [kY,e5,cut,aD hle,lu]
   .rw [iM]
    intro v hv
    obtain ⟨j,hj,rfl⟩:=zf hv
    rw [gR,mf] at hj
    have El:j / r.k < l2.length:=Nat.div_lt_of_lt_mul (by rw [yc];omega)
    obtain ⟨cs,g1,g2⟩:=e6 (j / r.k) (l2[j / r.k]) (by simp [El])
    have g3:=iM.1 (r.gu _ _ _ g2)
    apply g3
    unfold cut at g1
    split at g1
    .simp only [eh] at g1
     rw [<- g1]
     refine en (i:=j % r.k) ?_
     have Eu:=Nat.mod_lt j hk
     rw [F6 Eu,lq,List.getElem_take,List.getElem_drop]
     have hdm:=Nat.div_add_mod j r.k
     rw [yc] at hdm
     rw [show o+j / r.k*r.k+j % r.k=o+j by omega]
     exact iH _
    .cases g1
   .obtain ⟨cs,g1,g2⟩:=e6 i y hy
    refine ⟨cs,?_,hf _ _ g2⟩
    have hi:=(fG.1 hy).1
    have aP:(i+1)*r.k<=l2.length*r.k:=uJ _ (by omega)
    rw [vz] at aP
    unfold cut at g1 ⊢
    split at g1
    .rw [aD (by rw [gR,mf];omega)]
     simp only [eh] at g1 ⊢
     rw [<- g1,List.drop_take,BG,List.take_take]
     congr 1
     omega
    .cases g1
end
end Go.Am
namespace Go.Am
variable {b:ai} {h:Heap}
structure ay where
 v:Bool
 s:aU
 deriving DecidableEq
structure ae where
 says:aU
 pred:aU
 n:Int
 t0:ay
 t1:ay
 t2:ay
 t3:ay
 deriving DecidableEq
def ay.cells (t:ay):List ai:=[.bool t.v,.string t.s]
def ay.val (t:ay):ai:=.agg ⟨t.cells⟩
def ae.cells (a:ae):List ai:=[.string a.says,.string a.pred,.int .i64 a.n,.bool a.t0.v,.string a.t0.s,.bool a.t1.v,.string a.t1.s,.bool a.t2.v,.string a.t2.s,.bool a.t3.v,.string a.t3.s]
def ae.val (a:ae):ai:=.agg ⟨a.cells⟩
def ae.arg (a:ae):Nat->ay
 |0=>a.t0
 |1=>a.t1
 |2=>a.t2
 |_=>a.t3
def ae.bx (a:ae):Nat:=min a.n.toNat 4
def ae.args (a:ae):List ay:=[a.t0,a.t1,a.t2,a.t3].take a.bx
def ae.all (a:ae):List ay:=[a.t0,a.t1,a.t2,a.t3]
def bD:ay:=⟨false,⟨#[]⟩⟩
def ah:ae:=⟨⟨#[]⟩,⟨#[]⟩,0,bD,bD,bD,bD⟩
def ae.bW (a:ae):Bool:=decide (a.says.size<=300) && (decide (a.pred.size<=300) && (decide (a.t0.s.size<=300) && (decide (a.t1.s.size<=300) && (decide (a.t2.s.size<=300) && decide (a.t3.s.size<=300)))))
structure ak where
 head:ae
 body:List ae
 deriving DecidableEq
structure bc where
 atom:ae
 clause:Int
 body:List ae
 deriving DecidableEq
structure au where
 var:aU
 term:ay
 deriving DecidableEq
def au.cells (b:au):List ai:=[.string b.var,.bool b.term.v,.string b.term.s]
def au.val (b:au):ai:=.agg ⟨b.cells⟩
abbrev aC.atom:aC ae:={ k:=11,R:=λ_ cs x=>cs=x.cells,len:=by rintro _ _ _ rfl;rfl,mono:=λ_ _ _ _ _ h=>h,gu:=by rintro _ _ _ rfl;rfl }
abbrev aC.term:aC ay:={ k:=2,R:=λ_ cs x=>cs=x.cells,len:=by rintro _ _ _ rfl;rfl,mono:=λ_ _ _ _ _ h=>h,gu:=by rintro _ _ _ rfl;rfl }
abbrev aC.bind:aC au:={ k:=3,R:=λ_ cs x=>cs=x.cells,len:=by rintro _ _ _ rfl;rfl,mono:=λ_ _ _ _ _ h=>h,gu:=by rintro _ _ _ rfl;rfl }
theorem Sl.one {Z:Type} {r:aC Z} {h:Heap} {v:ai} {l:List Z} (f:Sl r h v l):one v=true:=by
 rcases f with ⟨rfl,_⟩|⟨A,o,c,row,u,ro,rfl,_⟩ <;> rfl
abbrev aC.clause:aC ak :=
 { k:=12,R:=λh cs x=>∃ v,cs=x.head.cells++[v]/\Sl aC.atom h v x.body
   len:=by rintro h cs x ⟨v,rfl,_⟩;rfl
   mono:=by rintro h h' cs x i ⟨v,e,f⟩;exact ⟨v,e,f.mono i⟩
   gu:=by rintro h cs x ⟨v,rfl,f⟩;have:=f.one;simp only [Dn,ae.cells,gS,iI,this];rfl }
abbrev aC.reason:aC bc :=
 { k:=13,R:=λh cs x=>∃ v,cs=x.atom.cells++[.int .i64 x.clause,v]/\Sl aC.atom h v x.body
   len:=by rintro h cs x ⟨v,rfl,_⟩;rfl
   mono:=by rintro h h' cs x i ⟨v,e,f⟩;exact ⟨v,e,f.mono i⟩
   gu:=by rintro h cs x ⟨v,rfl,f⟩;have:=f.one;simp only [Dn,ae.cells,gS,iI,this];rfl }
theorem F5 {a b:aU} (h:a.data.toList=b.data.toList):a=b:=by
 obtain ⟨⟨a⟩⟩:=a
 obtain ⟨⟨b⟩⟩:=b
 simp at h
 rw [h]
theorem NK (a b:aU):(a.data.toList == b.data.toList)=decide (a=b):=by
 by_cases h:a=b
 .subst h;simp
 .have:¬ a.data.toList=b.data.toList:=λhh=>h (F5 hh)
  rw [tn h]
  exact beq_eq_false_iff_ne.2 this
def tw (b:Bool) (r:Option Bool):Option Bool:=(some b).bind λc=>if c then r else some false
theorem M0 (b c:Bool):tw b (some c)=some (b && c):=by cases b <;> rfl
def BV (x y:ay):Option Bool:=tw (x.v == y.v) (tw (x.s.data.toList == y.s.data.toList) (some true))
theorem Yl (x y:ay):BV x y=some (decide (x=y)):=by
 obtain ⟨v,s⟩:=x
 obtain ⟨w,t⟩:=y
 unfold BV
 rw [M0,M0,NK]
 simp only [ay.mk.injEq,Gv]
 by_cases h1:v=w <;> by_cases h2:s=t <;> simp [h1,h2]
def OC (a b:ae):Option Bool:=tw (a.says.data.toList == b.says.data.toList) (tw (a.pred.data.toList == b.pred.data.toList) (tw (a.n == b.n)
 (((BV a.t0 b.t0).bind λc=>if c=true then ((BV a.t1 b.t1).bind λc=>if c=true then ((BV a.t2 b.t2).bind λc=>if c=true then ((BV a.t3 b.t3).bind λc=>if c=true then some true else some false) else some false) else some false) else some false).bind λc=>if c=true then some true else some false)))
theorem zsl (a b:ae):OC a b=some (decide (a=b)):=by
 obtain ⟨s,p,n,x0,x1,x2,x3⟩:=a
 obtain ⟨s',p',n',y0,y1,y2,y3⟩:=b
 unfold OC
 simp only [Yl,dO]
 simp only [ae.mk.injEq]
 have key:(if decide (x0=y0)=true then (if decide (x1=y1)=true then (if decide (x2=y2)=true then (if decide (x3=y3)=true then some true else some false) else some false) else some false) else some false)=some (decide (x0=y0/\x1=y1/\x2=y2/\x3=y3)):=by
  by_cases h0:x0=y0 <;> by_cases h1:x1=y1 <;> by_cases h2:x2=y2 <;> by_cases h3:x3=y3 <;> simp [h0,h1,h2,h3]
 rw [key,dO]
 have k2:∀ c:Bool,(if c=true then some true else some false)=some c:=by intro c;cases c <;> rfl
 rw [k2,M0,M0,M0,NK,NK]
 congr 1
 by_cases h1:s=s' <;> by_cases h2:p=p' <;> by_cases h3:n=n' <;> simp [h1,h2,h3]
def ae.dY (a:ae):List ai:=[.bool a.t0.v,.string a.t0.s,.bool a.t1.v,.string a.t1.s,.bool a.t2.v,.string a.t2.s,.bool a.t3.v,.string a.t3.s]
section
variable {h1:Heap} {bs:List aZ} {w:Nat} {T:bJ} {K:aJ} {t e s:TypeId} {v p:ai} {kd:IntKind} {i:Int}
theorem ixa {l:List ae} (f:Sl aC.atom h1 v l) (hd:T.desc t=some (.slice e)) (hs:dJ T e=some 11) (h0:0<=i) (hi:i < l.length) (hk:∀ x p,l[i.toNat]? = some x->gy h1 p x.cells->K p (h1.lay bs w)):aK (kC T t v (.int kd i)) (h1.lay bs w) K :=
 C4 f hd hs h0 hi λx p cs hx hr hp=>hk x p hx (hr ▸ hp)
theorem ixt {l:List ay} (f:Sl aC.term h1 v l) (hd:T.desc t=some (.slice e)) (hs:dJ T e=some 2) (h0:0<=i) (hi:i < l.length) (hk:∀ x p,l[i.toNat]? = some x->gy h1 p x.cells->K p (h1.lay bs w)):aK (kC T t v (.int kd i)) (h1.lay bs w) K :=
 C4 f hd hs h0 hi λx p cs hx hr hp=>hk x p hx (hr ▸ hp)
theorem ixb {l:List au} (f:Sl aC.bind h1 v l) (hd:T.desc t=some (.slice e)) (hs:dJ T e=some 3) (h0:0<=i) (hi:i < l.length) (hk:∀ x p,l[i.toNat]? = some x->gy h1 p x.cells->K p (h1.lay bs w)):aK (kC T t v (.int kd i)) (h1.lay bs w) K :=
 C4 f hd hs h0 hi λx p cs hx hr hp=>hk x p hx (hr ▸ hp)
theorem ixs {l:List aU} (f:Sl aC.str h1 v l) (hd:T.desc t=some (.slice e)) (hs:dJ T e=some 1) (h0:0<=i) (hi:i < l.length) (hk:∀ x p,l[i.toNat]? = some x->gy h1 p [.string x]->K p (h1.lay bs w)):aK (kC T t v (.int kd i)) (h1.lay bs w) K :=
 C4 f hd hs h0 hi λx p cs hx hr hp=>hk x p hx (hr ▸ hp)
theorem ixc {l:List ak} (f:Sl aC.clause h1 v l) (hd:T.desc t=some (.slice e)) (hs:dJ T e=some 12) (h0:0<=i) (hi:i < l.length) (hk:∀ x p b,l[i.toNat]? = some x->Sl aC.atom h1 b x.body->gy h1 p (x.head.cells++[b])->K p (h1.lay bs w)):aK (kC T t v (.int kd i)) (h1.lay bs w) K :=
 C4 f hd hs h0 hi λx p cs hx ⟨b,hr,hb⟩ hp=>hk x p b hx hb (hr ▸ hp)
theorem qV {x:ae} (f:gy h1 p x.cells) (hg:dA T t=some true) (hs:dJ T t=some 11) (hk:K x.val (h1.lay bs w)):aK (iz T t p (h1.lay bs w)) (h1.lay bs w) K:=QU f hg hs rfl hk
theorem Lh {x:ay} (f:gy h1 p x.cells) (hg:dA T t=some true) (hs:dJ T t=some 2) (hk:K x.val (h1.lay bs w)):aK (iz T t p (h1.lay bs w)) (h1.lay bs w) K:=QU f hg hs rfl hk
theorem Lg {x:au} (f:gy h1 p x.cells) (hg:dA T t=some true) (hs:dJ T t=some 3) (hk:K x.val (h1.lay bs w)):aK (iz T t p (h1.lay bs w)) (h1.lay bs w) K:=QU f hg hs rfl hk
theorem G5 {x:ak} (f:gy h1 p (x.head.cells++[b])) (hg:dA T t=some true) (hs:dJ T t=some 12) (hk:K (.agg ⟨x.head.cells++[b]⟩) (h1.lay bs w)):aK (iz T t p (h1.lay bs w)) (h1.lay bs w) K:=QU f hg hs rfl hk
theorem JH {cs ds:List ai} {j off:Nat} (f:gy h1 p cs) (kS:∀ A o,lK T s (.pointer (some ⟨A,o,none⟩)) j=some (.pointer (some ⟨A,o+off,none⟩))) (he:(cs.drop off).take ds.length=ds) (hz:0 < ds.length) (hk:∀ q,gy h1 q ds->K q (h1.lay bs w)):aK (lK T s p j) (h1.lay bs w) K:=by
 have hb:off+ds.length<=cs.length:=by
  have:=congrArg List.length he
  rw [gR,mf] at this
  omega
 refine zBp ds.length f kS hb λq hq=>hk q ?_
 rw [he] at hq
 exact hq
theorem RU {x:ae} (f:gy h1 p (x.cells)) (kS:∀ A o,lK T s (.pointer (some ⟨A,o,none⟩)) 1=some (.pointer (some ⟨A,o+1,none⟩))) (hk:∀ q,gy h1 q ([.string x.pred])->K q (h1.lay bs w)):aK (lK T s p 1) (h1.lay bs w) K:=JH (ds:=[.string x.pred]) f kS rfl (Nat.succ_pos _) hk
theorem JF {x:ak} (f:gy h1 p (x.head.cells++[b])) (kS:∀ A o,lK T s (.pointer (some ⟨A,o,none⟩)) 0=some (.pointer (some ⟨A,o+0,none⟩))) (hk:∀ q,gy h1 q (x.head.cells)->K q (h1.lay bs w)):aK (lK T s p 0) (h1.lay bs w) K:=JH (ds:=x.head.cells) f kS rfl (Nat.succ_pos _) hk
theorem JG {x:ak} (f:gy h1 p (x.head.cells++[b])) (kS:∀ A o,lK T s (.pointer (some ⟨A,o,none⟩)) 1=some (.pointer (some ⟨A,o+11,none⟩))) (hk:∀ q,gy h1 q ([b])->K q (h1.lay bs w)):aK (lK T s p 1) (h1.lay bs w) K:=JH (ds:=[b]) f kS rfl (Nat.succ_pos _) hk
theorem zH {x:au} (f:gy h1 p (x.cells)) (kS:∀ A o,lK T s (.pointer (some ⟨A,o,none⟩)) 0=some (.pointer (some ⟨A,o+0,none⟩))) (hk:∀ q,gy h1 q ([.string x.var])->K q (h1.lay bs w)):aK (lK T s p 0) (h1.lay bs w) K:=JH (ds:=[.string x.var]) f kS rfl (Nat.succ_pos _) hk
theorem RV {x:au} (f:gy h1 p (x.cells)) (kS:∀ A o,lK T s (.pointer (some ⟨A,o,none⟩)) 1=some (.pointer (some ⟨A,o+1,none⟩))) (hk:∀ q,gy h1 q (x.term.cells)->K q (h1.lay bs w)):aK (lK T s p 1) (h1.lay bs w) K:=JH (ds:=x.term.cells) f kS rfl (Nat.succ_pos _) hk
end
theorem rY {Z:Type} {P:Z->Prop} {l:List Z} {i:Nat} {a:Z} (hx:l[i]? = some a) (aB:∀ x∈l.take i,P x) (ha:P a):∀ x∈l.take (i+1),P x:=by
 intro x hm
 rw [lr,hx] at hm
 simp only [Option.toList_some,gg,ep] at hm
 rcases hm with hm|rfl
 .exact aB x hm
 .exact ha
theorem M6 {a:ae} (h:a.bW=true) (k:Nat):(a.arg k).s.size<=300:=by
 simp only [ae.bW,dK,jm] at h
 obtain ⟨_,_,h0,h1,h2,h3⟩:=h
 match k with
 |0=>exact h0
 |1=>exact h1
 |2=>exact h2
 |k+3=>exact h3
theorem zup {a:ae} (h:a.bW=true):a.says.size<=300/\a.pred.size<=300:=by
 simp only [ae.bW,dK,jm] at h
 exact ⟨h.1,h.2.1⟩
theorem Bv {p:Prop} [Decidable p] {K:aJ} (h1:¬ p->K (.bool true) h) (h2:p->K (.bool false) h):uG (!decide p) h K :=
 ⟨λhp=>h1 (by simpa using hp),λhp=>h2 (by simpa using hp)⟩
theorem F4 {b:Bool} {K:aJ} (h1:b=false->K (.bool true) h) (h2:b=true->K (.bool false) h):uG (!b) h K :=
 ⟨λhp=>h1 (by simpa using hp),λhp=>h2 (by simpa using hp)⟩
theorem tj {b:Bool} {K:aJ} (h1:b=true->K (.bool true) h) (h2:b=false->K (.bool false) h):uG b h K:=⟨h1,h2⟩
abbrev aN:=List ae
end Go.Am

/- Slices and pointers by what they hold. No condition. -/
import Derived.Test.YtiapegieocgmfaaGreatDoorG9
set_option linter.unusedSimpArgs false
set_option linter.unusedVariables false
namespace Go.Am
variable {cs:List ab} {p:ab} {b:ba} {B m n o:Nat}
structure aM (Z:Type) where
 k:Nat
 R:Heap->List ab->Z->Prop
 len:∀ h cs x,R h cs x->cs.length=k
 mono:∀ h h' cs x,bL h h'->R h cs x->R h' cs x
 jf:∀ h cs x,R h cs x->cs.all one=true
def eF (h:Heap) (p:ab) (cs:List ab):Prop:=∃ A o row u ro,p=.pointer (some ⟨A,o,none⟩)/\A < h.size/\h.get A=some (.row row u ro)/\cut row o cs.length=some cs
def ZT (k n c:Nat):Prop:=(c < G/\n<=c)\/(G<=c/\c / G=k/\n<=c % G)
def Sl {Z:Type} (r:aM Z) (h:Heap) (v:ab) (l:List Z):Prop :=
 (v=.slice none 0 0/\l=[])\/∃ A o c row u ro,v=.slice (some ⟨A,o,none⟩) l.length c/\l.length<=maxLen/\ZT r.k l.length c/\A < h.size/\h.get A=some (.row row u ro) /\
  ∀ (i:Nat) (x:Z),l[i]? = some x->∃ cs,cut row (o+i*r.k) r.k=some cs/\r.R h cs x
theorem eF.mono {h h':Heap} (f:eF h p cs) (i:bL h h'):eF h' p cs:=by
 obtain ⟨A,o,row,u,ro,rfl,hA,hg,hc⟩:=f
 exact ⟨A,o,row,u,ro,rfl,dB hA i.size,i.at hA hg,hc⟩
theorem eF.over {h1 h2:Heap} {l:List ba} {w:Nat} (f:eF h1 p cs) (x:Ext (h1.lay l w) h2):eF h2 p cs:=f.mono x.inc.kJ
theorem Holds.mono {h h':Heap} {A:Nat} {u:TypeId} {ro:Bool} (hh:Holds h A (.row cs u ro)) (i:bL h h'):Holds h' A (.row cs u ro):=⟨dB hh.lt i.size,i.at hh.lt hh.get⟩
theorem Holds.over {h1 h2:Heap} {A:Nat} {l:List ba} {w:Nat} (f:Holds h1 A b) (x:Ext (h1.lay l w) h2):Holds h2 A b:=⟨dB f.lt x.inc.kJ.size,(x.get A (by rw [bc];have:=f.lt;omega)).trans (f.lay l w)⟩
section
variable {Z:Type} {r:aM Z} {h h' h1 h2:Heap} {v:ab} {l:List Z}
theorem Sl.mono (f:Sl r h v l) (i:bL h h'):Sl r h' v l:=by
 rcases f with f|⟨A,o,c,row,u,ro,e1,e2,e3,e4,e5,e6⟩
 .exact .inl f
 .refine .inr ⟨A,o,c,row,u,ro,e1,e2,e3,dB e4 i.size,i.at e4 e5,λj x hj=>?_⟩
  obtain ⟨cs,g1,g2⟩:=e6 j x hj
  exact ⟨cs,g1,r.mono _ _ _ _ i g2⟩
theorem Sl.over {bs:List ba} {w:Nat} (f:Sl r h1 v l) (x:Ext (h1.lay bs w) h2):Sl r h2 v l:=f.mono x.inc.kJ
theorem Sl.lay (f:Sl r h v l) (bs:List ba) (w:Nat):Sl r (h.lay bs w) v l:=f.mono (bL.lay h bs w)
theorem Sl.le (f:Sl r h v l):l.length<=maxLen:=by
 rcases f with ⟨_,rfl⟩|⟨A,o,c,row,u,ro,e1,e2,_⟩
 .exact lE _
 .exact e2
theorem Sl.nil:Sl r h (.slice none 0 0) []:=.inl ⟨rfl,rfl⟩
variable {P:Program} {T:bI} {ov:Ov} {K:aF} {t e:TypeId} {bs:List ba} {w:Nat}
theorem Sl.bo (f:Sl r h v l) (hd:T.desc t=some (.slice e)) (h2:Heap):bo T t v h2=some (.int .i64 l.length):=by
 rcases f with ⟨rfl,rfl⟩|⟨A,o,c,row,u,ro,rfl,_⟩
 .simp [Am.bo,hd]
 .simp [Am.bo,hd]
theorem HE (f:Sl r h v l) (hd:T.desc t=some (.slice e)) (hk:K (.int .i64 l.length) h1):aC (Am.bo T t v h1) h1 K:=by rw [f.bo hd];exact hk
theorem AB (f:Sl r h1 v l) (hd:T.desc t=some (.slice e)) (hs:dg T e=some r.k) {kd:IntKind} {i:Int} (h0:0<=i) (hi:i < l.length) (hk:∀ x p cs,l[i.toNat]? = some x->r.R h1 cs x->eF h1 p cs->K p (h1.lay bs w)) :
 aC (kh T t v (.int kd i)) (h1.lay bs w) K:=by
 rcases f with ⟨rfl,rfl⟩|⟨A,o,c,row,u,ro,rfl,e2,e3,e4,e5,e6⟩
 .simp at hi;omega
 .have aT:i.toNat < l.length:=by omega
  obtain ⟨cs,g1,g2⟩:=e6 i.toNat l[i.toNat] (by simp [aT])
  unfold kh
  simp only [hd]
  rw [aE ⟨h0,hi⟩,hs]
  refine hk _ _ cs (by simp [aT]) g2 ⟨A,_,row,u,ro,rfl,e4,e5,?_⟩
  rw [r.len _ _ _ g2]
  exact g1
theorem Q7 (f:eF h1 p cs) (hg:cN T t=some true) (hs:dg T t=some n) (hn:cs.length=n) (hk:K (.agg ⟨cs⟩) (h1.lay bs w)):aC (iD T t p (h1.lay bs w)) (h1.lay bs w) K:=by
 obtain ⟨A,o,row,u,ro,rfl,hA,eR,hc⟩:=f
 unfold iD
 simp only [hg,hs,dM,if_true,gD]
 rw [uz _ _ _ hA,eR]
 simp only
 rw [<- hn,hc]
 exact hk
theorem gj {x:ab} (f:eF h1 p [x]) (hg:cN T t=some false) (hk:K x (h1.lay bs w)):aC (iD T t p (h1.lay bs w)) (h1.lay bs w) K:=by
 obtain ⟨A,o,row,u,ro,rfl,hA,eR,hc⟩:=f
 unfold iD
 simp only [hg,dM,gM,if_false,gD]
 rw [uz _ _ _ hA,eR]
 simp only
 rw [show (1:Nat)=[x].length from rfl,hc]
 exact hk
theorem zvS {row:List ab} {off:Nat} (hc:cut row o cs.length=some cs) (hb:off+n<=cs.length):cut row (o+off) n=some ((cs.drop off).take n):=by
 unfold cut at hc ⊢
 split at hc
 .rename_i hle
  rw [aE (by omega)]
  simp only [dO] at hc ⊢
  rw [<- hc,List.drop_take,List.take_take,H6]
  congr 1
  omega
 .cases hc
theorem zA1 {s i off:Nat} (n:Nat) (f:eF h1 p cs) (lg:∀ A o,iS T s (.pointer (some ⟨A,o,none⟩)) i=some (.pointer (some ⟨A,o+off,none⟩))) (hb:off+n<=cs.length) (hk:∀ q,eF h1 q ((cs.drop off).take n)->K q (h1.lay bs w)) :
 aC (iS T s p i) (h1.lay bs w) K:=by
 obtain ⟨A,o,row,u,ro,rfl,hA,eR,hc⟩:=f
 rw [lg]
 refine hk _ ⟨A,_,row,u,ro,rfl,hA,eR,?_⟩
 have hl:((cs.drop off).take n).length=n:=by rw [gh,kP];omega
 rw [hl]
 exact zvS hc hb
theorem zyy {s m z:Nat} {kd:IntKind} {i:Int} (f:eF h1 p cs) (Sd:∀ A o ik i,kh T s (.pointer (some ⟨A,o,none⟩)) (.int ik i)=if 0<=i/\i < (m:Int) then some (.pointer (some ⟨A,o+i.toNat*z,none⟩)) else none) (h0:0<=i) (hi:i < m) (hb:m*z<=cs.length)
 (hk:∀ q,eF h1 q ((cs.drop (i.toNat*z)).take z)->K q (h1.lay bs w)):aC (kh T s p (.int kd i)) (h1.lay bs w) K:=by
 obtain ⟨A,o,row,u,ro,rfl,hA,eR,hc⟩:=f
 rw [Sd,aE ⟨h0,hi⟩]
 have hle:i.toNat*z+z<=cs.length:=by
  calc i.toNat*z+z=(i.toNat+1)*z:=by rw [qx]
   _<=m*z:=qw _ (by omega)
   _<=cs.length:=hb
 refine hk _ ⟨A,_,row,u,ro,rfl,hA,eR,?_⟩
 have hl:((cs.drop (i.toNat*z)).take z).length=z:=by rw [gh,kP];omega
 rw [hl]
 exact zvS hc hle
end
abbrev aM.str:aM au:={ k:=1,R:=λ_ cs x=>cs=[.string x],len:=by rintro _ _ _ rfl;rfl,mono:=λ_ _ _ _ _ h=>h,jf:=by rintro _ _ _ rfl;rfl }
abbrev aM.int:aM Int:={ k:=1,R:=λ_ cs x=>cs=[.int .i64 x],len:=by rintro _ _ _ rfl;rfl,mono:=λ_ _ _ _ _ h=>h,jf:=by rintro _ _ _ rfl;rfl }
abbrev aM.bool:aM Bool:={ k:=1,R:=λ_ cs x=>cs=[.bool x],len:=by rintro _ _ _ rfl;rfl,mono:=λ_ _ _ _ _ h=>h,jf:=by rintro _ _ _ rfl;rfl }
abbrev aM.sl {Z:Type} (a:aM Z):aM (List Z) :=
 { k:=1,R:=λh cs x=>∃ v,cs=[v]/\Sl a h v x,len:=by rintro h cs x ⟨v,rfl,_⟩;rfl
   mono:=by rintro h h' cs x i ⟨v,e,f⟩;exact ⟨v,e,f.mono i⟩
   jf:=by
    rintro h cs x ⟨v,rfl,f⟩
    rcases f with ⟨rfl,_⟩|⟨A,o,c,row,u,ro,rfl,_⟩ <;> rfl }

theorem Ext.iL {A:Nat} {h h':Heap} (x:Ext h h'):eG A h h':=⟨x.size,λB h1 _=>x.get B h1,by have:=x.low;omega⟩
theorem eG.trans {A:Nat} {a b c:Heap} (x:eG A a b) (y:eG A b c):eG A a c :=
 ⟨gn x.size y.size,λB h1 h2=>(y.get B (dB h1 x.size) h2).trans (x.get B h1 h2),by have:=x.low;have:=y.low;have:=x.size;omega⟩
theorem Ext.step {A:Nat} {h h1 h2:Heap} (z:Ext h h1) (c:eG A h1 h2) (hA:h.size<=A):Ext h h2 :=
 ⟨gn z.size c.size,λB hB=>(c.get B (dB hB z.size) (by omega)).trans (z.get B hB),by have:=z.low;have:=z.size;have:=c.low;omega⟩
theorem Ext.cM {A:Nat} {h h1 h2:Heap} {bs:List ba} {w:Nat} (z:Ext h h1) (c:eG A (h1.lay bs w) h2) (hA:h.size<=A) (hw:min h1.low h1.size<=w):Ext h h2:=(z.kN bs w hw).step c hA
theorem Holds.step {A:Nat} {h1 h2:Heap} (q:Holds h1 B b) (c:eG A h1 h2) (aQ:B≠A):Holds h2 B b:=⟨dB q.lt c.size,(c.get B q.lt aQ).trans q.get⟩
theorem Holds.br {A:Nat} {h1 h2:Heap} {bs:List ba} {w:Nat} (q:Holds h1 B b) (c:eG A (h1.lay bs w) h2) (aQ:B≠A):Holds h2 B b:=(q.on bs w).step c aQ
def Ow {Z:Type} (r:aM Z) (h0 h:Heap) (e:TypeId) (A:Nat) (v:ab) (l:List Z):Prop :=
 (h0.size<=A/\l=[]/\(v=.slice none 0 0\/∃ B o,v=.slice (some ⟨B,o,none⟩) 0 0/\h0.size<=B/\B < h.size/\∃ row u ro,h.get B=some (.row row u ro))) \/
 ∃ row,v=.slice (some ⟨A,0,none⟩) l.length (G*r.k+l.length)/\l≠[]/\h0.size<=A/\A < h.size/\h.get A=some (.row row e false)/\row.length=l.length*r.k/\l.length<=1152921504606846976 /\
   ∀ (i:Nat) (x:Z),l[i]? = some x->∃ cs,cut row (i*r.k) r.k=some cs/\r.R (h.set A .dead) cs x
theorem bL.kill {h h':Heap} {A:Nat} (i:bL h h') (hA:A < h.size):bL (h.set A .dead) (h'.set A .dead):=⟨i.size,λB hB hd=>by
 rw [Heap.aJ _ _ _ _ hA] at hd ⊢
 rw [Heap.aJ _ _ _ _ (dB hA i.size)]
 split
 .rfl
 .rename_i aQ
  rw [az aQ] at hd
  exact i.get B hB hd⟩
theorem bL.zm {h:Heap} {A:Nat} (hA:A < h.size):bL (h.set A .dead) h:=⟨bj _,λB hB hd=>by
 rw [Heap.aJ _ _ _ _ hA] at hd ⊢
 split
 .rename_i he;rw [aE he] at hd;exact absurd rfl hd
 .rfl⟩
section
variable {Z:Type} {r:aM Z} {h0 h h' h1 h2:Heap} {v:ab} {l:List Z} {e:TypeId} {A:Nat}
theorem Ow.fresh (f:Ow r h0 h e A v l):h0.size<=A:=by
 rcases f with f|⟨_,_,_,h1,_⟩
 .exact f.1
 .exact h1
theorem Ow.mono (f:Ow r h0 h e A v l) (i:bL h h'):Ow r h0 h' e A v l:=by
 rcases f with ⟨f1,f2,f3⟩|⟨row,e1,e2,e3,e4,e5,e6,e7,e8⟩
 .refine .inl ⟨f1,f2,f3.imp id ?_⟩
  rintro ⟨B,o,g1,g0,g2,row,u,ro,g3⟩
  exact ⟨B,o,g1,g0,dB g2 i.size,row,u,ro,i.at g2 g3⟩
 .refine .inr ⟨row,e1,e2,e3,dB e4 i.size,i.at e4 e5,e6,e7,λj x hj=>?_⟩
  obtain ⟨cs,g1,g2⟩:=e8 j x hj
  exact ⟨cs,g1,r.mono _ _ _ _ (i.kill e4) g2⟩
theorem Ow.over {bs:List ba} {w:Nat} (f:Ow r h0 h1 e A v l) (x:Ext (h1.lay bs w) h2):Ow r h0 h2 e A v l:=f.mono x.inc.kJ
theorem Ow.nil (hA:h0.size<=A):Ow r h0 h e A (.slice none 0 0) []:=.inl ⟨hA,rfl,.inl rfl⟩
theorem Ow.sl (hk:0 < r.k) (f:Ow r h0 h e A v l):Sl r h v l:=by
 rcases f with ⟨_,rfl,rfl|⟨B,o,rfl,_,g2,row,u,ro,g3⟩⟩|⟨row,e1,e2,e3,e4,e5,e6,e7,e8⟩
 .exact .nil
 .exact .inr ⟨B,o,0,row,u,ro,rfl,lE _,.inl ⟨by unfold G;omega,bj _⟩,g2,g3,λi x hx=>by simp at hx⟩
 .obtain ⟨c1,c2,c3⟩:=Ct (k:=r.k) (q:=l.length) hk (by unfold G;omega)
  refine .inr ⟨A,0,_,row,e,false,e1,by unfold maxLen;omega,.inr ⟨by omega,c3,by omega⟩,e4,e5,λi x hx=>?_⟩
  obtain ⟨cs,g1,g2⟩:=e8 i x hx
  exact ⟨cs,by simpa using g1,r.mono _ _ _ _ (bL.zm e4) g2⟩
end
section
variable {Z:Type} {r:aM Z} {h0 h1:Heap} {v x:ab} {l l2:List Z} {t e:TypeId} {A k bytes:Nat} {z:List ab} {T:bI} {bs:List ba} {w:Nat} {K:aF}
theorem zqD {a b c:List ab} (hc:cut a o n=some c):cut (a++b) o n=some c:=by
 unfold cut at hc ⊢
 split at hc
 .rename_i hle
  rw [aE (by simp;omega)]
  rw [List.drop_append_of_le_length (by omega),List.take_append_of_le_length (by simp;omega)]
  exact hc
 .cases hc
theorem zmA {a b c:List ab} (hc:cut b o n=some c):cut (a++b) (a.length+o) n=some c:=by
 unfold cut at hc ⊢
 split at hc
 .rename_i hle
  rw [aE (by simp;omega)]
  simp only [dO] at hc ⊢
  rw [<- hc,QX,zG (by omega)]
  simp
 .cases hc
def Src (r:aM Z) (h:Heap) (m:Nat) (news:List ab) (l2:List Z):Prop :=
 l2.length=m/\news.length=m*r.k/\news.all one=true/\∀ (i:Nat) (y:Z),l2[i]? = some y->∃ cs,cut news (i*r.k) r.k=some cs/\r.R h cs y
def kill (A:Nat) (h:Heap):Heap:=if A < h.size then h.set A .dead else h
theorem tA (A:Nat) (h:Heap):(kill A h).size=h.size:=by unfold kill;split <;> rfl
theorem Jr (A:Nat) (h:Heap):bL (kill A h) h:=by
 unfold kill
 split
 .rename_i hA;exact bL.zm hA
 .exact bL.refl h
theorem AF {h:Heap} (hd:T.desc t=some (.slice e)) (hi:T.info e=some (k,bytes,z)) (DE:r.k=k) (hk:0 < k) (hz:h0.size<=h.size) (f:Ow r h0 h e A v l) {news:List ab} (hs:fw x k h=some (m,news)) (nI:Src r (kill A h) m news l2)
 (hb:(l.length+m)*bytes<=140737488355328) (hl:l.length+m<=1152921504606846976) :
 ∃ v' h' A',gC T t v x h=some (v',h')/\Ow r h0 h' e A' v' (l++l2)/\eG A h h'/\(A'=A\/A'=h.size)/\h0.size<=A':=by
 subst DE
 obtain ⟨hm,Gp,h1,yQ⟩:=nI
 by_cases uj:m=0
 .subst uj
  have:l2=[]:=xu.1 hm
  subst this
  refine ⟨v,h,A,?_,by rw [bu];exact f,(Ext.refl h).iL,.inl rfl,f.fresh⟩
  unfold gC
  simp only [hd,hi,hs,dM]
  rcases f with ⟨_,_,rfl|⟨B,o,rfl,_⟩⟩|⟨row,rfl,_⟩ <;> simp
 .have yO:∀ (h2:Heap) (qh:List ab),h2.size=h.size->(∀ B,B < h.size->B≠A->h2.get B=h.get B)->min (min h.low h.size) A<=h2.low ->
   (∀ (i:Nat) (y:Z),(l++l2)[i]? = some y->∃ cs,cut qh (i*r.k) r.k=some cs/\r.R h2 cs y)->qh.length=(l.length+m)*r.k ->
   Ow r h0 (h2.push (.row qh e false)) e h.size (.slice (some ⟨h.size,0,none⟩) (l.length+m) (G*r.k+(l.length+m))) (l++l2)/\eG A h (h2.push (.row qh e false)):=by
   intro h2 qh e1 e2 e3 e4 e5
   have wL:bL h2 ((h2.push (.row qh e false)).set h.size .dead):=⟨by rw [Heap.size_set,Heap.size_push];omega,λB hB _=>by
    rw [Heap.aJ _ _ _ _ (by rw [Heap.size_push];omega),az (by omega),Heap.bg,az (by omega)]⟩
   refine ⟨.inr ⟨qh,by rw [dy,hm],λhh=>?_,hz,?_,?_,by rw [dy,hm];exact e5,by rw [dy,hm];exact hl,λi y hy=>?_⟩,?_,?_,?_⟩
   .have:=congrArg List.length hh
    rw [dy,hm] at this
    simp at this
    omega
   .rw [Heap.size_push,e1];omega
   .rw [Heap.bg,aE e1.symm]
   .obtain ⟨cs,c1,c2⟩:=e4 i y hy
    exact ⟨cs,c1,r.mono _ _ _ _ wL c2⟩
   .rw [Heap.size_push,e1];omega
   .intro B hB aQ
    rw [Heap.bg,az (by omega)]
    exact e2 B hB aQ
   .rw [Heap.cR];exact e3
  rcases f with ⟨f1,rfl,f3⟩|⟨row,rfl,e2,e3,e4,e5,e6,e7,e8⟩
  .-- to nothing
   have key:gC T t v x h=some (.slice (some ⟨h.size,0,none⟩) m (G*r.k+m),h.push (.row news e false)):=by
    rcases f3 with rfl|⟨B,o,rfl,_,g1,row,u,ro,g2⟩
    .exact zvs hd hi hk hs (by omega) h1 (by simpa using hb) (by simpa using hl)
    .unfold gC
     simp only [hd,hi,hs,dM]
     rw [az (by omega),az,az]
     .have hG:0 < G:=by unfold G;omega
      simp [mg,hG]
     .have:0 % G=0:=Nat.zero_mod _
      omega
     .simp only [sB,jH,CO,h1,not_or]
      simp only [dN] at hb hl
      refine ⟨⟨⟨by omega,by omega⟩,by omega⟩,by simp⟩
   obtain ⟨a,b⟩:=yO h news rfl (λ_ _ _=>rfl) (by omega) (λi y hy=>by
    obtain ⟨cs,c1,c2⟩:=yQ i y (by simpa using hy)
    exact ⟨cs,c1,r.mono _ _ _ _ (Jr A h) c2⟩) (by simpa using Gp)
   refine ⟨_,_,h.size,key,?_,b,.inr rfl,hz⟩
   simpa using a
  .obtain ⟨c1,c2,c3⟩:=Ct (k:=r.k) (q:=l.length) hk (by unfold G;omega)
   have Gj:0 < l.length:=List.length_pos_iff.2 e2
   have key:=zya (t:=t) (x:=x) hd hi hk e5 e6 Gj hs (by omega) h1 hb hl
   have iN:∀ B,B < h.size->B≠A->(h.set A .dead).get B=h.get B:=λB hB aQ=>by rw [Heap.aJ _ _ _ _ e4,az aQ]
   have MZ:kill A h=h.set A .dead:=aE e4
   rw [MZ] at yQ
   obtain ⟨a,b⟩:=yO (h.set A .dead) (row++news) rfl iN (by rw [Heap.bQ];omega) (λi y hy=>by
    by_cases hi:i < l.length
    .rw [nc hi] at hy
     obtain ⟨cs,g1,g2⟩:=e8 i y hy
     exact ⟨cs,zqD g1,g2⟩
    .rw [qu (by omega)] at hy
     obtain ⟨cs,g1,g2⟩:=yQ _ y hy
     refine ⟨cs,?_,g2⟩
     have:=zmA (a:=row) g1
     rwa [e6,<- rS,show l.length+(i - l.length)=i by omega] at this) (by rw [dy,e6,Gp,rS])
   exact ⟨_,_,h.size,key,a,b,.inr rfl,hz⟩
theorem Ow.kill {h:Heap} {C:Nat} (fU:∀ h h' cs x,r.R h cs x->r.R h' cs x) (f:Ow r h0 h e A v l) (hC:C < h0.size):Ow r h0 (kill C h) e A v l:=by
 have get:∀ B,h0.size<=B->(Am.kill C h).get B=h.get B:=by
  intro B hB
  unfold Am.kill
  split
  .rename_i hh
   rw [Heap.aJ _ _ _ _ hh,az (by omega)]
  .rfl
 rcases f with ⟨f1,f2,f3⟩|⟨row,e1,e2,e3,e4,e5,e6,e7,e8⟩
 .refine .inl ⟨f1,f2,f3.imp id ?_⟩
  rintro ⟨B,o,g1,g0,g2,row,u,ro,g3⟩
  exact ⟨B,o,g1,g0,by rw [tA];exact g2,row,u,ro,(get B g0).trans g3⟩
 .refine .inr ⟨row,e1,e2,e3,by rw [tA];exact e4,(get A e3).trans e5,e6,e7,λi x hx=>?_⟩
  obtain ⟨cs,g1,g2⟩:=e8 i x hx
  exact ⟨cs,g1,fU _ _ _ _ g2⟩
theorem Ea (hd:T.desc t=some (.slice e)) (hi:T.info e=some (k,bytes,z)) (DE:r.k=k) (hk:0 < k) (hz:h0.size<=h1.size) (f:Ow r h0 h1 e A v l) {news:List ab} (hs:fw x k (h1.lay bs w)=some (m,news)) (nI:Src r (kill A (h1.lay bs w)) m news l2)
 (hb:(l.length+m)*bytes<=140737488355328) (hl:l.length+m<=1152921504606846976) (hK:∀ v' h' A',Ow r h0 h' e A' v' (l++l2)->eG A (h1.lay bs w) h'->(A'=A\/h1.size<=A')->K v' h'):dD (gC T t v x (h1.lay bs w)) K:=by
 obtain ⟨v',h',A',g1,g2,g3,g4,g5⟩:=AF hd hi DE hk (by rw [bc];omega) (f.mono (bL.lay h1 bs w)) hs nI hb hl
 rw [g1]
 refine hK v' h' A' g2 g3 (g4.imp id ?_)
 rintro rfl
 rw [bc]
 omega
theorem Jw {h:Heap} {c:Nat} {u:TypeId} {ro:Bool} {y:Z} (hk:0 < r.k) (hg:h.get B=some (.row cs u ro)) (hr:r.R (kill A h) cs y):fw (.slice (some ⟨B,0,none⟩) 1 c) r.k h=some (1,cs)/\Src r (kill A h) 1 cs [y]:=by
 have hl:=r.len _ _ _ hr
 refine ⟨?_,rfl,by rw [hl];omega,r.jf _ _ _ hr,λi y' hy=>?_⟩
 .have hc:cut cs 0 r.k=some cs:=by
   unfold cut
   rw [aE (by omega),<- hl]
   simp
  simp only [fw,mg,Nat.one_mul]
  rw [az (by omega)]
  simp only [gD,hg,hc,jn]
 .cases i with
  |zero =>
   simp at hy
   subst hy
   refine ⟨cs,?_,hr⟩
   unfold cut
   rw [aE (by omega),<- hl]
   simp
  |succ i=>simp at hy
theorem uF {h:Heap} (hk:0 < r.k) (f:Sl r h x l2) (hf:∀ cs y,r.R h cs y->r.R (kill A h) cs y):∃ news,fw x r.k h=some (l2.length,news)/\Src r (kill A h) l2.length news l2:=by
 rcases f with ⟨rfl,rfl⟩|⟨B,o,c,row,u,ro,rfl,e2,e3,e4,e5,e6⟩
 .exact ⟨[],rfl,rfl,by simp,rfl,λi y hy=>by simp at hy⟩
 .by_cases h0:l2.length=0
  .have:l2=[]:=xu.1 h0
   subst this
   exact ⟨[],by simp [fw,mg],rfl,by simp,rfl,λi y hy=>by simp at hy⟩
  .have hle:o+l2.length*r.k<=row.length:=by
    obtain ⟨cs,g1,_⟩:=e6 (l2.length - 1) (l2[l2.length - 1]'(by omega)) (by simp)
    unfold cut at g1
    split at g1
    .rename_i hh
     have:(l2.length - 1)*r.k+r.k=l2.length*r.k:=by rw [<- qx];congr 1;omega
     omega
    .cases g1
   have lj:0 < l2.length*r.k:=Nat.mul_pos (by omega) hk
   refine ⟨(row.drop o).take (l2.length*r.k),?_,rfl,by rw [gh,kP];omega,?_,λi y hy=>?_⟩
   .simp only [fw,mg]
    rw [az (by omega)]
    simp only [gD,e5,cut,aE hle,jn]
   .rw [iT]
    intro v hv
    obtain ⟨j,hj,rfl⟩:=List.getElem_of_mem hv
    rw [gh,kP] at hj
    have MW:j / r.k < l2.length:=Nat.div_lt_of_lt_mul (by rw [zO];omega)
    obtain ⟨cs,g1,g2⟩:=e6 (j / r.k) (l2[j / r.k]) (by simp [MW])
    have g3:=iT.1 (r.jf _ _ _ g2)
    apply g3
    unfold cut at g1
    split at g1
    .simp only [dO] at g1
     rw [<- g1]
     refine ic (i:=j % r.k) ?_
     have yF:=EH j hk
     rw [JC yF,lL,List.getElem_take,List.getElem_drop]
     have hdm:=Nat.div_add_mod j r.k
     rw [zO] at hdm
     rw [show o+j / r.k*r.k+j % r.k=o+j by omega]
     exact gF _
    .cases g1
   .obtain ⟨cs,g1,g2⟩:=e6 i y hy
    refine ⟨cs,?_,hf _ _ g2⟩
    have hi:=(dP.1 hy).1
    have aO:(i+1)*r.k<=l2.length*r.k:=qw _ (by omega)
    rw [qx] at aO
    unfold cut at g1 ⊢
    split at g1
    .rw [aE (by rw [gh,kP];omega)]
     simp only [dO] at g1 ⊢
     rw [<- g1,List.drop_take,H6,List.take_take]
     congr 1
     omega
    .cases g1
end
end Go.Am
namespace Go.Am
variable {b:ab} {h:Heap}
structure aZ where
 v:Bool
 s:au
 deriving DecidableEq
structure ak where
 says:au
 pred:au
 n:Int
 t0:aZ
 t1:aZ
 t2:aZ
 t3:aZ
 deriving DecidableEq
def aZ.cells (t:aZ):List ab:=[.bool t.v,.string t.s]
def aZ.val (t:aZ):ab:=.agg ⟨t.cells⟩
def ak.cells (a:ak):List ab:=[.string a.says,.string a.pred,.int .i64 a.n,.bool a.t0.v,.string a.t0.s,.bool a.t1.v,.string a.t1.s,.bool a.t2.v,.string a.t2.s,.bool a.t3.v,.string a.t3.s]
def ak.val (a:ak):ab:=.agg ⟨a.cells⟩
def ak.arg (a:ak):Nat->aZ
 |0=>a.t0
 |1=>a.t1
 |2=>a.t2
 |_=>a.t3
def ak.cO (a:ak):Nat:=min a.n.toNat 4
def ak.args (a:ak):List aZ:=[a.t0,a.t1,a.t2,a.t3].take a.cO
def ak.all (a:ak):List aZ:=[a.t0,a.t1,a.t2,a.t3]
def cT:aZ:=⟨false,⟨#[]⟩⟩
def ae:ak:=⟨⟨#[]⟩,⟨#[]⟩,0,cT,cT,cT,cT⟩
def ak.aW (a:ak):Bool:=decide (a.says.size<=300) && (decide (a.pred.size<=300) && (decide (a.t0.s.size<=300) && (decide (a.t1.s.size<=300) && (decide (a.t2.s.size<=300) && decide (a.t3.s.size<=300)))))
structure cB where
 head:ak
 body:List ak
 deriving DecidableEq
structure gG where
 atom:ak
 clause:Int
 body:List ak
 deriving DecidableEq
structure dQ where
 var:au
 term:aZ
 deriving DecidableEq
def dQ.cells (b:dQ):List ab:=[.string b.var,.bool b.term.v,.string b.term.s]
def dQ.val (b:dQ):ab:=.agg ⟨b.cells⟩
abbrev aM.atom:aM ak:={ k:=11,R:=λ_ cs x=>cs=x.cells,len:=by rintro _ _ _ rfl;rfl,mono:=λ_ _ _ _ _ h=>h,jf:=by rintro _ _ _ rfl;rfl }
abbrev aM.term:aM aZ:={ k:=2,R:=λ_ cs x=>cs=x.cells,len:=by rintro _ _ _ rfl;rfl,mono:=λ_ _ _ _ _ h=>h,jf:=by rintro _ _ _ rfl;rfl }
abbrev aM.bind:aM dQ:={ k:=3,R:=λ_ cs x=>cs=x.cells,len:=by rintro _ _ _ rfl;rfl,mono:=λ_ _ _ _ _ h=>h,jf:=by rintro _ _ _ rfl;rfl }
theorem Sl.one {Z:Type} {r:aM Z} {h:Heap} {v:ab} {l:List Z} (f:Sl r h v l):one v=true:=by
 rcases f with ⟨rfl,_⟩|⟨A,o,c,row,u,ro,rfl,_⟩ <;> rfl
abbrev aM.clause:aM cB :=
 { k:=12,R:=λh cs x=>∃ v,cs=x.head.cells++[v]/\Sl aM.atom h v x.body
   len:=by rintro h cs x ⟨v,rfl,_⟩;rfl
   mono:=by rintro h h' cs x i ⟨v,e,f⟩;exact ⟨v,e,f.mono i⟩
   jf:=by rintro h cs x ⟨v,rfl,f⟩;have:=f.one;simp only [List.all_append,ak.cells,nU,oX,this];rfl }
abbrev aM.reason:aM gG :=
 { k:=13,R:=λh cs x=>∃ v,cs=x.atom.cells++[.int .i64 x.clause,v]/\Sl aM.atom h v x.body
   len:=by rintro h cs x ⟨v,rfl,_⟩;rfl
   mono:=by rintro h h' cs x i ⟨v,e,f⟩;exact ⟨v,e,f.mono i⟩
   jf:=by rintro h cs x ⟨v,rfl,f⟩;have:=f.one;simp only [List.all_append,ak.cells,nU,oX,this];rfl }
theorem CE {a b:au} (h:a.data.toList=b.data.toList):a=b:=by
 obtain ⟨⟨a⟩⟩:=a
 obtain ⟨⟨b⟩⟩:=b
 simp at h
 rw [h]
theorem zvy (a b:au):(a.data.toList == b.data.toList)=decide (a=b):=by
 by_cases h:a=b
 .subst h;simp
 .have:¬ a.data.toList=b.data.toList:=λhh=>h (CE hh)
  rw [tM h]
  exact beq_eq_false_iff_ne.2 this
def uO (b:Bool) (r:Option Bool):Option Bool:=(some b).bind λc=>if c then r else some false
theorem P3 (b c:Bool):uO b (some c)=some (b && c):=by cases b <;> rfl
def wD (x y:aZ):Option Bool:=uO (x.v == y.v) (uO (x.s.data.toList == y.s.data.toList) (some true))
theorem zmE (x y:aZ):wD x y=some (decide (x=y)):=by
 obtain ⟨v,s⟩:=x
 obtain ⟨w,t⟩:=y
 unfold wD
 rw [P3,P3,zvy]
 simp only [aZ.mk.injEq,Bool.and_true]
 by_cases h1:v=w <;> by_cases h2:s=t <;> simp [h1,h2]
def Vd (a b:ak):Option Bool:=uO (a.says.data.toList == b.says.data.toList) (uO (a.pred.data.toList == b.pred.data.toList) (uO (a.n == b.n)
 (((wD a.t0 b.t0).bind λc=>if c=true then ((wD a.t1 b.t1).bind λc=>if c=true then ((wD a.t2 b.t2).bind λc=>if c=true then ((wD a.t3 b.t3).bind λc=>if c=true then some true else some false) else some false) else some false) else some false).bind λc=>if c=true then some true else some false)))
theorem zyn (a b:ak):Vd a b=some (decide (a=b)):=by
 obtain ⟨s,p,n,x0,x1,x2,x3⟩:=a
 obtain ⟨s',p',n',y0,y1,y2,y3⟩:=b
 unfold Vd
 simp only [zmE,dM]
 simp only [ak.mk.injEq]
 have key:(if decide (x0=y0)=true then (if decide (x1=y1)=true then (if decide (x2=y2)=true then (if decide (x3=y3)=true then some true else some false) else some false) else some false) else some false)=some (decide (x0=y0/\x1=y1/\x2=y2/\x3=y3)):=by
  by_cases h0:x0=y0 <;> by_cases h1:x1=y1 <;> by_cases h2:x2=y2 <;> by_cases h3:x3=y3 <;> simp [h0,h1,h2,h3]
 rw [key,dM]
 have k2:∀ c:Bool,(if c=true then some true else some false)=some c:=by intro c;cases c <;> rfl
 rw [k2,P3,P3,P3,zvy,zvy]
 congr 1
 by_cases h1:s=s' <;> by_cases h2:p=p' <;> by_cases h3:n=n' <;> simp [h1,h2,h3]
def ak.nk (a:ak):List ab:=[.bool a.t0.v,.string a.t0.s,.bool a.t1.v,.string a.t1.s,.bool a.t2.v,.string a.t2.s,.bool a.t3.v,.string a.t3.s]
section
variable {h1:Heap} {bs:List ba} {w:Nat} {T:bI} {K:aF} {t e s:TypeId} {v p:ab} {kd:IntKind} {i:Int}
theorem Y1 {l:List ak} (f:Sl aM.atom h1 v l) (hd:T.desc t=some (.slice e)) (hs:dg T e=some 11) (h0:0<=i) (hi:i < l.length) (hk:∀ x p,l[i.toNat]? = some x->eF h1 p x.cells->K p (h1.lay bs w)):aC (kh T t v (.int kd i)) (h1.lay bs w) K :=
 AB f hd hs h0 hi λx p cs hx hr hp=>hk x p hx (hr ▸ hp)
theorem ixt {l:List aZ} (f:Sl aM.term h1 v l) (hd:T.desc t=some (.slice e)) (hs:dg T e=some 2) (h0:0<=i) (hi:i < l.length) (hk:∀ x p,l[i.toNat]? = some x->eF h1 p x.cells->K p (h1.lay bs w)):aC (kh T t v (.int kd i)) (h1.lay bs w) K :=
 AB f hd hs h0 hi λx p cs hx hr hp=>hk x p hx (hr ▸ hp)
theorem ixs {l:List au} (f:Sl aM.str h1 v l) (hd:T.desc t=some (.slice e)) (hs:dg T e=some 1) (h0:0<=i) (hi:i < l.length) (hk:∀ x p,l[i.toNat]? = some x->eF h1 p [.string x]->K p (h1.lay bs w)):aC (kh T t v (.int kd i)) (h1.lay bs w) K :=
 AB f hd hs h0 hi λx p cs hx hr hp=>hk x p hx (hr ▸ hp)
theorem ixc {l:List cB} (f:Sl aM.clause h1 v l) (hd:T.desc t=some (.slice e)) (hs:dg T e=some 12) (h0:0<=i) (hi:i < l.length) (hk:∀ x p b,l[i.toNat]? = some x->Sl aM.atom h1 b x.body->eF h1 p (x.head.cells++[b])->K p (h1.lay bs w)):aC (kh T t v (.int kd i)) (h1.lay bs w) K :=
 AB f hd hs h0 hi λx p cs hx ⟨b,hr,hb⟩ hp=>hk x p b hx hb (hr ▸ hp)
theorem ma {x:ak} (f:eF h1 p x.cells) (hg:cN T t=some true) (hs:dg T t=some 11) (hk:K x.val (h1.lay bs w)):aC (iD T t p (h1.lay bs w)) (h1.lay bs w) K:=Q7 f hg hs rfl hk
theorem IV {x:aZ} (f:eF h1 p x.cells) (hg:cN T t=some true) (hs:dg T t=some 2) (hk:K x.val (h1.lay bs w)):aC (iD T t p (h1.lay bs w)) (h1.lay bs w) K:=Q7 f hg hs rfl hk
theorem ldc {x:cB} (f:eF h1 p (x.head.cells++[b])) (hg:cN T t=some true) (hs:dg T t=some 12) (hk:K (.agg ⟨x.head.cells++[b]⟩) (h1.lay bs w)):aC (iD T t p (h1.lay bs w)) (h1.lay bs w) K:=Q7 f hg hs rfl hk
theorem wE {cs ds:List ab} {j off:Nat} (f:eF h1 p cs) (lg:∀ A o,iS T s (.pointer (some ⟨A,o,none⟩)) j=some (.pointer (some ⟨A,o+off,none⟩))) (he:(cs.drop off).take ds.length=ds) (hz:0 < ds.length) (hk:∀ q,eF h1 q ds->K q (h1.lay bs w)):aC (iS T s p j) (h1.lay bs w) K:=by
 have hb:off+ds.length<=cs.length:=by
  have:=congrArg List.length he
  rw [gh,kP] at this
  omega
 refine zA1 ds.length f lg hb λq hq=>hk q ?_
 rw [he] at hq
 exact hq
theorem Vi {x:ak} (f:eF h1 p (x.cells)) (lg:∀ A o,iS T s (.pointer (some ⟨A,o,none⟩)) 2=some (.pointer (some ⟨A,o+2,none⟩))) (hk:∀ q,eF h1 q ([.int .i64 x.n])->K q (h1.lay bs w)):aC (iS T s p 2) (h1.lay bs w) K:=wE (ds:=[.int .i64 x.n]) f lg rfl (xC _) hk
theorem Vj {x:ak} (f:eF h1 p (x.cells)) (lg:∀ A o,iS T s (.pointer (some ⟨A,o,none⟩)) 3=some (.pointer (some ⟨A,o+3,none⟩))) (hk:∀ q,eF h1 q (x.nk)->K q (h1.lay bs w)):aC (iS T s p 3) (h1.lay bs w) K:=wE (ds:=x.nk) f lg rfl (xC _) hk
theorem Fs {x:cB} (f:eF h1 p (x.head.cells++[b])) (lg:∀ A o,iS T s (.pointer (some ⟨A,o,none⟩)) 0=some (.pointer (some ⟨A,o+0,none⟩))) (hk:∀ q,eF h1 q (x.head.cells)->K q (h1.lay bs w)):aC (iS T s p 0) (h1.lay bs w) K:=wE (ds:=x.head.cells) f lg rfl (xC _) hk
theorem Ft {x:cB} (f:eF h1 p (x.head.cells++[b])) (lg:∀ A o,iS T s (.pointer (some ⟨A,o,none⟩)) 1=some (.pointer (some ⟨A,o+11,none⟩))) (hk:∀ q,eF h1 q ([b])->K q (h1.lay bs w)):aC (iS T s p 1) (h1.lay bs w) K:=wE (ds:=[b]) f lg rfl (xC _) hk
theorem ixg {x:ak} (f:eF h1 p x.nk) (Sd:∀ A o ik i,kh T s (.pointer (some ⟨A,o,none⟩)) (.int ik i)=if 0<=i/\i < ((4:Nat):Int) then some (.pointer (some ⟨A,o+i.toNat*2,none⟩)) else none) (h0:0<=i) (hi:i < 4) (hk:∀ q,eF h1 q (x.arg i.toNat).cells->K q (h1.lay bs w)) :
 aC (kh T s p (.int kd i)) (h1.lay bs w) K:=by
 refine zyy (m:=4) f Sd h0 (by omega) (bj 8) λq hq=>hk q ?_
 have:i=0\/i=1\/i=2\/i=3:=by omega
 rcases this with rfl|rfl|rfl|rfl <;> exact hq
end
theorem qH {Z:Type} {P:Z->Prop} {l:List Z} {i:Nat} {a:Z} (hx:l[i]? = some a) (aH:∀ x∈l.take i,P x) (ha:P a):∀ x∈l.take (i+1),P x:=by
 intro x hm
 rw [oW,hx] at hm
 simp only [Option.toList_some,mj,hU] at hm
 rcases hm with hm|rfl
 .exact aH x hm
 .exact ha
theorem Qf {a:ak} (h:a.aW=true) (k:Nat):(a.arg k).s.size<=300:=by
 simp only [ak.aW,ep,jH] at h
 obtain ⟨_,_,h0,h1,h2,h3⟩:=h
 match k with
 |0=>exact h0
 |1=>exact h1
 |2=>exact h2
 |k+3=>exact h3
theorem zhv {a:ak} (h:a.aW=true):a.says.size<=300/\a.pred.size<=300:=by
 simp only [ak.aW,ep,jH] at h
 exact ⟨h.1,h.2.1⟩
theorem zzo {a:ak} {u:TypeId} {ro:Bool} {w:Nat}:Sl aM.atom (h.lay [.row a.cells u ro] w) (.slice (some ⟨h.size+0,0,none⟩) 1 1) [a]:=by
 refine .inr ⟨h.size+0,0,1,a.cells,u,ro,rfl,by simp [maxLen],.inl ⟨by decide,bj 1⟩,by rw [bc];simp,by rw [iB];rfl,λi x hx=>?_⟩
 cases i with
 |zero =>
  simp at hx
  subst hx
  exact ⟨a.cells,rfl,rfl⟩
 |succ i=>simp at hx
theorem rJ {p:Prop} [Decidable p] {K:aF} (h1:¬ p->K (.bool true) h) (h2:p->K (.bool false) h):sy (!decide p) h K :=
 ⟨λhp=>h1 (by simpa using hp),λhp=>h2 (by simpa using hp)⟩
theorem vZ {b:Bool} {K:aF} (h1:b=false->K (.bool true) h) (h2:b=true->K (.bool false) h):sy (!b) h K :=
 ⟨λhp=>h1 (by simpa using hp),λhp=>h2 (by simpa using hp)⟩
theorem Ru {b:Bool} {K:aF} (h1:b=true->K (.bool true) h) (h2:b=false->K (.bool false) h):sy b h K:=⟨h1,h2⟩
abbrev aS:=List ak
end Go.Am

/- Arguments of any plain type laid in the plain heap: each block of the world, from each place on, is a row that is read alone. No condition. -/
import Derived.Test.YtjildadoepadeaaGreatDoorG4
import Derived.Test.YtjildadoepadeaaGreatDoorG5
import Derived.OpenShut
import Derived.HandedShaped
import Derived.WideKeyArgs
set_option linter.unusedSimpArgs false
namespace Go.Am
open Go.RowKit Go.ChangeShapes Go.WideShapes Go.ChangeAt
variable {b off:Nat}

def eG (S M:Nat):ai->Bool
 | .bool _ | .int _ _ | .string _=>true
 | .slice none n c=>n == 0 && c == 0
 | .slice (some a) n c=>decide (n<=c) && (decide (c < G) && (c == 0 || (decide (a.block < S) && (a.spot.isNone && decide (a.off < M)))))
 |_=>false
def ot (N M:Nat):ai->ai
 | .slice (some a) n c=>if c=0 then .slice (some ⟨N,0,none⟩) n c else .slice (some ⟨N+(a.block*M+a.off),0,none⟩) n c
 |v=>v
def oH (W:World) (b:Nat):List ai:=match W.heap[b]? with
 |some (.cells c _ _)=>c.toList
 |_=>[]
def v7 (W:World) (N M:Nat) (b off:Nat):List ai:=(((oH W b).drop off).takeWhile (eG W.heap.size M)).map (ot N M)
def IE (W:World) (N M:Nat):List bd:=(List.range (W.heap.size*M)).map λi=>.row (v7 W N M (i / M) (i % M)) 0 true
def pB (W:World) (h:Heap) (M:Nat):Heap:=h.lay (IE W h.size M) (h.size+W.heap.size*M)
def mF (W:World) (h:Heap) (ρ:bU) (M:Nat):bU:=λA=>if h.size<=A/\A < h.size+W.heap.size*M then some ⟨(A - h.size) / M,(A - h.size) % M,0⟩ else ρ A

section
variable {P:Program} {W:World} {h:Heap} {ρ:bU} {M:Nat}
theorem Yx (N:Nat):(IE W N M).length=W.heap.size*M:=by simp [IE]
theorem FU:(pB W h M).size=h.size+W.heap.size*M:=by unfold pB;rw [cF,Yx]
theorem HI {i:Nat} (hi:i < W.heap.size*M):(pB W h M).get (h.size+i)=some (.row (v7 W h.size M (i / M) (i % M)) 0 true):=by
 unfold pB
 rw [iL]
 simp [IE,hi]
theorem MZ {A:Nat} (hA:A < h.size):(pB W h M).get A=h.get A:=uz _ _ _ hA
theorem Gc (hb:b < W.heap.size) (ho:off < M):b*M+off < W.heap.size*M:=by
 calc b*M+off < b*M+M:=by omega
  _=(b+1)*M:=by rw [sz]
  _<=W.heap.size*M:=nU _ hb
theorem NA (ho:off < M):(b*M+off) / M=b:=by
 rw [sy,Nat.mul_add_div (by omega),Nat.div_eq_of_lt ho,iN]
theorem Nq (ho:off < M):(b*M+off) % M=off:=by
 rw [sy,Nat.mul_add_mod,mX ho]
theorem M0 (hb:b < W.heap.size) (ho:off < M):mF W h ρ M (h.size+(b*M+off))=some ⟨b,off,0⟩:=by
 have h1:=Gc (W:=W) hb ho
 unfold mF
 rw [aC ⟨by omega,by omega⟩,Nat.add_sub_cancel_left,NA ho,Nq ho]
theorem Zq (bn:∀ A,h.size<=A->ρ A=none) (A:Nat) (L:Loc) (hA:ρ A=some L):mF W h ρ M A=some L:=by
 unfold mF
 rw [ay]
 .exact hA
 .rintro ⟨h1,_⟩
  rw [bn A h1] at hA
  cases hA
theorem OB (hS:0 < W.heap.size) (hM:0 < M) {u:ai} (hu:eG W.heap.size M u=true):VR (mF W h ρ M) (ot h.size M u) u:=by
 cases u with
 |bool b=>exact .bool b
 |int k n=>exact .int k n
 |string s=>exact .string s
 |slice a n c =>
  cases a with
  |none =>
   simp [eG] at hu
   obtain ⟨rfl,rfl⟩:=hu
   exact .cu
  |some a =>
   simp only [eG,cY,jW,nY,beq_iff_eq] at hu
   obtain ⟨h1,h2,h3⟩:=hu
   by_cases hc:c=0
   .subst hc
    have hr:mF W h ρ M h.size=some ⟨0,0,0⟩:=by
     have:=M0 (h:=h) (ρ:=ρ) hS hM
     simpa using this
    exact VR.slice (L:=⟨0,0,0⟩) hr h2 h1 (λhh=>absurd rfl hh)
   .rcases h3 with h3|⟨h3,h4,h5⟩
    .exact absurd h3 hc
    .simp only [ot,ay hc]
     refine VR.slice (M0 h3 h5) h2 h1 (λ_=>?_)
     obtain ⟨b,o,s⟩:=a
     simp at h4
     subst h4
     simp
 |_=>simp [eG] at hu
theorem zxa {Z:Type} {p:Z->Bool} {l:List Z} {x:Z} (h:x∈l.takeWhile p):p x=true:=by
 induction l with
 |nil=>simp at h
 |cons a l ih =>
  by_cases ha:p a=true
  .rw [List.takeWhile_cons_of_pos ha,i0] at h
   rcases h with rfl|h
   .exact ha
   .exact ih h
  .rw [List.takeWhile_cons_of_neg ha] at h
   simp at h
theorem zr8 {N i:Nat} {v:ai} (hv:(v7 W N M b off)[i]? = some v):∃ u,W.cell? ⟨b,off+i,none⟩=some u/\eG W.heap.size M u=true/\v=ot N M u:=by
 unfold v7 at hv
 rw [lE,bS] at hv
 obtain ⟨u,hu,rfl⟩:=hv
 have cS:=ig hu
 have hp:=zxa cS
 refine ⟨u,?_,hp,rfl⟩
 have jw:((oH W b).drop off).takeWhile (eG W.heap.size M) <+: (oH W b).drop off:=List.takeWhile_prefix _
 have h2:((oH W b).drop off)[i]? = some u:=by
  obtain ⟨t,ht⟩:=jw
  rw [<- ht,kR (fB.1 hu).1]
  exact hu
 rw [ja] at h2
 unfold oH at h2
 unfold World.cell?
 split at h2
 .rename_i c e fz hc
  simp only [hc]
  simpa using h2
 .simp at h2
theorem zuo (hs:bj ρ h W) (bn:∀ A,h.size<=A->ρ A=none) (pX:∀ A L,ρ A=some L->jx h A) (hM:0 < M):bj (mF W h ρ M) (pB W h M) W:=by
 have hn:∀ A,h.size<=A/\A < h.size+W.heap.size*M->∃ b off,b < W.heap.size/\off < M/\A=h.size+(b*M+off):=by
  rintro A ⟨h1,h2⟩
  refine ⟨(A - h.size) / M,(A - h.size) % M,?_,wG _ hM,?_⟩
  .exact Nat.div_lt_of_lt_mul (by rw [sy];omega)
  .have:=Nat.div_add_mod (A - h.size) M
   rw [sy] at this
   omega
 have dt:∀ A L,mF W h ρ M A=some L->¬ (h.size<=A/\A < h.size+W.heap.size*M)->ρ A=some L:=by
  intro A L hA hc
  unfold mF at hA
  rwa [ay hc] at hA
 have lt:∀ A L,ρ A=some L->A < h.size:=by
  intro A L hA
  apply Nat.lt_of_not_le
  intro hh
  rw [bn A hh] at hA
  cases hA
 have ro:∀ A L,mF W h ρ M A=some L->jx (pB W h M) A:=by
  intro A L hA
  by_cases hc:h.size<=A/\A < h.size+W.heap.size*M
  .obtain ⟨b,off,hb,ho,rfl⟩:=hn A hc
   exact ⟨_,_,HI (Gc hb ho)⟩
  .have h1:=dt A L hA hc
   obtain ⟨cs,e,hg⟩:=pX A L h1
   exact ⟨cs,e,(MZ (lt A L h1)).trans hg⟩
 constructor
 .intro A L hA
  by_cases hc:h.size<=A/\A < h.size+W.heap.size*M
  .obtain ⟨b,off,hb,ho,rfl⟩:=hn A hc
   rw [M0 hb ho] at hA
   cases hA
   rw [HI (Gc hb ho),NA ho,Nq ho]
   refine ⟨⟨hb,λhh=>absurd hh (by decide)⟩,λi v hv=>?_⟩
   obtain ⟨u,h1,h2,rfl⟩:=zr8 hv
   exact ⟨u,h1,OB (A7 (pN _) hb) hM h2⟩
  .have h1:=dt A L hA hc
   rw [MZ (lt A L h1)]
   exact (hs.im A L h1).keep (Zq bn) (bg _) λ_=>rfl
 .intro A A' L L' hA da aV hb
  exact .inr (.inr ⟨ro A L hA,ro A' L' da⟩)
end

def dn (P:Program) (h:Heap):Nat->TypeId->List ai->Prop
 |0,_,_=>False
 |n+1,t,cs=>match P.underlying t with
  |some .bool=>∃ b,cs=[.bool b]
  |some (.int k)=>∃ i,cs=[.int k i]/\(Lit.int k i).wf=true
  |some .string=>∃ s:aA,cs=[.string s]/\s.size<=maxLen
  |some (.slice e)=>cs=[.slice none 0 0]\/∃ A len cap row u,cs=[.slice (some ⟨A,0,none⟩) len cap]/\len<=cap/\cap<=maxLen/\A < h.size/\h.get A=some (.row row u true)/\len*P.cellsOf e<=row.length /\
   ∀ i,i < len->dn P h n e ((row.drop (i*P.cellsOf e)).take (P.cellsOf e))
  |some (.struct fs)=>cs.length=P.cellsOf t/\∀ (i:Nat) (f:Field),fs[i]? = some f->dn P h n f.type ((cs.drop f.offset).take (P.cellsOf f.type))
  |some (.array m e)=>cs.length=P.cellsOf t/\∀ i,i < m->dn P h n e ((cs.drop (i*P.cellsOf e)).take (P.cellsOf e))
  |_=>False
def r9 (P:Program):Nat->TypeId->Bool
 |0,_=>false
 |n+1,t=>match P.underlying t with
  |some .bool|some (.int _)|some .string=>true
  |some (.slice e)=>decide (0 < P.cellsOf e) && r9 P n e
  |some (.struct fs)=>(List.range (P.cellsOf t)).all (λj=>fs.toList.any λf=>decide (f.offset<=j/\j < f.offset+P.cellsOf f.type)) && fs.toList.all λf=>r9 P n f.type
  |some (.array m e)=>decide (P.cellsOf t=m*P.cellsOf e) && (decide (0 < P.cellsOf e) && r9 P n e)
  |_=>false

section
variable {P:Program} {W:World} {h:Heap} {M:Nat} {H:Type} {enc:TypeId × ai->H}
def tg (W:World) (M:Nat):Prop:=∀ b,b < W.heap.size->(oH W b).length < M
theorem Nx {a:Addr} {u:ai} (hc:W.cell? a=some u):a.block < W.heap.size/\a.spot=none/\(oH W a.block)[a.off]? = some u:=by
 unfold World.cell? at hc
 split at hc
 .rename_i c e fz hb
  split at hc
  .cases hc
  .rename_i hs
   refine ⟨(jL.1 hb).1,by simpa using hs,?_⟩
   simp only [oH,hb]
   simpa using hc
 .cases hc
theorem zr7 {N n:Nat} (aq:∀ i,i < n->∃ u,(oH W b)[off+i]? = some u/\eG W.heap.size M u=true) :
 n<=(v7 W N M b off).length/\∀ i,i < n->(v7 W N M b off)[i]? = ((oH W b)[off+i]?).map (ot N M):=by
 have key:∀ (l:List ai) (n:Nat),(∀ i,i < n->∃ u,l[i]? = some u/\eG W.heap.size M u=true)->n<=(l.takeWhile (eG W.heap.size M)).length/\∀ i,i < n->(l.takeWhile (eG W.heap.size M))[i]? = l[i]? := by
  intro l
  induction l with
  |nil =>
   intro n hh
   cases n with
   |zero=>exact ⟨pN _,λi hi=>absurd hi (Bh _)⟩
   |succ n=>obtain ⟨u,hu,_⟩:=hh 0 (by omega);simp at hu
  |cons x l ih =>
   intro n hh
   cases n with
   |zero=>exact ⟨pN _,λi hi=>absurd hi (Bh _)⟩
   |succ n =>
    obtain ⟨u,hu,hb⟩:=hh 0 (by omega)
    simp at hu
    subst hu
    obtain ⟨h1,h2⟩:=ih n λi hi=>by
     obtain ⟨u,hu,hb⟩:=hh (i+1) (by omega)
     exact ⟨u,by simpa using hu,hb⟩
    rw [List.takeWhile_cons_of_pos hb]
    refine ⟨by simpa using h1,λi hi=>?_⟩
    cases i with
    |zero=>rfl
    |succ i=>simpa using h2 i (by omega)
 obtain ⟨h1,h2⟩:=key ((oH W b).drop off) n λi hi=>by
  obtain ⟨u,hu,hb⟩:=aq i hi
  exact ⟨u,by rw [ja];exact hu,hb⟩
 unfold v7
 refine ⟨by rw [uQ];exact h1,λi hi=>?_⟩
 rw [lE,h2 i hi,ja]
theorem UH {Z β:Type} (f:Z->β) (l:List Z) (a b:Nat):(((l.map f).drop a).take b)=((l.drop a).take b).map f:=by
 rw [List.map_take,List.map_drop]
theorem zqA (hS:0 < W.heap.size) (qG:tg W M):∀ (n:Nat) (t:TypeId) (cs:List ai) (fuel:Nat) (x:DataW H × List MemPlace),r9 P n t=true->DataW.trod enc P W 0 (λ_=>true) true fuel t cs=some x ->
 (∀ u∈cs,eG W.heap.size M u=true)/\dn P (pB W h M) n t (cs.map (ot h.size M)):=by
 intro n
 induction n with
 |zero=>intro t cs fuel x hc;simp [r9] at hc
 |succ n ih =>
  intro t cs fuel x hc hx
  have hM:0 < M:=A7 (pN _) (qG 0 hS)
  unfold r9 at hc
  unfold dn
  cases hu:P.underlying t with
  |none=>rw [hu] at hc;cases hc
  |some d =>
   rw [hu] at hc
   cases d with
   |bool =>
    obtain ⟨b,rfl,_⟩:=DataW.trod_bool hu hx
    exact ⟨by simp [eG],b,rfl⟩
   |int k =>
    obtain ⟨i,rfl,_,hw⟩:=DataW.trod_int hu hx
    exact ⟨by simp [eG],i,rfl,hw⟩
   |string =>
    obtain ⟨s,rfl,_,hw⟩:=DataW.trod_string hu hx
    exact ⟨by simp [eG],s,rfl,hw⟩
   |slice e =>
    simp only [cY,jW] at hc
    rcases DataW.trod_slice hu hx with ⟨rfl,_⟩|⟨a,len,cap,elems,rest,m,_,rfl,_,_,hle,np,zU,kK,yj,_⟩
    .exact ⟨by simp [eG],.inl rfl⟩
    .obtain ⟨hrl,cq⟩:=yj rfl
     -- each cell up to the capacity
     have aq:∀ i,i < cap->∃ k7 y,W.cells? 0 (a.add (i*P.cellsOf e)) (P.cellsOf e)=some k7/\DataW.trod enc P W 0 (λ_=>true) true m e k7=some y:=by
      intro i hi
      by_cases Dw:i < len
      .have h1:=kK i Dw
       have h2:i < elems.length:=by omega
       rw [lD h2,bB] at h1
       obtain ⟨k7,h3,h4⟩:=h1
       exact ⟨k7,_,h3,h4⟩
      .have h1:=cq (i - len) (by omega)
       have h2:i - len < rest.length:=by omega
       rw [lD h2,bB,show len+(i - len)=i by omega] at h1
       obtain ⟨k7,h3,h4⟩:=h1
       exact ⟨k7,_,h3,h4⟩
     by_cases kE:cap=0
     .subst kE
      have V3:len=0:=by omega
      subst V3
      refine ⟨by simp [eG,G],.inr ⟨h.size,0,0,_,_,rfl,bg _,pN _,?_,HI (h:=h) (i:=0) (Nat.mul_pos hS hM),by simp,λi hi=>absurd hi (Bh _)⟩⟩
      rw [FU];have:=Nat.mul_pos hS hM;omega
     .have fH:∀ i,i < cap->∀ j,j < P.cellsOf e->∃ u,(oH W a.block)[a.off+(i*P.cellsOf e+j)]? = some u/\a.block < W.heap.size/\a.spot=none/\eG W.heap.size M u=true:=by
       intro i hi j hj
       obtain ⟨k7,y,h1,h2⟩:=aq i hi
       obtain ⟨_,h3,h4⟩:=World.cells?_some h1
       have h5:=h4 j hj
       have h6:j < k7.length:=by omega
       rw [lD h6] at h5
       obtain ⟨h7,h8,h9⟩:=Nx h5
       have e1:((a.add (i*P.cellsOf e)).add j).block=a.block:=by unfold Addr.add;split <;> split <;> rfl
       have e2:((a.add (i*P.cellsOf e)).add j).off=a.off+(i*P.cellsOf e+j):=by unfold Addr.add;split <;> split <;> simp_all;omega
       rw [e1,e2] at h9
       rw [e1] at h7
       refine ⟨_,h9,h7,?_,(ih e k7 m y hc.2 h2).1 _ (List.getElem_mem h6)⟩
       obtain ⟨U8,y0,g1,_⟩:=aq 0 (by omega)
       obtain ⟨_,g3,g4⟩:=World.cells?_some g1
       have g5:=g4 0 hc.1
       have g6:0 < U8.length:=by omega
       rw [lD g6] at g5
       have g8:=(Nx g5).2.1
       simpa [Addr.add] using g8
      obtain ⟨u0,L6,hb,bJ,_⟩:=fH 0 (by omega) 0 hc.1
      have oY:a.off < M:=by
       have:=(fB.1 L6).1
       have:=qG _ hb
       omega
      have hG:cap < G:=by unfold G;unfold maxLen at np;omega
      refine ⟨?_,.inr ⟨h.size+(a.block*M+a.off),len,cap,_,_,?_,hle,np,?_,HI (Gc hb oY),?_,?_⟩⟩
      .intro u sL
       simp only [td] at sL
       subst sL
       simp [eG,hle,hG,hb,bJ,oY]
      .simp [ot,kE]
      .rw [FU];have:=Gc (W:=W) hb oY;omega
      all_goals rw [NA oY,Nq oY]
      all_goals
       have cy:=zr7 (N:=h.size) (M:=M) (W:=W) (b:=a.block) (off:=a.off) (n:=cap*P.cellsOf e) (λi hi=>by
        have hk:=hc.1
        obtain ⟨u,h1,_,_,h2⟩:=fH (i / P.cellsOf e) (Nat.div_lt_of_lt_mul (by rw [sy];exact hi)) (i % P.cellsOf e) (wG _ hk)
        refine ⟨u,?_,h2⟩
        rw [<- h1,sy,Nat.div_add_mod])
      .exact iG (nU _ hle) cy.1
      .intro i hi
       obtain ⟨k7,y,h1,h2⟩:=aq i (by omega)
       have h3:=(ih e k7 m y hc.2 h2).2
       have h4:((v7 W h.size M a.block a.off).drop (i*P.cellsOf e)).take (P.cellsOf e)=k7.map (ot h.size M):=by
        obtain ⟨_,g2,g3⟩:=World.cells?_some h1
        have aR:(i+1)*P.cellsOf e<=cap*P.cellsOf e:=nU _ (by omega)
        rw [sz] at aR
        apply uO
        intro j
        by_cases hj:j < P.cellsOf e
        .rw [AW hj,ja,cy.2 _ (by omega),lE]
         congr 1
         have h5:=g3 j hj
         have h6:j < k7.length:=by omega
         rw [lD h6] at h5 ⊢
         obtain ⟨h7,h8,h9⟩:=Nx h5
         have e1:((a.add (i*P.cellsOf e)).add j).block=a.block:=by unfold Addr.add;split <;> split <;> rfl
         have e2:((a.add (i*P.cellsOf e)).add j).off=a.off+(i*P.cellsOf e+j):=by unfold Addr.add;split <;> split <;> simp_all;omega
         rw [e1,e2] at h9
         exact h9
        .rw [wx (by simp;omega),wx (by simp;omega)]
       rw [h4]
       exact h3
   |struct fs =>
    simp only [cY,fD,oI,jW,mZ] at hc
    obtain ⟨xs,m,_,_,hl,Md,hf⟩:=DataW.trod_struct hu hx
    have jq:∀ (i:Nat) (f:Field),fs[i]? = some f->∃ y,DataW.trod enc P W 0 (λ_=>true) true m f.type ((cs.drop f.offset).take (P.cellsOf f.type))=some y:=by
     intro i f xL
     have hi:=(jL.1 xL).1
     have:=hf i f xL
     rw [lD (by omega)] at this
     exact ⟨_,this⟩
    refine ⟨?_,by rw [uQ];exact hl,?_⟩
    .intro u sL
     obtain ⟨j,hj,rfl⟩:=List.getElem_of_mem sL
     obtain ⟨f,Qd,h1,h2⟩:=hc.1 j (by omega)
     obtain ⟨i,hi⟩:=zn Qd
     have oc:fs[i]? = some f:=by simpa using hi
     obtain ⟨y,hy⟩:=jq i f oc
     refine (ih f.type _ m y (hc.2 f Qd) hy).1 _ ?_
     refine ig (i:=j - f.offset) ?_
     rw [AW (by omega),ja,show f.offset+(j - f.offset)=j by omega,lD hj]
    .intro i f xL
     obtain ⟨y,hy⟩:=jq i f xL
     rw [UH]
     exact (ih f.type _ m y (hc.2 f (by simpa using Array.mem_of_getElem? xL)) hy).2
   |array m e =>
    simp only [cY,jW] at hc
    obtain ⟨xs,fu,_,_,hl,Md,hf⟩:=DataW.trod_array hu hx
    have jq:∀ i,i < m->∃ y,DataW.trod enc P W 0 (λ_=>true) true fu e ((cs.drop (i*P.cellsOf e)).take (P.cellsOf e))=some y:=by
     intro i hi
     have:=hf i hi
     rw [lD (by omega)] at this
     exact ⟨_,this⟩
    refine ⟨?_,by rw [uQ];exact hl,?_⟩
    .intro u sL
     obtain ⟨j,hj,rfl⟩:=List.getElem_of_mem sL
     have V0:j / P.cellsOf e < m:=Nat.div_lt_of_lt_mul (by rw [sy];omega)
     obtain ⟨y,hy⟩:=jq _ V0
     refine (ih e _ fu y hc.2.2 hy).1 _ ?_
     refine ig (i:=j % P.cellsOf e) ?_
     rw [AW (wG _ hc.2.1),ja,sy,Nat.div_add_mod,lD hj]
    .intro i hi
     obtain ⟨y,hy⟩:=jq i hi
     rw [UH]
     exact (ih e _ fu y hc.2.2 hy).2
   |_=>simp at hc
end
end Go.Am
namespace Go.Am
open Go.RowKit Go.ChangeShapes Go.WideShapes Go.ChangeAt
variable {ρ:bU} {h:Heap}
section
variable {P:Program} {T:bm} {ov:Ov} {W:World} {H:Type} {enc:TypeId × ai->H}
theorem zor (W:World):∃ M,tg W M:=by
 have key:∀ n,∃ M,∀ b,b < n->(oH W b).length < M:=by
  intro n
  induction n with
  |zero=>exact ⟨0,λb hb=>absurd hb (Bh _)⟩
  |succ n ih =>
   obtain ⟨M,hM⟩:=ih
   refine ⟨max M ((oH W n).length+1),λb hb=>?_⟩
   by_cases h:b < n
   .have:=hM b h;omega
   .have:b=n:=by omega
    subst this;omega
 exact key W.heap.size
theorem zpI (ix:P.follows .mixedOrders=true) (hT:T.Fits P) (lK:uV P T.gs ov) {f:FuncId} (hf:ov f=none) {args:List ai} {aB:Array ai}
 (hG:cf T.gs ρ) (hs:bj ρ h W) (bn:∀ A,h.size<=A->ρ A=none) (hl:h.low=h.size) (hv:bQ ρ args aB.toList) (cE:Ok P T ov f args h λv h'=>v=.bool true/\Ext h h') :
 Calls P f aB W λe w'=>e=.returned (.bool true)/\Below W.heap.size W w':=by
 obtain ⟨n,v,h',cW,rfl,hx⟩:=cE
 have nt:=(M7 ix hT lK n).fn f args h (.bool true) h' cW ρ W aB hG hs (λA h1 _=>bn A h1) hv
 rcases nt with ⟨ρ',u,w',h1,_⟩|⟨_,h1⟩
 .exfalso
  cases n with
  |zero=>simp [call] at cW
  |succ n =>
   simp only [call,hf,bB] at cW
   obtain ⟨fn,oU,c,hc,_⟩:=cW
   obtain ⟨hP,fK,_⟩:=hT.fn f fn oU
   have dU:¬ fn.name="runtime.NumGoroutine":=by simpa using fK
   simp [callFunc,hP,dU,hc] at h1
 .refine h1.mono ?_
  rintro e w' ⟨ρ',u,rfl,f1,s1,hv⟩
  refine ⟨?_,f1.below λA L hA=>?_⟩
  .rw [hv.bc rfl]
  .have h2:A < h.size:=by
    apply Nat.lt_of_not_le
    intro hh
    rw [bn A hh] at hA
    cases hA
   have:=hx.low
   omega

def s8 (P:Program) (h:Heap) (n:Nat) (t:TypeId) (v:ai):Prop:=match P.underlying t with
 |some (.struct _)|some (.array _ _)=>∃ cs,v=.agg ⟨cs⟩/\dn P h n t cs
 |_=>dn P h n t [v]
def sZ (P:Program) (h:Heap) (n:Nat):List TypeId->List ai->Prop
 | [],[]=>True
 |t::ts,v::vs=>s8 P h n t v/\sZ P h n ts vs
 |_,_=>False
def kb (N M:Nat):ai->ai
 | .agg cs=>.agg ⟨cs.toList.map (ot N M)⟩
 |v=>ot N M v

theorem zvf {M:Nat} (hS:0 < W.heap.size) (hM:0 < M) {cs:List ai} (hc:∀ u∈cs,eG W.heap.size M u=true):bQ (mF W h ρ M) (cs.map (ot h.size M)) cs:=by
 refine ⟨by simp,λi x y hx hy=>?_⟩
 rw [lE,hy] at hx
 cases hx
 exact OB hS hM (hc y (ig hy))

theorem zun {M n base:Nat} {t:TypeId} {v:ai} {d:DataW H} {ps:List MemPlace} (hS:0 < W.heap.size) (qG:tg W M) (hc:r9 P n t=true) (eF:Value.okWide P W .any base t v) (ht:DataW.Trod enc P W 0 (λ_=>true) true t v d ps) :
 VR (mF W h ρ M) (kb h.size M v) v/\s8 P (pB W h M) n t (kb h.size M v):=by
 have hM:0 < M:=A7 (pN _) (qG 0 hS)
 obtain ⟨fuel,ht⟩:=ht
 obtain ⟨h1,h2⟩:=zqA (h:=h) hS qG n t _ fuel _ hc ht
 have agg:∀ cs,v=.agg cs->VR (mF W h ρ M) (kb h.size M v) v/\kb h.size M v=.agg ⟨v.cells.toList.map (ot h.size M)⟩:=by
  rintro cs rfl
  refine ⟨?_,rfl⟩
  have:=zvf (ρ:=ρ) (h:=h) hS hM h1
  have:=this.toArray
  simpa [kb,Value.cells] using this
 have one:v.cells=#[v]->VR (mF W h ρ M) (kb h.size M v) v/\v.cells.toList.map (ot h.size M)=[kb h.size M v]:=by
  intro hv
  rw [hv] at h1 ⊢
  have hb:=h1 v (by simp)
  have hi:kb h.size M v=ot h.size M v:=by
   cases v with
   |agg cs=>simp [eG] at hb
   |_=>rfl
  rw [hi]
  exact ⟨OB hS hM hb,rfl⟩
 unfold s8
 unfold Value.okWide at eF
 cases n with
 |zero=>simp [r9] at hc
 |succ n =>
  simp only [r9] at hc
  cases hu:P.underlying t with
  |none=>rw [hu] at hc;simp at hc
  |some dd =>
   rw [hu] at hc eF
   cases dd with
   |struct fs =>
    obtain ⟨cs,hv,_⟩:=eF
    obtain ⟨a1,a2⟩:=agg cs hv
    exact ⟨a1,_,a2,h2⟩
   |array m e =>
    obtain ⟨cs,hv,_⟩:=eF
    obtain ⟨a1,a2⟩:=agg cs hv
    exact ⟨a1,_,a2,h2⟩
   |bool =>
    simp only [Cell.okWide,Cell.ok,hu] at eF
    cases v <;> simp at eF
    obtain ⟨a1,a2⟩:=one rfl
    exact ⟨a1,by rw [<- a2];exact h2⟩
   |int k =>
    simp only [Cell.okWide,Cell.ok,hu] at eF
    cases v <;> simp at eF
    obtain ⟨a1,a2⟩:=one rfl
    exact ⟨a1,by rw [<- a2];exact h2⟩
   |string =>
    simp only [Cell.okWide,Cell.ok,hu] at eF
    cases v <;> simp at eF
    obtain ⟨a1,a2⟩:=one rfl
    exact ⟨a1,by rw [<- a2];exact h2⟩
   |slice e =>
    simp only [Cell.okWide,Cell.ok,hu] at eF
    cases v <;> simp at eF
    obtain ⟨a1,a2⟩:=one rfl
    exact ⟨a1,by rw [<- a2];exact h2⟩
   |_=>simp at hc

theorem TC {h:Heap} {ρ:bU} {M n base:Nat} (hS:0 < W.heap.size) (qG:tg W M):∀ (ts:List TypeId) (vs:List ai) (ds:List (DataW H)) (ps:List MemPlace),ts.all (r9 P n)=true ->
 (∀ (j:Nat) t v,ts[j]? = some t->vs[j]? = some v->Value.okWide P W .any base t v)->DataW.TrodAll enc P W 0 (λ_=>true) true ts vs ds ps ->
 bQ (mF W h ρ M) (vs.map (kb h.size M)) vs/\sZ P (pB W h M) n ts (vs.map (kb h.size M))
 | [],[],[],_,_,_,_=>⟨.nil _,trivial⟩
 |t::ts,v::vs,d::ds,ps,hc,eF,ht=>by
  simp only [kS,cY] at hc
  obtain ⟨p,q,h1,h2,_⟩:=ht
  obtain ⟨a1,a2⟩:=zun (h:=h) (ρ:=ρ) hS qG hc.1 (eF 0 t v rfl rfl) h1
  obtain ⟨b1,b2⟩:=TC (h:=h) (ρ:=ρ) hS qG ts vs ds q hc.2 (λj t v h3 h4=>eF (j+1) t v (by simpa using h3) (by simpa using h4)) h2
  exact ⟨.cons a1 b1,a2,b2⟩
 | [],[],_::_,_,_,_,ht=>ht.elim
 | [],_::_,_,_,_,_,ht=>by cases ht
 |_::_,[],_,_,_,_,ht=>by cases ht
 |_::_,_::_,[],_,_,_,ht=>by cases ht

theorem RN (hl:laidOutB P=true) {W W':World} (hb:Below W.heap.size W W') (sp:Nat->Bool):∀ (ts:List TypeId) (vs:List ai) (ds:List (DataW H)) (ps:List MemPlace),ts.all (λt=>P.readableRec t && decide (t < P.types.size))=true ->
 (∀ x∈ps,x.block < W.heap.size)->(∀ x∈ps,sp x.block=true)->DataW.TrodAll enc P W 0 (λ_=>true) true ts vs ds ps->DataW.TrodAll enc P W' 0 sp true ts vs ds ps
 | [],[],[],_,_,_,_,h=>h
 |t::ts,v::vs,d::ds,ps,hr,aS,bJ,h=>by
  simp only [kS,cY,jW] at hr
  obtain ⟨p,q,h1,h2,rfl⟩:=h
  exact ⟨p,q,WideElems.Trod_stays hl hr.1.1 hr.1.2 h1 (λx hx=>hb.same (aS x (by simp [hx]))) (λx hx=>bJ x (by simp [hx])),
   RN hl hb sp ts vs ds q hr.2 (λx hx=>aS x (by simp [hx])) (λx hx=>bJ x (by simp [hx])) h2,rfl⟩
 | [],[],_::_,_,_,_,_,h=>h.elim
 | [],_::_,_,_,_,_,_,h=>by cases h
 |_::_,[],_,_,_,_,_,h=>by cases h
 |_::_,_::_,[],_,_,_,_,h=>by cases h

end
end Go.Am

/- Arguments of any plain type laid in the plain heap: each block of the world, from each place on, is a row that is read alone. No condition. -/
import Derived.Test.YtnkmeidmdaidhaaGreatDoorG4
import Derived.OpenShut
import Derived.HandedShaped
import Derived.WideKeyArgs
set_option linter.unusedSimpArgs false
namespace Go.Am
open Go.RowKit Go.ChangeShapes Go.WideShapes Go.ChangeAt
variable {b off:Nat}

def gb (S M:Nat):ai->Bool
 | .bool _ | .int _ _ | .string _=>true
 | .slice none n c=>n == 0 && c == 0
 | .slice (some a) n c=>decide (n<=c) && (decide (c < G) && (c == 0 || (decide (a.block < S) && (a.spot.isNone && decide (a.off < M)))))
 |_=>false
def sb (N M:Nat):ai->ai
 | .slice (some a) n c=>if c=0 then .slice (some ⟨N,0,none⟩) n c else .slice (some ⟨N+(a.block*M+a.off),0,none⟩) n c
 |v=>v
def ss (W:World) (b:Nat):List ai:=match W.heap[b]? with
 |some (.cells c _ _)=>c.toList
 |_=>[]
def BV (W:World) (N M:Nat) (b off:Nat):List ai:=(((ss W b).drop off).takeWhile (gb W.heap.size M)).map (sb N M)
def Pn (W:World) (N M:Nat):List aZ:=(List.range (W.heap.size*M)).map λi=>.row (BV W N M (i / M) (i % M)) 0 true
def tF (W:World) (h:Heap) (M:Nat):Heap:=h.lay (Pn W h.size M) (h.size+W.heap.size*M)
def pX (W:World) (h:Heap) (ρ:ct) (M:Nat):ct:=λA=>if h.size<=A/\A < h.size+W.heap.size*M then some ⟨(A - h.size) / M,(A - h.size) % M,0⟩ else ρ A

section
variable {P:Program} {W:World} {h:Heap} {ρ:ct} {M:Nat}
theorem zl9 (N:Nat):(Pn W N M).length=W.heap.size*M:=by simp [Pn]
theorem K3:(tF W h M).size=h.size+W.heap.size*M:=by unfold tF;rw [br,zl9]
theorem NR {i:Nat} (hi:i < W.heap.size*M):(tF W h M).get (h.size+i)=some (.row (BV W h.size M (i / M) (i % M)) 0 true):=by
 unfold tF
 rw [kE]
 simp [Pn,hi]
theorem Vt {A:Nat} (hA:A < h.size):(tF W h M).get A=h.get A:=sd _ _ _ hA
theorem LP (hb:b < W.heap.size) (ho:off < M):b*M+off < W.heap.size*M:=by
 calc b*M+off < b*M+M:=by omega
  _=(b+1)*M:=by rw [uK]
  _<=W.heap.size*M:=tN _ hb
theorem WJ (ho:off < M):(b*M+off) / M=b:=by
 rw [xk,Nat.mul_add_div (by omega),Nat.div_eq_of_lt ho,gS]
theorem WK (ho:off < M):(b*M+off) % M=off:=by
 rw [xk,Nat.mul_add_mod,Cj ho]
theorem Vu (hb:b < W.heap.size) (ho:off < M):pX W h ρ M (h.size+(b*M+off))=some ⟨b,off,0⟩:=by
 have h1:=LP (W:=W) hb ho
 unfold pX
 rw [aB ⟨by omega,by omega⟩,LH,WJ ho,WK ho]
theorem zo0 (b8:∀ A,h.size<=A->ρ A=none) (A:Nat) (L:Loc) (hA:ρ A=some L):pX W h ρ M A=some L:=by
 unfold pX
 rw [aA]
 .exact hA
 .rintro ⟨h1,_⟩
  rw [b8 A h1] at hA
  cases hA
theorem Xu (hS:0 < W.heap.size) (hM:0 < M) {u:ai} (hu:gb W.heap.size M u=true):VR (pX W h ρ M) (sb h.size M u) u:=by
 cases u with
 |bool b=>exact .bool b
 |int k n=>exact .int k n
 |string s=>exact .string s
 |slice a n c =>
  cases a with
  |none =>
   simp [gb] at hu
   obtain ⟨rfl,rfl⟩:=hu
   exact .dD
  |some a =>
   simp only [gb,dW,ix,sF,beq_iff_eq] at hu
   obtain ⟨h1,h2,h3⟩:=hu
   by_cases hc:c=0
   .subst hc
    have hr:pX W h ρ M h.size=some ⟨0,0,0⟩:=by
     have:=Vu (h:=h) (ρ:=ρ) hS hM
     simpa using this
    exact VR.slice (L:=⟨0,0,0⟩) hr h2 h1 (λhh=>absurd rfl hh)
   .rcases h3 with h3|⟨h3,h4,h5⟩
    .exact absurd h3 hc
    .simp only [sb,aA hc]
     refine VR.slice (Vu h3 h5) h2 h1 (λ_=>?_)
     obtain ⟨b,o,s⟩:=a
     simp at h4
     subst h4
     simp
 |_=>simp [gb] at hu
theorem zBB {Z:Type} {p:Z->Bool} {l:List Z} {x:Z} (h:x∈l.takeWhile p):p x=true:=by
 induction l with
 |nil=>simp at h
 |cons a l ih =>
  by_cases ha:p a=true
  .rw [List.takeWhile_cons_of_pos ha,db] at h
   rcases h with rfl|h
   .exact ha
   .exact ih h
  .rw [List.takeWhile_cons_of_neg ha] at h
   simp at h
theorem zvN {N i:Nat} {v:ai} (hv:(BV W N M b off)[i]? = some v):∃ u,W.cell? ⟨b,off+i,none⟩=some u/\gb W.heap.size M u=true/\v=sb N M u:=by
 unfold BV at hv
 rw [lk,cn] at hv
 obtain ⟨u,hu,rfl⟩:=hv
 have eL:=ek hu
 have hp:=zBB eL
 refine ⟨u,?_,hp,rfl⟩
 have mg:((ss W b).drop off).takeWhile (gb W.heap.size M) <+: (ss W b).drop off:=List.takeWhile_prefix _
 have h2:((ss W b).drop off)[i]? = some u:=by
  obtain ⟨t,ht⟩:=mg
  rw [<- ht,jC (fR.1 hu).1]
  exact hu
 rw [lJ] at h2
 unfold ss at h2
 unfold World.cell?
 split at h2
 .rename_i c e fz hc
  simp only [hc]
  simpa using h2
 .simp at h2
theorem zyq (hs:bM ρ h W) (b8:∀ A,h.size<=A->ρ A=none) (FU:∀ A L,ρ A=some L->m7 h A) (hM:0 < M):bM (pX W h ρ M) (tF W h M) W:=by
 have hn:∀ A,h.size<=A/\A < h.size+W.heap.size*M->∃ b off,b < W.heap.size/\off < M/\A=h.size+(b*M+off):=by
  rintro A ⟨h1,h2⟩
  refine ⟨(A - h.size) / M,(A - h.size) % M,?_,Nat.mod_lt _ hM,?_⟩
  .exact Nat.div_lt_of_lt_mul (by rw [xk];omega)
  .have:=Nat.div_add_mod (A - h.size) M
   rw [xk] at this
   omega
 have eA:∀ A L,pX W h ρ M A=some L->¬ (h.size<=A/\A < h.size+W.heap.size*M)->ρ A=some L:=by
  intro A L hA hc
  unfold pX at hA
  rwa [aA hc] at hA
 have lt:∀ A L,ρ A=some L->A < h.size:=by
  intro A L hA
  apply Nat.lt_of_not_le
  intro hh
  rw [b8 A hh] at hA
  cases hA
 have ro:∀ A L,pX W h ρ M A=some L->m7 (tF W h M) A:=by
  intro A L hA
  by_cases hc:h.size<=A/\A < h.size+W.heap.size*M
  .obtain ⟨b,off,hb,ho,rfl⟩:=hn A hc
   exact ⟨_,_,NR (LP hb ho)⟩
  .have h1:=eA A L hA hc
   obtain ⟨cs,e,hg⟩:=FU A L h1
   exact ⟨cs,e,(Vt (lt A L h1)).trans hg⟩
 constructor
 .intro A L hA
  by_cases hc:h.size<=A/\A < h.size+W.heap.size*M
  .obtain ⟨b,off,hb,ho,rfl⟩:=hn A hc
   rw [Vu hb ho] at hA
   cases hA
   rw [NR (LP hb ho),WJ ho,WK ho]
   refine ⟨⟨hb,λhh=>absurd hh (by decide)⟩,λi v hv=>?_⟩
   obtain ⟨u,h1,h2,rfl⟩:=zvN hv
   exact ⟨u,h1,Xu (Nat.lt_of_le_of_lt (jl _) hb) hM h2⟩
  .have h1:=eA A L hA hc
   rw [Vt (lt A L h1)]
   exact (hs.lx A L h1).fN (zo0 b8) (aQ _) λ_=>rfl
 .intro A A' L L' hA fw aL hb
  exact .inr (.inr ⟨ro A L hA,ro A' L' fw⟩)
end

def ja (P:Program) (h:Heap):Nat->TypeId->List ai->Prop
 |0,_,_=>False
 |n+1,t,cs=>match P.underlying t with
  |some .bool=>∃ b,cs=[.bool b]
  |some (.int k)=>∃ i,cs=[.int k i]/\(Lit.int k i).wf=true
  |some .string=>∃ s:aV,cs=[.string s]/\s.size<=maxLen
  |some (.slice e)=>cs=[.slice none 0 0]\/∃ A len cap row u,cs=[.slice (some ⟨A,0,none⟩) len cap]/\len<=cap/\cap<=maxLen/\A < h.size/\h.get A=some (.row row u true)/\len*P.cellsOf e<=row.length /\
   ∀ i,i < len->ja P h n e ((row.drop (i*P.cellsOf e)).take (P.cellsOf e))
  |some (.struct fs)=>cs.length=P.cellsOf t/\∀ (i:Nat) (f:Field),fs[i]? = some f->ja P h n f.type ((cs.drop f.offset).take (P.cellsOf f.type))
  |some (.array m e)=>cs.length=P.cellsOf t/\∀ i,i < m->ja P h n e ((cs.drop (i*P.cellsOf e)).take (P.cellsOf e))
  |_=>False
def xa (P:Program):Nat->TypeId->Bool
 |0,_=>false
 |n+1,t=>match P.underlying t with
  |some .bool|some (.int _)|some .string=>true
  |some (.slice e)=>decide (0 < P.cellsOf e) && xa P n e
  |some (.struct fs)=>(List.range (P.cellsOf t)).all (λj=>fs.toList.any λf=>decide (f.offset<=j/\j < f.offset+P.cellsOf f.type)) && fs.toList.all λf=>xa P n f.type
  |some (.array m e)=>decide (P.cellsOf t=m*P.cellsOf e) && (decide (0 < P.cellsOf e) && xa P n e)
  |_=>false

section
variable {P:Program} {W:World} {h:Heap} {M:Nat} {H:Type} {enc:TypeId × ai->H}
def yn (W:World) (M:Nat):Prop:=∀ b,b < W.heap.size->(ss W b).length < M
theorem WH {a:Addr} {u:ai} (hc:W.cell? a=some u):a.block < W.heap.size/\a.spot=none/\(ss W a.block)[a.off]? = some u:=by
 unfold World.cell? at hc
 split at hc
 .rename_i c e fz hb
  split at hc
  .cases hc
  .rename_i hs
   refine ⟨(my.1 hb).1,by simpa using hs,?_⟩
   simp only [ss,hb]
   simpa using hc
 .cases hc
theorem zvM {N n:Nat} (aE:∀ i,i < n->∃ u,(ss W b)[off+i]? = some u/\gb W.heap.size M u=true) :
 n<=(BV W N M b off).length/\∀ i,i < n->(BV W N M b off)[i]? = ((ss W b)[off+i]?).map (sb N M):=by
 have key:∀ (l:List ai) (n:Nat),(∀ i,i < n->∃ u,l[i]? = some u/\gb W.heap.size M u=true)->n<=(l.takeWhile (gb W.heap.size M)).length/\∀ i,i < n->(l.takeWhile (gb W.heap.size M))[i]? = l[i]? := by
  intro l
  induction l with
  |nil =>
   intro n hh
   cases n with
   |zero=>exact ⟨jl _,λi hi=>absurd hi (uH _)⟩
   |succ n=>obtain ⟨u,hu,_⟩:=hh 0 (by omega);simp at hu
  |cons x l ih =>
   intro n hh
   cases n with
   |zero=>exact ⟨jl _,λi hi=>absurd hi (uH _)⟩
   |succ n =>
    obtain ⟨u,hu,hb⟩:=hh 0 (by omega)
    simp at hu
    subst hu
    obtain ⟨h1,h2⟩:=ih n λi hi=>by
     obtain ⟨u,hu,hb⟩:=hh (i+1) (by omega)
     exact ⟨u,by simpa using hu,hb⟩
    rw [List.takeWhile_cons_of_pos hb]
    refine ⟨by simpa using h1,λi hi=>?_⟩
    cases i with
    |zero=>rfl
    |succ i=>simpa using h2 i (by omega)
 obtain ⟨h1,h2⟩:=key ((ss W b).drop off) n λi hi=>by
  obtain ⟨u,hu,hb⟩:=aE i hi
  exact ⟨u,by rw [lJ];exact hu,hb⟩
 unfold BV
 refine ⟨by rw [gq];exact h1,λi hi=>?_⟩
 rw [lk,h2 i hi,lJ]
theorem zzc {Z β:Type} (f:Z->β) (l:List Z) (a b:Nat):(((l.map f).drop a).take b)=((l.drop a).take b).map f:=by
 rw [List.map_take,List.map_drop]
theorem ztZ (hS:0 < W.heap.size) (u9:yn W M):∀ (n:Nat) (t:TypeId) (cs:List ai) (fuel:Nat) (x:DataW H × List MemPlace),xa P n t=true->DataW.trod enc P W 0 (λ_=>true) true fuel t cs=some x ->
 (∀ u∈cs,gb W.heap.size M u=true)/\ja P (tF W h M) n t (cs.map (sb h.size M)):=by
 intro n
 induction n with
 |zero=>intro t cs fuel x hc;simp [xa] at hc
 |succ n ih =>
  intro t cs fuel x hc hx
  have hM:0 < M:=Nat.lt_of_le_of_lt (jl _) (u9 0 hS)
  unfold xa at hc
  unfold ja
  cases hu:P.underlying t with
  |none=>rw [hu] at hc;cases hc
  |some d =>
   rw [hu] at hc
   cases d with
   |bool =>
    obtain ⟨b,rfl,_⟩:=DataW.trod_bool hu hx
    exact ⟨by simp [gb],b,rfl⟩
   |int k =>
    obtain ⟨i,rfl,_,hw⟩:=DataW.trod_int hu hx
    exact ⟨by simp [gb],i,rfl,hw⟩
   |string =>
    obtain ⟨s,rfl,_,hw⟩:=DataW.trod_string hu hx
    exact ⟨by simp [gb],s,rfl,hw⟩
   |slice e =>
    simp only [dW,ix] at hc
    rcases DataW.trod_slice hu hx with ⟨rfl,_⟩|⟨a,len,cap,elems,rest,m,_,rfl,_,_,hle,qT,yN,nD,DO,_⟩
    .exact ⟨by simp [gb],.inl rfl⟩
    .obtain ⟨Ns,gW⟩:=DO rfl
     -- each cell up to the capacity
     have aE:∀ i,i < cap->∃ mD y,W.cells? 0 (a.add (i*P.cellsOf e)) (P.cellsOf e)=some mD/\DataW.trod enc P W 0 (λ_=>true) true m e mD=some y:=by
      intro i hi
      by_cases fm:i < len
      .have h1:=nD i fm
       have h2:i < elems.length:=by omega
       rw [gG h2,cy] at h1
       obtain ⟨mD,h3,h4⟩:=h1
       exact ⟨mD,_,h3,h4⟩
      .have h1:=gW (i - len) (by omega)
       have h2:i - len < rest.length:=by omega
       rw [gG h2,cy,show len+(i - len)=i by omega] at h1
       obtain ⟨mD,h3,h4⟩:=h1
       exact ⟨mD,_,h3,h4⟩
     by_cases jn:cap=0
     .subst jn
      have Bb:len=0:=by omega
      subst Bb
      refine ⟨by simp [gb,G],.inr ⟨h.size,0,0,_,_,rfl,aQ _,jl _,?_,NR (h:=h) (i:=0) (Nat.mul_pos hS hM),by simp,λi hi=>absurd hi (uH _)⟩⟩
      rw [K3];have:=Nat.mul_pos hS hM;omega
     .have gw:∀ i,i < cap->∀ j,j < P.cellsOf e->∃ u,(ss W a.block)[a.off+(i*P.cellsOf e+j)]? = some u/\a.block < W.heap.size/\a.spot=none/\gb W.heap.size M u=true:=by
       intro i hi j hj
       obtain ⟨mD,y,h1,h2⟩:=aE i hi
       obtain ⟨_,h3,h4⟩:=World.cells?_some h1
       have h5:=h4 j hj
       have h6:j < mD.length:=by omega
       rw [gG h6] at h5
       obtain ⟨h7,h8,h9⟩:=WH h5
       have e1:((a.add (i*P.cellsOf e)).add j).block=a.block:=by unfold Addr.add;split <;> split <;> rfl
       have e2:((a.add (i*P.cellsOf e)).add j).off=a.off+(i*P.cellsOf e+j):=by unfold Addr.add;split <;> split <;> simp_all;omega
       rw [e1,e2] at h9
       rw [e1] at h7
       refine ⟨_,h9,h7,?_,(ih e mD m y hc.2 h2).1 _ (List.getElem_mem h6)⟩
       obtain ⟨cs0,y0,g1,_⟩:=aE 0 (by omega)
       obtain ⟨_,g3,g4⟩:=World.cells?_some g1
       have g5:=g4 0 hc.1
       have g6:0 < cs0.length:=by omega
       rw [gG g6] at g5
       have g8:=(WH g5).2.1
       simpa [Addr.add] using g8
      obtain ⟨u0,TQ,hb,dq,_⟩:=gw 0 (by omega) 0 hc.1
      have oE:a.off < M:=by
       have:=(fR.1 TQ).1
       have:=u9 _ hb
       omega
      have hG:cap < G:=by unfold G;unfold maxLen at qT;omega
      refine ⟨?_,.inr ⟨h.size+(a.block*M+a.off),len,cap,_,_,?_,hle,qT,?_,NR (LP hb oE),?_,?_⟩⟩
      .intro u xD
       simp only [eM] at xD
       subst xD
       simp [gb,hle,hG,hb,dq,oE]
      .simp [sb,jn]
      .rw [K3];have:=LP (W:=W) hb oE;omega
      all_goals rw [WJ oE,WK oE]
      all_goals
       have dI:=zvM (N:=h.size) (M:=M) (W:=W) (b:=a.block) (off:=a.off) (n:=cap*P.cellsOf e) (λi hi=>by
        have hk:=hc.1
        obtain ⟨u,h1,_,_,h2⟩:=gw (i / P.cellsOf e) (Nat.div_lt_of_lt_mul (by rw [xk];exact hi)) (i % P.cellsOf e) (Nat.mod_lt _ hk)
        refine ⟨u,?_,h2⟩
        rw [<- h1,xk,Nat.div_add_mod])
      .exact dZ (tN _ hle) dI.1
      .intro i hi
       obtain ⟨mD,y,h1,h2⟩:=aE i (by omega)
       have h3:=(ih e mD m y hc.2 h2).2
       have h4:((BV W h.size M a.block a.off).drop (i*P.cellsOf e)).take (P.cellsOf e)=mD.map (sb h.size M):=by
        obtain ⟨_,g2,g3⟩:=World.cells?_some h1
        have aU:(i+1)*P.cellsOf e<=cap*P.cellsOf e:=tN _ (by omega)
        rw [uK] at aU
        apply xi
        intro j
        by_cases hj:j < P.cellsOf e
        .rw [EW hj,lJ,dI.2 _ (by omega),lk]
         congr 1
         have h5:=g3 j hj
         have h6:j < mD.length:=by omega
         rw [gG h6] at h5 ⊢
         obtain ⟨h7,h8,h9⟩:=WH h5
         have e1:((a.add (i*P.cellsOf e)).add j).block=a.block:=by unfold Addr.add;split <;> split <;> rfl
         have e2:((a.add (i*P.cellsOf e)).add j).off=a.off+(i*P.cellsOf e+j):=by unfold Addr.add;split <;> split <;> simp_all;omega
         rw [e1,e2] at h9
         exact h9
        .rw [GR (by simp;omega),GR (by simp;omega)]
       rw [h4]
       exact h3
   |struct fs =>
    simp only [dW,jE,Fc,ix,uI] at hc
    obtain ⟨xs,m,_,_,hl,Ue,hf⟩:=DataW.trod_struct hu hx
    have lY:∀ (i:Nat) (f:Field),fs[i]? = some f->∃ y,DataW.trod enc P W 0 (λ_=>true) true m f.type ((cs.drop f.offset).take (P.cellsOf f.type))=some y:=by
     intro i f yQ
     have hi:=(my.1 yQ).1
     have:=hf i f yQ
     rw [gG (by omega)] at this
     exact ⟨_,this⟩
    refine ⟨?_,by rw [gq];exact hl,?_⟩
    .intro u xD
     obtain ⟨j,hj,rfl⟩:=tM xD
     obtain ⟨f,IQ,h1,h2⟩:=hc.1 j (by omega)
     obtain ⟨i,hi⟩:=E6 IQ
     have lZ:fs[i]? = some f:=by simpa using hi
     obtain ⟨y,hy⟩:=lY i f lZ
     refine (ih f.type _ m y (hc.2 f IQ) hy).1 _ ?_
     refine ek (i:=j - f.offset) ?_
     rw [EW (by omega),lJ,show f.offset+(j - f.offset)=j by omega,gG hj]
    .intro i f yQ
     obtain ⟨y,hy⟩:=lY i f yQ
     rw [zzc]
     exact (ih f.type _ m y (hc.2 f (by simpa using Array.mem_of_getElem? yQ)) hy).2
   |array m e =>
    simp only [dW,ix] at hc
    obtain ⟨xs,fu,_,_,hl,Ue,hf⟩:=DataW.trod_array hu hx
    have lY:∀ i,i < m->∃ y,DataW.trod enc P W 0 (λ_=>true) true fu e ((cs.drop (i*P.cellsOf e)).take (P.cellsOf e))=some y:=by
     intro i hi
     have:=hf i hi
     rw [gG (by omega)] at this
     exact ⟨_,this⟩
    refine ⟨?_,by rw [gq];exact hl,?_⟩
    .intro u xD
     obtain ⟨j,hj,rfl⟩:=tM xD
     have Zj:j / P.cellsOf e < m:=Nat.div_lt_of_lt_mul (by rw [xk];omega)
     obtain ⟨y,hy⟩:=lY _ Zj
     refine (ih e _ fu y hc.2.2 hy).1 _ ?_
     refine ek (i:=j % P.cellsOf e) ?_
     rw [EW (Nat.mod_lt _ hc.2.1),lJ,xk,Nat.div_add_mod,gG hj]
    .intro i hi
     obtain ⟨y,hy⟩:=lY i hi
     rw [zzc]
     exact (ih e _ fu y hc.2.2 hy).2
   |_=>simp at hc
end
end Go.Am
namespace Go.Am
open Go.RowKit Go.ChangeShapes Go.WideShapes Go.ChangeAt
variable {ρ:ct} {h:Heap}
section
variable {P:Program} {T:bN} {ov:Ov} {W:World} {H:Type} {enc:TypeId × ai->H}
theorem zrk (W:World):∃ M,yn W M:=by
 have key:∀ n,∃ M,∀ b,b < n->(ss W b).length < M:=by
  intro n
  induction n with
  |zero=>exact ⟨0,λb hb=>absurd hb (uH _)⟩
  |succ n ih =>
   obtain ⟨M,hM⟩:=ih
   refine ⟨max M ((ss W n).length+1),λb hb=>?_⟩
   by_cases h:b < n
   .have:=hM b h;omega
   .have:b=n:=by omega
    subst this;omega
 exact key W.heap.size
theorem ztc (ko:P.follows .mixedOrders=true) (hT:T.Fits P) (jg:Ax P T.gs ov) {f:FuncId} (hf:ov f=none) {args:List ai} {aK:Array ai}
 (hG:cU T.gs ρ) (hs:bM ρ h W) (b8:∀ A,h.size<=A->ρ A=none) (hl:h.low=h.size) (hv:cz ρ args aK.toList) (df:Ok P T ov f args h λv h'=>v=.bool true/\Ext h h') :
 Calls P f aK W λe w'=>e=.returned (.bool true)/\Below W.heap.size W w':=by
 obtain ⟨n,v,h',ey,rfl,hx⟩:=df
 have qV:=(V0 ko hT jg n).fn f args h (.bool true) h' ey ρ W aK hG hs (λA h1 _=>b8 A h1) hv
 rcases qV with ⟨ρ',u,w',h1,_⟩|⟨_,h1⟩
 .exfalso
  cases n with
  |zero=>simp [call] at ey
  |succ n =>
   simp only [call,hf,cy] at ey
   obtain ⟨fn,kT,c,hc,_⟩:=ey
   obtain ⟨hP,iD,_⟩:=hT.fn f fn kT
   have fD:¬ fn.name="runtime.NumGoroutine":=by simpa using iD
   simp [callFunc,hP,fD,hc] at h1
 .refine h1.mono ?_
  rintro e w' ⟨ρ',u,rfl,f1,s1,hv⟩
  refine ⟨?_,f1.below λA L hA=>?_⟩
  .rw [hv.bG rfl]
  .have h2:A < h.size:=by
    apply Nat.lt_of_not_le
    intro hh
    rw [b8 A hh] at hA
    cases hA
   have:=hx.low
   omega

def uv (P:Program) (h:Heap) (n:Nat) (t:TypeId) (v:ai):Prop:=match P.underlying t with
 |some (.struct _)|some (.array _ _)=>∃ cs,v=.agg ⟨cs⟩/\ja P h n t cs
 |_=>ja P h n t [v]
def xV (P:Program) (h:Heap) (n:Nat):List TypeId->List ai->Prop
 | [],[]=>True
 |t::ts,v::vs=>uv P h n t v/\xV P h n ts vs
 |_,_=>False
def mZ (N M:Nat):ai->ai
 | .agg cs=>.agg ⟨cs.toList.map (sb N M)⟩
 |v=>sb N M v

theorem zzA {M:Nat} (hS:0 < W.heap.size) (hM:0 < M) {cs:List ai} (hc:∀ u∈cs,gb W.heap.size M u=true):cz (pX W h ρ M) (cs.map (sb h.size M)) cs:=by
 refine ⟨by simp,λi x y hx hy=>?_⟩
 rw [lk,hy] at hx
 cases hx
 exact Xu hS hM (hc y (ek hy))

theorem zyp {M n base:Nat} {t:TypeId} {v:ai} {d:DataW H} {ps:List MemPlace} (hS:0 < W.heap.size) (u9:yn W M) (hc:xa P n t=true) (eX:Value.okWide P W .any base t v) (ht:DataW.Trod enc P W 0 (λ_=>true) true t v d ps) :
 VR (pX W h ρ M) (mZ h.size M v) v/\uv P (tF W h M) n t (mZ h.size M v):=by
 have hM:0 < M:=Nat.lt_of_le_of_lt (jl _) (u9 0 hS)
 obtain ⟨fuel,ht⟩:=ht
 obtain ⟨h1,h2⟩:=ztZ (h:=h) hS u9 n t _ fuel _ hc ht
 have agg:∀ cs,v=.agg cs->VR (pX W h ρ M) (mZ h.size M v) v/\mZ h.size M v=.agg ⟨v.cells.toList.map (sb h.size M)⟩:=by
  rintro cs rfl
  refine ⟨?_,rfl⟩
  have:=zzA (ρ:=ρ) (h:=h) hS hM h1
  have:=this.toArray
  simpa [mZ,Value.cells] using this
 have one:v.cells=#[v]->VR (pX W h ρ M) (mZ h.size M v) v/\v.cells.toList.map (sb h.size M)=[mZ h.size M v]:=by
  intro hv
  rw [hv] at h1 ⊢
  have hb:=h1 v (by simp)
  have hi:mZ h.size M v=sb h.size M v:=by
   cases v with
   |agg cs=>simp [gb] at hb
   |_=>rfl
  rw [hi]
  exact ⟨Xu hS hM hb,rfl⟩
 unfold uv
 unfold Value.okWide at eX
 cases n with
 |zero=>simp [xa] at hc
 |succ n =>
  simp only [xa] at hc
  cases hu:P.underlying t with
  |none=>rw [hu] at hc;simp at hc
  |some dd =>
   rw [hu] at hc eX
   cases dd with
   |struct fs =>
    obtain ⟨cs,hv,_⟩:=eX
    obtain ⟨a1,a2⟩:=agg cs hv
    exact ⟨a1,_,a2,h2⟩
   |array m e =>
    obtain ⟨cs,hv,_⟩:=eX
    obtain ⟨a1,a2⟩:=agg cs hv
    exact ⟨a1,_,a2,h2⟩
   |bool =>
    simp only [Cell.okWide,Cell.ok,hu] at eX
    cases v <;> simp at eX
    obtain ⟨a1,a2⟩:=one rfl
    exact ⟨a1,by rw [<- a2];exact h2⟩
   |int k =>
    simp only [Cell.okWide,Cell.ok,hu] at eX
    cases v <;> simp at eX
    obtain ⟨a1,a2⟩:=one rfl
    exact ⟨a1,by rw [<- a2];exact h2⟩
   |string =>
    simp only [Cell.okWide,Cell.ok,hu] at eX
    cases v <;> simp at eX
    obtain ⟨a1,a2⟩:=one rfl
    exact ⟨a1,by rw [<- a2];exact h2⟩
   |slice e =>
    simp only [Cell.okWide,Cell.ok,hu] at eX
    cases v <;> simp at eX
    obtain ⟨a1,a2⟩:=one rfl
    exact ⟨a1,by rw [<- a2];exact h2⟩
   |_=>simp at hc

theorem zo1 {h:Heap} {ρ:ct} {M n base:Nat} (hS:0 < W.heap.size) (u9:yn W M):∀ (ts:List TypeId) (vs:List ai) (ds:List (DataW H)) (ps:List MemPlace),ts.all (xa P n)=true ->
 (∀ (j:Nat) t v,ts[j]? = some t->vs[j]? = some v->Value.okWide P W .any base t v)->DataW.TrodAll enc P W 0 (λ_=>true) true ts vs ds ps ->
 cz (pX W h ρ M) (vs.map (mZ h.size M)) vs/\xV P (tF W h M) n ts (vs.map (mZ h.size M))
 | [],[],[],_,_,_,_=>⟨.nil _,trivial⟩
 |t::ts,v::vs,d::ds,ps,hc,eX,ht=>by
  simp only [iy,dW] at hc
  obtain ⟨p,q,h1,h2,_⟩:=ht
  obtain ⟨a1,a2⟩:=zyp (h:=h) (ρ:=ρ) hS u9 hc.1 (eX 0 t v rfl rfl) h1
  obtain ⟨b1,b2⟩:=zo1 (h:=h) (ρ:=ρ) hS u9 ts vs ds q hc.2 (λj t v h3 h4=>eX (j+1) t v (by simpa using h3) (by simpa using h4)) h2
  exact ⟨.cons a1 b1,a2,b2⟩
 | [],[],_::_,_,_,_,ht=>ht.elim
 | [],_::_,_,_,_,_,ht=>by cases ht
 |_::_,[],_,_,_,_,ht=>by cases ht
 |_::_,_::_,[],_,_,_,ht=>by cases ht

theorem zhc (hl:laidOutB P=true) {W W':World} (hb:Below W.heap.size W W') (sp:Nat->Bool):∀ (ts:List TypeId) (vs:List ai) (ds:List (DataW H)) (ps:List MemPlace),ts.all (λt=>P.readableRec t && decide (t < P.types.size))=true ->
 (∀ x∈ps,x.block < W.heap.size)->(∀ x∈ps,sp x.block=true)->DataW.TrodAll enc P W 0 (λ_=>true) true ts vs ds ps->DataW.TrodAll enc P W' 0 sp true ts vs ds ps
 | [],[],[],_,_,_,_,h=>h
 |t::ts,v::vs,d::ds,ps,hr,bc,dq,h=>by
  simp only [iy,dW,ix] at hr
  obtain ⟨p,q,h1,h2,rfl⟩:=h
  exact ⟨p,q,WideElems.Trod_stays hl hr.1.1 hr.1.2 h1 (λx hx=>hb.same (bc x (by simp [hx]))) (λx hx=>dq x (by simp [hx])),
   zhc hl hb sp ts vs ds q hr.2 (λx hx=>bc x (by simp [hx])) (λx hx=>dq x (by simp [hx])) h2,rfl⟩
 | [],[],_::_,_,_,_,_,h=>h.elim
 | [],_::_,_,_,_,_,_,h=>by cases h
 |_::_,[],_,_,_,_,_,h=>by cases h
 |_::_,_::_,[],_,_,_,_,h=>by cases h

end
end Go.Am

/- Arguments of any plain type laid in the plain heap: each block of the world, from each place on, is a row that is read alone. No condition. -/
import Derived.Test.YtkgojconmeeegaaGreatDoorG4
import Derived.OpenShut
import Derived.HandedShaped
import Derived.WideKeyArgs
set_option linter.unusedSimpArgs false
namespace Go.Am
open Go.RowKit Go.ChangeShapes Go.WideShapes Go.ChangeAt
variable {b off:Nat}

def gR (S M:Nat):ae->Bool
 | .bool _ | .int _ _ | .string _=>true
 | .slice none n c=>n == 0 && c == 0
 | .slice (some a) n c=>decide (n<=c) && (decide (c < G) && (c == 0 || (decide (a.block < S) && (a.spot.isNone && decide (a.off < M)))))
 |_=>false
def uK (N M:Nat):ae->ae
 | .slice (some a) n c=>if c=0 then .slice (some ⟨N,0,none⟩) n c else .slice (some ⟨N+(a.block*M+a.off),0,none⟩) n c
 |v=>v
def uU (W:World) (b:Nat):List ae:=match W.heap[b]? with
 |some (.cells c _ _)=>c.toList
 |_=>[]
def Ez (W:World) (N M:Nat) (b off:Nat):List ae:=(((uU W b).drop off).takeWhile (gR W.heap.size M)).map (uK N M)
def Va (W:World) (N M:Nat):List bh:=(List.range (W.heap.size*M)).map λi=>.row (Ez W N M (i / M) (i % M)) 0 true
def vZ (W:World) (h:Heap) (M:Nat):Heap:=h.lay (Va W h.size M) (h.size+W.heap.size*M)
def rS (W:World) (h:Heap) (ρ:cI) (M:Nat):cI:=λA=>if h.size<=A/\A < h.size+W.heap.size*M then some ⟨(A - h.size) / M,(A - h.size) % M,0⟩ else ρ A

section
variable {P:Program} {W:World} {h:Heap} {ρ:cI} {M:Nat}
theorem zmu (N:Nat):(Va W N M).length=W.heap.size*M:=by simp [Va]
theorem Q1:(vZ W h M).size=h.size+W.heap.size*M:=by unfold vZ;rw [bf,zmu]
theorem Ud {i:Nat} (hi:i < W.heap.size*M):(vZ W h M).get (h.size+i)=some (.row (Ez W h.size M (i / M) (i % M)) 0 true):=by
 unfold vZ
 rw [gH]
 simp [Va,hi]
theorem zfR {A:Nat} (hA:A < h.size):(vZ W h M).get A=h.get A:=Er _ _ _ hA
theorem RS (hb:b < W.heap.size) (ho:off < M):b*M+off < W.heap.size*M:=by
 calc b*M+off < b*M+M:=by omega
  _=(b+1)*M:=by rw [r9]
  _<=W.heap.size*M:=py _ hb
theorem zmB (ho:off < M):(b*M+off) / M=b:=by
 rw [zQ,Nat.mul_add_div (by omega),Nat.div_eq_of_lt ho,jh]
theorem zmC (ho:off < M):(b*M+off) % M=off:=by
 rw [zQ,Nat.mul_add_mod,EO ho]
theorem zfS (hb:b < W.heap.size) (ho:off < M):rS W h ρ M (h.size+(b*M+off))=some ⟨b,off,0⟩:=by
 have h1:=RS (W:=W) hb ho
 unfold rS
 rw [aE ⟨by omega,by omega⟩,UC,zmB ho,zmC ho]
theorem zpO (bR:∀ A,h.size<=A->ρ A=none) (A:Nat) (L:Loc) (hA:ρ A=some L):rS W h ρ M A=some L:=by
 unfold rS
 rw [az]
 .exact hA
 .rintro ⟨h1,_⟩
  rw [bR A h1] at hA
  cases hA
theorem zxr (hS:0 < W.heap.size) (hM:0 < M) {u:ae} (hu:gR W.heap.size M u=true):VR (rS W h ρ M) (uK h.size M u) u:=by
 cases u with
 |bool b=>exact .bool b
 |int k n=>exact .int k n
 |string s=>exact .string s
 |slice a n c =>
  cases a with
  |none =>
   simp [gR] at hu
   obtain ⟨rfl,rfl⟩:=hu
   exact .dN
  |some a =>
   simp only [gR,dP,gY,qt,beq_iff_eq] at hu
   obtain ⟨h1,h2,h3⟩:=hu
   by_cases hc:c=0
   .subst hc
    have hr:rS W h ρ M h.size=some ⟨0,0,0⟩:=by
     have:=zfS (h:=h) (ρ:=ρ) hS hM
     simpa using this
    exact VR.slice (L:=⟨0,0,0⟩) hr h2 h1 (λhh=>absurd rfl hh)
   .rcases h3 with h3|⟨h3,h4,h5⟩
    .exact absurd h3 hc
    .simp only [uK,az hc]
     refine VR.slice (zfS h3 h5) h2 h1 (λ_=>?_)
     obtain ⟨b,o,s⟩:=a
     simp at h4
     subst h4
     simp
 |_=>simp [gR] at hu
theorem zD2 {Z:Type} {p:Z->Bool} {l:List Z} {x:Z} (h:x∈l.takeWhile p):p x=true:=by
 induction l with
 |nil=>simp at h
 |cons a l ih =>
  by_cases ha:p a=true
  .rw [List.takeWhile_cons_of_pos ha,dG] at h
   rcases h with rfl|h
   .exact ha
   .exact ih h
  .rw [List.takeWhile_cons_of_neg ha] at h
   simp at h
theorem zxl {N i:Nat} {v:ae} (hv:(Ez W N M b off)[i]? = some v):∃ u,W.cell? ⟨b,off+i,none⟩=some u/\gR W.heap.size M u=true/\v=uK N M u:=by
 unfold Ez at hv
 rw [lB,cC] at hv
 obtain ⟨u,hu,rfl⟩:=hv
 have b9:=ig hu
 have hp:=zD2 b9
 refine ⟨u,?_,hp,rfl⟩
 have nC:((uU W b).drop off).takeWhile (gR W.heap.size M) <+: (uU W b).drop off:=List.takeWhile_prefix _
 have h2:((uU W b).drop off)[i]? = some u:=by
  obtain ⟨t,ht⟩:=nC
  rw [<- ht,mX (dz.1 hu).1]
  exact hu
 rw [lA] at h2
 unfold uU at h2
 unfold World.cell?
 split at h2
 .rename_i c e fz hc
  simp only [hc]
  simpa using h2
 .simp at h2
theorem zAu (hs:bT ρ h W) (bR:∀ A,h.size<=A->ρ A=none) (uF:∀ A L,ρ A=some L->nE h A) (hM:0 < M):bT (rS W h ρ M) (vZ W h M) W:=by
 have hn:∀ A,h.size<=A/\A < h.size+W.heap.size*M->∃ b off,b < W.heap.size/\off < M/\A=h.size+(b*M+off):=by
  rintro A ⟨h1,h2⟩
  refine ⟨(A - h.size) / M,(A - h.size) % M,?_,Nat.mod_lt _ hM,?_⟩
  .exact Nat.div_lt_of_lt_mul (by rw [zQ];omega)
  .have:=Nat.div_add_mod (A - h.size) M
   rw [zQ] at this
   omega
 have eT:∀ A L,rS W h ρ M A=some L->¬ (h.size<=A/\A < h.size+W.heap.size*M)->ρ A=some L:=by
  intro A L hA hc
  unfold rS at hA
  rwa [az hc] at hA
 have lt:∀ A L,ρ A=some L->A < h.size:=by
  intro A L hA
  apply Nat.lt_of_not_le
  intro hh
  rw [bR A hh] at hA
  cases hA
 have ro:∀ A L,rS W h ρ M A=some L->nE (vZ W h M) A:=by
  intro A L hA
  by_cases hc:h.size<=A/\A < h.size+W.heap.size*M
  .obtain ⟨b,off,hb,ho,rfl⟩:=hn A hc
   exact ⟨_,_,Ud (RS hb ho)⟩
  .have h1:=eT A L hA hc
   obtain ⟨cs,e,hg⟩:=uF A L h1
   exact ⟨cs,e,(zfR (lt A L h1)).trans hg⟩
 constructor
 .intro A L hA
  by_cases hc:h.size<=A/\A < h.size+W.heap.size*M
  .obtain ⟨b,off,hb,ho,rfl⟩:=hn A hc
   rw [zfS hb ho] at hA
   cases hA
   rw [Ud (RS hb ho),zmB ho,zmC ho]
   refine ⟨⟨hb,λhh=>absurd hh (by decide)⟩,λi v hv=>?_⟩
   obtain ⟨u,h1,h2,rfl⟩:=zxl hv
   exact ⟨u,h1,zxr (Nat.lt_of_le_of_lt (sg _) hb) hM h2⟩
  .have h1:=eT A L hA hc
   rw [zfR (lt A L h1)]
   exact (hs.fL A L h1).keep (zpO bR) (bo _) λ_=>rfl
 .intro A A' L L' hA eH ba hb
  exact .inr (.inr ⟨ro A L hA,ro A' L' eH⟩)
end

def eJ (P:Program) (h:Heap):Nat->TypeId->List ae->Prop
 |0,_,_=>False
 |n+1,t,cs=>match P.underlying t with
  |some .bool=>∃ b,cs=[.bool b]
  |some (.int k)=>∃ i,cs=[.int k i]/\(Lit.int k i).wf=true
  |some .string=>∃ s:aB,cs=[.string s]/\s.size<=maxLen
  |some (.slice e)=>cs=[.slice none 0 0]\/∃ A len cap row u,cs=[.slice (some ⟨A,0,none⟩) len cap]/\len<=cap/\cap<=maxLen/\A < h.size/\h.get A=some (.row row u true)/\len*P.cellsOf e<=row.length /\
   ∀ i,i < len->eJ P h n e ((row.drop (i*P.cellsOf e)).take (P.cellsOf e))
  |some (.struct fs)=>cs.length=P.cellsOf t/\∀ (i:Nat) (f:Field),fs[i]? = some f->eJ P h n f.type ((cs.drop f.offset).take (P.cellsOf f.type))
  |some (.array m e)=>cs.length=P.cellsOf t/\∀ i,i < m->eJ P h n e ((cs.drop (i*P.cellsOf e)).take (P.cellsOf e))
  |_=>False
def zC (P:Program):Nat->TypeId->Bool
 |0,_=>false
 |n+1,t=>match P.underlying t with
  |some .bool|some (.int _)|some .string=>true
  |some (.slice e)=>decide (0 < P.cellsOf e) && zC P n e
  |some (.struct fs)=>(List.range (P.cellsOf t)).all (λj=>fs.toList.any λf=>decide (f.offset<=j/\j < f.offset+P.cellsOf f.type)) && fs.toList.all λf=>zC P n f.type
  |some (.array m e)=>decide (P.cellsOf t=m*P.cellsOf e) && (decide (0 < P.cellsOf e) && zC P n e)
  |_=>false

section
variable {P:Program} {W:World} {h:Heap} {M:Nat} {H:Type} {enc:TypeId × ae->H}
def A7 (W:World) (M:Nat):Prop:=∀ b,b < W.heap.size->(uU W b).length < M
theorem zmw {a:Addr} {u:ae} (hc:W.cell? a=some u):a.block < W.heap.size/\a.spot=none/\(uU W a.block)[a.off]? = some u:=by
 unfold World.cell? at hc
 split at hc
 .rename_i c e fz hb
  split at hc
  .cases hc
  .rename_i hs
   refine ⟨(mY.1 hb).1,by simpa using hs,?_⟩
   simp only [uU,hb]
   simpa using hc
 .cases hc
theorem zxk {N n:Nat} (aC:∀ i,i < n->∃ u,(uU W b)[off+i]? = some u/\gR W.heap.size M u=true) :
 n<=(Ez W N M b off).length/\∀ i,i < n->(Ez W N M b off)[i]? = ((uU W b)[off+i]?).map (uK N M):=by
 have key:∀ (l:List ae) (n:Nat),(∀ i,i < n->∃ u,l[i]? = some u/\gR W.heap.size M u=true)->n<=(l.takeWhile (gR W.heap.size M)).length/\∀ i,i < n->(l.takeWhile (gR W.heap.size M))[i]? = l[i]? := by
  intro l
  induction l with
  |nil =>
   intro n hh
   cases n with
   |zero=>exact ⟨sg _,λi hi=>absurd hi (J7 _)⟩
   |succ n=>obtain ⟨u,hu,_⟩:=hh 0 (by omega);simp at hu
  |cons x l ih =>
   intro n hh
   cases n with
   |zero=>exact ⟨sg _,λi hi=>absurd hi (J7 _)⟩
   |succ n =>
    obtain ⟨u,hu,hb⟩:=hh 0 (by omega)
    simp at hu
    subst hu
    obtain ⟨h1,h2⟩:=ih n λi hi=>by
     obtain ⟨u,hu,hb⟩:=hh (i+1) (by omega)
     exact ⟨u,by simpa using hu,hb⟩
    rw [List.takeWhile_cons_of_pos hb]
    refine ⟨by simpa using h1,λi hi=>?_⟩
    cases i with
    |zero=>rfl
    |succ i=>simpa using h2 i (by omega)
 obtain ⟨h1,h2⟩:=key ((uU W b).drop off) n λi hi=>by
  obtain ⟨u,hu,hb⟩:=aC i hi
  exact ⟨u,by rw [lA];exact hu,hb⟩
 unfold Ez
 refine ⟨by rw [fV];exact h1,λi hi=>?_⟩
 rw [lB,h2 i hi,lA]
theorem zBq {Z β:Type} (f:Z->β) (l:List Z) (a b:Nat):(((l.map f).drop a).take b)=((l.drop a).take b).map f:=by
 rw [List.map_take,List.map_drop]
theorem zvq (hS:0 < W.heap.size) (xV:A7 W M):∀ (n:Nat) (t:TypeId) (cs:List ae) (fuel:Nat) (x:DataW H × List MemPlace),zC P n t=true->DataW.trod enc P W 0 (λ_=>true) true fuel t cs=some x ->
 (∀ u∈cs,gR W.heap.size M u=true)/\eJ P (vZ W h M) n t (cs.map (uK h.size M)):=by
 intro n
 induction n with
 |zero=>intro t cs fuel x hc;simp [zC] at hc
 |succ n ih =>
  intro t cs fuel x hc hx
  have hM:0 < M:=Nat.lt_of_le_of_lt (sg _) (xV 0 hS)
  unfold zC at hc
  unfold eJ
  cases hu:P.underlying t with
  |none=>rw [hu] at hc;cases hc
  |some d =>
   rw [hu] at hc
   cases d with
   |bool =>
    obtain ⟨b,rfl,_⟩:=DataW.trod_bool hu hx
    exact ⟨by simp [gR],b,rfl⟩
   |int k =>
    obtain ⟨i,rfl,_,hw⟩:=DataW.trod_int hu hx
    exact ⟨by simp [gR],i,rfl,hw⟩
   |string =>
    obtain ⟨s,rfl,_,hw⟩:=DataW.trod_string hu hx
    exact ⟨by simp [gR],s,rfl,hw⟩
   |slice e =>
    simp only [dP,gY] at hc
    rcases DataW.trod_slice hu hx with ⟨rfl,_⟩|⟨a,len,cap,elems,rest,m,_,rfl,_,_,hle,pP,uA,pg,GO,_⟩
    .exact ⟨by simp [gR],.inl rfl⟩
    .obtain ⟨oH,gg⟩:=GO rfl
     -- each cell up to the capacity
     have aC:∀ i,i < cap->∃ pI y,W.cells? 0 (a.add (i*P.cellsOf e)) (P.cellsOf e)=some pI/\DataW.trod enc P W 0 (λ_=>true) true m e pI=some y:=by
      intro i hi
      by_cases jt:i < len
      .have h1:=pg i jt
       have h2:i < elems.length:=by omega
       rw [gI h2,cH] at h1
       obtain ⟨pI,h3,h4⟩:=h1
       exact ⟨pI,_,h3,h4⟩
      .have h1:=gg (i - len) (by omega)
       have h2:i - len < rest.length:=by omega
       rw [gI h2,cH,show len+(i - len)=i by omega] at h1
       obtain ⟨pI,h3,h4⟩:=h1
       exact ⟨pI,_,h3,h4⟩
     by_cases zY:cap=0
     .subst zY
      have Gv:len=0:=by omega
      subst Gv
      refine ⟨by simp [gR,G],.inr ⟨h.size,0,0,_,_,rfl,bo _,sg _,?_,Ud (h:=h) (i:=0) (Nat.mul_pos hS hM),by simp,λi hi=>absurd hi (J7 _)⟩⟩
      rw [Q1];have:=Nat.mul_pos hS hM;omega
     .have eV:∀ i,i < cap->∀ j,j < P.cellsOf e->∃ u,(uU W a.block)[a.off+(i*P.cellsOf e+j)]? = some u/\a.block < W.heap.size/\a.spot=none/\gR W.heap.size M u=true:=by
       intro i hi j hj
       obtain ⟨pI,y,h1,h2⟩:=aC i hi
       obtain ⟨_,h3,h4⟩:=World.cells?_some h1
       have h5:=h4 j hj
       have h6:j < pI.length:=by omega
       rw [gI h6] at h5
       obtain ⟨h7,h8,h9⟩:=zmw h5
       have e1:((a.add (i*P.cellsOf e)).add j).block=a.block:=by unfold Addr.add;split <;> split <;> rfl
       have e2:((a.add (i*P.cellsOf e)).add j).off=a.off+(i*P.cellsOf e+j):=by unfold Addr.add;split <;> split <;> simp_all;omega
       rw [e1,e2] at h9
       rw [e1] at h7
       refine ⟨_,h9,h7,?_,(ih e pI m y hc.2 h2).1 _ (List.getElem_mem h6)⟩
       obtain ⟨cs0,y0,g1,_⟩:=aC 0 (by omega)
       obtain ⟨_,g3,g4⟩:=World.cells?_some g1
       have g5:=g4 0 hc.1
       have g6:0 < cs0.length:=by omega
       rw [gI g6] at g5
       have g8:=(zmw g5).2.1
       simpa [Addr.add] using g8
      obtain ⟨u0,Zr,hb,cP,_⟩:=eV 0 (by omega) 0 hc.1
      have tG:a.off < M:=by
       have:=(dz.1 Zr).1
       have:=xV _ hb
       omega
      have hG:cap < G:=by unfold G;unfold maxLen at pP;omega
      refine ⟨?_,.inr ⟨h.size+(a.block*M+a.off),len,cap,_,_,?_,hle,pP,?_,Ud (RS hb tG),?_,?_⟩⟩
      .intro u Aj
       simp only [iq] at Aj
       subst Aj
       simp [gR,hle,hG,hb,cP,tG]
      .simp [uK,zY]
      .rw [Q1];have:=RS (W:=W) hb tG;omega
      all_goals rw [zmB tG,zmC tG]
      all_goals
       have dC:=zxk (N:=h.size) (M:=M) (W:=W) (b:=a.block) (off:=a.off) (n:=cap*P.cellsOf e) (λi hi=>by
        have hk:=hc.1
        obtain ⟨u,h1,_,_,h2⟩:=eV (i / P.cellsOf e) (Nat.div_lt_of_lt_mul (by rw [zQ];exact hi)) (i % P.cellsOf e) (Nat.mod_lt _ hk)
        refine ⟨u,?_,h2⟩
        rw [<- h1,zQ,Nat.div_add_mod])
      .exact il (py _ hle) dC.1
      .intro i hi
       obtain ⟨pI,y,h1,h2⟩:=aC i (by omega)
       have h3:=(ih e pI m y hc.2 h2).2
       have h4:((Ez W h.size M a.block a.off).drop (i*P.cellsOf e)).take (P.cellsOf e)=pI.map (uK h.size M):=by
        obtain ⟨_,g2,g3⟩:=World.cells?_some h1
        have aK:(i+1)*P.cellsOf e<=cap*P.cellsOf e:=py _ (by omega)
        rw [r9] at aK
        apply r8
        intro j
        by_cases hj:j < P.cellsOf e
        .rw [HQ hj,lA,dC.2 _ (by omega),lB]
         congr 1
         have h5:=g3 j hj
         have h6:j < pI.length:=by omega
         rw [gI h6] at h5 ⊢
         obtain ⟨h7,h8,h9⟩:=zmw h5
         have e1:((a.add (i*P.cellsOf e)).add j).block=a.block:=by unfold Addr.add;split <;> split <;> rfl
         have e2:((a.add (i*P.cellsOf e)).add j).off=a.off+(i*P.cellsOf e+j):=by unfold Addr.add;split <;> split <;> simp_all;omega
         rw [e1,e2] at h9
         exact h9
        .rw [H5 (by simp;omega),H5 (by simp;omega)]
       rw [h4]
       exact h3
   |struct fs =>
    simp only [dP,gK,wq,gY,uc] at hc
    obtain ⟨xs,m,_,_,hl,vL,hf⟩:=DataW.trod_struct hu hx
    have nA:∀ (i:Nat) (f:Field),fs[i]? = some f->∃ y,DataW.trod enc P W 0 (λ_=>true) true m f.type ((cs.drop f.offset).take (P.cellsOf f.type))=some y:=by
     intro i f Gi
     have hi:=(mY.1 Gi).1
     have:=hf i f Gi
     rw [gI (by omega)] at this
     exact ⟨_,this⟩
    refine ⟨?_,by rw [fV];exact hl,?_⟩
    .intro u Aj
     obtain ⟨j,hj,rfl⟩:=JR Aj
     obtain ⟨f,hfm,h1,h2⟩:=hc.1 j (by omega)
     obtain ⟨i,hi⟩:=AP hfm
     have qz:fs[i]? = some f:=by simpa using hi
     obtain ⟨y,hy⟩:=nA i f qz
     refine (ih f.type _ m y (hc.2 f hfm) hy).1 _ ?_
     refine ig (i:=j - f.offset) ?_
     rw [HQ (by omega),lA,show f.offset+(j - f.offset)=j by omega,gI hj]
    .intro i f Gi
     obtain ⟨y,hy⟩:=nA i f Gi
     rw [zBq]
     exact (ih f.type _ m y (hc.2 f (by simpa using Array.mem_of_getElem? Gi)) hy).2
   |array m e =>
    simp only [dP,gY] at hc
    obtain ⟨xs,fu,_,_,hl,vL,hf⟩:=DataW.trod_array hu hx
    have nA:∀ i,i < m->∃ y,DataW.trod enc P W 0 (λ_=>true) true fu e ((cs.drop (i*P.cellsOf e)).take (P.cellsOf e))=some y:=by
     intro i hi
     have:=hf i hi
     rw [gI (by omega)] at this
     exact ⟨_,this⟩
    refine ⟨?_,by rw [fV];exact hl,?_⟩
    .intro u Aj
     obtain ⟨j,hj,rfl⟩:=JR Aj
     have Nz:j / P.cellsOf e < m:=Nat.div_lt_of_lt_mul (by rw [zQ];omega)
     obtain ⟨y,hy⟩:=nA _ Nz
     refine (ih e _ fu y hc.2.2 hy).1 _ ?_
     refine ig (i:=j % P.cellsOf e) ?_
     rw [HQ (Nat.mod_lt _ hc.2.1),lA,zQ,Nat.div_add_mod,gI hj]
    .intro i hi
     obtain ⟨y,hy⟩:=nA i hi
     rw [zBq]
     exact (ih e _ fu y hc.2.2 hy).2
   |_=>simp at hc
end
end Go.Am
namespace Go.Am
open Go.RowKit Go.ChangeShapes Go.WideShapes Go.ChangeAt
variable {ρ:cI} {h:Heap}
section
variable {P:Program} {T:bL} {ov:Ov} {W:World} {H:Type} {enc:TypeId × ae->H}
theorem zsI (W:World):∃ M,A7 W M:=by
 have key:∀ n,∃ M,∀ b,b < n->(uU W b).length < M:=by
  intro n
  induction n with
  |zero=>exact ⟨0,λb hb=>absurd hb (J7 _)⟩
  |succ n ih =>
   obtain ⟨M,hM⟩:=ih
   refine ⟨max M ((uU W n).length+1),λb hb=>?_⟩
   by_cases h:b < n
   .have:=hM b h;omega
   .have:b=n:=by omega
    subst this;omega
 exact key W.heap.size
theorem zue (lP:P.follows .mixedOrders=true) (hT:T.Fits P) (qE:Di P T.gs ov) {f:FuncId} (hf:ov f=none) {args:List ae} {aL:Array ae}
 (hG:dt T.gs ρ) (hs:bT ρ h W) (bR:∀ A,h.size<=A->ρ A=none) (hl:h.low=h.size) (hv:cB ρ args aL.toList) (dU:Ok P T ov f args h λv h'=>v=.bool true/\Ext h h') :
 Calls P f aL W λe w'=>e=.returned (.bool true)/\Below W.heap.size W w':=by
 obtain ⟨n,v,h',eu,rfl,hx⟩:=dU
 have lL:=(zhB lP hT qE n).fn f args h (.bool true) h' eu ρ W aL hG hs (λA h1 _=>bR A h1) hv
 rcases lL with ⟨ρ',u,w',h1,_⟩|⟨_,h1⟩
 .exfalso
  cases n with
  |zero=>simp [call] at eu
  |succ n =>
   simp only [call,hf,cH] at eu
   obtain ⟨fn,vz,c,hc,_⟩:=eu
   obtain ⟨hP,jw,_⟩:=hT.fn f fn vz
   have fZ:¬ fn.name="runtime.NumGoroutine":=by simpa using jw
   simp [callFunc,hP,fZ,hc] at h1
 .refine h1.mono ?_
  rintro e w' ⟨ρ',u,rfl,f1,s1,hv⟩
  refine ⟨?_,f1.below λA L hA=>?_⟩
  .rw [hv.bQ rfl]
  .have h2:A < h.size:=by
    apply Nat.lt_of_not_le
    intro hh
    rw [bR A hh] at hA
    cases hA
   have:=hx.low
   omega

def wY (P:Program) (h:Heap) (n:Nat) (t:TypeId) (v:ae):Prop:=match P.underlying t with
 |some (.struct _)|some (.array _ _)=>∃ cs,v=.agg ⟨cs⟩/\eJ P h n t cs
 |_=>eJ P h n t [v]
def Ay (P:Program) (h:Heap) (n:Nat):List TypeId->List ae->Prop
 | [],[]=>True
 |t::ts,v::vs=>wY P h n t v/\Ay P h n ts vs
 |_,_=>False
def oK (N M:Nat):ae->ae
 | .agg cs=>.agg ⟨cs.toList.map (uK N M)⟩
 |v=>uK N M v

theorem zBJ {M:Nat} (hS:0 < W.heap.size) (hM:0 < M) {cs:List ae} (hc:∀ u∈cs,gR W.heap.size M u=true):cB (rS W h ρ M) (cs.map (uK h.size M)) cs:=by
 refine ⟨by simp,λi x y hx hy=>?_⟩
 rw [lB,hy] at hx
 cases hx
 exact zxr hS hM (hc y (ig hy))

theorem zAs {M n base:Nat} {t:TypeId} {v:ae} {d:DataW H} {ps:List MemPlace} (hS:0 < W.heap.size) (xV:A7 W M) (hc:zC P n t=true) (eE:Value.okWide P W .any base t v) (ht:DataW.Trod enc P W 0 (λ_=>true) true t v d ps) :
 VR (rS W h ρ M) (oK h.size M v) v/\wY P (vZ W h M) n t (oK h.size M v):=by
 have hM:0 < M:=Nat.lt_of_le_of_lt (sg _) (xV 0 hS)
 obtain ⟨fuel,ht⟩:=ht
 obtain ⟨h1,h2⟩:=zvq (h:=h) hS xV n t _ fuel _ hc ht
 have agg:∀ cs,v=.agg cs->VR (rS W h ρ M) (oK h.size M v) v/\oK h.size M v=.agg ⟨v.cells.toList.map (uK h.size M)⟩:=by
  rintro cs rfl
  refine ⟨?_,rfl⟩
  have:=zBJ (ρ:=ρ) (h:=h) hS hM h1
  have:=this.toArray
  simpa [oK,Value.cells] using this
 have one:v.cells=#[v]->VR (rS W h ρ M) (oK h.size M v) v/\v.cells.toList.map (uK h.size M)=[oK h.size M v]:=by
  intro hv
  rw [hv] at h1 ⊢
  have hb:=h1 v (by simp)
  have hi:oK h.size M v=uK h.size M v:=by
   cases v with
   |agg cs=>simp [gR] at hb
   |_=>rfl
  rw [hi]
  exact ⟨zxr hS hM hb,rfl⟩
 unfold wY
 unfold Value.okWide at eE
 cases n with
 |zero=>simp [zC] at hc
 |succ n =>
  simp only [zC] at hc
  cases hu:P.underlying t with
  |none=>rw [hu] at hc;simp at hc
  |some dd =>
   rw [hu] at hc eE
   cases dd with
   |struct fs =>
    obtain ⟨cs,hv,_⟩:=eE
    obtain ⟨a1,a2⟩:=agg cs hv
    exact ⟨a1,_,a2,h2⟩
   |array m e =>
    obtain ⟨cs,hv,_⟩:=eE
    obtain ⟨a1,a2⟩:=agg cs hv
    exact ⟨a1,_,a2,h2⟩
   |bool =>
    simp only [Cell.okWide,Cell.ok,hu] at eE
    cases v <;> simp at eE
    obtain ⟨a1,a2⟩:=one rfl
    exact ⟨a1,by rw [<- a2];exact h2⟩
   |int k =>
    simp only [Cell.okWide,Cell.ok,hu] at eE
    cases v <;> simp at eE
    obtain ⟨a1,a2⟩:=one rfl
    exact ⟨a1,by rw [<- a2];exact h2⟩
   |string =>
    simp only [Cell.okWide,Cell.ok,hu] at eE
    cases v <;> simp at eE
    obtain ⟨a1,a2⟩:=one rfl
    exact ⟨a1,by rw [<- a2];exact h2⟩
   |slice e =>
    simp only [Cell.okWide,Cell.ok,hu] at eE
    cases v <;> simp at eE
    obtain ⟨a1,a2⟩:=one rfl
    exact ⟨a1,by rw [<- a2];exact h2⟩
   |_=>simp at hc

theorem zpP {h:Heap} {ρ:cI} {M n base:Nat} (hS:0 < W.heap.size) (xV:A7 W M):∀ (ts:List TypeId) (vs:List ae) (ds:List (DataW H)) (ps:List MemPlace),ts.all (zC P n)=true ->
 (∀ (j:Nat) t v,ts[j]? = some t->vs[j]? = some v->Value.okWide P W .any base t v)->DataW.TrodAll enc P W 0 (λ_=>true) true ts vs ds ps ->
 cB (rS W h ρ M) (vs.map (oK h.size M)) vs/\Ay P (vZ W h M) n ts (vs.map (oK h.size M))
 | [],[],[],_,_,_,_=>⟨.nil _,trivial⟩
 |t::ts,v::vs,d::ds,ps,hc,eE,ht=>by
  simp only [gL,dP] at hc
  obtain ⟨p,q,h1,h2,_⟩:=ht
  obtain ⟨a1,a2⟩:=zAs (h:=h) (ρ:=ρ) hS xV hc.1 (eE 0 t v rfl rfl) h1
  obtain ⟨b1,b2⟩:=zpP (h:=h) (ρ:=ρ) hS xV ts vs ds q hc.2 (λj t v h3 h4=>eE (j+1) t v (by simpa using h3) (by simpa using h4)) h2
  exact ⟨.cons a1 b1,a2,b2⟩
 | [],[],_::_,_,_,_,ht=>ht.elim
 | [],_::_,_,_,_,_,ht=>by cases ht
 |_::_,[],_,_,_,_,ht=>by cases ht
 |_::_,_::_,[],_,_,_,ht=>by cases ht

theorem zhp (hl:laidOutB P=true) {W W':World} (hb:Below W.heap.size W W') (sp:Nat->Bool):∀ (ts:List TypeId) (vs:List ae) (ds:List (DataW H)) (ps:List MemPlace),ts.all (λt=>P.readableRec t && decide (t < P.types.size))=true ->
 (∀ x∈ps,x.block < W.heap.size)->(∀ x∈ps,sp x.block=true)->DataW.TrodAll enc P W 0 (λ_=>true) true ts vs ds ps->DataW.TrodAll enc P W' 0 sp true ts vs ds ps
 | [],[],[],_,_,_,_,h=>h
 |t::ts,v::vs,d::ds,ps,hr,aP,cP,h=>by
  simp only [gL,dP,gY] at hr
  obtain ⟨p,q,h1,h2,rfl⟩:=h
  exact ⟨p,q,WideElems.Trod_stays hl hr.1.1 hr.1.2 h1 (λx hx=>hb.same (aP x (by simp [hx]))) (λx hx=>cP x (by simp [hx])),
   zhp hl hb sp ts vs ds q hr.2 (λx hx=>aP x (by simp [hx])) (λx hx=>cP x (by simp [hx])) h2,rfl⟩
 | [],[],_::_,_,_,_,_,h=>h.elim
 | [],_::_,_,_,_,_,_,h=>by cases h
 |_::_,[],_,_,_,_,_,h=>by cases h
 |_::_,_::_,[],_,_,_,_,h=>by cases h

end
end Go.Am

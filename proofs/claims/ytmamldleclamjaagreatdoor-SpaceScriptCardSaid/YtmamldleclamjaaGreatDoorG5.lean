/- Arguments of any plain type laid in the plain heap: each block of the world, from each place on, is a row that is read alone. No condition. -/
import Derived.Test.YtmamldleclamjaaGreatDoorG4
import Derived.OpenShut
import Derived.HandedShaped
import Derived.WideKeyArgs
set_option linter.unusedSimpArgs false
namespace Go.Am
open Go.RowKit Go.ChangeShapes Go.WideShapes Go.ChangeAt
variable {b off:Nat}

def gY (S M:Nat):ah->Bool
 | .bool _ | .int _ _ | .string _=>true
 | .slice none n c=>n == 0 && c == 0
 | .slice (some a) n c=>decide (n<=c) && (decide (c < G) && (c == 0 || (decide (a.block < S) && (a.spot.isNone && decide (a.off < M)))))
 |_=>false
def uk (N M:Nat):ah->ah
 | .slice (some a) n c=>if c=0 then .slice (some ⟨N,0,none⟩) n c else .slice (some ⟨N+(a.block*M+a.off),0,none⟩) n c
 |v=>v
def uD (W:World) (b:Nat):List ah:=match W.heap[b]? with
 |some (.cells c _ _)=>c.toList
 |_=>[]
def Dz (W:World) (N M:Nat) (b off:Nat):List ah:=(((uD W b).drop off).takeWhile (gY W.heap.size M)).map (uk N M)
def TI (W:World) (N M:Nat):List ba:=(List.range (W.heap.size*M)).map λi=>.row (Dz W N M (i / M) (i % M)) 0 true
def vQ (W:World) (h:Heap) (M:Nat):Heap:=h.lay (TI W h.size M) (h.size+W.heap.size*M)
def ry (W:World) (h:Heap) (ρ:cn) (M:Nat):cn:=λA=>if h.size<=A/\A < h.size+W.heap.size*M then some ⟨(A - h.size) / M,(A - h.size) % M,0⟩ else ρ A

section
variable {P:Program} {W:World} {h:Heap} {ρ:cn} {M:Nat}
theorem zmE (N:Nat):(TI W N M).length=W.heap.size*M:=by simp [TI]
theorem Pw:(vQ W h M).size=h.size+W.heap.size*M:=by unfold vQ;rw [bd,zmE]
theorem Sk {i:Nat} (hi:i < W.heap.size*M):(vQ W h M).get (h.size+i)=some (.row (Dz W h.size M (i / M) (i % M)) 0 true):=by
 unfold vQ
 rw [iB]
 simp [TI,hi]
theorem zfu {A:Nat} (hA:A < h.size):(vQ W h M).get A=h.get A:=uo _ _ _ hA
theorem Qj (hb:b < W.heap.size) (ho:off < M):b*M+off < W.heap.size*M:=by
 calc b*M+off < b*M+M:=by omega
  _=(b+1)*M:=by rw [rF]
  _<=W.heap.size*M:=qj _ hb
theorem zmL (ho:off < M):(b*M+off) / M=b:=by
 rw [zl,Nat.mul_add_div (by omega),Nat.div_eq_of_lt ho,i0]
theorem zmM (ho:off < M):(b*M+off) % M=off:=by
 rw [zl,Nat.mul_add_mod,HC ho]
theorem zfv (hb:b < W.heap.size) (ho:off < M):ry W h ρ M (h.size+(b*M+off))=some ⟨b,off,0⟩:=by
 have h1:=Qj (W:=W) hb ho
 unfold ry
 rw [aB ⟨by omega,by omega⟩,Tn,zmL ho,zmM ho]
theorem zpq (cp:∀ A,h.size<=A->ρ A=none) (A:Nat) (L:Loc) (hA:ρ A=some L):ry W h ρ M A=some L:=by
 unfold ry
 rw [aA]
 .exact hA
 .rintro ⟨h1,_⟩
  rw [cp A h1] at hA
  cases hA
theorem zwB (hS:0 < W.heap.size) (hM:0 < M) {u:ah} (hu:gY W.heap.size M u=true):VR (ry W h ρ M) (uk h.size M u) u:=by
 cases u with
 |bool b=>exact .bool b
 |int k n=>exact .int k n
 |string s=>exact .string s
 |slice a n c =>
  cases a with
  |none =>
   simp [gY] at hu
   obtain ⟨rfl,rfl⟩:=hu
   exact .dD
  |some a =>
   simp only [gY,eo,jl,su,beq_iff_eq] at hu
   obtain ⟨h1,h2,h3⟩:=hu
   by_cases hc:c=0
   .subst hc
    have hr:ry W h ρ M h.size=some ⟨0,0,0⟩:=by
     have:=zfv (h:=h) (ρ:=ρ) hS hM
     simpa using this
    exact VR.slice (L:=⟨0,0,0⟩) hr h2 h1 (λhh=>absurd rfl hh)
   .rcases h3 with h3|⟨h3,h4,h5⟩
    .exact absurd h3 hc
    .simp only [uk,aA hc]
     refine VR.slice (zfv h3 h5) h2 h1 (λ_=>?_)
     obtain ⟨b,o,s⟩:=a
     simp at h4
     subst h4
     simp
 |_=>simp [gY] at hu
theorem zDf {Z:Type} {p:Z->Bool} {l:List Z} {x:Z} (h:x∈l.takeWhile p):p x=true:=by
 induction l with
 |nil=>simp at h
 |cons a l ih =>
  by_cases ha:p a=true
  .rw [List.takeWhile_cons_of_pos ha,cJ] at h
   rcases h with rfl|h
   .exact ha
   .exact ih h
  .rw [List.takeWhile_cons_of_neg ha] at h
   simp at h
theorem zww {N i:Nat} {v:ah} (hv:(Dz W N M b off)[i]? = some v):∃ u,W.cell? ⟨b,off+i,none⟩=some u/\gY W.heap.size M u=true/\v=uk N M u:=by
 unfold Dz at hv
 rw [lS,cD] at hv
 obtain ⟨u,hu,rfl⟩:=hv
 have bY:=fW hu
 have hp:=zDf bY
 refine ⟨u,?_,hp,rfl⟩
 have nc:((uD W b).drop off).takeWhile (gY W.heap.size M) <+: (uD W b).drop off:=List.takeWhile_prefix _
 have h2:((uD W b).drop off)[i]? = some u:=by
  obtain ⟨t,ht⟩:=nc
  rw [<- ht,nz (dH.1 hu).1]
  exact hu
 rw [kL] at h2
 unfold uD at h2
 unfold World.cell?
 split at h2
 .rename_i c e fz hc
  simp only [hc]
  simpa using h2
 .simp at h2
theorem zzz (hs:bR ρ h W) (cp:∀ A,h.size<=A->ρ A=none) (uc:∀ A L,ρ A=some L->nh h A) (hM:0 < M):bR (ry W h ρ M) (vQ W h M) W:=by
 have hn:∀ A,h.size<=A/\A < h.size+W.heap.size*M->∃ b off,b < W.heap.size/\off < M/\A=h.size+(b*M+off):=by
  rintro A ⟨h1,h2⟩
  refine ⟨(A - h.size) / M,(A - h.size) % M,?_,D4 _ hM,?_⟩
  .exact Nat.div_lt_of_lt_mul (by rw [zl];omega)
  .have:=Nat.div_add_mod (A - h.size) M
   rw [zl] at this
   omega
 have eD:∀ A L,ry W h ρ M A=some L->¬ (h.size<=A/\A < h.size+W.heap.size*M)->ρ A=some L:=by
  intro A L hA hc
  unfold ry at hA
  rwa [aA hc] at hA
 have lt:∀ A L,ρ A=some L->A < h.size:=by
  intro A L hA
  apply Nat.lt_of_not_le
  intro hh
  rw [cp A hh] at hA
  cases hA
 have ro:∀ A L,ry W h ρ M A=some L->nh (vQ W h M) A:=by
  intro A L hA
  by_cases hc:h.size<=A/\A < h.size+W.heap.size*M
  .obtain ⟨b,off,hb,ho,rfl⟩:=hn A hc
   exact ⟨_,_,Sk (Qj hb ho)⟩
  .have h1:=eD A L hA hc
   obtain ⟨cs,e,hg⟩:=uc A L h1
   exact ⟨cs,e,(zfu (lt A L h1)).trans hg⟩
 constructor
 .intro A L hA
  by_cases hc:h.size<=A/\A < h.size+W.heap.size*M
  .obtain ⟨b,off,hb,ho,rfl⟩:=hn A hc
   rw [zfv hb ho] at hA
   cases hA
   rw [Sk (Qj hb ho),zmL ho,zmM ho]
   refine ⟨⟨hb,λhh=>absurd hh (by decide)⟩,λi v hv=>?_⟩
   obtain ⟨u,h1,h2,rfl⟩:=zww hv
   exact ⟨u,h1,zwB (Nat.lt_of_le_of_lt (i6 _) hb) hM h2⟩
  .have h1:=eD A L hA hc
   rw [zfu (lt A L h1)]
   exact (hs.j5 A L h1).keep (zpq cp) (bo _) λ_=>rfl
 .intro A A' L L' hA dO aS hb
  exact .inr (.inr ⟨ro A L hA,ro A' L' dO⟩)
end

def eK (P:Program) (h:Heap):Nat->TypeId->List ah->Prop
 |0,_,_=>False
 |n+1,t,cs=>match P.underlying t with
  |some .bool=>∃ b,cs=[.bool b]
  |some (.int k)=>∃ i,cs=[.int k i]/\(Lit.int k i).wf=true
  |some .string=>∃ s:au,cs=[.string s]/\s.size<=maxLen
  |some (.slice e)=>cs=[.slice none 0 0]\/∃ A len cap row u,cs=[.slice (some ⟨A,0,none⟩) len cap]/\len<=cap/\cap<=maxLen/\A < h.size/\h.get A=some (.row row u true)/\len*P.cellsOf e<=row.length /\
   ∀ i,i < len->eK P h n e ((row.drop (i*P.cellsOf e)).take (P.cellsOf e))
  |some (.struct fs)=>cs.length=P.cellsOf t/\∀ (i:Nat) (f:Field),fs[i]? = some f->eK P h n f.type ((cs.drop f.offset).take (P.cellsOf f.type))
  |some (.array m e)=>cs.length=P.cellsOf t/\∀ i,i < m->eK P h n e ((cs.drop (i*P.cellsOf e)).take (P.cellsOf e))
  |_=>False
def y9 (P:Program):Nat->TypeId->Bool
 |0,_=>false
 |n+1,t=>match P.underlying t with
  |some .bool|some (.int _)|some .string=>true
  |some (.slice e)=>decide (0 < P.cellsOf e) && y9 P n e
  |some (.struct fs)=>(List.range (P.cellsOf t)).all (λj=>fs.toList.any λf=>decide (f.offset<=j/\j < f.offset+P.cellsOf f.type)) && fs.toList.all λf=>y9 P n f.type
  |some (.array m e)=>decide (P.cellsOf t=m*P.cellsOf e) && (decide (0 < P.cellsOf e) && y9 P n e)
  |_=>false

section
variable {P:Program} {W:World} {h:Heap} {M:Nat} {H:Type} {enc:TypeId × ah->H}
def Ay (W:World) (M:Nat):Prop:=∀ b,b < W.heap.size->(uD W b).length < M
theorem zmH {a:Addr} {u:ah} (hc:W.cell? a=some u):a.block < W.heap.size/\a.spot=none/\(uD W a.block)[a.off]? = some u:=by
 unfold World.cell? at hc
 split at hc
 .rename_i c e fz hb
  split at hc
  .cases hc
  .rename_i hs
   refine ⟨(mO.1 hb).1,by simpa using hs,?_⟩
   simp only [uD,hb]
   simpa using hc
 .cases hc
theorem zwv {N n:Nat} (aE:∀ i,i < n->∃ u,(uD W b)[off+i]? = some u/\gY W.heap.size M u=true) :
 n<=(Dz W N M b off).length/\∀ i,i < n->(Dz W N M b off)[i]? = ((uD W b)[off+i]?).map (uk N M):=by
 have key:∀ (l:List ah) (n:Nat),(∀ i,i < n->∃ u,l[i]? = some u/\gY W.heap.size M u=true)->n<=(l.takeWhile (gY W.heap.size M)).length/\∀ i,i < n->(l.takeWhile (gY W.heap.size M))[i]? = l[i]? := by
  intro l
  induction l with
  |nil =>
   intro n hh
   cases n with
   |zero=>exact ⟨i6 _,λi hi=>absurd hi (Nat.not_lt_zero _)⟩
   |succ n=>obtain ⟨u,hu,_⟩:=hh 0 (by omega);simp at hu
  |cons x l ih =>
   intro n hh
   cases n with
   |zero=>exact ⟨i6 _,λi hi=>absurd hi (Nat.not_lt_zero _)⟩
   |succ n =>
    obtain ⟨u,hu,hb⟩:=hh 0 (by omega)
    simp at hu
    subst hu
    obtain ⟨h1,h2⟩:=ih n λi hi=>by
     obtain ⟨u,hu,hb⟩:=hh (i+1) (by omega)
     exact ⟨u,by simpa using hu,hb⟩
    rw [List.takeWhile_cons_of_pos hb]
    refine ⟨by simpa using h1,λi hi=>?_⟩
    cases i with
    |zero=>rfl
    |succ i=>simpa using h2 i (by omega)
 obtain ⟨h1,h2⟩:=key ((uD W b).drop off) n λi hi=>by
  obtain ⟨u,hu,hb⟩:=aE i hi
  exact ⟨u,by rw [kL];exact hu,hb⟩
 unfold Dz
 refine ⟨by rw [nA];exact h1,λi hi=>?_⟩
 rw [lS,h2 i hi,kL]
theorem zAm {Z β:Type} (f:Z->β) (l:List Z) (a b:Nat):(((l.map f).drop a).take b)=((l.drop a).take b).map f:=by
 rw [List.map_take,List.map_drop]
theorem zuA (hS:0 < W.heap.size) (xy:Ay W M):∀ (n:Nat) (t:TypeId) (cs:List ah) (fuel:Nat) (x:DataW H × List MemPlace),y9 P n t=true->DataW.trod enc P W 0 (λ_=>true) true fuel t cs=some x ->
 (∀ u∈cs,gY W.heap.size M u=true)/\eK P (vQ W h M) n t (cs.map (uk h.size M)):=by
 intro n
 induction n with
 |zero=>intro t cs fuel x hc;simp [y9] at hc
 |succ n ih =>
  intro t cs fuel x hc hx
  have hM:0 < M:=Nat.lt_of_le_of_lt (i6 _) (xy 0 hS)
  unfold y9 at hc
  unfold eK
  cases hu:P.underlying t with
  |none=>rw [hu] at hc;cases hc
  |some d =>
   rw [hu] at hc
   cases d with
   |bool =>
    obtain ⟨b,rfl,_⟩:=DataW.trod_bool hu hx
    exact ⟨by simp [gY],b,rfl⟩
   |int k =>
    obtain ⟨i,rfl,_,hw⟩:=DataW.trod_int hu hx
    exact ⟨by simp [gY],i,rfl,hw⟩
   |string =>
    obtain ⟨s,rfl,_,hw⟩:=DataW.trod_string hu hx
    exact ⟨by simp [gY],s,rfl,hw⟩
   |slice e =>
    simp only [eo,jl] at hc
    rcases DataW.trod_slice hu hx with ⟨rfl,_⟩|⟨a,len,cap,elems,rest,m,_,rfl,_,_,hle,sN,wu,oX,F3,_⟩
    .exact ⟨by simp [gY],.inl rfl⟩
    .obtain ⟨Ir,gj⟩:=F3 rfl
     -- each cell up to the capacity
     have aE:∀ i,i < cap->∃ pE y,W.cells? 0 (a.add (i*P.cellsOf e)) (P.cellsOf e)=some pE/\DataW.trod enc P W 0 (λ_=>true) true m e pE=some y:=by
      intro i hi
      by_cases iK:i < len
      .have h1:=oX i iK
       have h2:i < elems.length:=by omega
       rw [ie h2,cL] at h1
       obtain ⟨pE,h3,h4⟩:=h1
       exact ⟨pE,_,h3,h4⟩
      .have h1:=gj (i - len) (by omega)
       have h2:i - len < rest.length:=by omega
       rw [ie h2,cL,show len+(i - len)=i by omega] at h1
       obtain ⟨pE,h3,h4⟩:=h1
       exact ⟨pE,_,h3,h4⟩
     by_cases pJ:cap=0
     .subst pJ
      have CN:len=0:=by omega
      subst CN
      refine ⟨by simp [gY,G],.inr ⟨h.size,0,0,_,_,rfl,bo _,i6 _,?_,Sk (h:=h) (i:=0) (Nat.mul_pos hS hM),by simp,λi hi=>absurd hi (Nat.not_lt_zero _)⟩⟩
      rw [Pw];have:=Nat.mul_pos hS hM;omega
     .have eY:∀ i,i < cap->∀ j,j < P.cellsOf e->∃ u,(uD W a.block)[a.off+(i*P.cellsOf e+j)]? = some u/\a.block < W.heap.size/\a.spot=none/\gY W.heap.size M u=true:=by
       intro i hi j hj
       obtain ⟨pE,y,h1,h2⟩:=aE i hi
       obtain ⟨_,h3,h4⟩:=World.cells?_some h1
       have h5:=h4 j hj
       have h6:j < pE.length:=by omega
       rw [ie h6] at h5
       obtain ⟨h7,h8,h9⟩:=zmH h5
       have e1:((a.add (i*P.cellsOf e)).add j).block=a.block:=by unfold Addr.add;split <;> split <;> rfl
       have e2:((a.add (i*P.cellsOf e)).add j).off=a.off+(i*P.cellsOf e+j):=by unfold Addr.add;split <;> split <;> simp_all;omega
       rw [e1,e2] at h9
       rw [e1] at h7
       refine ⟨_,h9,h7,?_,(ih e pE m y hc.2 h2).1 _ (List.getElem_mem h6)⟩
       obtain ⟨cs0,y0,g1,_⟩:=aE 0 (by omega)
       obtain ⟨_,g3,g4⟩:=World.cells?_some g1
       have g5:=g4 0 hc.1
       have g6:0 < cs0.length:=by omega
       rw [ie g6] at g5
       have g8:=(zmH g5).2.1
       simpa [Addr.add] using g8
      obtain ⟨u0,Yr,hb,cR,_⟩:=eY 0 (by omega) 0 hc.1
      have tc:a.off < M:=by
       have:=(dH.1 Yr).1
       have:=xy _ hb
       omega
      have hG:cap < G:=by unfold G;unfold maxLen at sN;omega
      refine ⟨?_,.inr ⟨h.size+(a.block*M+a.off),len,cap,_,_,?_,hle,sN,?_,Sk (Qj hb tc),?_,?_⟩⟩
      .intro u zL
       simp only [fH] at zL
       subst zL
       simp [gY,hle,hG,hb,cR,tc]
      .simp [uk,pJ]
      .rw [Pw];have:=Qj (W:=W) hb tc;omega
      all_goals rw [zmL tc,zmM tc]
      all_goals
       have cQ:=zwv (N:=h.size) (M:=M) (W:=W) (b:=a.block) (off:=a.off) (n:=cap*P.cellsOf e) (λi hi=>by
        have hk:=hc.1
        obtain ⟨u,h1,_,_,h2⟩:=eY (i / P.cellsOf e) (Nat.div_lt_of_lt_mul (by rw [zl];exact hi)) (i % P.cellsOf e) (D4 _ hk)
        refine ⟨u,?_,h2⟩
        rw [<- h1,zl,Nat.div_add_mod])
      .exact hY (qj _ hle) cQ.1
      .intro i hi
       obtain ⟨pE,y,h1,h2⟩:=aE i (by omega)
       have h3:=(ih e pE m y hc.2 h2).2
       have h4:((Dz W h.size M a.block a.off).drop (i*P.cellsOf e)).take (P.cellsOf e)=pE.map (uk h.size M):=by
        obtain ⟨_,g2,g3⟩:=World.cells?_some h1
        have aP:(i+1)*P.cellsOf e<=cap*P.cellsOf e:=qj _ (by omega)
        rw [rF] at aP
        apply sq
        intro j
        by_cases hj:j < P.cellsOf e
        .rw [Jk hj,kL,cQ.2 _ (by omega),lS]
         congr 1
         have h5:=g3 j hj
         have h6:j < pE.length:=by omega
         rw [ie h6] at h5 ⊢
         obtain ⟨h7,h8,h9⟩:=zmH h5
         have e1:((a.add (i*P.cellsOf e)).add j).block=a.block:=by unfold Addr.add;split <;> split <;> rfl
         have e2:((a.add (i*P.cellsOf e)).add j).off=a.off+(i*P.cellsOf e+j):=by unfold Addr.add;split <;> split <;> simp_all;omega
         rw [e1,e2] at h9
         exact h9
        .rw [Hu (by simp;omega),Hu (by simp;omega)]
       rw [h4]
       exact h3
   |struct fs =>
    simp only [eo,jh,tF,jl,zj] at hc
    obtain ⟨xs,m,_,_,hl,YM,hf⟩:=DataW.trod_struct hu hx
    have m8:∀ (i:Nat) (f:Field),fs[i]? = some f->∃ y,DataW.trod enc P W 0 (λ_=>true) true m f.type ((cs.drop f.offset).take (P.cellsOf f.type))=some y:=by
     intro i f Fo
     have hi:=(mO.1 Fo).1
     have:=hf i f Fo
     rw [ie (by omega)] at this
     exact ⟨_,this⟩
    refine ⟨?_,by rw [nA];exact hl,?_⟩
    .intro u zL
     obtain ⟨j,hj,rfl⟩:=Qt zL
     obtain ⟨f,hfm,h1,h2⟩:=hc.1 j (by omega)
     obtain ⟨i,hi⟩:=sk hfm
     have m9:fs[i]? = some f:=by simpa using hi
     obtain ⟨y,hy⟩:=m8 i f m9
     refine (ih f.type _ m y (hc.2 f hfm) hy).1 _ ?_
     refine fW (i:=j - f.offset) ?_
     rw [Jk (by omega),kL,show f.offset+(j - f.offset)=j by omega,ie hj]
    .intro i f Fo
     obtain ⟨y,hy⟩:=m8 i f Fo
     rw [zAm]
     exact (ih f.type _ m y (hc.2 f (by simpa using Array.mem_of_getElem? Fo)) hy).2
   |array m e =>
    simp only [eo,jl] at hc
    obtain ⟨xs,fu,_,_,hl,YM,hf⟩:=DataW.trod_array hu hx
    have m8:∀ i,i < m->∃ y,DataW.trod enc P W 0 (λ_=>true) true fu e ((cs.drop (i*P.cellsOf e)).take (P.cellsOf e))=some y:=by
     intro i hi
     have:=hf i hi
     rw [ie (by omega)] at this
     exact ⟨_,this⟩
    refine ⟨?_,by rw [nA];exact hl,?_⟩
    .intro u zL
     obtain ⟨j,hj,rfl⟩:=Qt zL
     have ME:j / P.cellsOf e < m:=Nat.div_lt_of_lt_mul (by rw [zl];omega)
     obtain ⟨y,hy⟩:=m8 _ ME
     refine (ih e _ fu y hc.2.2 hy).1 _ ?_
     refine fW (i:=j % P.cellsOf e) ?_
     rw [Jk (D4 _ hc.2.1),kL,zl,Nat.div_add_mod,ie hj]
    .intro i hi
     obtain ⟨y,hy⟩:=m8 i hi
     rw [zAm]
     exact (ih e _ fu y hc.2.2 hy).2
   |_=>simp at hc
end
end Go.Am
namespace Go.Am
open Go.RowKit Go.ChangeShapes Go.WideShapes Go.ChangeAt
section
variable {P:Program} {T:bO} {ov:Ov} {W:World} {H:Type} {enc:TypeId × ah->H}
theorem zrS (W:World):∃ M,Ay W M:=by
 have key:∀ n,∃ M,∀ b,b < n->(uD W b).length < M:=by
  intro n
  induction n with
  |zero=>exact ⟨0,λb hb=>absurd hb (Nat.not_lt_zero _)⟩
  |succ n ih =>
   obtain ⟨M,hM⟩:=ih
   refine ⟨max M ((uD W n).length+1),λb hb=>?_⟩
   by_cases h:b < n
   .have:=hM b h;omega
   .have:b=n:=by omega
    subst this;omega
 exact key W.heap.size

def Af (P:Program) (h:Heap) (n:Nat) (t:TypeId) (v:ah):Prop:=match P.underlying t with
 |some (.struct _)|some (.array _ _)=>∃ cs,v=.agg ⟨cs⟩/\eK P h n t cs
 |_=>eK P h n t [v]
def Ab (P:Program) (h:Heap) (n:Nat):List TypeId->List ah->Prop
 | [],[]=>True
 |t::ts,v::vs=>Af P h n t v/\Ab P h n ts vs
 |_,_=>False
def ot (N M:Nat):ah->ah
 | .agg cs=>.agg ⟨cs.toList.map (uk N M)⟩
 |v=>uk N M v

theorem zAF {ρ:cn} {h:Heap} {M:Nat} (hS:0 < W.heap.size) (hM:0 < M) {cs:List ah} (hc:∀ u∈cs,gY W.heap.size M u=true):cx (ry W h ρ M) (cs.map (uk h.size M)) cs:=by
 refine ⟨by simp,λi x y hx hy=>?_⟩
 rw [lS,hy] at hx
 cases hx
 exact zwB hS hM (hc y (fW hy))

theorem zzx {h:Heap} {ρ:cn} {M n base:Nat} {t:TypeId} {v:ah} {d:DataW H} {ps:List MemPlace} (hS:0 < W.heap.size) (xy:Ay W M) (hc:y9 P n t=true) (dS:Value.okWide P W .any base t v) (ht:DataW.Trod enc P W 0 (λ_=>true) true t v d ps) :
 VR (ry W h ρ M) (ot h.size M v) v/\Af P (vQ W h M) n t (ot h.size M v):=by
 have hM:0 < M:=Nat.lt_of_le_of_lt (i6 _) (xy 0 hS)
 obtain ⟨fuel,ht⟩:=ht
 obtain ⟨h1,h2⟩:=zuA (h:=h) hS xy n t _ fuel _ hc ht
 have agg:∀ cs,v=.agg cs->VR (ry W h ρ M) (ot h.size M v) v/\ot h.size M v=.agg ⟨v.cells.toList.map (uk h.size M)⟩:=by
  rintro cs rfl
  refine ⟨?_,rfl⟩
  have:=zAF (ρ:=ρ) (h:=h) hS hM h1
  have:=this.toArray
  simpa [ot,Value.cells] using this
 have one:v.cells=#[v]->VR (ry W h ρ M) (ot h.size M v) v/\v.cells.toList.map (uk h.size M)=[ot h.size M v]:=by
  intro hv
  rw [hv] at h1 ⊢
  have hb:=h1 v (by simp)
  have hi:ot h.size M v=uk h.size M v:=by
   cases v with
   |agg cs=>simp [gY] at hb
   |_=>rfl
  rw [hi]
  exact ⟨zwB hS hM hb,rfl⟩
 unfold Af
 unfold Value.okWide at dS
 cases n with
 |zero=>simp [y9] at hc
 |succ n =>
  simp only [y9] at hc
  cases hu:P.underlying t with
  |none=>rw [hu] at hc;simp at hc
  |some dd =>
   rw [hu] at hc dS
   cases dd with
   |struct fs =>
    obtain ⟨cs,hv,_⟩:=dS
    obtain ⟨a1,a2⟩:=agg cs hv
    exact ⟨a1,_,a2,h2⟩
   |array m e =>
    obtain ⟨cs,hv,_⟩:=dS
    obtain ⟨a1,a2⟩:=agg cs hv
    exact ⟨a1,_,a2,h2⟩
   |bool =>
    simp only [Cell.okWide,Cell.ok,hu] at dS
    cases v <;> simp at dS
    obtain ⟨a1,a2⟩:=one rfl
    exact ⟨a1,by rw [<- a2];exact h2⟩
   |int k =>
    simp only [Cell.okWide,Cell.ok,hu] at dS
    cases v <;> simp at dS
    obtain ⟨a1,a2⟩:=one rfl
    exact ⟨a1,by rw [<- a2];exact h2⟩
   |string =>
    simp only [Cell.okWide,Cell.ok,hu] at dS
    cases v <;> simp at dS
    obtain ⟨a1,a2⟩:=one rfl
    exact ⟨a1,by rw [<- a2];exact h2⟩
   |slice e =>
    simp only [Cell.okWide,Cell.ok,hu] at dS
    cases v <;> simp at dS
    obtain ⟨a1,a2⟩:=one rfl
    exact ⟨a1,by rw [<- a2];exact h2⟩
   |_=>simp at hc

theorem zpr {h:Heap} {ρ:cn} {M n base:Nat} (hS:0 < W.heap.size) (xy:Ay W M):∀ (ts:List TypeId) (vs:List ah) (ds:List (DataW H)) (ps:List MemPlace),ts.all (y9 P n)=true ->
 (∀ (j:Nat) t v,ts[j]? = some t->vs[j]? = some v->Value.okWide P W .any base t v)->DataW.TrodAll enc P W 0 (λ_=>true) true ts vs ds ps ->
 cx (ry W h ρ M) (vs.map (ot h.size M)) vs/\Ab P (vQ W h M) n ts (vs.map (ot h.size M))
 | [],[],[],_,_,_,_=>⟨.nil _,trivial⟩
 |t::ts,v::vs,d::ds,ps,hc,dS,ht=>by
  simp only [nC,eo] at hc
  obtain ⟨p,q,h1,h2,_⟩:=ht
  obtain ⟨a1,a2⟩:=zzx (h:=h) (ρ:=ρ) hS xy hc.1 (dS 0 t v rfl rfl) h1
  obtain ⟨b1,b2⟩:=zpr (h:=h) (ρ:=ρ) hS xy ts vs ds q hc.2 (λj t v h3 h4=>dS (j+1) t v (by simpa using h3) (by simpa using h4)) h2
  exact ⟨.cons a1 b1,a2,b2⟩
 | [],[],_::_,_,_,_,ht=>ht.elim
 | [],_::_,_,_,_,_,ht=>by cases ht
 |_::_,[],_,_,_,_,ht=>by cases ht
 |_::_,_::_,[],_,_,_,ht=>by cases ht

theorem zg6 (hl:laidOutB P=true) {W W':World} (hb:Below W.heap.size W W') (sp:Nat->Bool):∀ (ts:List TypeId) (vs:List ah) (ds:List (DataW H)) (ps:List MemPlace),ts.all (λt=>P.readableRec t && decide (t < P.types.size))=true ->
 (∀ x∈ps,x.block < W.heap.size)->(∀ x∈ps,sp x.block=true)->DataW.TrodAll enc P W 0 (λ_=>true) true ts vs ds ps->DataW.TrodAll enc P W' 0 sp true ts vs ds ps
 | [],[],[],_,_,_,_,h=>h
 |t::ts,v::vs,d::ds,ps,hr,aW,cR,h=>by
  simp only [nC,eo,jl] at hr
  obtain ⟨p,q,h1,h2,rfl⟩:=h
  exact ⟨p,q,WideElems.Trod_stays hl hr.1.1 hr.1.2 h1 (λx hx=>hb.same (aW x (by simp [hx]))) (λx hx=>cR x (by simp [hx])),
   zg6 hl hb sp ts vs ds q hr.2 (λx hx=>aW x (by simp [hx])) (λx hx=>cR x (by simp [hx])) h2,rfl⟩
 | [],[],_::_,_,_,_,_,h=>h.elim
 | [],_::_,_,_,_,_,_,h=>by cases h
 |_::_,[],_,_,_,_,_,h=>by cases h
 |_::_,_::_,[],_,_,_,_,h=>by cases h

end
end Go.Am

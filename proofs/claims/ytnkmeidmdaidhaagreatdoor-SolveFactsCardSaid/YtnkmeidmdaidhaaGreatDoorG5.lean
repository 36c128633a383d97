/- Arguments of any plain type laid in the plain heap: each block of the world, from each place on, is a row that is read alone. No condition. -/
import Derived.Test.YtnkmeidmdaidhaaGreatDoorG4
import Derived.OpenShut
import Derived.HandedShaped
import Derived.WideKeyArgs
set_option linter.unusedSimpArgs false
namespace Go.Am
open Go.RowKit Go.ChangeShapes Go.WideShapes Go.ChangeAt
variable {b off:Nat}

def gv (S M:Nat):ai->Bool
 | .bool _ | .int _ _ | .string _=>true
 | .slice none n c=>n == 0 && c == 0
 | .slice (some a) n c=>decide (n<=c) && (decide (c < G) && (c == 0 || (decide (a.block < S) && (a.spot.isNone && decide (a.off < M)))))
 |_=>false
def sT (N M:Nat):ai->ai
 | .slice (some a) n c=>if c=0 then .slice (some ⟨N,0,none⟩) n c else .slice (some ⟨N+(a.block*M+a.off),0,none⟩) n c
 |v=>v
def tk (W:World) (b:Nat):List ai:=match W.heap[b]? with
 |some (.cells c _ _)=>c.toList
 |_=>[]
def C1 (W:World) (N M:Nat) (b off:Nat):List ai:=(((tk W b).drop off).takeWhile (gv W.heap.size M)).map (sT N M)
def QM (W:World) (N M:Nat):List aZ:=(List.range (W.heap.size*M)).map λi=>.row (C1 W N M (i / M) (i % M)) 0 true
def uz (W:World) (h:Heap) (M:Nat):Heap:=h.lay (QM W h.size M) (h.size+W.heap.size*M)
def qI (W:World) (h:Heap) (ρ:cI) (M:Nat):cI:=λA=>if h.size<=A/\A < h.size+W.heap.size*M then some ⟨(A - h.size) / M,(A - h.size) % M,0⟩ else ρ A

section
variable {P:Program} {W:World} {h:Heap} {ρ:cI} {M:Nat}
theorem zmo (N:Nat):(QM W N M).length=W.heap.size*M:=by simp [QM]
theorem MC:(uz W h M).size=h.size+W.heap.size*M:=by unfold uz;rw [bh,zmo]
theorem PB {i:Nat} (hi:i < W.heap.size*M):(uz W h M).get (h.size+i)=some (.row (C1 W h.size M (i / M) (i % M)) 0 true):=by
 unfold uz
 rw [jG]
 simp [QM,hi]
theorem Xl {A:Nat} (hA:A < h.size):(uz W h M).get A=h.get A:=sU _ _ _ hA
theorem NB (hb:b < W.heap.size) (ho:off < M):b*M+off < W.heap.size*M:=by
 calc b*M+off < b*M+M:=by omega
  _=(b+1)*M:=by rw [vz]
  _<=W.heap.size*M:=uJ _ hb
theorem YD (ho:off < M):(b*M+off) / M=b:=by
 rw [yc,Nat.mul_add_div (by omega),Nat.div_eq_of_lt ho,gx]
theorem YE (ho:off < M):(b*M+off) % M=off:=by
 rw [yc,Nat.mul_add_mod,Dh ho]
theorem Xm (hb:b < W.heap.size) (ho:off < M):qI W h ρ M (h.size+(b*M+off))=some ⟨b,off,0⟩:=by
 have h1:=NB (W:=W) hb ho
 unfold qI
 rw [aD ⟨by omega,by omega⟩,Nl,YD ho,YE ho]
theorem zpl (cj:∀ A,h.size<=A->ρ A=none) (A:Nat) (L:Loc) (hA:ρ A=some L):qI W h ρ M A=some L:=by
 unfold qI
 rw [az]
 .exact hA
 .rintro ⟨h1,_⟩
  rw [cj A h1] at hA
  cases hA
theorem Zj (hS:0 < W.heap.size) (hM:0 < M) {u:ai} (hu:gv W.heap.size M u=true):VR (qI W h ρ M) (sT h.size M u) u:=by
 cases u with
 |bool b=>exact .bool b
 |int k n=>exact .int k n
 |string s=>exact .string s
 |slice a n c =>
  cases a with
  |none =>
   simp [gv] at hu
   obtain ⟨rfl,rfl⟩:=hu
   exact .dI
  |some a =>
   simp only [gv,dK,jm,sg,beq_iff_eq] at hu
   obtain ⟨h1,h2,h3⟩:=hu
   by_cases hc:c=0
   .subst hc
    have hr:qI W h ρ M h.size=some ⟨0,0,0⟩:=by
     have:=Xm (h:=h) (ρ:=ρ) hS hM
     simpa using this
    exact VR.slice (L:=⟨0,0,0⟩) hr h2 h1 (λhh=>absurd rfl hh)
   .rcases h3 with h3|⟨h3,h4,h5⟩
    .exact absurd h3 hc
    .simp only [sT,az hc]
     refine VR.slice (Xm h3 h5) h2 h1 (λ_=>?_)
     obtain ⟨b,o,s⟩:=a
     simp at h4
     subst h4
     simp
 |_=>simp [gv] at hu
theorem zCW {Z:Type} {p:Z->Bool} {l:List Z} {x:Z} (h:x∈l.takeWhile p):p x=true:=by
 induction l with
 |nil=>simp at h
 |cons a l ih =>
  by_cases ha:p a=true
  .rw [List.takeWhile_cons_of_pos ha,df] at h
   rcases h with rfl|h
   .exact ha
   .exact ih h
  .rw [List.takeWhile_cons_of_neg ha] at h
   simp at h
theorem zwG {N i:Nat} {v:ai} (hv:(C1 W N M b off)[i]? = some v):∃ u,W.cell? ⟨b,off+i,none⟩=some u/\gv W.heap.size M u=true/\v=sT N M u:=by
 unfold C1 at hv
 rw [lP,ct] at hv
 obtain ⟨u,hu,rfl⟩:=hv
 have dR:=en hu
 have hp:=zCW dR
 refine ⟨u,?_,hp,rfl⟩
 have mG:((tk W b).drop off).takeWhile (gv W.heap.size M) <+: (tk W b).drop off:=List.takeWhile_prefix _
 have h2:((tk W b).drop off)[i]? = some u:=by
  obtain ⟨t,ht⟩:=mG
  rw [<- ht,jz (fG.1 hu).1]
  exact hu
 rw [lq] at h2
 unfold tk at h2
 unfold World.cell?
 split at h2
 .rename_i c e fz hc
  simp only [hc]
  simpa using h2
 .simp at h2
theorem zzs (hs:bT ρ h W) (cj:∀ A,h.size<=A->ρ A=none) (G4:∀ A L,ρ A=some L->nC h A) (hM:0 < M):bT (qI W h ρ M) (uz W h M) W:=by
 have hn:∀ A,h.size<=A/\A < h.size+W.heap.size*M->∃ b off,b < W.heap.size/\off < M/\A=h.size+(b*M+off):=by
  rintro A ⟨h1,h2⟩
  refine ⟨(A - h.size) / M,(A - h.size) % M,?_,Nat.mod_lt _ hM,?_⟩
  .exact Nat.div_lt_of_lt_mul (by rw [yc];omega)
  .have:=Nat.div_add_mod (A - h.size) M
   rw [yc] at this
   omega
 have eF:∀ A L,qI W h ρ M A=some L->¬ (h.size<=A/\A < h.size+W.heap.size*M)->ρ A=some L:=by
  intro A L hA hc
  unfold qI at hA
  rwa [az hc] at hA
 have lt:∀ A L,ρ A=some L->A < h.size:=by
  intro A L hA
  apply Nat.lt_of_not_le
  intro hh
  rw [cj A hh] at hA
  cases hA
 have ro:∀ A L,qI W h ρ M A=some L->nC (uz W h M) A:=by
  intro A L hA
  by_cases hc:h.size<=A/\A < h.size+W.heap.size*M
  .obtain ⟨b,off,hb,ho,rfl⟩:=hn A hc
   exact ⟨_,_,PB (NB hb ho)⟩
  .have h1:=eF A L hA hc
   obtain ⟨cs,e,hg⟩:=G4 A L h1
   exact ⟨cs,e,(Xl (lt A L h1)).trans hg⟩
 constructor
 .intro A L hA
  by_cases hc:h.size<=A/\A < h.size+W.heap.size*M
  .obtain ⟨b,off,hb,ho,rfl⟩:=hn A hc
   rw [Xm hb ho] at hA
   cases hA
   rw [PB (NB hb ho),YD ho,YE ho]
   refine ⟨⟨hb,λhh=>absurd hh (by decide)⟩,λi v hv=>?_⟩
   obtain ⟨u,h1,h2,rfl⟩:=zwG hv
   exact ⟨u,h1,Zj (Nat.lt_of_le_of_lt (iN _) hb) hM h2⟩
  .have h1:=eF A L hA hc
   rw [Xl (lt A L h1)]
   exact (hs.lR A L h1).keep (zpl cj) (aR _) λ_=>rfl
 .intro A A' L L' hA fk aM hb
  exact .inr (.inr ⟨ro A L hA,ro A' L' fk⟩)
end

def jd (P:Program) (h:Heap):Nat->TypeId->List ai->Prop
 |0,_,_=>False
 |n+1,t,cs=>match P.underlying t with
  |some .bool=>∃ b,cs=[.bool b]
  |some (.int k)=>∃ i,cs=[.int k i]/\(Lit.int k i).wf=true
  |some .string=>∃ s:aU,cs=[.string s]/\s.size<=maxLen
  |some (.slice e)=>cs=[.slice none 0 0]\/∃ A len cap row u,cs=[.slice (some ⟨A,0,none⟩) len cap]/\len<=cap/\cap<=maxLen/\A < h.size/\h.get A=some (.row row u true)/\len*P.cellsOf e<=row.length /\
   ∀ i,i < len->jd P h n e ((row.drop (i*P.cellsOf e)).take (P.cellsOf e))
  |some (.struct fs)=>cs.length=P.cellsOf t/\∀ (i:Nat) (f:Field),fs[i]? = some f->jd P h n f.type ((cs.drop f.offset).take (P.cellsOf f.type))
  |some (.array m e)=>cs.length=P.cellsOf t/\∀ i,i < m->jd P h n e ((cs.drop (i*P.cellsOf e)).take (P.cellsOf e))
  |_=>False
def xU (P:Program):Nat->TypeId->Bool
 |0,_=>false
 |n+1,t=>match P.underlying t with
  |some .bool|some (.int _)|some .string=>true
  |some (.slice e)=>decide (0 < P.cellsOf e) && xU P n e
  |some (.struct fs)=>(List.range (P.cellsOf t)).all (λj=>fs.toList.any λf=>decide (f.offset<=j/\j < f.offset+P.cellsOf f.type)) && fs.toList.all λf=>xU P n f.type
  |some (.array m e)=>decide (P.cellsOf t=m*P.cellsOf e) && (decide (0 < P.cellsOf e) && xU P n e)
  |_=>false

section
variable {P:Program} {W:World} {h:Heap} {M:Nat} {H:Type} {enc:TypeId × ai->H}
def zo (W:World) (M:Nat):Prop:=∀ b,b < W.heap.size->(tk W b).length < M
theorem YB {a:Addr} {u:ai} (hc:W.cell? a=some u):a.block < W.heap.size/\a.spot=none/\(tk W a.block)[a.off]? = some u:=by
 unfold World.cell? at hc
 split at hc
 .rename_i c e fz hb
  split at hc
  .cases hc
  .rename_i hs
   refine ⟨(mU.1 hb).1,by simpa using hs,?_⟩
   simp only [tk,hb]
   simpa using hc
 .cases hc
theorem zwF {N n:Nat} (aB:∀ i,i < n->∃ u,(tk W b)[off+i]? = some u/\gv W.heap.size M u=true) :
 n<=(C1 W N M b off).length/\∀ i,i < n->(C1 W N M b off)[i]? = ((tk W b)[off+i]?).map (sT N M):=by
 have key:∀ (l:List ai) (n:Nat),(∀ i,i < n->∃ u,l[i]? = some u/\gv W.heap.size M u=true)->n<=(l.takeWhile (gv W.heap.size M)).length/\∀ i,i < n->(l.takeWhile (gv W.heap.size M))[i]? = l[i]? := by
  intro l
  induction l with
  |nil =>
   intro n hh
   cases n with
   |zero=>exact ⟨iN _,λi hi=>absurd hi (vx _)⟩
   |succ n=>obtain ⟨u,hu,_⟩:=hh 0 (by omega);simp at hu
  |cons x l ih =>
   intro n hh
   cases n with
   |zero=>exact ⟨iN _,λi hi=>absurd hi (vx _)⟩
   |succ n =>
    obtain ⟨u,hu,hb⟩:=hh 0 (by omega)
    simp at hu
    subst hu
    obtain ⟨h1,h2⟩:=ih n λi hi=>by
     obtain ⟨u,hu,hb⟩:=hh (i+1) (by omega)
     exact ⟨u,by simpa using hu,hb⟩
    rw [List.takeWhile_cons_of_pos hb]
    refine ⟨by simpa using h1,λi hi=>?_⟩
    cases i with
    |zero=>rfl
    |succ i=>simpa using h2 i (by omega)
 obtain ⟨h1,h2⟩:=key ((tk W b).drop off) n λi hi=>by
  obtain ⟨u,hu,hb⟩:=aB i hi
  exact ⟨u,by rw [lq];exact hu,hb⟩
 unfold C1
 refine ⟨by rw [gw];exact h1,λi hi=>?_⟩
 rw [lP,h2 i hi,lq]
theorem zAi {Z β:Type} (f:Z->β) (l:List Z) (a b:Nat):(((l.map f).drop a).take b)=((l.drop a).take b).map f:=by
 rw [List.map_take,List.map_drop]
theorem zuN (hS:0 < W.heap.size) (vW:zo W M):∀ (n:Nat) (t:TypeId) (cs:List ai) (fuel:Nat) (x:DataW H × List MemPlace),xU P n t=true->DataW.trod enc P W 0 (λ_=>true) true fuel t cs=some x ->
 (∀ u∈cs,gv W.heap.size M u=true)/\jd P (uz W h M) n t (cs.map (sT h.size M)):=by
 intro n
 induction n with
 |zero=>intro t cs fuel x hc;simp [xU] at hc
 |succ n ih =>
  intro t cs fuel x hc hx
  have hM:0 < M:=Nat.lt_of_le_of_lt (iN _) (vW 0 hS)
  unfold xU at hc
  unfold jd
  cases hu:P.underlying t with
  |none=>rw [hu] at hc;cases hc
  |some d =>
   rw [hu] at hc
   cases d with
   |bool =>
    obtain ⟨b,rfl,_⟩:=DataW.trod_bool hu hx
    exact ⟨by simp [gv],b,rfl⟩
   |int k =>
    obtain ⟨i,rfl,_,hw⟩:=DataW.trod_int hu hx
    exact ⟨by simp [gv],i,rfl,hw⟩
   |string =>
    obtain ⟨s,rfl,_,hw⟩:=DataW.trod_string hu hx
    exact ⟨by simp [gv],s,rfl,hw⟩
   |slice e =>
    simp only [dK,jm] at hc
    rcases DataW.trod_slice hu hx with ⟨rfl,_⟩|⟨a,len,cap,elems,rest,m,_,rfl,_,_,hle,oV,zU,oh,EP,_⟩
    .exact ⟨by simp [gv],.inl rfl⟩
    .obtain ⟨O9,fL⟩:=EP rfl
     -- each cell up to the capacity
     have aB:∀ i,i < cap->∃ m7 y,W.cells? 0 (a.add (i*P.cellsOf e)) (P.cellsOf e)=some m7/\DataW.trod enc P W 0 (λ_=>true) true m e m7=some y:=by
      intro i hi
      by_cases fC:i < len
      .have h1:=oh i fC
       have h2:i < elems.length:=by omega
       rw [iH h2,cG] at h1
       obtain ⟨m7,h3,h4⟩:=h1
       exact ⟨m7,_,h3,h4⟩
      .have h1:=fL (i - len) (by omega)
       have h2:i - len < rest.length:=by omega
       rw [iH h2,cG,show len+(i - len)=i by omega] at h1
       obtain ⟨m7,h3,h4⟩:=h1
       exact ⟨m7,_,h3,h4⟩
     by_cases kf:cap=0
     .subst kf
      have GY:len=0:=by omega
      subst GY
      refine ⟨by simp [gv,G],.inr ⟨h.size,0,0,_,_,rfl,aR _,iN _,?_,PB (h:=h) (i:=0) (Nat.mul_pos hS hM),by simp,λi hi=>absurd hi (vx _)⟩⟩
      rw [MC];have:=Nat.mul_pos hS hM;omega
     .have gI:∀ i,i < cap->∀ j,j < P.cellsOf e->∃ u,(tk W a.block)[a.off+(i*P.cellsOf e+j)]? = some u/\a.block < W.heap.size/\a.spot=none/\gv W.heap.size M u=true:=by
       intro i hi j hj
       obtain ⟨m7,y,h1,h2⟩:=aB i hi
       obtain ⟨_,h3,h4⟩:=World.cells?_some h1
       have h5:=h4 j hj
       have h6:j < m7.length:=by omega
       rw [iH h6] at h5
       obtain ⟨h7,h8,h9⟩:=YB h5
       have e1:((a.add (i*P.cellsOf e)).add j).block=a.block:=by unfold Addr.add;split <;> split <;> rfl
       have e2:((a.add (i*P.cellsOf e)).add j).off=a.off+(i*P.cellsOf e+j):=by unfold Addr.add;split <;> split <;> simp_all;omega
       rw [e1,e2] at h9
       rw [e1] at h7
       refine ⟨_,h9,h7,?_,(ih e m7 m y hc.2 h2).1 _ (List.getElem_mem h6)⟩
       obtain ⟨cs0,y0,g1,_⟩:=aB 0 (by omega)
       obtain ⟨_,g3,g4⟩:=World.cells?_some g1
       have g5:=g4 0 hc.1
       have g6:0 < cs0.length:=by omega
       rw [iH g6] at g5
       have g8:=(YB g5).2.1
       simpa [Addr.add] using g8
      obtain ⟨u0,VD,hb,dD,_⟩:=gI 0 (by omega) 0 hc.1
      have pf:a.off < M:=by
       have:=(fG.1 VD).1
       have:=vW _ hb
       omega
      have hG:cap < G:=by unfold G;unfold maxLen at oV;omega
      refine ⟨?_,.inr ⟨h.size+(a.block*M+a.off),len,cap,_,_,?_,hle,oV,?_,PB (NB hb pf),?_,?_⟩⟩
      .intro u yz
       simp only [ep] at yz
       subst yz
       simp [gv,hle,hG,hb,dD,pf]
      .simp [sT,kf]
      .rw [MC];have:=NB (W:=W) hb pf;omega
      all_goals rw [YD pf,YE pf]
      all_goals
       have dL:=zwF (N:=h.size) (M:=M) (W:=W) (b:=a.block) (off:=a.off) (n:=cap*P.cellsOf e) (λi hi=>by
        have hk:=hc.1
        obtain ⟨u,h1,_,_,h2⟩:=gI (i / P.cellsOf e) (Nat.div_lt_of_lt_mul (by rw [yc];exact hi)) (i % P.cellsOf e) (Nat.mod_lt _ hk)
        refine ⟨u,?_,h2⟩
        rw [<- h1,yc,Nat.div_add_mod])
      .exact eA (uJ _ hle) dL.1
      .intro i hi
       obtain ⟨m7,y,h1,h2⟩:=aB i (by omega)
       have h3:=(ih e m7 m y hc.2 h2).2
       have h4:((C1 W h.size M a.block a.off).drop (i*P.cellsOf e)).take (P.cellsOf e)=m7.map (sT h.size M):=by
        obtain ⟨_,g2,g3⟩:=World.cells?_some h1
        have aP:(i+1)*P.cellsOf e<=cap*P.cellsOf e:=uJ _ (by omega)
        rw [vz] at aP
        apply xZ
        intro j
        by_cases hj:j < P.cellsOf e
        .rw [F6 hj,lq,dL.2 _ (by omega),lP]
         congr 1
         have h5:=g3 j hj
         have h6:j < m7.length:=by omega
         rw [iH h6] at h5 ⊢
         obtain ⟨h7,h8,h9⟩:=YB h5
         have e1:((a.add (i*P.cellsOf e)).add j).block=a.block:=by unfold Addr.add;split <;> split <;> rfl
         have e2:((a.add (i*P.cellsOf e)).add j).off=a.off+(i*P.cellsOf e+j):=by unfold Addr.add;split <;> split <;> simp_all;omega
         rw [e1,e2] at h9
         exact h9
        .rw [H2 (by simp;omega),H2 (by simp;omega)]
       rw [h4]
       exact h3
   |struct fs =>
    simp only [dK,iM,Gi,jm,rj] at hc
    obtain ⟨xs,m,_,_,hl,V2,hf⟩:=DataW.trod_struct hu hx
    have mz:∀ (i:Nat) (f:Field),fs[i]? = some f->∃ y,DataW.trod enc P W 0 (λ_=>true) true m f.type ((cs.drop f.offset).take (P.cellsOf f.type))=some y:=by
     intro i f zW
     have hi:=(mU.1 zW).1
     have:=hf i f zW
     rw [iH (by omega)] at this
     exact ⟨_,this⟩
    refine ⟨?_,by rw [gw];exact hl,?_⟩
    .intro u yz
     obtain ⟨j,hj,rfl⟩:=zf yz
     obtain ⟨f,hfm,h1,h2⟩:=hc.1 j (by omega)
     obtain ⟨i,hi⟩:=Gd hfm
     have ql:fs[i]? = some f:=by simpa using hi
     obtain ⟨y,hy⟩:=mz i f ql
     refine (ih f.type _ m y (hc.2 f hfm) hy).1 _ ?_
     refine en (i:=j - f.offset) ?_
     rw [F6 (by omega),lq,show f.offset+(j - f.offset)=j by omega,iH hj]
    .intro i f zW
     obtain ⟨y,hy⟩:=mz i f zW
     rw [zAi]
     exact (ih f.type _ m y (hc.2 f (by simpa using Array.mem_of_getElem? zW)) hy).2
   |array m e =>
    simp only [dK,jm] at hc
    obtain ⟨xs,fu,_,_,hl,V2,hf⟩:=DataW.trod_array hu hx
    have mz:∀ i,i < m->∃ y,DataW.trod enc P W 0 (λ_=>true) true fu e ((cs.drop (i*P.cellsOf e)).take (P.cellsOf e))=some y:=by
     intro i hi
     have:=hf i hi
     rw [iH (by omega)] at this
     exact ⟨_,this⟩
    refine ⟨?_,by rw [gw];exact hl,?_⟩
    .intro u yz
     obtain ⟨j,hj,rfl⟩:=zf yz
     have hjm:j / P.cellsOf e < m:=Nat.div_lt_of_lt_mul (by rw [yc];omega)
     obtain ⟨y,hy⟩:=mz _ hjm
     refine (ih e _ fu y hc.2.2 hy).1 _ ?_
     refine en (i:=j % P.cellsOf e) ?_
     rw [F6 (Nat.mod_lt _ hc.2.1),lq,yc,Nat.div_add_mod,iH hj]
    .intro i hi
     obtain ⟨y,hy⟩:=mz i hi
     rw [zAi]
     exact (ih e _ fu y hc.2.2 hy).2
   |_=>simp at hc
end
end Go.Am
namespace Go.Am
open Go.RowKit Go.ChangeShapes Go.WideShapes Go.ChangeAt
variable {ρ:cI} {h:Heap}
section
variable {P:Program} {T:bJ} {ov:Ov} {W:World} {H:Type} {enc:TypeId × ai->H}
theorem zrU (W:World):∃ M,zo W M:=by
 have key:∀ n,∃ M,∀ b,b < n->(tk W b).length < M:=by
  intro n
  induction n with
  |zero=>exact ⟨0,λb hb=>absurd hb (vx _)⟩
  |succ n ih =>
   obtain ⟨M,hM⟩:=ih
   refine ⟨max M ((tk W n).length+1),λb hb=>?_⟩
   by_cases h:b < n
   .have:=hM b h;omega
   .have:b=n:=by omega
    subst this;omega
 exact key W.heap.size
theorem ztT (kV:P.follows .mixedOrders=true) (hT:T.Fits P) (jP:BJ P T.gs ov) {f:FuncId} (hf:ov f=none) {args:List ai} {aL:Array ai}
 (hG:cY T.gs ρ) (hs:bT ρ h W) (cj:∀ A,h.size<=A->ρ A=none) (hl:h.low=h.size) (hv:cL ρ args aL.toList) (cV:Ok P T ov f args h λv h'=>v=.bool true/\Ext h h') :
 Calls P f aL W λe w'=>e=.returned (.bool true)/\Below W.heap.size W w':=by
 obtain ⟨n,v,h',eg,rfl,hx⟩:=cV
 have rH:=(XN kV hT jP n).fn f args h (.bool true) h' eg ρ W aL hG hs (λA h1 _=>cj A h1) hv
 rcases rH with ⟨ρ',u,w',h1,_⟩|⟨_,h1⟩
 .exfalso
  cases n with
  |zero=>simp [call] at eg
  |succ n =>
   simp only [call,hf,cG] at eg
   obtain ⟨fn,lf,c,hc,_⟩:=eg
   obtain ⟨hP,iU,_⟩:=hT.fn f fn lf
   have fK:¬ fn.name="runtime.NumGoroutine":=by simpa using iU
   simp [callFunc,hP,fK,hc] at h1
 .refine h1.mono ?_
  rintro e w' ⟨ρ',u,rfl,f1,s1,hv⟩
  refine ⟨?_,f1.below λA L hA=>?_⟩
  .rw [hv.bK rfl]
  .have h2:A < h.size:=by
    apply Nat.lt_of_not_le
    intro hh
    rw [cj A hh] at hA
    cases hA
   have:=hx.low
   omega

def vm (P:Program) (h:Heap) (n:Nat) (t:TypeId) (v:ai):Prop:=match P.underlying t with
 |some (.struct _)|some (.array _ _)=>∃ cs,v=.agg ⟨cs⟩/\jd P h n t cs
 |_=>jd P h n t [v]
def yR (P:Program) (h:Heap) (n:Nat):List TypeId->List ai->Prop
 | [],[]=>True
 |t::ts,v::vs=>vm P h n t v/\yR P h n ts vs
 |_,_=>False
def nB (N M:Nat):ai->ai
 | .agg cs=>.agg ⟨cs.toList.map (sT N M)⟩
 |v=>sT N M v

theorem zAF {M:Nat} (hS:0 < W.heap.size) (hM:0 < M) {cs:List ai} (hc:∀ u∈cs,gv W.heap.size M u=true):cL (qI W h ρ M) (cs.map (sT h.size M)) cs:=by
 refine ⟨by simp,λi x y hx hy=>?_⟩
 rw [lP,hy] at hx
 cases hx
 exact Zj hS hM (hc y (en hy))

theorem zzq {M n base:Nat} {t:TypeId} {v:ai} {d:DataW H} {ps:List MemPlace} (hS:0 < W.heap.size) (vW:zo W M) (hc:xU P n t=true) (fo:Value.okWide P W .any base t v) (ht:DataW.Trod enc P W 0 (λ_=>true) true t v d ps) :
 VR (qI W h ρ M) (nB h.size M v) v/\vm P (uz W h M) n t (nB h.size M v):=by
 have hM:0 < M:=Nat.lt_of_le_of_lt (iN _) (vW 0 hS)
 obtain ⟨fuel,ht⟩:=ht
 obtain ⟨h1,h2⟩:=zuN (h:=h) hS vW n t _ fuel _ hc ht
 have agg:∀ cs,v=.agg cs->VR (qI W h ρ M) (nB h.size M v) v/\nB h.size M v=.agg ⟨v.cells.toList.map (sT h.size M)⟩:=by
  rintro cs rfl
  refine ⟨?_,rfl⟩
  have:=zAF (ρ:=ρ) (h:=h) hS hM h1
  have:=this.toArray
  simpa [nB,Value.cells] using this
 have one:v.cells=#[v]->VR (qI W h ρ M) (nB h.size M v) v/\v.cells.toList.map (sT h.size M)=[nB h.size M v]:=by
  intro hv
  rw [hv] at h1 ⊢
  have hb:=h1 v (by simp)
  have hi:nB h.size M v=sT h.size M v:=by
   cases v with
   |agg cs=>simp [gv] at hb
   |_=>rfl
  rw [hi]
  exact ⟨Zj hS hM hb,rfl⟩
 unfold vm
 unfold Value.okWide at fo
 cases n with
 |zero=>simp [xU] at hc
 |succ n =>
  simp only [xU] at hc
  cases hu:P.underlying t with
  |none=>rw [hu] at hc;simp at hc
  |some dd =>
   rw [hu] at hc fo
   cases dd with
   |struct fs =>
    obtain ⟨cs,hv,_⟩:=fo
    obtain ⟨a1,a2⟩:=agg cs hv
    exact ⟨a1,_,a2,h2⟩
   |array m e =>
    obtain ⟨cs,hv,_⟩:=fo
    obtain ⟨a1,a2⟩:=agg cs hv
    exact ⟨a1,_,a2,h2⟩
   |bool =>
    simp only [Cell.okWide,Cell.ok,hu] at fo
    cases v <;> simp at fo
    obtain ⟨a1,a2⟩:=one rfl
    exact ⟨a1,by rw [<- a2];exact h2⟩
   |int k =>
    simp only [Cell.okWide,Cell.ok,hu] at fo
    cases v <;> simp at fo
    obtain ⟨a1,a2⟩:=one rfl
    exact ⟨a1,by rw [<- a2];exact h2⟩
   |string =>
    simp only [Cell.okWide,Cell.ok,hu] at fo
    cases v <;> simp at fo
    obtain ⟨a1,a2⟩:=one rfl
    exact ⟨a1,by rw [<- a2];exact h2⟩
   |slice e =>
    simp only [Cell.okWide,Cell.ok,hu] at fo
    cases v <;> simp at fo
    obtain ⟨a1,a2⟩:=one rfl
    exact ⟨a1,by rw [<- a2];exact h2⟩
   |_=>simp at hc

theorem zpm {h:Heap} {ρ:cI} {M n base:Nat} (hS:0 < W.heap.size) (vW:zo W M):∀ (ts:List TypeId) (vs:List ai) (ds:List (DataW H)) (ps:List MemPlace),ts.all (xU P n)=true ->
 (∀ (j:Nat) t v,ts[j]? = some t->vs[j]? = some v->Value.okWide P W .any base t v)->DataW.TrodAll enc P W 0 (λ_=>true) true ts vs ds ps ->
 cL (qI W h ρ M) (vs.map (nB h.size M)) vs/\yR P (uz W h M) n ts (vs.map (nB h.size M))
 | [],[],[],_,_,_,_=>⟨.nil _,trivial⟩
 |t::ts,v::vs,d::ds,ps,hc,fo,ht=>by
  simp only [gS,dK] at hc
  obtain ⟨p,q,h1,h2,_⟩:=ht
  obtain ⟨a1,a2⟩:=zzq (h:=h) (ρ:=ρ) hS vW hc.1 (fo 0 t v rfl rfl) h1
  obtain ⟨b1,b2⟩:=zpm (h:=h) (ρ:=ρ) hS vW ts vs ds q hc.2 (λj t v h3 h4=>fo (j+1) t v (by simpa using h3) (by simpa using h4)) h2
  exact ⟨.cons a1 b1,a2,b2⟩
 | [],[],_::_,_,_,_,ht=>ht.elim
 | [],_::_,_,_,_,_,ht=>by cases ht
 |_::_,[],_,_,_,_,ht=>by cases ht
 |_::_,_::_,[],_,_,_,ht=>by cases ht

theorem zhl (hl:laidOutB P=true) {W W':World} (hb:Below W.heap.size W W') (sp:Nat->Bool):∀ (ts:List TypeId) (vs:List ai) (ds:List (DataW H)) (ps:List MemPlace),ts.all (λt=>P.readableRec t && decide (t < P.types.size))=true ->
 (∀ x∈ps,x.block < W.heap.size)->(∀ x∈ps,sp x.block=true)->DataW.TrodAll enc P W 0 (λ_=>true) true ts vs ds ps->DataW.TrodAll enc P W' 0 sp true ts vs ds ps
 | [],[],[],_,_,_,_,h=>h
 |t::ts,v::vs,d::ds,ps,hr,aT,dD,h=>by
  simp only [gS,dK,jm] at hr
  obtain ⟨p,q,h1,h2,rfl⟩:=h
  exact ⟨p,q,WideElems.Trod_stays hl hr.1.1 hr.1.2 h1 (λx hx=>hb.same (aT x (by simp [hx]))) (λx hx=>dD x (by simp [hx])),
   zhl hl hb sp ts vs ds q hr.2 (λx hx=>aT x (by simp [hx])) (λx hx=>dD x (by simp [hx])) h2,rfl⟩
 | [],[],_::_,_,_,_,_,h=>h.elim
 | [],_::_,_,_,_,_,_,h=>by cases h
 |_::_,[],_,_,_,_,_,h=>by cases h
 |_::_,_::_,[],_,_,_,_,h=>by cases h

end
end Go.Am

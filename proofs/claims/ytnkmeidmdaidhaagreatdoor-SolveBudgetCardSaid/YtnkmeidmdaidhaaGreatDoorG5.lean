/- Arguments of any plain type laid in the plain heap: each block of the world, from each place on, is a row that is read alone. No condition. -/
import Derived.Test.YtnkmeidmdaidhaaGreatDoorG4
import Derived.OpenShut
import Derived.HandedShaped
import Derived.WideKeyArgs
set_option linter.unusedSimpArgs false
namespace Go.Am
open Go.RowKit Go.ChangeShapes Go.WideShapes Go.ChangeAt
variable {b off:Nat}

def eZ (S M:Nat):ai->Bool
 | .bool _ | .int _ _ | .string _=>true
 | .slice none n c=>n == 0 && c == 0
 | .slice (some a) n c=>decide (n<=c) && (decide (c < G) && (c == 0 || (decide (a.block < S) && (a.spot.isNone && decide (a.off < M)))))
 |_=>false
def qq (N M:Nat):ai->ai
 | .slice (some a) n c=>if c=0 then .slice (some ⟨N,0,none⟩) n c else .slice (some ⟨N+(a.block*M+a.off),0,none⟩) n c
 |v=>v
def qE (W:World) (b:Nat):List ai:=match W.heap[b]? with
 |some (.cells c _ _)=>c.toList
 |_=>[]
def zO (W:World) (N M:Nat) (b off:Nat):List ai:=(((qE W b).drop off).takeWhile (eZ W.heap.size M)).map (qq N M)
def MZ (W:World) (N M:Nat):List bc:=(List.range (W.heap.size*M)).map λi=>.row (zO W N M (i / M) (i % M)) 0 true
def rD (W:World) (h:Heap) (M:Nat):Heap:=h.lay (MZ W h.size M) (h.size+W.heap.size*M)
def nW (W:World) (h:Heap) (ρ:cf) (M:Nat):cf:=λA=>if h.size<=A/\A < h.size+W.heap.size*M then some ⟨(A - h.size) / M,(A - h.size) % M,0⟩ else ρ A

section
variable {P:Program} {W:World} {h:Heap} {ρ:cf} {M:Nat}
theorem zlr (N:Nat):(MZ W N M).length=W.heap.size*M:=by simp [MZ]
theorem Ji:(rD W h M).size=h.size+W.heap.size*M:=by unfold rD;rw [bo,zlr]
theorem LY {i:Nat} (hi:i < W.heap.size*M):(rD W h M).get (h.size+i)=some (.row (zO W h.size M (i / M) (i % M)) 0 true):=by
 unfold rD
 rw [kM]
 simp [MZ,hi]
theorem S8 {A:Nat} (hA:A < h.size):(rD W h M).get A=h.get A:=xW _ _ _ hA
theorem JU (hb:b < W.heap.size) (ho:off < M):b*M+off < W.heap.size*M:=by
 calc b*M+off < b*M+M:=by omega
  _=(b+1)*M:=by rw [yA]
  _<=W.heap.size*M:=uV _ hb
theorem Un (ho:off < M):(b*M+off) / M=b:=by
 rw [u6,Nat.mul_add_div (by omega),Nat.div_eq_of_lt ho,gw]
theorem Uo (ho:off < M):(b*M+off) % M=off:=by
 rw [u6,Nat.mul_add_mod,Di ho]
theorem S9 (hb:b < W.heap.size) (ho:off < M):nW W h ρ M (h.size+(b*M+off))=some ⟨b,off,0⟩:=by
 have h1:=JU (W:=W) hb ho
 unfold nW
 rw [aG ⟨by omega,by omega⟩,My,Un ho,Uo ho]
theorem zn3 (bL:∀ A,h.size<=A->ρ A=none) (A:Nat) (L:Loc) (hA:ρ A=some L):nW W h ρ M A=some L:=by
 unfold nW
 rw [aA]
 .exact hA
 .rintro ⟨h1,_⟩
  rw [bL A h1] at hA
  cases hA
theorem U1 (hS:0 < W.heap.size) (hM:0 < M) {u:ai} (hu:eZ W.heap.size M u=true):VR (nW W h ρ M) (qq h.size M u) u:=by
 cases u with
 |bool b=>exact .bool b
 |int k n=>exact .int k n
 |string s=>exact .string s
 |slice a n c =>
  cases a with
  |none =>
   simp [eZ] at hu
   obtain ⟨rfl,rfl⟩:=hu
   exact .dc
  |some a =>
   simp only [eZ,dj,iC,qH,beq_iff_eq] at hu
   obtain ⟨h1,h2,h3⟩:=hu
   by_cases hc:c=0
   .subst hc
    have hr:nW W h ρ M h.size=some ⟨0,0,0⟩:=by
     have:=S9 (h:=h) (ρ:=ρ) hS hM
     simpa using this
    exact VR.slice (L:=⟨0,0,0⟩) hr h2 h1 (λhh=>absurd rfl hh)
   .rcases h3 with h3|⟨h3,h4,h5⟩
    .exact absurd h3 hc
    .simp only [qq,aA hc]
     refine VR.slice (S9 h3 h5) h2 h1 (λ_=>?_)
     obtain ⟨b,o,s⟩:=a
     simp at h4
     subst h4
     simp
 |_=>simp [eZ] at hu
theorem zAv {Z:Type} {p:Z->Bool} {l:List Z} {x:Z} (h:x∈l.takeWhile p):p x=true:=by
 induction l with
 |nil=>simp at h
 |cons a l ih =>
  by_cases ha:p a=true
  .rw [List.takeWhile_cons_of_pos ha,dg] at h
   rcases h with rfl|h
   .exact ha
   .exact ih h
  .rw [List.takeWhile_cons_of_neg ha] at h
   simp at h
theorem zuR {N i:Nat} {v:ai} (hv:(zO W N M b off)[i]? = some v):∃ u,W.cell? ⟨b,off+i,none⟩=some u/\eZ W.heap.size M u=true/\v=qq N M u:=by
 unfold zO at hv
 rw [jS,bX] at hv
 obtain ⟨u,hu,rfl⟩:=hv
 have eD:=fV hu
 have hp:=zAv eD
 refine ⟨u,?_,hp,rfl⟩
 have mP:((qE W b).drop off).takeWhile (eZ W.heap.size M) <+: (qE W b).drop off:=List.takeWhile_prefix _
 have h2:((qE W b).drop off)[i]? = some u:=by
  obtain ⟨t,ht⟩:=mP
  rw [<- ht,kY (fD.1 hu).1]
  exact hu
 rw [ka] at h2
 unfold qE at h2
 unfold World.cell?
 split at h2
 .rename_i c e fz hc
  simp only [hc]
  simpa using h2
 .simp at h2
theorem zxc (hs:bB ρ h W) (bL:∀ A,h.size<=A->ρ A=none) (D0:∀ A L,ρ A=some L->lD h A) (hM:0 < M):bB (nW W h ρ M) (rD W h M) W:=by
 have hn:∀ A,h.size<=A/\A < h.size+W.heap.size*M->∃ b off,b < W.heap.size/\off < M/\A=h.size+(b*M+off):=by
  rintro A ⟨h1,h2⟩
  refine ⟨(A - h.size) / M,(A - h.size) % M,?_,Nat.mod_lt _ hM,?_⟩
  .exact Nat.div_lt_of_lt_mul (by rw [u6];omega)
  .have:=Nat.div_add_mod (A - h.size) M
   rw [u6] at this
   omega
 have eh:∀ A L,nW W h ρ M A=some L->¬ (h.size<=A/\A < h.size+W.heap.size*M)->ρ A=some L:=by
  intro A L hA hc
  unfold nW at hA
  rwa [aA hc] at hA
 have lt:∀ A L,ρ A=some L->A < h.size:=by
  intro A L hA
  apply Nat.lt_of_not_le
  intro hh
  rw [bL A hh] at hA
  cases hA
 have ro:∀ A L,nW W h ρ M A=some L->lD (rD W h M) A:=by
  intro A L hA
  by_cases hc:h.size<=A/\A < h.size+W.heap.size*M
  .obtain ⟨b,off,hb,ho,rfl⟩:=hn A hc
   exact ⟨_,_,LY (JU hb ho)⟩
  .have h1:=eh A L hA hc
   obtain ⟨cs,e,hg⟩:=D0 A L h1
   exact ⟨cs,e,(S8 (lt A L h1)).trans hg⟩
 constructor
 .intro A L hA
  by_cases hc:h.size<=A/\A < h.size+W.heap.size*M
  .obtain ⟨b,off,hb,ho,rfl⟩:=hn A hc
   rw [S9 hb ho] at hA
   cases hA
   rw [LY (JU hb ho),Un ho,Uo ho]
   refine ⟨⟨hb,λhh=>absurd hh (by decide)⟩,λi v hv=>?_⟩
   obtain ⟨u,h1,h2,rfl⟩:=zuR hv
   exact ⟨u,h1,U1 (Nat.lt_of_le_of_lt (jv _) hb) hM h2⟩
  .have h1:=eh A L hA hc
   rw [S8 (lt A L h1)]
   exact (hs.jV A L h1).ft (zn3 bL) (aS _) λ_=>rfl
 .intro A A' L L' hA eG aO hb
  exact .inr (.inr ⟨ro A L hA,ro A' L' eG⟩)
end

def gW (P:Program) (h:Heap):Nat->TypeId->List ai->Prop
 |0,_,_=>False
 |n+1,t,cs=>match P.underlying t with
  |some .bool=>∃ b,cs=[.bool b]
  |some (.int k)=>∃ i,cs=[.int k i]/\(Lit.int k i).wf=true
  |some .string=>∃ s:bf,cs=[.string s]/\s.size<=maxLen
  |some (.slice e)=>cs=[.slice none 0 0]\/∃ A len cap row u,cs=[.slice (some ⟨A,0,none⟩) len cap]/\len<=cap/\cap<=maxLen/\A < h.size/\h.get A=some (.row row u true)/\len*P.cellsOf e<=row.length /\
   ∀ i,i < len->gW P h n e ((row.drop (i*P.cellsOf e)).take (P.cellsOf e))
  |some (.struct fs)=>cs.length=P.cellsOf t/\∀ (i:Nat) (f:Field),fs[i]? = some f->gW P h n f.type ((cs.drop f.offset).take (P.cellsOf f.type))
  |some (.array m e)=>cs.length=P.cellsOf t/\∀ i,i < m->gW P h n e ((cs.drop (i*P.cellsOf e)).take (P.cellsOf e))
  |_=>False
def uO (P:Program):Nat->TypeId->Bool
 |0,_=>false
 |n+1,t=>match P.underlying t with
  |some .bool|some (.int _)|some .string=>true
  |some (.slice e)=>decide (0 < P.cellsOf e) && uO P n e
  |some (.struct fs)=>(List.range (P.cellsOf t)).all (λj=>fs.toList.any λf=>decide (f.offset<=j/\j < f.offset+P.cellsOf f.type)) && fs.toList.all λf=>uO P n f.type
  |some (.array m e)=>decide (P.cellsOf t=m*P.cellsOf e) && (decide (0 < P.cellsOf e) && uO P n e)
  |_=>false

section
variable {P:Program} {W:World} {h:Heap} {M:Nat} {H:Type} {enc:TypeId × ai->H}
def wq (W:World) (M:Nat):Prop:=∀ b,b < W.heap.size->(qE W b).length < M
theorem Um {a:Addr} {u:ai} (hc:W.cell? a=some u):a.block < W.heap.size/\a.spot=none/\(qE W a.block)[a.off]? = some u:=by
 unfold World.cell? at hc
 split at hc
 .rename_i c e fz hb
  split at hc
  .cases hc
  .rename_i hs
   refine ⟨(kX.1 hb).1,by simpa using hs,?_⟩
   simp only [qE,hb]
   simpa using hc
 .cases hc
theorem zuQ {N n:Nat} (aD:∀ i,i < n->∃ u,(qE W b)[off+i]? = some u/\eZ W.heap.size M u=true) :
 n<=(zO W N M b off).length/\∀ i,i < n->(zO W N M b off)[i]? = ((qE W b)[off+i]?).map (qq N M):=by
 have key:∀ (l:List ai) (n:Nat),(∀ i,i < n->∃ u,l[i]? = some u/\eZ W.heap.size M u=true)->n<=(l.takeWhile (eZ W.heap.size M)).length/\∀ i,i < n->(l.takeWhile (eZ W.heap.size M))[i]? = l[i]? := by
  intro l
  induction l with
  |nil =>
   intro n hh
   cases n with
   |zero=>exact ⟨jv _,λi hi=>absurd hi (uZ _)⟩
   |succ n=>obtain ⟨u,hu,_⟩:=hh 0 (by omega);simp at hu
  |cons x l ih =>
   intro n hh
   cases n with
   |zero=>exact ⟨jv _,λi hi=>absurd hi (uZ _)⟩
   |succ n =>
    obtain ⟨u,hu,hb⟩:=hh 0 (by omega)
    simp at hu
    subst hu
    obtain ⟨h1,h2⟩:=ih n λi hi=>by
     obtain ⟨u,hu,hb⟩:=hh (i+1) (by omega)
     exact ⟨u,by simpa using hu,hb⟩
    rw [List.takeWhile_cons_of_pos hb]
    refine ⟨by simpa using h1,λi hi=>?_⟩
    cases i with
    |zero=>rfl
    |succ i=>simpa using h2 i (by omega)
 obtain ⟨h1,h2⟩:=key ((qE W b).drop off) n λi hi=>by
  obtain ⟨u,hu,hb⟩:=aD i hi
  exact ⟨u,by rw [ka];exact hu,hb⟩
 unfold zO
 refine ⟨by rw [fN];exact h1,λi hi=>?_⟩
 rw [jS,h2 i hi,ka]
theorem zx3 {Z β:Type} (f:Z->β) (l:List Z) (a b:Nat):(((l.map f).drop a).take b)=((l.drop a).take b).map f:=by
 rw [List.map_take,List.map_drop]
theorem zs3 (hS:0 < W.heap.size) (sZ:wq W M):∀ (n:Nat) (t:TypeId) (cs:List ai) (fuel:Nat) (x:DataW H × List MemPlace),uO P n t=true->DataW.trod enc P W 0 (λ_=>true) true fuel t cs=some x ->
 (∀ u∈cs,eZ W.heap.size M u=true)/\gW P (rD W h M) n t (cs.map (qq h.size M)):=by
 intro n
 induction n with
 |zero=>intro t cs fuel x hc;simp [uO] at hc
 |succ n ih =>
  intro t cs fuel x hc hx
  have hM:0 < M:=Nat.lt_of_le_of_lt (jv _) (sZ 0 hS)
  unfold uO at hc
  unfold gW
  cases hu:P.underlying t with
  |none=>rw [hu] at hc;cases hc
  |some d =>
   rw [hu] at hc
   cases d with
   |bool =>
    obtain ⟨b,rfl,_⟩:=DataW.trod_bool hu hx
    exact ⟨by simp [eZ],b,rfl⟩
   |int k =>
    obtain ⟨i,rfl,_,hw⟩:=DataW.trod_int hu hx
    exact ⟨by simp [eZ],i,rfl,hw⟩
   |string =>
    obtain ⟨s,rfl,_,hw⟩:=DataW.trod_string hu hx
    exact ⟨by simp [eZ],s,rfl,hw⟩
   |slice e =>
    simp only [dj,iC] at hc
    rcases DataW.trod_slice hu hx with ⟨rfl,_⟩|⟨a,len,cap,elems,rest,m,_,rfl,_,_,hle,oX,wU,me,B0,_⟩
    .exact ⟨by simp [eZ],.inl rfl⟩
    .obtain ⟨Lk,fP⟩:=B0 rfl
     -- each cell up to the capacity
     have aD:∀ i,i < cap->∃ la y,W.cells? 0 (a.add (i*P.cellsOf e)) (P.cellsOf e)=some la/\DataW.trod enc P W 0 (λ_=>true) true m e la=some y:=by
      intro i hi
      by_cases ey:i < len
      .have h1:=me i ey
       have h2:i < elems.length:=by omega
       rw [i4 h2,ck] at h1
       obtain ⟨la,h3,h4⟩:=h1
       exact ⟨la,_,h3,h4⟩
      .have h1:=fP (i - len) (by omega)
       have h2:i - len < rest.length:=by omega
       rw [i4 h2,ck,show len+(i - len)=i by omega] at h1
       obtain ⟨la,h3,h4⟩:=h1
       exact ⟨la,_,h3,h4⟩
     by_cases lx:cap=0
     .subst lx
      have DV:len=0:=by omega
      subst DV
      refine ⟨by simp [eZ,G],.inr ⟨h.size,0,0,_,_,rfl,aS _,jv _,?_,LY (h:=h) (i:=0) (Nat.mul_pos hS hM),by simp,λi hi=>absurd hi (uZ _)⟩⟩
      rw [Ji];have:=Nat.mul_pos hS hM;omega
     .have gF:∀ i,i < cap->∀ j,j < P.cellsOf e->∃ u,(qE W a.block)[a.off+(i*P.cellsOf e+j)]? = some u/\a.block < W.heap.size/\a.spot=none/\eZ W.heap.size M u=true:=by
       intro i hi j hj
       obtain ⟨la,y,h1,h2⟩:=aD i hi
       obtain ⟨_,h3,h4⟩:=World.cells?_some h1
       have h5:=h4 j hj
       have h6:j < la.length:=by omega
       rw [i4 h6] at h5
       obtain ⟨h7,h8,h9⟩:=Um h5
       have e1:((a.add (i*P.cellsOf e)).add j).block=a.block:=by unfold Addr.add;split <;> split <;> rfl
       have e2:((a.add (i*P.cellsOf e)).add j).off=a.off+(i*P.cellsOf e+j):=by unfold Addr.add;split <;> split <;> simp_all;omega
       rw [e1,e2] at h9
       rw [e1] at h7
       refine ⟨_,h9,h7,?_,(ih e la m y hc.2 h2).1 _ (List.getElem_mem h6)⟩
       obtain ⟨cs0,y0,g1,_⟩:=aD 0 (by omega)
       obtain ⟨_,g3,g4⟩:=World.cells?_some g1
       have g5:=g4 0 hc.1
       have g6:0 < cs0.length:=by omega
       rw [i4 g6] at g5
       have g8:=(Um g5).2.1
       simpa [Addr.add] using g8
      obtain ⟨u0,Rx,hb,cY,_⟩:=gF 0 (by omega) 0 hc.1
      have qZ:a.off < M:=by
       have:=(fD.1 Rx).1
       have:=sZ _ hb
       omega
      have hG:cap < G:=by unfold G;unfold maxLen at oX;omega
      refine ⟨?_,.inr ⟨h.size+(a.block*M+a.off),len,cap,_,_,?_,hle,oX,?_,LY (JU hb qZ),?_,?_⟩⟩
      .intro u vy
       simp only [ek] at vy
       subst vy
       simp [eZ,hle,hG,hb,cY,qZ]
      .simp [qq,lx]
      .rw [Ji];have:=JU (W:=W) hb qZ;omega
      all_goals rw [Un qZ,Uo qZ]
      all_goals
       have dm:=zuQ (N:=h.size) (M:=M) (W:=W) (b:=a.block) (off:=a.off) (n:=cap*P.cellsOf e) (λi hi=>by
        have hk:=hc.1
        obtain ⟨u,h1,_,_,h2⟩:=gF (i / P.cellsOf e) (Nat.div_lt_of_lt_mul (by rw [u6];exact hi)) (i % P.cellsOf e) (Nat.mod_lt _ hk)
        refine ⟨u,?_,h2⟩
        rw [<- h1,u6,Nat.div_add_mod])
      .exact dZ (uV _ hle) dm.1
      .intro i hi
       obtain ⟨la,y,h1,h2⟩:=aD i (by omega)
       have h3:=(ih e la m y hc.2 h2).2
       have h4:((zO W h.size M a.block a.off).drop (i*P.cellsOf e)).take (P.cellsOf e)=la.map (qq h.size M):=by
        obtain ⟨_,g2,g3⟩:=World.cells?_some h1
        have aT:(i+1)*P.cellsOf e<=cap*P.cellsOf e:=uV _ (by omega)
        rw [yA] at aT
        apply uY
        intro j
        by_cases hj:j < P.cellsOf e
        .rw [C1 hj,ka,dm.2 _ (by omega),jS]
         congr 1
         have h5:=g3 j hj
         have h6:j < la.length:=by omega
         rw [i4 h6] at h5 ⊢
         obtain ⟨h7,h8,h9⟩:=Um h5
         have e1:((a.add (i*P.cellsOf e)).add j).block=a.block:=by unfold Addr.add;split <;> split <;> rfl
         have e2:((a.add (i*P.cellsOf e)).add j).off=a.off+(i*P.cellsOf e+j):=by unfold Addr.add;split <;> split <;> simp_all;omega
         rw [e1,e2] at h9
         exact h9
        .rw [ER (by simp;omega),ER (by simp;omega)]
       rw [h4]
       exact h3
   |struct fs =>
    simp only [dj,gz,Dl,iC,pQ] at hc
    obtain ⟨xs,m,_,_,hl,RX,hf⟩:=DataW.trod_struct hu hx
    have ku:∀ (i:Nat) (f:Field),fs[i]? = some f->∃ y,DataW.trod enc P W 0 (λ_=>true) true m f.type ((cs.drop f.offset).take (P.cellsOf f.type))=some y:=by
     intro i f wX
     have hi:=(kX.1 wX).1
     have:=hf i f wX
     rw [i4 (by omega)] at this
     exact ⟨_,this⟩
    refine ⟨?_,by rw [fN];exact hl,?_⟩
    .intro u vy
     obtain ⟨j,hj,rfl⟩:=J6 vy
     obtain ⟨f,W7,h1,h2⟩:=hc.1 j (by omega)
     obtain ⟨i,hi⟩:=Dd W7
     have qh:fs[i]? = some f:=by simpa using hi
     obtain ⟨y,hy⟩:=ku i f qh
     refine (ih f.type _ m y (hc.2 f W7) hy).1 _ ?_
     refine fV (i:=j - f.offset) ?_
     rw [C1 (by omega),ka,show f.offset+(j - f.offset)=j by omega,i4 hj]
    .intro i f wX
     obtain ⟨y,hy⟩:=ku i f wX
     rw [zx3]
     exact (ih f.type _ m y (hc.2 f (by simpa using Array.mem_of_getElem? wX)) hy).2
   |array m e =>
    simp only [dj,iC] at hc
    obtain ⟨xs,fu,_,_,hl,RX,hf⟩:=DataW.trod_array hu hx
    have ku:∀ i,i < m->∃ y,DataW.trod enc P W 0 (λ_=>true) true fu e ((cs.drop (i*P.cellsOf e)).take (P.cellsOf e))=some y:=by
     intro i hi
     have:=hf i hi
     rw [i4 (by omega)] at this
     exact ⟨_,this⟩
    refine ⟨?_,by rw [fN];exact hl,?_⟩
    .intro u vy
     obtain ⟨j,hj,rfl⟩:=J6 vy
     have W9:j / P.cellsOf e < m:=Nat.div_lt_of_lt_mul (by rw [u6];omega)
     obtain ⟨y,hy⟩:=ku _ W9
     refine (ih e _ fu y hc.2.2 hy).1 _ ?_
     refine fV (i:=j % P.cellsOf e) ?_
     rw [C1 (Nat.mod_lt _ hc.2.1),ka,u6,Nat.div_add_mod,i4 hj]
    .intro i hi
     obtain ⟨y,hy⟩:=ku i hi
     rw [zx3]
     exact (ih e _ fu y hc.2.2 hy).2
   |_=>simp at hc
end
end Go.Am
namespace Go.Am
open Go.RowKit Go.ChangeShapes Go.WideShapes Go.ChangeAt
variable {ρ:cf} {h:Heap}
section
variable {P:Program} {T:bx} {ov:Ov} {W:World} {H:Type} {enc:TypeId × ai->H}
theorem zqs (W:World):∃ M,wq W M:=by
 have key:∀ n,∃ M,∀ b,b < n->(qE W b).length < M:=by
  intro n
  induction n with
  |zero=>exact ⟨0,λb hb=>absurd hb (uZ _)⟩
  |succ n ih =>
   obtain ⟨M,hM⟩:=ih
   refine ⟨max M ((qE W n).length+1),λb hb=>?_⟩
   by_cases h:b < n
   .have:=hM b h;omega
   .have:b=n:=by omega
    subst this;omega
 exact key W.heap.size
theorem zsc (jk:P.follows .mixedOrders=true) (hT:T.Fits P) (gb:yD P T.gs ov) {f:FuncId} (hf:ov f=none) {args:List ai} {aI:Array ai}
 (hG:cE T.gs ρ) (hs:bB ρ h W) (bL:∀ A,h.size<=A->ρ A=none) (hl:h.low=h.size) (hv:cm ρ args aI.toList) (cX:Ok P T ov f args h λv h'=>v=.bool true/\Ext h h') :
 Calls P f aI W λe w'=>e=.returned (.bool true)/\Below W.heap.size W w':=by
 obtain ⟨n,v,h',dN,rfl,hx⟩:=cX
 have o0:=(Tz jk hT gb n).fn f args h (.bool true) h' dN ρ W aI hG hs (λA h1 _=>bL A h1) hv
 rcases o0 with ⟨ρ',u,w',h1,_⟩|⟨_,h1⟩
 .exfalso
  cases n with
  |zero=>simp [call] at dN
  |succ n =>
   simp only [call,hf,ck] at dN
   obtain ⟨fn,kx,c,hc,_⟩:=dN
   obtain ⟨hP,gH,_⟩:=hT.fn f fn kx
   have eE:¬ fn.name="runtime.NumGoroutine":=by simpa using gH
   simp [callFunc,hP,eE,hc] at h1
 .refine h1.mono ?_
  rintro e w' ⟨ρ',u,rfl,f1,s1,hv⟩
  refine ⟨?_,f1.below λA L hA=>?_⟩
  .rw [hv.bt rfl]
  .have h2:A < h.size:=by
    apply Nat.lt_of_not_le
    intro hh
    rw [bL A hh] at hA
    cases hA
   have:=hx.low
   omega

def r5 (P:Program) (h:Heap) (n:Nat) (t:TypeId) (v:ai):Prop:=match P.underlying t with
 |some (.struct _)|some (.array _ _)=>∃ cs,v=.agg ⟨cs⟩/\gW P h n t cs
 |_=>gW P h n t [v]
def vR (P:Program) (h:Heap) (n:Nat):List TypeId->List ai->Prop
 | [],[]=>True
 |t::ts,v::vs=>r5 P h n t v/\vR P h n ts vs
 |_,_=>False
def lC (N M:Nat):ai->ai
 | .agg cs=>.agg ⟨cs.toList.map (qq N M)⟩
 |v=>qq N M v

theorem zyr {M:Nat} (hS:0 < W.heap.size) (hM:0 < M) {cs:List ai} (hc:∀ u∈cs,eZ W.heap.size M u=true):cm (nW W h ρ M) (cs.map (qq h.size M)) cs:=by
 refine ⟨by simp,λi x y hx hy=>?_⟩
 rw [jS,hy] at hx
 cases hx
 exact U1 hS hM (hc y (fV hy))

theorem zxb {M n base:Nat} {t:TypeId} {v:ai} {d:DataW H} {ps:List MemPlace} (hS:0 < W.heap.size) (sZ:wq W M) (hc:uO P n t=true) (eg:Value.okWide P W .any base t v) (ht:DataW.Trod enc P W 0 (λ_=>true) true t v d ps) :
 VR (nW W h ρ M) (lC h.size M v) v/\r5 P (rD W h M) n t (lC h.size M v):=by
 have hM:0 < M:=Nat.lt_of_le_of_lt (jv _) (sZ 0 hS)
 obtain ⟨fuel,ht⟩:=ht
 obtain ⟨h1,h2⟩:=zs3 (h:=h) hS sZ n t _ fuel _ hc ht
 have agg:∀ cs,v=.agg cs->VR (nW W h ρ M) (lC h.size M v) v/\lC h.size M v=.agg ⟨v.cells.toList.map (qq h.size M)⟩:=by
  rintro cs rfl
  refine ⟨?_,rfl⟩
  have:=zyr (ρ:=ρ) (h:=h) hS hM h1
  have:=this.toArray
  simpa [lC,Value.cells] using this
 have one:v.cells=#[v]->VR (nW W h ρ M) (lC h.size M v) v/\v.cells.toList.map (qq h.size M)=[lC h.size M v]:=by
  intro hv
  rw [hv] at h1 ⊢
  have hb:=h1 v (by simp)
  have hi:lC h.size M v=qq h.size M v:=by
   cases v with
   |agg cs=>simp [eZ] at hb
   |_=>rfl
  rw [hi]
  exact ⟨U1 hS hM hb,rfl⟩
 unfold r5
 unfold Value.okWide at eg
 cases n with
 |zero=>simp [uO] at hc
 |succ n =>
  simp only [uO] at hc
  cases hu:P.underlying t with
  |none=>rw [hu] at hc;simp at hc
  |some dd =>
   rw [hu] at hc eg
   cases dd with
   |struct fs =>
    obtain ⟨cs,hv,_⟩:=eg
    obtain ⟨a1,a2⟩:=agg cs hv
    exact ⟨a1,_,a2,h2⟩
   |array m e =>
    obtain ⟨cs,hv,_⟩:=eg
    obtain ⟨a1,a2⟩:=agg cs hv
    exact ⟨a1,_,a2,h2⟩
   |bool =>
    simp only [Cell.okWide,Cell.ok,hu] at eg
    cases v <;> simp at eg
    obtain ⟨a1,a2⟩:=one rfl
    exact ⟨a1,by rw [<- a2];exact h2⟩
   |int k =>
    simp only [Cell.okWide,Cell.ok,hu] at eg
    cases v <;> simp at eg
    obtain ⟨a1,a2⟩:=one rfl
    exact ⟨a1,by rw [<- a2];exact h2⟩
   |string =>
    simp only [Cell.okWide,Cell.ok,hu] at eg
    cases v <;> simp at eg
    obtain ⟨a1,a2⟩:=one rfl
    exact ⟨a1,by rw [<- a2];exact h2⟩
   |slice e =>
    simp only [Cell.okWide,Cell.ok,hu] at eg
    cases v <;> simp at eg
    obtain ⟨a1,a2⟩:=one rfl
    exact ⟨a1,by rw [<- a2];exact h2⟩
   |_=>simp at hc

theorem zn4 {h:Heap} {ρ:cf} {M n base:Nat} (hS:0 < W.heap.size) (sZ:wq W M):∀ (ts:List TypeId) (vs:List ai) (ds:List (DataW H)) (ps:List MemPlace),ts.all (uO P n)=true ->
 (∀ (j:Nat) t v,ts[j]? = some t->vs[j]? = some v->Value.okWide P W .any base t v)->DataW.TrodAll enc P W 0 (λ_=>true) true ts vs ds ps ->
 cm (nW W h ρ M) (vs.map (lC h.size M)) vs/\vR P (rD W h M) n ts (vs.map (lC h.size M))
 | [],[],[],_,_,_,_=>⟨.nil _,trivial⟩
 |t::ts,v::vs,d::ds,ps,hc,eg,ht=>by
  simp only [gA,dj] at hc
  obtain ⟨p,q,h1,h2,_⟩:=ht
  obtain ⟨a1,a2⟩:=zxb (h:=h) (ρ:=ρ) hS sZ hc.1 (eg 0 t v rfl rfl) h1
  obtain ⟨b1,b2⟩:=zn4 (h:=h) (ρ:=ρ) hS sZ ts vs ds q hc.2 (λj t v h3 h4=>eg (j+1) t v (by simpa using h3) (by simpa using h4)) h2
  exact ⟨.cons a1 b1,a2,b2⟩
 | [],[],_::_,_,_,_,ht=>ht.elim
 | [],_::_,_,_,_,_,ht=>by cases ht
 |_::_,[],_,_,_,_,ht=>by cases ht
 |_::_,_::_,[],_,_,_,ht=>by cases ht

theorem ZF (hl:laidOutB P=true) {W W':World} (hb:Below W.heap.size W W') (sp:Nat->Bool):∀ (ts:List TypeId) (vs:List ai) (ds:List (DataW H)) (ps:List MemPlace),ts.all (λt=>P.readableRec t && decide (t < P.types.size))=true ->
 (∀ x∈ps,x.block < W.heap.size)->(∀ x∈ps,sp x.block=true)->DataW.TrodAll enc P W 0 (λ_=>true) true ts vs ds ps->DataW.TrodAll enc P W' 0 sp true ts vs ds ps
 | [],[],[],_,_,_,_,h=>h
 |t::ts,v::vs,d::ds,ps,hr,aW,cY,h=>by
  simp only [gA,dj,iC] at hr
  obtain ⟨p,q,h1,h2,rfl⟩:=h
  exact ⟨p,q,WideElems.Trod_stays hl hr.1.1 hr.1.2 h1 (λx hx=>hb.same (aW x (by simp [hx]))) (λx hx=>cY x (by simp [hx])),
   ZF hl hb sp ts vs ds q hr.2 (λx hx=>aW x (by simp [hx])) (λx hx=>cY x (by simp [hx])) h2,rfl⟩
 | [],[],_::_,_,_,_,_,h=>h.elim
 | [],_::_,_,_,_,_,_,h=>by cases h
 |_::_,[],_,_,_,_,_,h=>by cases h
 |_::_,_::_,[],_,_,_,_,h=>by cases h

end
end Go.Am

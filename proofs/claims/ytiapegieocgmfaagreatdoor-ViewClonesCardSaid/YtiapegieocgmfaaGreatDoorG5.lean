/- Arguments of any plain type laid in the plain heap: each block of the world, from each place on, is a row that is read alone. No condition. -/
import Derived.Test.YtiapegieocgmfaaGreatDoorG4
import Derived.OpenShut
import Derived.HandedShaped
import Derived.WideKeyArgs
set_option linter.unusedSimpArgs false
namespace Go.Am
open Go.RowKit Go.ChangeShapes Go.WideShapes Go.ChangeAt
variable {b off:Nat}

def gX (S M:Nat):ab->Bool
 | .bool _ | .int _ _ | .string _=>true
 | .slice none n c=>n == 0 && c == 0
 | .slice (some a) n c=>decide (n<=c) && (decide (c < G) && (c == 0 || (decide (a.block < S) && (a.spot.isNone && decide (a.off < M)))))
 |_=>false
def ur (N M:Nat):ab->ab
 | .slice (some a) n c=>if c=0 then .slice (some ⟨N,0,none⟩) n c else .slice (some ⟨N+(a.block*M+a.off),0,none⟩) n c
 |v=>v
def uI (W:World) (b:Nat):List ab:=match W.heap[b]? with
 |some (.cells c _ _)=>c.toList
 |_=>[]
def Ed (W:World) (N M:Nat) (b off:Nat):List ab:=(((uI W b).drop off).takeWhile (gX W.heap.size M)).map (ur N M)
def TY (W:World) (N M:Nat):List ba:=(List.range (W.heap.size*M)).map λi=>.row (Ed W N M (i / M) (i % M)) 0 true
def v8 (W:World) (h:Heap) (M:Nat):Heap:=h.lay (TY W h.size M) (h.size+W.heap.size*M)
def rN (W:World) (h:Heap) (ρ:cm) (M:Nat):cm:=λA=>if h.size<=A/\A < h.size+W.heap.size*M then some ⟨(A - h.size) / M,(A - h.size) % M,0⟩ else ρ A

section
variable {P:Program} {W:World} {h:Heap} {ρ:cm} {M:Nat}
theorem zmr (N:Nat):(TY W N M).length=W.heap.size*M:=by simp [TY]
theorem PR:(v8 W h M).size=h.size+W.heap.size*M:=by unfold v8;rw [bc,zmr]
theorem SN {i:Nat} (hi:i < W.heap.size*M):(v8 W h M).get (h.size+i)=some (.row (Ed W h.size M (i / M) (i % M)) 0 true):=by
 unfold v8
 rw [iB]
 simp [TY,hi]
theorem zft {A:Nat} (hA:A < h.size):(v8 W h M).get A=h.get A:=uz _ _ _ hA
theorem QD (hb:b < W.heap.size) (ho:off < M):b*M+off < W.heap.size*M:=by
 calc b*M+off < b*M+M:=by omega
  _=(b+1)*M:=by rw [qx]
  _<=W.heap.size*M:=qw _ hb
theorem zmy (ho:off < M):(b*M+off) / M=b:=by
 rw [zO,Nat.mul_add_div (by omega),Nat.div_eq_of_lt ho,iU]
theorem zmz (ho:off < M):(b*M+off) % M=off:=by
 rw [zO,Nat.mul_add_mod,Eu ho]
theorem zfu (hb:b < W.heap.size) (ho:off < M):rN W h ρ M (h.size+(b*M+off))=some ⟨b,off,0⟩:=by
 have h1:=QD (W:=W) hb ho
 unfold rN
 rw [aE ⟨by omega,by omega⟩,TD,zmy ho,zmz ho]
theorem zpd (bW:∀ A,h.size<=A->ρ A=none) (A:Nat) (L:Loc) (hA:ρ A=some L):rN W h ρ M A=some L:=by
 unfold rN
 rw [az]
 .exact hA
 .rintro ⟨h1,_⟩
  rw [bW A h1] at hA
  cases hA
theorem zwi (hS:0 < W.heap.size) (hM:0 < M) {u:ab} (hu:gX W.heap.size M u=true):VR (rN W h ρ M) (ur h.size M u) u:=by
 cases u with
 |bool b=>exact .bool b
 |int k n=>exact .int k n
 |string s=>exact .string s
 |slice a n c =>
  cases a with
  |none =>
   simp [gX] at hu
   obtain ⟨rfl,rfl⟩:=hu
   exact .dI
  |some a =>
   simp only [gX,ep,jH,sB,beq_iff_eq] at hu
   obtain ⟨h1,h2,h3⟩:=hu
   by_cases hc:c=0
   .subst hc
    have hr:rN W h ρ M h.size=some ⟨0,0,0⟩:=by
     have:=zfu (h:=h) (ρ:=ρ) hS hM
     simpa using this
    exact VR.slice (L:=⟨0,0,0⟩) hr h2 h1 (λhh=>absurd rfl hh)
   .rcases h3 with h3|⟨h3,h4,h5⟩
    .exact absurd h3 hc
    .simp only [ur,az hc]
     refine VR.slice (zfu h3 h5) h2 h1 (λ_=>?_)
     obtain ⟨b,o,s⟩:=a
     simp at h4
     subst h4
     simp
 |_=>simp [gX] at hu
theorem zCA {Z:Type} {p:Z->Bool} {l:List Z} {x:Z} (h:x∈l.takeWhile p):p x=true:=by
 induction l with
 |nil=>simp at h
 |cons a l ih =>
  by_cases ha:p a=true
  .rw [List.takeWhile_cons_of_pos ha,dh] at h
   rcases h with rfl|h
   .exact ha
   .exact ih h
  .rw [List.takeWhile_cons_of_neg ha] at h
   simp at h
theorem zwe {N i:Nat} {v:ab} (hv:(Ed W N M b off)[i]? = some v):∃ u,W.cell? ⟨b,off+i,none⟩=some u/\gX W.heap.size M u=true/\v=ur N M u:=by
 unfold Ed at hv
 rw [lC,cA] at hv
 obtain ⟨u,hu,rfl⟩:=hv
 have b8:=ic hu
 have hp:=zCA b8
 refine ⟨u,?_,hp,rfl⟩
 have nH:((uI W b).drop off).takeWhile (gX W.heap.size M) <+: (uI W b).drop off:=List.takeWhile_prefix _
 have h2:((uI W b).drop off)[i]? = some u:=by
  obtain ⟨t,ht⟩:=nH
  rw [<- ht,nc (dP.1 hu).1]
  exact hu
 rw [lL] at h2
 unfold uI at h2
 unfold World.cell?
 split at h2
 .rename_i c e fz hc
  simp only [hc]
  simpa using h2
 .simp at h2
theorem zy9 (hs:bP ρ h W) (bW:∀ A,h.size<=A->ρ A=none) (um:∀ A L,ρ A=some L->nL h A) (hM:0 < M):bP (rN W h ρ M) (v8 W h M) W:=by
 have hn:∀ A,h.size<=A/\A < h.size+W.heap.size*M->∃ b off,b < W.heap.size/\off < M/\A=h.size+(b*M+off):=by
  rintro A ⟨h1,h2⟩
  refine ⟨(A - h.size) / M,(A - h.size) % M,?_,EH _ hM,?_⟩
  .exact Nat.div_lt_of_lt_mul (by rw [zO];omega)
  .have:=Nat.div_add_mod (A - h.size) M
   rw [zO] at this
   omega
 have eO:∀ A L,rN W h ρ M A=some L->¬ (h.size<=A/\A < h.size+W.heap.size*M)->ρ A=some L:=by
  intro A L hA hc
  unfold rN at hA
  rwa [az hc] at hA
 have lt:∀ A L,ρ A=some L->A < h.size:=by
  intro A L hA
  apply Nat.lt_of_not_le
  intro hh
  rw [bW A hh] at hA
  cases hA
 have ro:∀ A L,rN W h ρ M A=some L->nL (v8 W h M) A:=by
  intro A L hA
  by_cases hc:h.size<=A/\A < h.size+W.heap.size*M
  .obtain ⟨b,off,hb,ho,rfl⟩:=hn A hc
   exact ⟨_,_,SN (QD hb ho)⟩
  .have h1:=eO A L hA hc
   obtain ⟨cs,e,hg⟩:=um A L h1
   exact ⟨cs,e,(zft (lt A L h1)).trans hg⟩
 constructor
 .intro A L hA
  by_cases hc:h.size<=A/\A < h.size+W.heap.size*M
  .obtain ⟨b,off,hb,ho,rfl⟩:=hn A hc
   rw [zfu hb ho] at hA
   cases hA
   rw [SN (QD hb ho),zmy ho,zmz ho]
   refine ⟨⟨hb,λhh=>absurd hh (by decide)⟩,λi v hv=>?_⟩
   obtain ⟨u,h1,h2,rfl⟩:=zwe hv
   exact ⟨u,h1,zwi (Nat.lt_of_le_of_lt (lE _) hb) hM h2⟩
  .have h1:=eO A L hA hc
   rw [zft (lt A L h1)]
   exact (hs.ff A L h1).keep (zpd bW) (bj _) λ_=>rfl
 .intro A A' L L' hA dS aQ hb
  exact .inr (.inr ⟨ro A L hA,ro A' L' dS⟩)
end

def eK (P:Program) (h:Heap):Nat->TypeId->List ab->Prop
 |0,_,_=>False
 |n+1,t,cs=>match P.underlying t with
  |some .bool=>∃ b,cs=[.bool b]
  |some (.int k)=>∃ i,cs=[.int k i]/\(Lit.int k i).wf=true
  |some .string=>∃ s:au,cs=[.string s]/\s.size<=maxLen
  |some (.slice e)=>cs=[.slice none 0 0]\/∃ A len cap row u,cs=[.slice (some ⟨A,0,none⟩) len cap]/\len<=cap/\cap<=maxLen/\A < h.size/\h.get A=some (.row row u true)/\len*P.cellsOf e<=row.length /\
   ∀ i,i < len->eK P h n e ((row.drop (i*P.cellsOf e)).take (P.cellsOf e))
  |some (.struct fs)=>cs.length=P.cellsOf t/\∀ (i:Nat) (f:Field),fs[i]? = some f->eK P h n f.type ((cs.drop f.offset).take (P.cellsOf f.type))
  |some (.array m e)=>cs.length=P.cellsOf t/\∀ i,i < m->eK P h n e ((cs.drop (i*P.cellsOf e)).take (P.cellsOf e))
  |_=>False
def zA (P:Program):Nat->TypeId->Bool
 |0,_=>false
 |n+1,t=>match P.underlying t with
  |some .bool|some (.int _)|some .string=>true
  |some (.slice e)=>decide (0 < P.cellsOf e) && zA P n e
  |some (.struct fs)=>(List.range (P.cellsOf t)).all (λj=>fs.toList.any λf=>decide (f.offset<=j/\j < f.offset+P.cellsOf f.type)) && fs.toList.all λf=>zA P n f.type
  |some (.array m e)=>decide (P.cellsOf t=m*P.cellsOf e) && (decide (0 < P.cellsOf e) && zA P n e)
  |_=>false

section
variable {P:Program} {W:World} {h:Heap} {M:Nat} {H:Type} {enc:TypeId × ab->H}
def AY (W:World) (M:Nat):Prop:=∀ b,b < W.heap.size->(uI W b).length < M
theorem zmu {a:Addr} {u:ab} (hc:W.cell? a=some u):a.block < W.heap.size/\a.spot=none/\(uI W a.block)[a.off]? = some u:=by
 unfold World.cell? at hc
 split at hc
 .rename_i c e fz hb
  split at hc
  .cases hc
  .rename_i hs
   refine ⟨(mQ.1 hb).1,by simpa using hs,?_⟩
   simp only [uI,hb]
   simpa using hc
 .cases hc
theorem zwd {N n:Nat} (aH:∀ i,i < n->∃ u,(uI W b)[off+i]? = some u/\gX W.heap.size M u=true) :
 n<=(Ed W N M b off).length/\∀ i,i < n->(Ed W N M b off)[i]? = ((uI W b)[off+i]?).map (ur N M):=by
 have key:∀ (l:List ab) (n:Nat),(∀ i,i < n->∃ u,l[i]? = some u/\gX W.heap.size M u=true)->n<=(l.takeWhile (gX W.heap.size M)).length/\∀ i,i < n->(l.takeWhile (gX W.heap.size M))[i]? = l[i]? := by
  intro l
  induction l with
  |nil =>
   intro n hh
   cases n with
   |zero=>exact ⟨lE _,λi hi=>absurd hi (Nat.not_lt_zero _)⟩
   |succ n=>obtain ⟨u,hu,_⟩:=hh 0 (by omega);simp at hu
  |cons x l ih =>
   intro n hh
   cases n with
   |zero=>exact ⟨lE _,λi hi=>absurd hi (Nat.not_lt_zero _)⟩
   |succ n =>
    obtain ⟨u,hu,hb⟩:=hh 0 (by omega)
    simp at hu
    subst hu
    obtain ⟨h1,h2⟩:=ih n λi hi=>by
     obtain ⟨u,hu,hb⟩:=hh (i+1) (by omega)
     exact ⟨u,by simpa using hu,hb⟩
    rw [List.takeWhile_cons_of_pos hb]
    refine ⟨by simpa using h1,λi hi=>?_⟩
    cases i with
    |zero=>rfl
    |succ i=>simpa using h2 i (by omega)
 obtain ⟨h1,h2⟩:=key ((uI W b).drop off) n λi hi=>by
  obtain ⟨u,hu,hb⟩:=aH i hi
  exact ⟨u,by rw [lL];exact hu,hb⟩
 unfold Ed
 refine ⟨by rw [gi];exact h1,λi hi=>?_⟩
 rw [lC,h2 i hi,lL]
theorem zzZ {Z β:Type} (f:Z->β) (l:List Z) (a b:Nat):(((l.map f).drop a).take b)=((l.drop a).take b).map f:=by
 rw [List.map_take,List.map_drop]
theorem zur (hS:0 < W.heap.size) (xV:AY W M):∀ (n:Nat) (t:TypeId) (cs:List ab) (fuel:Nat) (x:DataW H × List MemPlace),zA P n t=true->DataW.trod enc P W 0 (λ_=>true) true fuel t cs=some x ->
 (∀ u∈cs,gX W.heap.size M u=true)/\eK P (v8 W h M) n t (cs.map (ur h.size M)):=by
 intro n
 induction n with
 |zero=>intro t cs fuel x hc;simp [zA] at hc
 |succ n ih =>
  intro t cs fuel x hc hx
  have hM:0 < M:=Nat.lt_of_le_of_lt (lE _) (xV 0 hS)
  unfold zA at hc
  unfold eK
  cases hu:P.underlying t with
  |none=>rw [hu] at hc;cases hc
  |some d =>
   rw [hu] at hc
   cases d with
   |bool =>
    obtain ⟨b,rfl,_⟩:=DataW.trod_bool hu hx
    exact ⟨by simp [gX],b,rfl⟩
   |int k =>
    obtain ⟨i,rfl,_,hw⟩:=DataW.trod_int hu hx
    exact ⟨by simp [gX],i,rfl,hw⟩
   |string =>
    obtain ⟨s,rfl,_,hw⟩:=DataW.trod_string hu hx
    exact ⟨by simp [gX],s,rfl,hw⟩
   |slice e =>
    simp only [ep,jH] at hc
    rcases DataW.trod_slice hu hx with ⟨rfl,_⟩|⟨a,len,cap,elems,rest,m,_,rfl,_,_,hle,pV,wK,pt,Gz,_⟩
    .exact ⟨by simp [gX],.inl rfl⟩
    .obtain ⟨lk,fX⟩:=Gz rfl
     -- each cell up to the capacity
     have aH:∀ i,i < cap->∃ pP y,W.cells? 0 (a.add (i*P.cellsOf e)) (P.cellsOf e)=some pP/\DataW.trod enc P W 0 (λ_=>true) true m e pP=some y:=by
      intro i hi
      by_cases iX:i < len
      .have h1:=pt i iX
       have h2:i < elems.length:=by omega
       rw [gF h2,cH] at h1
       obtain ⟨pP,h3,h4⟩:=h1
       exact ⟨pP,_,h3,h4⟩
      .have h1:=fX (i - len) (by omega)
       have h2:i - len < rest.length:=by omega
       rw [gF h2,cH,show len+(i - len)=i by omega] at h1
       obtain ⟨pP,h3,h4⟩:=h1
       exact ⟨pP,_,h3,h4⟩
     by_cases ye:cap=0
     .subst ye
      have Dp:len=0:=by omega
      subst Dp
      refine ⟨by simp [gX,G],.inr ⟨h.size,0,0,_,_,rfl,bj _,lE _,?_,SN (h:=h) (i:=0) (Nat.mul_pos hS hM),by simp,λi hi=>absurd hi (Nat.not_lt_zero _)⟩⟩
      rw [PR];have:=Nat.mul_pos hS hM;omega
     .have eD:∀ i,i < cap->∀ j,j < P.cellsOf e->∃ u,(uI W a.block)[a.off+(i*P.cellsOf e+j)]? = some u/\a.block < W.heap.size/\a.spot=none/\gX W.heap.size M u=true:=by
       intro i hi j hj
       obtain ⟨pP,y,h1,h2⟩:=aH i hi
       obtain ⟨_,h3,h4⟩:=World.cells?_some h1
       have h5:=h4 j hj
       have h6:j < pP.length:=by omega
       rw [gF h6] at h5
       obtain ⟨h7,h8,h9⟩:=zmu h5
       have e1:((a.add (i*P.cellsOf e)).add j).block=a.block:=by unfold Addr.add;split <;> split <;> rfl
       have e2:((a.add (i*P.cellsOf e)).add j).off=a.off+(i*P.cellsOf e+j):=by unfold Addr.add;split <;> split <;> simp_all;omega
       rw [e1,e2] at h9
       rw [e1] at h7
       refine ⟨_,h9,h7,?_,(ih e pP m y hc.2 h2).1 _ (List.getElem_mem h6)⟩
       obtain ⟨cs0,y0,g1,_⟩:=aH 0 (by omega)
       obtain ⟨_,g3,g4⟩:=World.cells?_some g1
       have g5:=g4 0 hc.1
       have g6:0 < cs0.length:=by omega
       rw [gF g6] at g5
       have g8:=(zmu g5).2.1
       simpa [Addr.add] using g8
      obtain ⟨u0,Yz,hb,cG,_⟩:=eD 0 (by omega) 0 hc.1
      have tc:a.off < M:=by
       have:=(dP.1 Yz).1
       have:=xV _ hb
       omega
      have hG:cap < G:=by unfold G;unfold maxLen at pV;omega
      refine ⟨?_,.inr ⟨h.size+(a.block*M+a.off),len,cap,_,_,?_,hle,pV,?_,SN (QD hb tc),?_,?_⟩⟩
      .intro u Aj
       simp only [hU] at Aj
       subst Aj
       simp [gX,hle,hG,hb,cG,tc]
      .simp [ur,ye]
      .rw [PR];have:=QD (W:=W) hb tc;omega
      all_goals rw [zmy tc,zmz tc]
      all_goals
       have cW:=zwd (N:=h.size) (M:=M) (W:=W) (b:=a.block) (off:=a.off) (n:=cap*P.cellsOf e) (λi hi=>by
        have hk:=hc.1
        obtain ⟨u,h1,_,_,h2⟩:=eD (i / P.cellsOf e) (Nat.div_lt_of_lt_mul (by rw [zO];exact hi)) (i % P.cellsOf e) (EH _ hk)
        refine ⟨u,?_,h2⟩
        rw [<- h1,zO,Nat.div_add_mod])
      .exact gn (qw _ hle) cW.1
      .intro i hi
       obtain ⟨pP,y,h1,h2⟩:=aH i (by omega)
       have h3:=(ih e pP m y hc.2 h2).2
       have h4:((Ed W h.size M a.block a.off).drop (i*P.cellsOf e)).take (P.cellsOf e)=pP.map (ur h.size M):=by
        obtain ⟨_,g2,g3⟩:=World.cells?_some h1
        have aO:(i+1)*P.cellsOf e<=cap*P.cellsOf e:=qw _ (by omega)
        rw [qx] at aO
        apply qN
        intro j
        by_cases hj:j < P.cellsOf e
        .rw [JC hj,lL,cW.2 _ (by omega),lC]
         congr 1
         have h5:=g3 j hj
         have h6:j < pP.length:=by omega
         rw [gF h6] at h5 ⊢
         obtain ⟨h7,h8,h9⟩:=zmu h5
         have e1:((a.add (i*P.cellsOf e)).add j).block=a.block:=by unfold Addr.add;split <;> split <;> rfl
         have e2:((a.add (i*P.cellsOf e)).add j).off=a.off+(i*P.cellsOf e+j):=by unfold Addr.add;split <;> split <;> simp_all;omega
         rw [e1,e2] at h9
         exact h9
        .rw [CH (by simp;omega),CH (by simp;omega)]
       rw [h4]
       exact h3
   |struct fs =>
    simp only [ep,iT,xy,jH,zN] at hc
    obtain ⟨xs,m,_,_,hl,vI,hf⟩:=DataW.trod_struct hu hx
    have nE:∀ (i:Nat) (f:Field),fs[i]? = some f->∃ y,DataW.trod enc P W 0 (λ_=>true) true m f.type ((cs.drop f.offset).take (P.cellsOf f.type))=some y:=by
     intro i f F1
     have hi:=(mQ.1 F1).1
     have:=hf i f F1
     rw [gF (by omega)] at this
     exact ⟨_,this⟩
    refine ⟨?_,by rw [gi];exact hl,?_⟩
    .intro u Aj
     obtain ⟨j,hj,rfl⟩:=List.getElem_of_mem Aj
     obtain ⟨f,hfm,h1,h2⟩:=hc.1 j (by omega)
     obtain ⟨i,hi⟩:=uL hfm
     have mV:fs[i]? = some f:=by simpa using hi
     obtain ⟨y,hy⟩:=nE i f mV
     refine (ih f.type _ m y (hc.2 f hfm) hy).1 _ ?_
     refine ic (i:=j - f.offset) ?_
     rw [JC (by omega),lL,show f.offset+(j - f.offset)=j by omega,gF hj]
    .intro i f F1
     obtain ⟨y,hy⟩:=nE i f F1
     rw [zzZ]
     exact (ih f.type _ m y (hc.2 f (by simpa using Array.mem_of_getElem? F1)) hy).2
   |array m e =>
    simp only [ep,jH] at hc
    obtain ⟨xs,fu,_,_,hl,vI,hf⟩:=DataW.trod_array hu hx
    have nE:∀ i,i < m->∃ y,DataW.trod enc P W 0 (λ_=>true) true fu e ((cs.drop (i*P.cellsOf e)).take (P.cellsOf e))=some y:=by
     intro i hi
     have:=hf i hi
     rw [gF (by omega)] at this
     exact ⟨_,this⟩
    refine ⟨?_,by rw [gi];exact hl,?_⟩
    .intro u Aj
     obtain ⟨j,hj,rfl⟩:=List.getElem_of_mem Aj
     have MX:j / P.cellsOf e < m:=Nat.div_lt_of_lt_mul (by rw [zO];omega)
     obtain ⟨y,hy⟩:=nE _ MX
     refine (ih e _ fu y hc.2.2 hy).1 _ ?_
     refine ic (i:=j % P.cellsOf e) ?_
     rw [JC (EH _ hc.2.1),lL,zO,Nat.div_add_mod,gF hj]
    .intro i hi
     obtain ⟨y,hy⟩:=nE i hi
     rw [zzZ]
     exact (ih e _ fu y hc.2.2 hy).2
   |_=>simp at hc
end
end Go.Am
namespace Go.Am
open Go.RowKit Go.ChangeShapes Go.WideShapes Go.ChangeAt
section
variable {P:Program} {T:bI} {ov:Ov} {W:World} {H:Type} {enc:TypeId × ab->H}
theorem zrQ (W:World):∃ M,AY W M:=by
 have key:∀ n,∃ M,∀ b,b < n->(uI W b).length < M:=by
  intro n
  induction n with
  |zero=>exact ⟨0,λb hb=>absurd hb (Nat.not_lt_zero _)⟩
  |succ n ih =>
   obtain ⟨M,hM⟩:=ih
   refine ⟨max M ((uI W n).length+1),λb hb=>?_⟩
   by_cases h:b < n
   .have:=hM b h;omega
   .have:b=n:=by omega
    subst this;omega
 exact key W.heap.size

def AJ (P:Program) (h:Heap) (n:Nat) (t:TypeId) (v:ab):Prop:=match P.underlying t with
 |some (.struct _)|some (.array _ _)=>∃ cs,v=.agg ⟨cs⟩/\eK P h n t cs
 |_=>eK P h n t [v]
def Ay (P:Program) (h:Heap) (n:Nat):List TypeId->List ab->Prop
 | [],[]=>True
 |t::ts,v::vs=>AJ P h n t v/\Ay P h n ts vs
 |_,_=>False
def oL (N M:Nat):ab->ab
 | .agg cs=>.agg ⟨cs.toList.map (ur N M)⟩
 |v=>ur N M v

theorem zAj {ρ:cm} {h:Heap} {M:Nat} (hS:0 < W.heap.size) (hM:0 < M) {cs:List ab} (hc:∀ u∈cs,gX W.heap.size M u=true):cu (rN W h ρ M) (cs.map (ur h.size M)) cs:=by
 refine ⟨by simp,λi x y hx hy=>?_⟩
 rw [lC,hy] at hx
 cases hx
 exact zwi hS hM (hc y (ic hy))

theorem zy7 {h:Heap} {ρ:cm} {M n base:Nat} {t:TypeId} {v:ab} {d:DataW H} {ps:List MemPlace} (hS:0 < W.heap.size) (xV:AY W M) (hc:zA P n t=true) (ez:Value.okWide P W .any base t v) (ht:DataW.Trod enc P W 0 (λ_=>true) true t v d ps) :
 VR (rN W h ρ M) (oL h.size M v) v/\AJ P (v8 W h M) n t (oL h.size M v):=by
 have hM:0 < M:=Nat.lt_of_le_of_lt (lE _) (xV 0 hS)
 obtain ⟨fuel,ht⟩:=ht
 obtain ⟨h1,h2⟩:=zur (h:=h) hS xV n t _ fuel _ hc ht
 have agg:∀ cs,v=.agg cs->VR (rN W h ρ M) (oL h.size M v) v/\oL h.size M v=.agg ⟨v.cells.toList.map (ur h.size M)⟩:=by
  rintro cs rfl
  refine ⟨?_,rfl⟩
  have:=zAj (ρ:=ρ) (h:=h) hS hM h1
  have:=this.toArray
  simpa [oL,Value.cells] using this
 have one:v.cells=#[v]->VR (rN W h ρ M) (oL h.size M v) v/\v.cells.toList.map (ur h.size M)=[oL h.size M v]:=by
  intro hv
  rw [hv] at h1 ⊢
  have hb:=h1 v (by simp)
  have hi:oL h.size M v=ur h.size M v:=by
   cases v with
   |agg cs=>simp [gX] at hb
   |_=>rfl
  rw [hi]
  exact ⟨zwi hS hM hb,rfl⟩
 unfold AJ
 unfold Value.okWide at ez
 cases n with
 |zero=>simp [zA] at hc
 |succ n =>
  simp only [zA] at hc
  cases hu:P.underlying t with
  |none=>rw [hu] at hc;simp at hc
  |some dd =>
   rw [hu] at hc ez
   cases dd with
   |struct fs =>
    obtain ⟨cs,hv,_⟩:=ez
    obtain ⟨a1,a2⟩:=agg cs hv
    exact ⟨a1,_,a2,h2⟩
   |array m e =>
    obtain ⟨cs,hv,_⟩:=ez
    obtain ⟨a1,a2⟩:=agg cs hv
    exact ⟨a1,_,a2,h2⟩
   |bool =>
    simp only [Cell.okWide,Cell.ok,hu] at ez
    cases v <;> simp at ez
    obtain ⟨a1,a2⟩:=one rfl
    exact ⟨a1,by rw [<- a2];exact h2⟩
   |int k =>
    simp only [Cell.okWide,Cell.ok,hu] at ez
    cases v <;> simp at ez
    obtain ⟨a1,a2⟩:=one rfl
    exact ⟨a1,by rw [<- a2];exact h2⟩
   |string =>
    simp only [Cell.okWide,Cell.ok,hu] at ez
    cases v <;> simp at ez
    obtain ⟨a1,a2⟩:=one rfl
    exact ⟨a1,by rw [<- a2];exact h2⟩
   |slice e =>
    simp only [Cell.okWide,Cell.ok,hu] at ez
    cases v <;> simp at ez
    obtain ⟨a1,a2⟩:=one rfl
    exact ⟨a1,by rw [<- a2];exact h2⟩
   |_=>simp at hc

theorem zpe {h:Heap} {ρ:cm} {M n base:Nat} (hS:0 < W.heap.size) (xV:AY W M):∀ (ts:List TypeId) (vs:List ab) (ds:List (DataW H)) (ps:List MemPlace),ts.all (zA P n)=true ->
 (∀ (j:Nat) t v,ts[j]? = some t->vs[j]? = some v->Value.okWide P W .any base t v)->DataW.TrodAll enc P W 0 (λ_=>true) true ts vs ds ps ->
 cu (rN W h ρ M) (vs.map (oL h.size M)) vs/\Ay P (v8 W h M) n ts (vs.map (oL h.size M))
 | [],[],[],_,_,_,_=>⟨.nil _,trivial⟩
 |t::ts,v::vs,d::ds,ps,hc,ez,ht=>by
  simp only [nU,ep] at hc
  obtain ⟨p,q,h1,h2,_⟩:=ht
  obtain ⟨a1,a2⟩:=zy7 (h:=h) (ρ:=ρ) hS xV hc.1 (ez 0 t v rfl rfl) h1
  obtain ⟨b1,b2⟩:=zpe (h:=h) (ρ:=ρ) hS xV ts vs ds q hc.2 (λj t v h3 h4=>ez (j+1) t v (by simpa using h3) (by simpa using h4)) h2
  exact ⟨.cons a1 b1,a2,b2⟩
 | [],[],_::_,_,_,_,ht=>ht.elim
 | [],_::_,_,_,_,_,ht=>by cases ht
 |_::_,[],_,_,_,_,ht=>by cases ht
 |_::_,_::_,[],_,_,_,ht=>by cases ht

theorem zg6 (hl:laidOutB P=true) {W W':World} (hb:Below W.heap.size W W') (sp:Nat->Bool):∀ (ts:List TypeId) (vs:List ab) (ds:List (DataW H)) (ps:List MemPlace),ts.all (λt=>P.readableRec t && decide (t < P.types.size))=true ->
 (∀ x∈ps,x.block < W.heap.size)->(∀ x∈ps,sp x.block=true)->DataW.TrodAll enc P W 0 (λ_=>true) true ts vs ds ps->DataW.TrodAll enc P W' 0 sp true ts vs ds ps
 | [],[],[],_,_,_,_,h=>h
 |t::ts,v::vs,d::ds,ps,hr,aT,cG,h=>by
  simp only [nU,ep,jH] at hr
  obtain ⟨p,q,h1,h2,rfl⟩:=h
  exact ⟨p,q,WideElems.Trod_stays hl hr.1.1 hr.1.2 h1 (λx hx=>hb.same (aT x (by simp [hx]))) (λx hx=>cG x (by simp [hx])),
   zg6 hl hb sp ts vs ds q hr.2 (λx hx=>aT x (by simp [hx])) (λx hx=>cG x (by simp [hx])) h2,rfl⟩
 | [],[],_::_,_,_,_,_,h=>h.elim
 | [],_::_,_,_,_,_,_,h=>by cases h
 |_::_,[],_,_,_,_,_,h=>by cases h
 |_::_,_::_,[],_,_,_,_,h=>by cases h

end
end Go.Am

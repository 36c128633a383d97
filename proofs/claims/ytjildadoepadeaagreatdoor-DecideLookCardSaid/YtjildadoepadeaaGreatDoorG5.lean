/- The plain machine, told so that the kernel runs it fast: every step hands what it has on, and says yes or no. Definitions alone; no condition. -/
import Derived.Test.YtjildadoepadeaaGreatDoorG2
import Derived.ProofKit
import Derived.ChangeSame
set_option linter.unusedSimpArgs false
namespace Go.Am

inductive zE where
 |here
 |l (p:zE)
 |r (p:zE)
inductive ET where
 |leaf
 |node (v:ai) (l r:ET)
noncomputable def ET.get (p:zE):ET->ai :=
 zE.rec (motive:=λ_=>ET->ai) (λt=>ET.casesOn t undef λv _ _=>v) (λ_ ih t=>ET.casesOn t undef λ_ l _=>ih l) (λ_ ih t=>ET.casesOn t undef λ_ _ r=>ih r) p
noncomputable def ET.set (p:zE) (v:ai):ET->ET :=
 zE.rec (motive:=λ_=>ET->ET) (λt=>ET.casesOn t (.node v .leaf .leaf) λ_ l r=>.node v l r) (λ_ ih t=>ET.casesOn t (.node undef (ih .leaf) .leaf) λx l r=>.node x (ih l) r)
  (λ_ ih t=>ET.casesOn t (.node undef .leaf (ih .leaf)) λx l r=>.node x l (ih r)) p

structure FE where
 n:Nat
 t:ET

abbrev FK:=ai->Heap->Bool




section
variable (P:Program) (T:bm)


variable (C:Fn->List ai->Heap->FK->Bool)



def vX (ops:Array Oper) (ms:List Nat):Bool :=
 (List.range ops.size).all λj=>match ops[j]? with
  |some oj=>oj.after.toList.all (λe => !Region.binds .any e || decide (e.on < j)) &&
   (List.range j).all λi=>(ms.getD j 0).testBit i || (match ops[i]? with
    |some oi=>oi.apart ops oj
    |none=>true)
  |none=>true
def jE (ops:Array Oper) (i:Nat):Bool:=match ops[i]? with
 |some o=>mE T o
 |none=>true
def Bn (ops:Array Oper) (ms:List Nat):List (Nat × Nat) :=
 (List.range ops.size).flatMap λj=>(List.range j).filterMap λi=>if (ms.getD j 0).testBit i || jE T ops i || jE T ops j then none else some (i,j)
def s7 (ks:List Nat):List (Nat × Nat)->Bool
 | []=>true
 |(i,j)::r=>ke (ks.getD i 2) (ks.getD j 2) && s7 ks r


end
end Go.Am
namespace Go.Am

theorem ET.aab:∀ p:zE,ET.get p .leaf=undef
 | .here=>rfl
 | .l _=>rfl
 | .r _=>rfl
theorem ET.aL:∀ (p q:zE) (v:ai) (t:ET),(p=q->ET.get q (ET.set p v t)=v)/\(p≠q->ET.get q (ET.set p v t)=ET.get q t)
 | .here,.here,v,t=>⟨λ_=>by cases t <;> rfl,λh=>(h rfl).elim⟩
 | .here,.l q,v,t=>⟨λh=>(by cases h),λ_=>by
  cases t with
  |leaf=>exact ET.aab q
  |node x l r=>rfl⟩
 | .here,.r q,v,t=>⟨λh=>(by cases h),λ_=>by
  cases t with
  |leaf=>exact ET.aab q
  |node x l r=>rfl⟩
 | .l p,.here,v,t=>⟨λh=>(by cases h),λ_=>by cases t <;> rfl⟩
 | .r p,.here,v,t=>⟨λh=>(by cases h),λ_=>by cases t <;> rfl⟩
 | .l p,.r q,v,t=>⟨λh=>(by cases h),λ_=>by
  cases t with
  |leaf=>exact ET.aab q
  |node x l r=>rfl⟩
 | .r p,.l q,v,t=>⟨λh=>(by cases h),λ_=>by
  cases t with
  |leaf=>exact ET.aab q
  |node x l r=>rfl⟩
 | .l p,.l q,v,t=>by
  cases t with
  |leaf=>exact ⟨λh=>(ET.aL p q v .leaf).1 (zE.l.inj h),λh=>((ET.aL p q v .leaf).2 (λe=>h (by rw [e]))).trans (ET.aab q)⟩
  |node x l r=>exact ⟨λh=>(ET.aL p q v l).1 (zE.l.inj h),λh=>(ET.aL p q v l).2 (λe=>h (by rw [e]))⟩
 | .r p,.r q,v,t=>by
  cases t with
  |leaf=>exact ⟨λh=>(ET.aL p q v .leaf).1 (zE.r.inj h),λh=>((ET.aL p q v .leaf).2 (λe=>h (by rw [e]))).trans (ET.aab q)⟩
  |node x l r=>exact ⟨λh=>(ET.aL p q v r).1 (zE.r.inj h),λh=>(ET.aL p q v r).2 (λe=>h (by rw [e]))⟩




section
variable {P:Program} {T:bm} {ov:Ov}








theorem Sr (ks:List Nat):∀ ps:List (Nat × Nat),s7 ks ps=true->∀ i j,(i,j)∈ps->ke (ks.getD i 2) (ks.getD j 2)=true
 | [],_,_,_,h=>by cases h
 |(a,b)::r,h,i,j,hm=>by
  simp only [s7,cY] at h
  rcases i0.1 hm with h1|h1
  .cases h1;exact h.1
  .exact Sr ks r h.2 i j h1
theorem zrS {ops:Array Oper} {ms ks:List Nat} (h1:vX ops ms=true) (h2:s7 ks (Bn T ops ms)=true) (h3:∀ i,i < ops.size->jE T ops i=true->ks.getD i 2=0):zb ops ks ms=true:=by
 unfold zb
 rw [fD]
 intro j hj
 have zW:j < ops.size:=mZ.1 hj
 unfold vX at h1
 have h1:=fD.1 h1 j hj
 unfold AP
 split
 .rename_i oj mj
  rw [mj] at h1
  simp only [cY] at h1 ⊢
  refine ⟨h1.1,?_⟩
  rw [fD]
  intro i hi
  have gj:i < j:=mZ.1 hi
  have h4:=fD.1 h1.2 i hi
  cases ht:(ms.getD j 0).testBit i with
  |true=>rfl
  |false =>
   rw [ht] at h4
   simp only [zB] at h4 ⊢
   split at h4
   .rename_i oi tR
    rw [tR]
    simp only
    rw [cY]
    refine ⟨h4,?_⟩
    cases P5:jE T ops i with
    |true=>rw [h3 i (by omega) P5];rfl
    |false =>
     cases P6:jE T ops j with
     |true=>rw [h3 j zW P6];simp [ke]
     |false =>
      refine Sr ks _ h2 i j ?_
      unfold Bn
      rw [List.mem_flatMap]
      refine ⟨j,hj,?_⟩
      rw [List.mem_filterMap]
      exact ⟨i,hi,by rw [ht,P5,P6];rfl⟩
   .rename_i tR;rw [tR]
 .rfl










end
end Go.Am
namespace Go.Am
open Go.ChangeShapes Go.WideShapes Go.ChangeAt Go.RowKit

section
variable {H:Type} {enc:TypeId × ai->H} {P:Program}
theorem ztD {f:Func} {s:ChangeSpec} {apart fresh handsOn again:Bool} {W W':World} {args:Array ai} {v:ai} {ds gs:List (DataW H)} {before pa pv:List MemPlace}
 (hW:DataW.Whole enc P f.params.toList s.vars apart W args.toList ds gs before)
 (gS:∀ (b:Nat) (sp:Nat->Bool) (hd:Bool),DataW.TrodAll enc P W' b sp hd f.resultTypes.toList (v.resultList f.resultTypes.size) (s.fn H (ds++gs)).results [])
 (dh:∀ sp:Nat->Bool,(∀ p∈before,sp p.block=true)->DataW.TrodAll enc P W' 0 sp true f.params.toList args.toList (s.fn H (ds++gs)).args pa)
 (mv:∀ sp:Nat->Bool,(∀ p∈before,sp p.block=true)->DataW.TrodVars enc P W' sp s.vars (s.fn H (ds++gs)).vars pv)
 (rA:before=pa++pv) (hb:Below W.heap.size W W')
 (cE:∀ (j:Nat) (t:TypeId) (r:ai),f.resultTypes[j]? = some t->(v.resultList f.resultTypes.size)[j]? = some r->Value.okWide P W' .any 0 t r) :
 s.post enc P f apart fresh handsOn again W args v W':=by
 have below:∀ p∈before,p.block < W.heap.size:=λp hp=>hW.lt p hp
 have dt:∀ p∈before,(λb=>decide (b < W.heap.size)) p.block=true:=λp hp=>by simpa using below p hp
 have mem:∀ p,p∈before↔p∈([]++pa)++pv:=λp=>by rw [rA];simp
 refine ⟨ds,gs,before,[],pa,pv,hW,gS _ _ _,dh _ dt,mv _ dt,World.keptBut_mono (λp hp=>⟨hp,?_⟩) (hb.frame (·∈before)),λ_=>?_⟩
 .rw [rA,pM] at hp
  exact .inr hp
 obtain ⟨_,_,_,_,_,hz,hn⟩:=hW
 refine ⟨cE,_,_,([]++pa)++pv,⟨[]++pa,pv,trodAll_append (dh _ (λ_ _=>rfl)) (gS _ _ _),mv _ (λ_ _=>rfl),rfl,λb off hp=>?_,λha=>?_⟩,?_⟩
 .have aR:=(mem _).2 hp
  rw [hb.frozen (below _ aR)]
  exact hz b off aR
 .have:=hn ha
  rw [rA] at this
  simpa using this
 .exact λp hp _=>(mem p).2 hp
end


end Go.Am

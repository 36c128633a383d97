/- Steps of the plain machine, for simp. No condition. -/
import Derived.Test.YtjildadoepadeaaGreatDoorG3
import Derived.Laws.Strings
set_option linter.unusedSimpArgs false
namespace Go.Am

def Heap.lay (h:Heap) (l:List Blk) (w:Nat):Heap:={ l.foldl Heap.push h with low:=w }

theorem zgS (l:List Blk):∀ h:Heap,(l.foldl Heap.push h).size=h.size+l.length:=by
 induction l with
 |nil=>intro h;rfl
 |cons b l ih=>intro h;rw [List.foldl_cons,ih,Heap.size_push,List.length_cons];omega
theorem zeJ (h:Heap) (w A:Nat):Heap.get { h with low:=w } A=h.get A:=rfl
theorem zfH (l:List Blk):∀ (h:Heap) (A:Nat),(l.foldl Heap.push h).get A=if h.size<=A then l[A - h.size]? else h.get A:=by
 induction l with
 |nil =>
  intro h A
  simp only [List.foldl_nil]
  split
  .rename_i hA
   simp only [Heap.get,List.getElem?_nil]
   rw [if_neg (by omega)]
  .rfl
 |cons b l ih =>
  intro h A
  rw [List.foldl_cons,ih,Heap.size_push,Heap.get_push]
  by_cases h1:h.size+1<=A
  .rw [if_pos h1,if_pos (by omega),show A - h.size=(A - (h.size+1))+1 by omega,List.getElem?_cons_succ]
  .rw [if_neg h1]
   by_cases h2:A=h.size
   .rw [if_pos h2,if_pos (by omega),h2,Nat.sub_self,List.getElem?_cons_zero]
   .rw [if_neg h2,if_neg (by omega)]

section
variable (h:Heap) (l:List Blk) (w:Nat)
theorem zch:(h.lay l w).size=h.size+l.length:=zgS l h
theorem zif (i:Nat):(h.lay l w).get (h.size+i)=l[i]? := by
 unfold Heap.lay
 rw [zeJ,zfH,if_pos (by omega),show h.size+i - h.size=i by omega]
theorem zbQ {A:Nat} (hA:A < h.size):(h.lay l w).get A=h.get A:=by
 unfold Heap.lay
 rw [zeJ,zfH,if_neg (by omega)]
theorem zie (hw:min h.low h.size<=w):Ext h (h.lay l w):=⟨by rw [zch];omega,λA hA=>zbQ h l w hA,hw⟩
theorem Ext.at {h':Heap} (e:Ext (h.lay l w) h') (i:Nat) {b:Blk} (hi:l[i]? = some b):h'.get (h.size+i)=some b:=by
 have:i < l.length:=(List.getElem?_eq_some_iff.1 hi).1
 rw [e.get _ (by rw [zch];omega),zif,hi]
end

section
variable {P:Program} {T:Tab} {ov:Ov}
section
variable (d:Option Tmp) (ty:TypeId) (pos:String) (af:Array Edge) (g:Option (Nat × Bool)) (e:Env) (h:Heap) (K:KTy)
end


theorem wrap_i64 {i:Int} (h1 : -9223372036854775808<=i) (h2:i < 9223372036854775808):IntKind.i64.wrap i=i:=by
 show (if (true && decide (i % (2 ^ 64:Int) >= (2 ^ 63:Int)))=true then i % (2 ^ 64:Int) - (2 ^ 64:Int) else i % (2 ^ 64:Int))=i
 by_cases hc:i % (2 ^ 64:Int) >= (2 ^ 63:Int)
 .rw [if_pos (by simpa using hc)];omega
 .rw [if_neg (by simpa using hc)];omega


theorem WOp.one {o:Oper} {e:Env} {h:Heap} {K:KTy} (hw:WOp P T ov o e h K):∃ v h',K v h'/\∀ K':KTy,K' v h'->WOp P T ov o e h K':=by
 unfold WOp at hw
 split at hw
 .rename_i f args ats hop
  split at hw
  .rename_i g fi ca hf
   obtain ⟨n,v,h',h1,h2⟩:=hw
   refine ⟨v,h',h2,λK' hk=>?_⟩
   unfold WOp
   simp only [hop,hf]
   exact ⟨n,v,h',h1,hk⟩
  .rename_i A fi ca hf
   obtain ⟨hc,n,v,h',h1,h2⟩:=hw
   refine ⟨v,h',h2,λK' hk=>?_⟩
   unfold WOp
   simp only [hop,hf]
   exact ⟨hc,n,v,h',h1,hk⟩
  .exact hw.elim
 .rename_i r name args ats hop
  split at hw
  .rename_i t x hr
   split at hw
   .rename_i f y hm
    obtain ⟨n,v,h',h1,h2⟩:=hw
    refine ⟨v,h',h2,λK' hk=>?_⟩
    unfold WOp
    simp only [hop,hr,hm]
    exact ⟨n,v,h',h1,hk⟩
   .exact hw.elim
  .exact hw.elim
 .rename_i hno hno2
  unfold optE at hw
  split at hw
  .rename_i v h' h1
   refine ⟨v,h',hw,λK' hk=>?_⟩
   unfold WOp
   split
   .rename_i f args ats hop;exact (hno f args ats hop).elim
   .rename_i r name args ats hop;exact (hno2 r name args ats hop).elim
   .rw [h1];exact hk
  .exact hw.elim
theorem WOps.one {ops:Array Oper}:∀ (l:List Oper) (e:Env) (h:Heap) (Q:Env->Heap->Prop),WOps P T ov ops l e h Q->∃ e' h',Q e' h'/\∀ Q':Env->Heap->Prop,Q' e' h'->WOps P T ov ops l e h Q'
 | [],e,h,Q,hw=>⟨e,h,hw,λ_ hq=>hq⟩
 |o::l,e,h,Q,hw=>by
  simp only [WOps,zex] at hw ⊢
  split at hw
  .rename_i hwt
   obtain ⟨v,h1,h2,h3⟩:=WOp.one hw
   obtain ⟨e',h',h4,h5⟩:=WOps.one l _ _ _ h2
   exact ⟨e',h',h4,λQ' hq=>by rw [if_pos hwt];exact h3 _ (h5 Q' hq)⟩
  .rename_i hwt
   obtain ⟨e',h',h4,h5⟩:=WOps.one l _ _ _ hw
   exact ⟨e',h',h4,λQ' hq=>by rw [if_neg hwt];exact h5 Q' hq⟩
theorem WOpsK.one {ops:Array Oper}:∀ (l:List Oper) (ks:List Nat) (e:Env) (h:Heap) (Q:List Nat->Env->Heap->Prop),WOpsK P T ov ops l ks e h Q->∃ ks' e' h',Q ks' e' h'/\∀ Q':List Nat->Env->Heap->Prop,Q' ks' e' h'->WOpsK P T ov ops l ks e h Q'
 | [],ks,e,h,Q,hw=>⟨ks,e,h,hw,λ_ hq=>hq⟩
 |o::l,ks,e,h,Q,hw=>by
  simp only [WOpsK,zex] at hw ⊢
  split at hw
  .rename_i hwt
   obtain ⟨v,h1,h2,h3⟩:=WOp.one hw
   obtain ⟨ks',e',h',h4,h5⟩:=WOpsK.one l _ _ _ _ h2
   exact ⟨ks',e',h',h4,λQ' hq=>by rw [if_pos hwt];exact h3 _ (h5 Q' hq)⟩
  .rename_i hwt
   obtain ⟨ks',e',h',h4,h5⟩:=WOpsK.one l _ _ _ _ hw
   exact ⟨ks',e',h',h4,λQ' hq=>by rw [if_neg hwt];exact h5 Q' hq⟩
section
variable {rd:Option Nat}
theorem W.one:∀ (c:Code) (e:Env) (h:Heap) (Q:Ex->Env->Heap->Prop),W P T ov rd c e h Q->∃ x e' h',Q x e' h'/\∀ Q':Ex->Env->Heap->Prop,Q' x e' h'->W P T ov rd c e h Q':=by
 intro c
 induction c with
 |skip=>intro e h Q hw;exact ⟨_,_,_,hw,λ_ hq=>hq⟩
 |region id ops d =>
  intro e h Q hw
  cases d with
  |false =>
   obtain ⟨e',h',h1,h2⟩:=WOps.one _ _ _ _ hw
   exact ⟨_,e',h',h1,λQ' hq=>h2 _ hq⟩
  |true =>
   obtain ⟨ks,e',h',h1,h2⟩:=WOpsK.one _ _ _ _ _ hw
   exact ⟨_,e',h',h1.2,λQ' hq=>h2 _ ⟨h1.1,hq⟩⟩
 |seq a b iha ihb =>
  intro e h Q hw
  simp only [W] at hw ⊢
  obtain ⟨x,e1,h1,h2,h3⟩:=iha _ _ _ hw
  cases x with
  |normal =>
   obtain ⟨x,e2,h4,h5,h6⟩:=ihb _ _ _ h2
   exact ⟨x,e2,h4,h5,λQ' hq=>h3 _ (h6 Q' hq)⟩
  |exit id=>exact ⟨_,e1,h1,h2,λQ' hq=>h3 _ hq⟩
  |ret=>exact ⟨_,e1,h1,h2,λQ' hq=>h3 _ hq⟩
 |cond c a b iha ihb =>
  intro e h Q hw
  simp only [W,zgM] at hw ⊢
  split at hw
  .rename_i t ht
   cases t with
   |true =>
    obtain ⟨x,e1,h1,h2,h3⟩:=iha _ _ _ (hw.1 rfl)
    exact ⟨x,e1,h1,h2,λQ' hq=>⟨λ_=>h3 Q' hq,λhh=>nomatch hh⟩⟩
   |false =>
    obtain ⟨x,e1,h1,h2,h3⟩:=ihb _ _ _ (hw.2 rfl)
    exact ⟨x,e1,h1,h2,λQ' hq=>⟨λhh=>(nomatch hh),λ_=>h3 Q' hq⟩⟩
  .exact hw.elim
 |block id c ih =>
  intro e h Q hw
  simp only [W] at hw ⊢
  obtain ⟨x,e1,h1,h2,h3⟩:=ih _ _ _ hw
  cases x with
  |normal=>exact ⟨.normal,e1,h1,h2,λQ' hq=>h3 _ hq⟩
  |exit i =>
   by_cases hi:i=id
   .simp only [if_pos hi] at h2
    exact ⟨.normal,e1,h1,h2,λQ' hq=>h3 _ (by simp only [if_pos hi];exact hq)⟩
   .simp only [if_neg hi] at h2
    exact ⟨.exit i,e1,h1,h2,λQ' hq=>h3 _ (by simp only [if_neg hi];exact hq)⟩
  |ret=>exact ⟨.ret,e1,h1,h2,λQ' hq=>h3 _ hq⟩
 |loop c ih =>
  intro e h Q hw
  simp only [W] at hw ⊢
  obtain ⟨n,hw⟩:=hw
  induction n generalizing e h with
  |zero=>exact hw.elim
  |succ n ihn =>
   simp only [WIter] at hw
   obtain ⟨x,e1,h1,h2,h3⟩:=ih _ _ _ hw
   cases x with
   |normal =>
    obtain ⟨x,e2,h4,h5,h6⟩:=ihn _ _ h2
    refine ⟨x,e2,h4,h5,λQ' hq=>?_⟩
    obtain ⟨m,hm⟩:=h6 Q' hq
    exact ⟨m+1,by simp only [WIter];exact h3 _ hm⟩
   |exit id=>exact ⟨.exit id,e1,h1,h2,λQ' hq=>⟨1,by simp only [WIter];exact h3 _ hq⟩⟩
   |ret=>exact ⟨.ret,e1,h1,h2,λQ' hq=>⟨1,by simp only [WIter];exact h3 _ hq⟩⟩
 |exit id=>intro e h Q hw;exact ⟨_,_,_,hw,λ_ hq=>hq⟩
 |ret=>intro e h Q hw;exact ⟨_,_,_,hw,λ_ hq=>hq⟩
 |label l=>intro e h Q hw;exact ⟨_,_,_,hw,λ_ hq=>hq⟩
 |rangeFunc g ps a b _ _ =>
  intro e h Q hw
  simp only [W,zeN] at hw
  split at hw
  .rename_i f fi ca hg
   obtain ⟨hc,n,v,h1,h2,h3⟩:=hw
   unfold zgL at h3
   split at h3
   .rename_i x e' h' h4
    refine ⟨x,e',h',h3,λQ' hq=>?_⟩
    simp only [W,zeN,hg]
    exact ⟨hc,n,v,h1,h2,by show zgL (za1 h.size e h1) Q';rw [h4];exact hq⟩
   .exact h3.elim
  .exact hw.elim
 |scope c ih=>intro e h Q hw;exact ih _ _ _ hw
 |goto l=>intro e h Q hw;exact hw.elim
 |refuse s=>intro e h Q hw;exact hw.elim
end
end
end Go.Am
namespace Go.Am
section
variable {P:Program} {T:Tab} {ov:Ov} {d:Option Tmp} {ty:TypeId} {pos:String} {af:Array Edge} {g:Option (Nat × Bool)} {e:Env} {h:Heap} {K:KTy}


end
end Go.Am
namespace Go.Am
structure Holds (h:Heap) (A:Nat) (b:Blk):Prop where
 lt:A < h.size
 get:h.get A=some b
theorem Holds.ext {h h':Heap} {A:Nat} {b:Blk} (hh:Holds h A b) (hx:Ext h h'):Holds h' A b:=⟨Nat.lt_of_lt_of_le hh.lt hx.size,(hx.get A hh.lt).trans hh.get⟩
theorem Holds.lay {h:Heap} {A:Nat} {b:Blk} (hh:Holds h A b) (l:List Blk) (w:Nat):(h.lay l w).get A=some b:=(zbQ h l w hh.lt).trans hh.get
theorem Holds.on {h:Heap} {A:Nat} {b:Blk} (hh:Holds h A b) (l:List Blk) (w:Nat):Holds (h.lay l w) A b:=⟨by rw [zch];have:=hh.lt;omega,hh.lay l w⟩
theorem Ext.over {h h1 h2:Heap} {l:List Blk} (z:Ext h h1) (x:Ext (h1.lay l h1.low) h2):Ext h h2:=(z.trans (zie _ _ _ (Nat.min_le_left _ _))).trans x

section
variable {T:Tab} {t e:TypeId} {k bytes:Nat} {z:List Vly}
end
section
variable {T:Tab} {t e:TypeId} {bytes:Nat} {z:List Vly}
end
end Go.Am

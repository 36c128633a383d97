/- Policies: data, their cells. No condition. -/
import Derived.Test.YtemapihoobmonaaGreatDoorG13
import Derived.Test.YtemapihoobmonaaGreatDoorG14
import Derived.Test.YtemapihoobmonaaGreatDoorG12
import Derived.Test.YtemapihoobmonaaGreatDoorG15
namespace Go.Am
set_option linter.unusedVariables false
structure PredD where
  name:ByteArray
  arity:Int
structure ClearD where
  who:ByteArray
  reads:List ByteArray
structure GrantD where
  to:ByteArray
  head:AtomD
  body:List AtomD
structure PolicyD where
  principals:List ByteArray
  preds:List PredD
  clears:List ClearD
  quota:Int
  budget:Int
  rules:List ClauseD
  grants:List GrantD
abbrev Rep.pred:Rep PredD:={ k:=2,R:=fun _ cs x=>cs=[.string x.name,.int .i64 x.arity],len:=by rintro _ _ _ rfl; rfl,mono:=fun _ _ _ _ _ h=>h,ones:=by rintro _ _ _ rfl; rfl }
abbrev Rep.clear:Rep ClearD :=
  { k:=2,R:=fun h cs x=>∃ v,cs=[.string x.who,v]∧Sl Rep.str h v x.reads
    len:=by rintro h cs x ⟨v,rfl,_⟩; rfl
    mono:=by rintro h h' cs x i ⟨v,e,f⟩; exact ⟨v,e,f.mono i⟩
    ones:=by rintro h cs x ⟨v,rfl,f⟩; have:=f.one; simp only [List.all_cons,List.all_nil,this]; rfl }
abbrev Rep.grant:Rep GrantD :=
  { k:=13,R:=fun h cs x=>∃ v,cs=.string x.to::(x.head.cells++[v])∧Sl Rep.atom h v x.body
    len:=by rintro h cs x ⟨v,rfl,_⟩; rfl
    mono:=by rintro h h' cs x i ⟨v,e,f⟩; exact ⟨v,e,f.mono i⟩
    ones:=by rintro h cs x ⟨v,rfl,f⟩; have:=f.one; simp only [List.all_append,AtomD.cells,List.all_cons,List.all_nil,this]; rfl }
def zaE (p0 p1 p2 p5 p6:Value) (q b:Int):List Value:=[p0,p1,p2,.int .i64 q,.int .i64 b,p5,p6]
def zbZ (p0 p1 p2 p5 p6:Value) (q b:Int):Value:=.agg ⟨zaE p0 p1 p2 p5 p6 q b⟩
structure PolH (h:Heap) (p0 p1 p2 p5 p6:Value) (d:PolicyD):Prop where
  s0:Sl Rep.str h p0 d.principals
  s1:Sl Rep.pred h p1 d.preds
  s2:Sl Rep.clear h p2 d.clears
  s5:Sl Rep.clause h p5 d.rules
  s6:Sl Rep.grant h p6 d.grants
theorem PolH.mono {h h':Heap} {p0 p1 p2 p5 p6:Value} {d:PolicyD} (f:PolH h p0 p1 p2 p5 p6 d) (i:Inc h h'):PolH h' p0 p1 p2 p5 p6 d:=⟨f.s0.mono i,f.s1.mono i,f.s2.mono i,f.s5.mono i,f.s6.mono i⟩
theorem PolH.lay {h:Heap} {p0 p1 p2 p5 p6:Value} {d:PolicyD} (f:PolH h p0 p1 p2 p5 p6 d) (bs:List Blk) (w:Nat):PolH (h.lay bs w) p0 p1 p2 p5 p6 d:=f.mono (Inc.lay h bs w)
theorem PolH.over {h1 h2:Heap} {bs:List Blk} {w:Nat} {p0 p1 p2 p5 p6:Value} {d:PolicyD} (f:PolH h1 p0 p1 p2 p5 p6 d) (x:Ext (h1.lay bs w) h2):PolH h2 p0 p1 p2 p5 p6 d:=f.mono x.inc.of_lay
theorem PolH.one {h:Heap} {p0 p1 p2 p5 p6:Value} {d:PolicyD} (f:PolH h p0 p1 p2 p5 p6 d) (q b:Int):(zaE p0 p1 p2 p5 p6 q b).all Am.one=true:=by
  have h0:=f.s0.one
  have h1:=f.s1.one
  have h2:=f.s2.one
  have h5:=f.s5.one
  have h6:=f.s6.one
  simp only [zaE,List.all_cons,List.all_nil,h0,h1,h2,h5,h6]
  rfl
theorem zaJ (p0 p1 p2 p5 p6:Value) (q b:Int):cut (zaE p0 p1 p2 p5 p6 q b) 0 7=some (zaE p0 p1 p2 p5 p6 q b):=rfl
theorem pol0 (p0 p1 p2 p5 p6:Value) (q b:Int):(zaE p0 p1 p2 p5 p6 q b)[0]? = some p0:=rfl
theorem pol1 (p0 p1 p2 p5 p6:Value) (q b:Int):(zaE p0 p1 p2 p5 p6 q b)[1]? = some p1:=rfl
theorem pol2 (p0 p1 p2 p5 p6:Value) (q b:Int):(zaE p0 p1 p2 p5 p6 q b)[2]? = some p2:=rfl
theorem pol5 (p0 p1 p2 p5 p6:Value) (q b:Int):(zaE p0 p1 p2 p5 p6 q b)[5]? = some p5:=rfl
theorem pol6 (p0 p1 p2 p5 p6:Value) (q b:Int):(zaE p0 p1 p2 p5 p6 q b)[6]? = some p6:=rfl
theorem zaI (p0 p1 p2 p5 p6:Value) (q b:Int):Value.agg (zaE p0 p1 p2 p5 p6 q b).toArray=zbZ p0 p1 p2 p5 p6 q b:=rfl
theorem zaq (p0 p1 p2 p5 p6:Value) (q b:Int):(zbZ p0 p1 p2 p5 p6 q b).cells.toList=zaE p0 p1 p2 p5 p6 q b:=rfl
theorem zaz (p0 p1 p2 p5 p6:Value) (q b:Int) (h:Heap) (K:Value→Heap→Prop):valE (some (zbZ p0 p1 p2 p5 p6 q b)) h K=K (zbZ p0 p1 p2 p5 p6 q b) h:=rfl
section
variable {h1:Heap} {bs:List Blk} {w:Nat} {T:Tab} {K:Value→Heap→Prop} {t e s:TypeId} {v p:Value} {kd:IntKind} {i:Int}
theorem zAS {l:List PredD} {x:PredD} (f:Sl Rep.pred h1 v l) (hd:T.desc t=some (.slice e)) (hs:zaM T e=some 2) (h0:0≤i) (hx:l[i.toNat]? = some x) (hk:∀ p,AtP h1 p [.string x.name,.int .i64 x.arity]→K p (h1.lay bs w)):valE (zau T t v (.int kd i)) (h1.lay bs w) K:=by
  have hi:=(List.getElem?_eq_some_iff.1 hx).1
  refine zdZ f hd hs h0 (by omega) (fun x' p cs hx' hr hp=>?_)
  rw [hx] at hx'
  cases hx'
  exact hk p (hr ▸ hp)
theorem zi1 {l:List ClearD} {x:ClearD} (f:Sl Rep.clear h1 v l) (hd:T.desc t=some (.slice e)) (hs:zaM T e=some 2) (h0:0≤i) (hx:l[i.toNat]? = some x) (hk:∀ p b,Sl Rep.str h1 b x.reads→AtP h1 p [.string x.who,b]→K p (h1.lay bs w)):valE (zau T t v (.int kd i)) (h1.lay bs w) K:=by
  have hi:=(List.getElem?_eq_some_iff.1 hx).1
  refine zdZ f hd hs h0 (by omega) (fun x' p cs hx' hr hp=>?_)
  rw [hx] at hx'
  cases hx'
  obtain ⟨b,rfl,hb⟩:=hr
  exact hk p b hb hp
theorem zyN {l:List GrantD} {x:GrantD} (f:Sl Rep.grant h1 v l) (hd:T.desc t=some (.slice e)) (hs:zaM T e=some 13) (h0:0≤i) (hx:l[i.toNat]? = some x) (hk:∀ p b,Sl Rep.atom h1 b x.body→AtP h1 p (.string x.to::(x.head.cells++[b]))→K p (h1.lay bs w)):valE (zau T t v (.int kd i)) (h1.lay bs w) K:=by
  have hi:=(List.getElem?_eq_some_iff.1 hx).1
  refine zdZ f hd hs h0 (by omega) (fun x' p cs hx' hr hp=>?_)
  rw [hx] at hx'
  cases hx'
  obtain ⟨b,rfl,hb⟩:=hr
  exact hk p b hb hp
theorem fdP0 {x y:Value} (f:AtP h1 p [x,y]) (hfa:∀ A o,zah T s (.pointer (some ⟨A,o,none⟩)) 0=some (.pointer (some ⟨A,o+0,none⟩))) (hk:∀ q,AtP h1 q [x]→K q (h1.lay bs w)):valE (zah T s p 0) (h1.lay bs w) K:=fdx (ds:=[x]) f hfa rfl (Nat.succ_pos _) hk
theorem fdP1 {x y:Value} (f:AtP h1 p [x,y]) (hfa:∀ A o,zah T s (.pointer (some ⟨A,o,none⟩)) 1=some (.pointer (some ⟨A,o+1,none⟩))) (hk:∀ q,AtP h1 q [y]→K q (h1.lay bs w)):valE (zah T s p 1) (h1.lay bs w) K:=fdx (ds:=[y]) f hfa rfl (Nat.succ_pos _) hk
theorem fdG0 {x:GrantD} {b:Value} (f:AtP h1 p (.string x.to::(x.head.cells++[b]))) (hfa:∀ A o,zah T s (.pointer (some ⟨A,o,none⟩)) 0=some (.pointer (some ⟨A,o+0,none⟩))) (hk:∀ q,AtP h1 q [.string x.to]→K q (h1.lay bs w)):valE (zah T s p 0) (h1.lay bs w) K:=fdx (ds:=[.string x.to]) f hfa rfl (Nat.succ_pos _) hk
theorem fdG1 {x:GrantD} {b:Value} (f:AtP h1 p (.string x.to::(x.head.cells++[b]))) (hfa:∀ A o,zah T s (.pointer (some ⟨A,o,none⟩)) 1=some (.pointer (some ⟨A,o+1,none⟩))) (hk:∀ q,AtP h1 q x.head.cells→K q (h1.lay bs w)):valE (zah T s p 1) (h1.lay bs w) K:=fdx (ds:=x.head.cells) f hfa rfl (Nat.succ_pos _) hk
theorem fdG2 {x:GrantD} {b:Value} (f:AtP h1 p (.string x.to::(x.head.cells++[b]))) (hfa:∀ A o,zah T s (.pointer (some ⟨A,o,none⟩)) 2=some (.pointer (some ⟨A,o+12,none⟩))) (hk:∀ q,AtP h1 q [b]→K q (h1.lay bs w)):valE (zah T s p 2) (h1.lay bs w) K:=fdx (ds:=[b]) f hfa rfl (Nat.succ_pos _) hk
theorem ldP {x y:Value} (f:AtP h1 p [x,y]) (hg:aggA T t=some true) (hs:zaM T t=some 2) (hk:K (.agg ⟨[x,y]⟩) (h1.lay bs w)):valE (zaX T t p (h1.lay bs w)) (h1.lay bs w) K:=znb f hg hs rfl hk
end
end Go.Am
namespace Go.Am
open Go.Proofs
set_option linter.unusedVariables false
set_option linter.unusedSimpArgs false
def StrRow (h:Heap) (A:Nat) (e:TypeId) (v:Value) (l:List ByteArray):Prop:=∃ c,v=.slice (some ⟨A,0,none⟩) l.length c∧zmJ 1 l.length c∧Holds h A (.row (l.map Value.string) e false)
theorem StrRow.sl {h:Heap} {A:Nat} {e:TypeId} {v:Value} {l:List ByteArray} (f:StrRow h A e v l) (hn:l.length≤1000):Sl Rep.str h v l:=by
  obtain ⟨c,rfl,hc,q⟩:=f
  have hM:(1000:Nat)≤maxLen:=by decide
  refine .inr ⟨A,0,c,l.map Value.string,e,false,rfl,by omega,hc,q.lt,q.get,fun i x hx=>⟨[.string x],?_,rfl⟩⟩
  have hi:=(List.getElem?_eq_some_iff.1 hx).1
  show cut (l.map Value.string) (0+i*1) 1=_
  rw [Nat.zero_add,Nat.mul_one]
  unfold cut
  rw [if_pos (by rw [List.length_map]; omega),← List.map_drop,← List.map_take,List.drop_eq_getElem_cons hi]
  simp only [List.take_succ_cons,List.take_zero,List.map_cons,List.map_nil]
  rw [(List.getElem?_eq_some_iff.1 hx).2]
theorem zot {row:List Value} {l:List ByteArray} (hr:row.length=l.length) (h:∀ (i:Nat) (x:ByteArray),l[i]? = some x→∃ cs,cut row (i*1) 1=some cs∧cs=[.string x]):row=l.map Value.string:=by
  apply List.ext_getElem?
  intro i
  by_cases hi:i < l.length
  · obtain ⟨cs,h1,rfl⟩:=h i _ (List.getElem?_eq_getElem hi)
    rw [Nat.mul_one] at h1
    unfold cut at h1
    split at h1
    · rw [List.drop_eq_getElem_cons (by omega)] at h1
      simp only [List.take_succ_cons,List.take_zero,Option.some.injEq,List.cons.injEq,and_true] at h1
      rw [List.getElem?_eq_getElem (by omega),h1,List.getElem?_map,List.getElem?_eq_getElem hi]
      rfl
    · cases h1
  · rw [List.getElem?_eq_none (by omega),List.getElem?_eq_none (by rw [List.length_map]; omega)]
theorem Ow.strRow {h0 h:Heap} {e:TypeId} {A:Nat} {v:Value} {l:List ByteArray} (f:Ow Rep.str h0 h e A v l) (hl:l≠[]) (hn:l.length≤1000):StrRow h A e v l:=by
  rcases f with ⟨_,f,_⟩ | ⟨row,rfl,_,f0,f1,f2,f3,f4,f5⟩
  · exact absurd f hl
  · have hr:row=l.map Value.string:=zot (by rw [f3]; exact Nat.mul_one _) f5
    subst hr
    have hG:=zlu
    obtain ⟨d1,d2,d3⟩:=zdQ (k:=1) (q:=l.length) (by decide) (by omega)
    exact ⟨_,rfl,.inr ⟨d1,d2,by rw [d3]; exact Nat.le_refl _⟩,⟨f1,f2⟩⟩
theorem znt (xs:List ByteArray):strs (xs.map Value.string)=some xs:=by
  induction xs with
  | nil=>rfl
  | cons x xs ih=>simp only [List.map_cons,strs,ih,Option.map_some]
theorem zod {h:Heap} {A:Nat} {e:TypeId} {l:List ByteArray} (q:Holds h A (.row (l.map Value.string) e false)):za0 A 0 l.length h=some (l.map Value.string):=by
  unfold za0
  rw [q.get]
  simp only [cut,Nat.zero_add,List.length_map,Nat.le_refl,if_true,List.drop_zero]
  rw [List.take_of_length_le (by rw [List.length_map]; omega)]
theorem zob {h:Heap} {A:Nat} {e:TypeId} {l m:List ByteArray} (q:Holds h A (.row (l.map Value.string) e false)) (hm:m.length=l.length) :
    zbW A 0 (m.map Value.string) h=some (h.set A (.row (m.map Value.string) e false)):=by
  unfold zbW
  rw [q.get]
  simp only
  have h1:(m.map Value.string).all one=true:=by rw [List.all_map]; exact List.all_eq_true.2 (fun _ _=>rfl)
  have h2:splice (l.map Value.string) 0 (m.map Value.string)=m.map Value.string:=by
    unfold splice
    rw [List.take_zero,List.nil_append,List.drop_eq_nil_of_le (by simp [hm]),List.append_nil]
  rw [h1,h2,if_pos (by simp [hm])]
theorem zts {h:Heap} {A:Nat} {b:Blk} (hA:A < h.size):Chg A h (h.set A b):=⟨by rw [Heap.size_set]; exact Nat.le_refl _,fun B hB hne=>by rw [Heap.get_set _ _ _ _ hA,if_neg hne],by rw [Heap.low_set]; omega⟩
theorem zj2 {h:Heap} {A:Nat} {b:Blk} (hA:A < h.size):Holds (h.set A b) A b:=⟨by rw [Heap.size_set]; exact hA,by rw [Heap.get_set _ _ _ _ hA,if_pos rfl]⟩
theorem zjH {h:Heap} {A:Nat} {e:TypeId} {v:Value} {l:List ByteArray} (f:StrRow h A e v l) (hl:l≠[]) (hn:l.length≤1000):∃ h',ziP [v] h=some (.tuple #[],h')∧StrRow h' A e v (zn5 l)∧Chg A h h':=by
  obtain ⟨c,rfl,hc,q⟩:=f
  have hne:l.length≠0:=fun e=>hl (List.length_eq_zero_iff.1 e)
  have hlt:=zc0 l
  refine ⟨_,?_,⟨c,by rw [hlt],by rw [hlt]; exact hc,zj2 q.lt⟩,zts q.lt⟩
  unfold ziP
  simp only [if_neg hne,zod q,Option.bind_some,znt]
  rw [if_pos (by omega),zob q hlt]
  rfl
theorem zzG {T:Tab} {t e:TypeId} {bytes:Nat} {z:List Value} (hd:T.desc t=some (.slice e)) (hi:T.info e=some (1,bytes,z)) (hby:bytes≤1000) {h:Heap} {B:Nat} {who:ByteArray} {x:Value} {reads:List ByteArray} (q:Holds h B (.row [.string who] e false)) (f:Sl Rep.str h x reads) (hn:reads.length≤900) :
    ∃ v' h' A',zbo T t (.slice (some ⟨B,0,none⟩) 1 1) x h=some (v',h')∧StrRow h' A' e v' (who::reads)∧Ext h h'∧(A'=B∨A'=h.size):=by
  have hG:=zlu
  by_cases hr:reads=[]
  · subst hr
    obtain ⟨news,s1,s2⟩:=ziW (A:=h.size) (by decide) f (fun cs y hr=>hr)
    refine ⟨_,h,B,?_,⟨1,rfl,.inl ⟨by omega,Nat.le_refl _⟩,q⟩,Ext.refl h,.inl rfl⟩
    unfold zbo
    simp only [hd,hi,s1,Option.bind_some]
    rfl
  · have hp:0 < reads.length:=List.length_pos_iff.2 hr
    obtain ⟨news,s1,s2⟩:=ziW (A:=h.size) (by decide) f (fun cs y hr=>hr)
    rw [zl2 (Nat.le_refl _)] at s2
    have f1:Sl Rep.str h (.slice (some ⟨B,0,none⟩) [who].length [who].length) [who]:=StrRow.sl ⟨1,rfl,.inl ⟨by omega,Nat.le_refl _⟩,q⟩ (by simp only [List.length_cons,List.length_nil]; omega)
    obtain ⟨v',h',e1,e2,e3⟩:=zxw (h0:=h) hd hi rfl (by decide) (Nat.le_refl _) f1 s1 s2 hp (by
      have:([who].length+reads.length)*bytes≤901*1000:=Nat.mul_le_mul (by simp only [List.length_cons,List.length_nil]; omega) hby
      omega) (by simp only [List.length_cons,List.length_nil]; omega)
    exact ⟨v',h',h.size,e1,e2.strRow (by simp) (by simp only [List.length_append,List.length_cons,List.length_nil]; omega),e3,.inr rfl⟩
/-! ### Members -/
def zc7 (l:List ClearD) (who:ByteArray):List ByteArray:=match l.find? (fun c=>decide (c.who=who)) with
  | some c=>c.reads
  | none=>[]
theorem zmP {l:List ClearD} {who:ByteArray} {n:Nat} (h:∀ c∈l,c.reads.length≤n):(zc7 l who).length≤n:=by
  unfold zc7
  cases hf:l.find? (fun c=>decide (c.who=who)) with
  | none=>simp
  | some c=>exact h c (List.mem_of_find?_eq_some hf)
theorem zsW (l:List ClearD) (who:ByteArray):(∃ (i:Nat) (c:ClearD),idxP (fun c:ClearD=>decide (c.who=who)) l=i∧l[i]? = some c∧zc7 l who=c.reads)∨(idxP (fun c:ClearD=>decide (c.who=who)) l = -1∧zc7 l who=[]):=by
  cases hf:l.find? (fun c=>decide (c.who=who)) with
  | none =>
    refine .inr ⟨zeA (fun y hy=>?_),by unfold zc7; rw [hf]⟩
    have:=List.find?_eq_none.1 hf y hy
    simpa using this
  | some c =>
    obtain ⟨h1,us,ws,rfl,h2⟩:=List.find?_eq_some_iff_append.1 hf
    refine .inl ⟨us.length,c,zd6 (x:=c) (by simp) (fun y hy=>?_) h1,by simp,by unfold zc7; rw [hf]⟩
    rw [List.take_left] at hy
    simpa using h2 y hy
def zdj (d:PolicyD) (who:ByteArray):List ByteArray:=zn5 (who::zc7 d.clears who)
theorem zdC (d:PolicyD) (who:ByteArray):(zdj d who).length=1+(zc7 d.clears who).length:=by
  unfold zdj
  rw [zc0,List.length_cons,Nat.add_comm]
theorem zny {d:PolicyD} {who x:ByteArray}:x∈zdj d who↔x=who∨x∈zc7 d.clears who:=by
  unfold zdj
  rw [(zth _).mem_iff,List.mem_cons]
def PolV (h:Heap) (v:Value) (d:PolicyD):Prop:=∃ p0 p1 p2 p5 p6 q b,v=zbZ p0 p1 p2 p5 p6 q b∧PolH h p0 p1 p2 p5 p6 d
end Go.Am

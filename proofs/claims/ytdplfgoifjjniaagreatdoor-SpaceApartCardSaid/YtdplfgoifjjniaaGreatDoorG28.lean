/- The code of some functions, node by node, for simp. Written by a program (mkcode.py). No condition. -/
import Derived.Test.YtdplfgoifjjniaaGreatDoorG27
import Derived.Test.YtdplfgoifjjniaaGreatDoorG25
import Derived.KernelRfl
import Derived.Test.YtdplfgoifjjniaaGreatDoorG14
namespace Go.Proofs.YtdplfgoifjjniaaGreatDoor
open Go.Am
set_option linter.unusedVariables false
set_option linter.unusedSimpArgs false
set_option maxRecDepth 100000
set_option maxHeartbeats 0
noncomputable def N99:=zaz Tryz.f99
noncomputable def x99:=PLift.up (by have c:=zah N99 Tryz.f99;simp only [zan,Tryz.f99,Option.getD_some,zaj,opsF,opsX,zag,zaA,dstL,zak,List.append_eq,List.cons_append,List.nil_append,seval] at c;exact nd c <| nd @zCu <| @fi99)
theorem c99:type_of% x99.down:=x99.down
noncomputable def N189:=zaz Tryz.f189
noncomputable def x189:=PLift.up (by have c:=zah N189 Tryz.f189;simp only [zan,Tryz.f189,Option.getD_some,zaj,opsF,opsX,zag,zaA,dstL,zak,List.append_eq,List.cons_append,List.nil_append,seval] at c;exact nd c <| nd @zAl <| nd @ld3 <| @zD8)
theorem c189:type_of% x189.down:=x189.down
noncomputable def N192:=zaz Tryz.f192
noncomputable def x192:=PLift.up (by have c:=zah N192 Tryz.f192;simp only [zan,Tryz.f192,Option.getD_some,zaj,opsF,opsX,zag,zaA,dstL,zak,List.append_eq,List.cons_append,List.nil_append,seval] at c;exact nd c <| nd @zAl <| nd @ld3 <| nd @zFZ <| @zD3)
theorem c192:type_of% x192.down:=x192.down
noncomputable def N190:=zaz Tryz.f190
noncomputable def x190:=PLift.up (by have c:=zah N190 Tryz.f190;simp only [zan,Tryz.f190,Option.getD_some,zaj,opsF,opsX,zag,zaA,dstL,zak,List.append_eq,List.cons_append,List.nil_append,seval] at c;exact nd c <| nd @zn5 <| nd @zAl <| nd @zAM <| nd @ld3 <| nd @zCu <| @zDH)
theorem c190:type_of% x190.down:=x190.down
noncomputable def N191:=zaz Tryz.f191
noncomputable def x191:=PLift.up (by have c:=zah N191 Tryz.f191;simp only [zan,Tryz.f191,Option.getD_some,zaj,opsF,opsX,zag,zaA,dstL,zak,List.append_eq,List.cons_append,List.nil_append,seval] at c;exact nd c <| nd @zGo <| nd @zn5 <| nd @zAM <| nd @zD6 <| @zFB)
theorem c191:type_of% x191.down:=x191.down
noncomputable def N100:=zaz Tryz.f100
noncomputable def x100:=PLift.up (by have c:=zah N100 Tryz.f100;simp only [zan,Tryz.f100,Option.getD_some,zaj,opsF,opsX,zag,zaA,dstL,zak,List.append_eq,List.cons_append,List.nil_append,seval] at c;exact nd c <| @zEu)
theorem c100:type_of% x100.down:=x100.down
noncomputable def N102:=zaz Tryz.f102
noncomputable def x102:=PLift.up (by have c:=zah N102 Tryz.f102;simp only [zan,Tryz.f102,Option.getD_some,zaj,opsF,opsX,zag,zaA,dstL,zak,List.append_eq,List.cons_append,List.nil_append,seval] at c;exact nd c <| nd @zES <| @zGu)
theorem c102:type_of% x102.down:=x102.down
noncomputable def N131:=zaz Tryz.f131
noncomputable def x131:=PLift.up (by have c:=zah N131 Tryz.f131;simp only [zan,Tryz.f131,Option.getD_some,zaj,opsF,opsX,zag,zaA,dstL,zak,List.append_eq,List.cons_append,List.nil_append,seval] at c;exact nd c <| nd @zGJ <| @zFO)
theorem c131:type_of% x131.down:=x131.down
noncomputable def N130:=zaz Tryz.f130
noncomputable def x130:=PLift.up (by have c:=zah N130 Tryz.f130;simp only [zan,Tryz.f130,Option.getD_some,zaj,opsF,opsX,zag,zaA,dstL,zak,List.append_eq,List.cons_append,List.nil_append,seval] at c;exact nd c <| @zF0)
theorem c130:type_of% x130.down:=x130.down
noncomputable def N101:=zaz Tryz.f101
noncomputable def x101:=PLift.up (by have c:=zah N101 Tryz.f101;simp only [zan,Tryz.f101,Option.getD_some,zaj,opsF,opsX,zag,zaA,dstL,zak,List.append_eq,List.cons_append,List.nil_append,seval] at c;exact nd c <| nd @zoO <| nd @znN <| nd @zBy <| nd @zz9 <| nd @ld3 <| nd @zCd <| @zFx)
theorem c101:type_of% x101.down:=x101.down
noncomputable def N65:=zaz Tryz.f65
noncomputable def x65:=PLift.up (by have c:=zah N65 Tryz.f65;simp only [zan,Tryz.f65,Option.getD_some,zaj,opsF,opsX,zag,zaA,dstL,zak,List.append_eq,List.cons_append,List.nil_append,seval] at c;exact nd c <| nd @zEZ <| nd @zn5 <| nd @zsQ <| nd @zoO <| nd @zk1 <| nd @znN <| nd @zBy <| nd @zAM <| nd @zz9 <| nd @ld3 <| nd @ld63 <| nd @zCd <| nd @ln9 <| @fi65)
theorem c65:type_of% x65.down:=x65.down
noncomputable def N68:=zaz Tryz.f68
noncomputable def x68:=PLift.up (by have c:=zah N68 Tryz.f68;simp only [zan,Tryz.f68,Option.getD_some,zaj,opsF,opsX,zag,zaA,dstL,zak,List.append_eq,List.cons_append,List.nil_append,seval] at c;exact nd c <| nd @zsQ <| nd @zoO <| nd @zk1 <| nd @zAD <| nd @znN <| nd @zBy <| nd @zz9 <| nd @ld3 <| nd @ld63 <| nd @ld9 <| @fi68)
theorem c68:type_of% x68.down:=x68.down
noncomputable def N67:=zaz Tryz.f67
noncomputable def x67:=PLift.up (by have c:=zah N67 Tryz.f67;simp only [zan,Tryz.f67,Option.getD_some,zaj,opsF,opsX,zag,zaA,dstL,zak,List.append_eq,List.cons_append,List.nil_append,seval] at c;exact nd c <| nd @zk1 <| nd @ld63 <| @fi67)
theorem c67:type_of% x67.down:=x67.down
noncomputable def N36:=zaz Tryz.f36
noncomputable def x36:=PLift.up (by have c:=zah N36 Tryz.f36;simp only [zan,Tryz.f36,Option.getD_some,zaj,opsF,opsX,zag,zaA,dstL,zak,List.append_eq,List.cons_append,List.nil_append,seval] at c;exact nd c <| nd @zk1 <| nd @ld63 <| @fi36)
theorem c36:type_of% x36.down:=x36.down
noncomputable def N57:=zaz Tryz.f57
noncomputable def x57:=PLift.up (by have c:=zah N57 Tryz.f57;simp only [zan,Tryz.f57,Option.getD_some,zaj,opsF,opsX,zag,zaA,dstL,zak,List.append_eq,List.cons_append,List.nil_append,seval] at c;exact nd c <| @fi57)
theorem c57:type_of% x57.down:=x57.down
end Go.Proofs.YtdplfgoifjjniaaGreatDoor
namespace Go.Am
set_option linter.unusedVariables false
set_option linter.unusedSimpArgs false
def MapK {κ:Type} (kv:κ→Value) (h:Heap) (A:Nat) (met:List κ):Prop:=∃ es clock,∃ ks:List κ,Holds h A (.map es clock)∧es.map (fun x:MapEntry=>x.key)=ks.map kv∧(∀ a,a∈ks↔a∈met)∧∀ x∈es,x.val=.agg ⟨[]⟩
section
variable {κ:Type} {kv:κ→Value} {T:Tab} {t kt et:TypeId} {A:Nat} {met:List κ} {a:κ} {h1:Heap} {bs:List Blk} {w:Nat} {K:Value→Heap→Prop} {z:Value}
theorem zjn [DecidableEq κ] (heq:∀ x y:κ,eqIn T 20 kt (kv x) (kv y)=some (decide (x=y))):∀ (es:List MapEntry) (ks:List κ) (i:Nat),es.map (fun x:MapEntry=>x.key)=ks.map kv →
 (a ∉ ks→zeR T kt (kv a) es i=some none)∧(a∈ks→∃ (j:Nat) (e:MapEntry),zeR T kt (kv a) es i=some (some (i+j,e.val))∧es[j]? = some e∧e.key=kv a)
 | [],ks,i,hk=>by
  cases ks with
  |nil=>exact ⟨fun _=>rfl,fun h=>by simp at h⟩
  |cons k ks=>simp at hk
 |e::es,ks,i,hk=>by
  cases ks with
  |nil=>simp at hk
  |cons k ks =>
   simp only [List.map_cons,List.cons.injEq] at hk
   obtain ⟨h1,h2⟩:=zjn heq es ks (i+1) hk.2
   unfold zeR
   rw [hk.1,heq]
   by_cases hx:a=k
   ·subst hx
    refine ⟨fun hn=>absurd List.mem_cons_self hn,fun _=>⟨0,e,by simp,rfl,hk.1⟩⟩
   ·simp only [decide_eq_false hx,Option.bind_some,Bool.false_eq_true,if_false,List.mem_cons,hx,false_or]
    refine ⟨h1,fun ha=>?_⟩
    obtain ⟨j,e',g1,g2,g3⟩:=h2 ha
    refine ⟨j+1,e',?_,by simpa using g2,g3⟩
    rw [g1,show i+1+j=i+(j+1) by omega]
    simp
theorem zoY [DecidableEq κ] (hp:∀ x:κ,plain (kv x)=true) (a:κ) (heq:∀ x y:κ,eqIn T 20 kt (kv x) (kv y)=some (decide (x=y))):zg2 T kt (kv a)=true:=by
 unfold zg2
 rw [hp,heq]
 simp
theorem MapK.over (m:MapK kv h1 A met) {h2:Heap} (x:Ext (h1.lay bs w) h2):MapK kv h2 A met:=by
 obtain ⟨es,cl,ks,m1,m2,m3⟩:=m
 exact ⟨es,cl,ks,m1.over x,m2,m3⟩
theorem MapK.ext (m:MapK kv h1 A met) {h2:Heap} (x:Ext h1 h2):MapK kv h2 A met:=by
 obtain ⟨es,cl,ks,m1,m2,m3⟩:=m
 exact ⟨es,cl,ks,⟨Nat.lt_of_lt_of_le m1.lt x.size,(x.get A m1.lt).trans m1.get⟩,m2,m3⟩
theorem MapK.stepL (m:MapK kv h1 A met) {B:Nat} {h2:Heap} (c:Chg B (h1.lay bs w) h2) (hne:A≠B):MapK kv h2 A met:=by
 obtain ⟨es,cl,ks,m1,m2,m3⟩:=m
 exact ⟨es,cl,ks,m1.stepL c hne,m2,m3⟩
theorem MapK.lay (m:MapK kv h1 A met) (bs:List Blk) (w:Nat):MapK kv (h1.lay bs w) A met:=by
 obtain ⟨es,cl,ks,m1,m2,m3⟩:=m
 exact ⟨es,cl,ks,m1.on bs w,m2,m3⟩
theorem MapK.new (q:Holds h1 A (.map [] 0)):MapK kv h1 A ([]:List κ):=⟨[],0,[],q,rfl,fun _=>Iff.rfl,fun _ hx=>by simp at hx⟩
theorem MapK.lt (m:MapK kv h1 A met):A < h1.size:=by
 obtain ⟨es,cl,ks,m1,m2,m3⟩:=m
 exact m1.lt
theorem MapK.hold {H:Heap} (m:MapK kv h1 A met) (hO:∀ A b,Holds h1 A b→Holds H A b):MapK kv H A met:=by
 obtain ⟨es,cl,ks,m1,m2,m3⟩:=m
 exact ⟨es,cl,ks,hO _ _ m1,m2,m3⟩
theorem MapK.same {met2:List κ} (m:MapK kv h1 A met) (h:∀ a,a∈met↔a∈met2):MapK kv h1 A met2:=by
 obtain ⟨es,cl,ks,m1,m2,m3,m4⟩:=m
 exact ⟨es,cl,ks,m1,m2,fun a=>(m3 a).trans (h a),m4⟩
theorem zqq [DecidableEq κ] (m:MapK kv h1 A met) (hp:∀ x:κ,plain (kv x)=true) (hd:T.desc t=some (.map kt et)) (heq:∀ x y:κ,eqIn T 20 kt (kv x) (kv y)=some (decide (x=y))) (hz:T.zero et=some (.agg ⟨[]⟩))
 (h1k:a∈met→K (.tuple #[.agg ⟨[]⟩,.bool true]) (h1.lay bs w)) (h2k:a ∉ met→K (.tuple #[.agg ⟨[]⟩,.bool false]) (h1.lay bs w)):valE (zdv T t (.map (some A)) (kv a) true (h1.lay bs w)) (h1.lay bs w) K:=by
 obtain ⟨es,cl,ks,m1,m2,m3,m4⟩:=m
 obtain ⟨f1,f2⟩:=zjn (a:=a) heq es ks 0 m2
 have hg:(h1.lay bs w).get A=some (.map es cl):=m1.lay bs w
 unfold zdv
 simp only [hd,zoY hp a heq,if_true,ztF,hg,Option.bind_some]
 by_cases ha:a∈ks
 ·obtain ⟨j,e,hr,hx,_⟩:=f2 ha
  rw [hr]
  have hr2:e.val=.agg ⟨[]⟩:=m4 e (List.mem_of_getElem? hx)
  simp only [hr2,Option.bind_some,Option.map_some,if_true]
  exact h1k ((m3 a).1 ha)
 ·rw [f1 ha]
  simp only [hz,Option.bind_some,Option.map_some,if_true]
  exact h2k (fun hh=>ha ((m3 a).2 hh))
theorem zwS [DecidableEq κ] (m:MapK kv h1 A met) (hp:∀ x:κ,plain (kv x)=true) (hsk:∀ x:κ,zf0 (kv x) (kv x)=true) (hd:T.desc t=some (.map kt et)) (heq:∀ x y:κ,eqIn T 20 kt (kv x) (kv y)=some (decide (x=y)))
 (hK:∀ h',MapK kv h' A (a::met)→Chg A (h1.lay bs w) h'→K undef h'):memE (zbC T t (.map (some A)) (kv a) (.agg ⟨[]⟩) (h1.lay bs w)) K:=by
 obtain ⟨es,cl,ks,m1,m2,m3,m4⟩:=m
 obtain ⟨f1,f2⟩:=zjn (a:=a) heq es ks 0 m2
 have hg:(h1.lay bs w).get A=some (.map es cl):=m1.lay bs w
 have hA:A < (h1.lay bs w).size:=(m1.on bs w).lt
 have hc:∀ b,Chg A (h1.lay bs w) ((h1.lay bs w).set A b):=fun b=>⟨by rw [Heap.size_set];exact Nat.le_refl _,fun B hB hne=>by rw [Heap.get_set _ _ _ _ hA,if_neg hne],by rw [Heap.low_set];omega⟩
 have hh:∀ b,Holds ((h1.lay bs w).set A b) A b:=fun b=>⟨by rw [Heap.size_set];exact hA,by rw [Heap.get_set _ _ _ _ hA,if_pos rfl]⟩
 by_cases ha:a∈ks
 ·obtain ⟨j,e,hr,hx,hek⟩:=f2 ha
  have he:zbC T t (.map (some A)) (kv a) (.agg ⟨[]⟩) (h1.lay bs w)=some ((h1.lay bs w).set A (.map (es.modify j fun e=>{ e with key:=kv a,val:=.agg ⟨[]⟩ }) cl)):=by
   unfold zbC
   simp only [hd,hg,zoY hp a heq,if_true,hr,Option.bind_some,Nat.zero_add,hx,hek,hsk]
  rw [he]
  refine hK _ ⟨_,cl,ks,hh _,?_,fun b=>?_,fun x hx2=>?_⟩ (hc _)
  ·rw [← m2]
   refine List.ext_getElem? (fun i=>?_)
   simp only [List.getElem?_map,List.getElem?_modify]
   by_cases hij:j=i
   ·subst hij
    rw [hx]
    simp [hek]
   ·cases es[i]? <;> simp [hij]
  ·rw [m3,List.mem_cons]
   exact ⟨.inr,fun h=>h.elim (fun e=>e ▸ (m3 a).1 ha) id⟩
  ·obtain ⟨i,hi⟩:=List.getElem?_of_mem hx2
   rw [List.getElem?_modify] at hi
   cases hes:es[i]? with
   |none=>rw [hes] at hi;simp at hi
   |some y =>
    rw [hes] at hi
    simp only [Option.map_eq_map,Option.map_some,Option.some.injEq] at hi
    by_cases hij:j=i
    ·rw [if_pos hij] at hi;rw [← hi]
    ·rw [if_neg hij] at hi;rw [← hi];exact m4 y (List.mem_of_getElem? hes)
 ·have he:zbC T t (.map (some A)) (kv a) (.agg ⟨[]⟩) (h1.lay bs w)=some ((h1.lay bs w).set A (.map (es++[{ key:=kv a,val:=.agg ⟨[]⟩,born:=cl }]) (cl+1))):=by
   unfold zbC
   simp only [hd,hg,zoY hp a heq,if_true,f1 ha,Option.bind_some]
  rw [he]
  refine hK _ ⟨_,_,ks++[a],hh _,by simp [m2],fun b=>?_,fun x hx=>?_⟩ (hc _)
  ·rw [List.mem_append,List.mem_singleton,List.mem_cons,m3]
   exact Or.comm
  ·rcases List.mem_append.1 hx with hx|hx
   ·exact m4 x hx
   ·rw [List.mem_singleton.1 hx]
end
end Go.Am

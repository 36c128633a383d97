/- The code of some functions, node by node, for simp. Written by a program (mkcode.py). No condition. -/
import Derived.Test.YtdplfgoifjjniaaGreatDoorG25
import Derived.Test.YtdplfgoifjjniaaGreatDoorG23
set_option linter.unusedSimpArgs false
set_option linter.unusedVariables false
namespace Go.Proofs.YtdplfgoifjjniaaGreatDoor
open Go.Am
set_option maxRecDepth 100000
set_option maxHeartbeats 0
noncomputable def N99:=bq Tryz.f99
noncomputable def x99:=PLift.up (by have c:=bu N99 Tryz.f99;simp only [aE,Tryz.f99,seval] at c;exact nd c <| nd @zD9 <| @U9)
theorem c99:type_of% x99.down:=x99.down
noncomputable def HM:=bq Tryz.f189
noncomputable def LG:=PLift.up (by have c:=bu HM Tryz.f189;simp only [aE,Tryz.f189,seval] at c;exact nd c <| nd @Yc <| nd @kV <| @zHK)
theorem tD:type_of% LG.down:=LG.down
noncomputable def HP:=bq Tryz.f192
noncomputable def LK:=PLift.up (by have c:=bu HP Tryz.f192;simp only [aE,Tryz.f192,seval] at c;exact nd c <| nd @Yc <| nd @kV <| nd @zHN <| @zHW)
theorem tE:type_of% LK.down:=LK.down
noncomputable def HN:=bq Tryz.f190
noncomputable def LI:=PLift.up (by have c:=bu HN Tryz.f190;simp only [aE,Tryz.f190,seval] at c;exact nd c <| nd @Z3 <| nd @Yc <| nd @Ye <| nd @kV <| nd @zD9 <| @zHL)
theorem Ir:type_of% LI.down:=LI.down
noncomputable def HO:=bq Tryz.f191
noncomputable def LJ:=PLift.up (by have c:=bu HO Tryz.f191;simp only [aE,Tryz.f191,seval] at c;exact nd c <| nd @zGC <| nd @Z3 <| nd @Ye <| nd @zHM <| @zHV)
theorem Cm:type_of% LJ.down:=LJ.down
noncomputable def GZ:=bq Tryz.f100
noncomputable def KF:=PLift.up (by have c:=bu GZ Tryz.f100;simp only [aE,Tryz.f100,seval] at c;exact nd c <| @zGS)
theorem tq:type_of% KF.down:=KF.down
noncomputable def G2:=bq Tryz.f102
noncomputable def KH:=PLift.up (by have c:=bu G2 Tryz.f102;simp only [aE,Tryz.f102,seval] at c;exact nd c <| nd @zGU <| @zHO)
theorem wI:type_of% KH.down:=KH.down
noncomputable def Hs:=bq Tryz.f131
noncomputable def La:=PLift.up (by have c:=bu Hs Tryz.f131;simp only [aE,Tryz.f131,seval] at c;exact nd c <| nd @zHl <| @zHQ)
theorem kq:type_of% La.down:=La.down
noncomputable def Hr:=bq Tryz.f130
noncomputable def K9:=PLift.up (by have c:=bu Hr Tryz.f130;simp only [aE,Tryz.f130,seval] at c;exact nd c <| @zHk)
theorem de:type_of% K9.down:=K9.down
noncomputable def G1:=bq Tryz.f101
noncomputable def KG:=PLift.up (by have c:=bu G1 Tryz.f101;simp only [aE,Tryz.f101,seval] at c;exact nd c <| nd @Z4 <| nd @Z5 <| nd @Yd <| nd @Yf <| nd @kV <| nd @zEa <| @zGT)
theorem tu:type_of% KG.down:=KG.down
noncomputable def N65:=bq Tryz.f65
noncomputable def x65:=PLift.up (by have c:=bu N65 Tryz.f65;simp only [aE,Tryz.f65,seval] at c;exact nd c <| nd @zGD <| nd @Z3 <| nd @zto <| nd @Z4 <| nd @Pm <| nd @Z5 <| nd @Yd <| nd @Ye <| nd @Yf <| nd @kV <| nd @xM <| nd @zEa <| nd @xQ <| @UC)
theorem ng:type_of% x65.down:=x65.down
noncomputable def N68:=bq Tryz.f68
noncomputable def x68:=PLift.up (by have c:=bu N68 Tryz.f68;simp only [aE,Tryz.f68,seval] at c;exact nd c <| nd @zto <| nd @Z4 <| nd @Pm <| nd @zCv <| nd @Z5 <| nd @Yd <| nd @Yf <| nd @kV <| nd @xM <| nd @gf <| @UF)
theorem sA:type_of% x68.down:=x68.down
noncomputable def N67:=bq Tryz.f67
noncomputable def x67:=PLift.up (by have c:=bu N67 Tryz.f67;simp only [aE,Tryz.f67,seval] at c;exact nd c <| nd @Pm <| nd @xM <| @UE)
theorem Tk:type_of% x67.down:=x67.down
noncomputable def N36:=bq Tryz.f36
noncomputable def x36:=PLift.up (by have c:=bu N36 Tryz.f36;simp only [aE,Tryz.f36,seval] at c;exact nd c <| nd @Pm <| nd @xM <| @Ua)
theorem c36:type_of% x36.down:=x36.down
noncomputable def N57:=bq Tryz.f57
noncomputable def x57:=PLift.up (by have c:=bu N57 Tryz.f57;simp only [aE,Tryz.f57,seval] at c;exact nd c <| @Uv)
theorem c57:type_of% x57.down:=x57.down
end Go.Proofs.YtdplfgoifjjniaaGreatDoor
namespace Go.Am
def eZ {κ:Type} (kv:κ→Value) (h:Heap) (A:Nat) (met:List κ):Prop:=∃ es clock,∃ ks:List κ,Holds h A (.map es clock)∧es.map (fun x:MapEntry=>x.key)=ks.map kv∧(∀ a,a∈ks↔a∈met)∧∀ x∈es,x.val=.agg ⟨[]⟩
section
variable {κ:Type} {kv:κ→Value} {T:bD} {t kt et:TypeId} {A:Nat} {met:List κ} {a:κ} {h1:Heap} {bs:List bh} {w:Nat} {K:Value→Heap→Prop} {z:Value}
theorem Zb [DecidableEq κ] (heq:∀ x y:κ,eU T 20 kt (kv x) (kv y)=some (decide (x=y))):∀ (es:List MapEntry) (ks:List κ) (i:Nat),es.map (fun x:MapEntry=>x.key)=ks.map kv →
 (a ∉ ks→oc T kt (kv a) es i=some none)∧(a∈ks→∃ (j:Nat) (e:MapEntry),oc T kt (kv a) es i=some (some (i+j,e.val))∧es[j]? = some e∧e.key=kv a)
 | [],ks,i,hk=>by
  cases ks with
  |nil=>exact ⟨fun _=>rfl,fun h=>by simp at h⟩
  |cons k ks=>simp at hk
 |e::es,ks,i,hk=>by
  cases ks with
  |nil=>simp at hk
  |cons k ks =>
   simp only [List.map_cons,List.cons.injEq] at hk
   obtain ⟨h1,h2⟩:=Zb heq es ks (i+1) hk.2
   unfold oc
   rw [hk.1,heq]
   by_cases hx:a=k
   ·subst hx
    refine ⟨fun hn=>absurd List.mem_cons_self hn,fun _=>⟨0,e,by simp,rfl,hk.1⟩⟩
   ·simp only [decide_eq_false hx,Option.bind_some,Bool.false_eq_true,if_false,List.mem_cons,hx,false_or]
    refine ⟨h1,fun ha=>?_⟩
    obtain ⟨j,e',g1,g2,g3⟩:=h2 ha
    refine ⟨j+1,e',?_,by simpa using g2,g3⟩
    rw [g1,show i+1+j=i+(j+1) by omega]
    simp
theorem ZV [DecidableEq κ] (hp:∀ x:κ,plain (kv x)=true) (a:κ) (heq:∀ x y:κ,eU T 20 kt (kv x) (kv y)=some (decide (x=y))):sq T kt (kv a)=true:=by
 unfold sq
 rw [hp,heq]
 simp
theorem eZ.over (m:eZ kv h1 A met) {h2:Heap} (x:Ext (h1.lay bs w) h2):eZ kv h2 A met:=by
 obtain ⟨es,cl,ks,m1,m2,m3⟩:=m
 exact ⟨es,cl,ks,m1.over x,m2,m3⟩
theorem eZ.new (q:Holds h1 A (.map [] 0)):eZ kv h1 A ([]:List κ):=⟨[],0,[],q,rfl,fun _=>Iff.rfl,fun _ hx=>by simp at hx⟩
theorem eZ.same {Kp:List κ} (m:eZ kv h1 A met) (h:∀ a,a∈met↔a∈Kp):eZ kv h1 A Kp:=by
 obtain ⟨es,cl,ks,m1,m2,m3,m4⟩:=m
 exact ⟨es,cl,ks,m1,m2,fun a=>(m3 a).trans (h a),m4⟩
theorem zrr [DecidableEq κ] (m:eZ kv h1 A met) (hp:∀ x:κ,plain (kv x)=true) (hd:T.desc t=some (.map kt et)) (heq:∀ x y:κ,eU T 20 kt (kv x) (kv y)=some (decide (x=y))) (hz:T.zero et=some (.agg ⟨[]⟩))
 (tK:a∈met→K (.tuple #[.agg ⟨[]⟩,.bool true]) (h1.lay bs w)) (kB:a ∉ met→K (.tuple #[.agg ⟨[]⟩,.bool false]) (h1.lay bs w)):aU (vt T t (.map (some A)) (kv a) true (h1.lay bs w)) (h1.lay bs w) K:=by
 obtain ⟨es,cl,ks,m1,m2,m3,m4⟩:=m
 obtain ⟨f1,f2⟩:=Zb (a:=a) heq es ks 0 m2
 have hg:(h1.lay bs w).get A=some (.map es cl):=m1.lay bs w
 unfold vt
 simp only [hd,ZV hp a heq,if_true,M7,hg,Option.bind_some]
 by_cases ha:a∈ks
 ·obtain ⟨j,e,hr,hx,_⟩:=f2 ha
  rw [hr]
  have hU:e.val=.agg ⟨[]⟩:=m4 e (List.mem_of_getElem? hx)
  simp only [hU,Option.bind_some,Option.map_some,if_true]
  exact tK ((m3 a).1 ha)
 ·rw [f1 ha]
  simp only [hz,Option.bind_some,Option.map_some,if_true]
  exact kB (fun hh=>ha ((m3 a).2 hh))
theorem zAV [DecidableEq κ] (m:eZ kv h1 A met) (hp:∀ x:κ,plain (kv x)=true) (uL:∀ x:κ,EG (kv x) (kv x)=true) (hd:T.desc t=some (.map kt et)) (heq:∀ x y:κ,eU T 20 kt (kv x) (kv y)=some (decide (x=y)))
 (hK:∀ h',eZ kv h' A (a::met)→fK A (h1.lay bs w) h'→K undef h'):gv (mS T t (.map (some A)) (kv a) (.agg ⟨[]⟩) (h1.lay bs w)) K:=by
 obtain ⟨es,cl,ks,m1,m2,m3,m4⟩:=m
 obtain ⟨f1,f2⟩:=Zb (a:=a) heq es ks 0 m2
 have hg:(h1.lay bs w).get A=some (.map es cl):=m1.lay bs w
 have hA:A < (h1.lay bs w).size:=(m1.on bs w).lt
 have hc:∀ b,fK A (h1.lay bs w) ((h1.lay bs w).set A b):=fun b=>⟨by rw [Heap.size_set];exact Nat.le_refl _,fun B hB aO=>by rw [Heap.aC _ _ _ _ hA,if_neg aO],by rw [Heap.bX];omega⟩
 have hh:∀ b,Holds ((h1.lay bs w).set A b) A b:=fun b=>⟨by rw [Heap.size_set];exact hA,by rw [Heap.aC _ _ _ _ hA,if_pos rfl]⟩
 by_cases ha:a∈ks
 ·obtain ⟨j,e,hr,hx,hek⟩:=f2 ha
  have he:mS T t (.map (some A)) (kv a) (.agg ⟨[]⟩) (h1.lay bs w)=some ((h1.lay bs w).set A (.map (es.modify j fun e=>{ e with key:=kv a,val:=.agg ⟨[]⟩ }) cl)):=by
   unfold mS
   simp only [hd,hg,ZV hp a heq,if_true,hr,Option.bind_some,Nat.zero_add,hx,hek,uL]
  rw [he]
  refine hK _ ⟨_,cl,ks,hh _,?_,fun b=>?_,fun x DQ=>?_⟩ (hc _)
  ·rw [← m2]
   refine List.ext_getElem? (fun i=>?_)
   simp only [List.getElem?_map,List.getElem?_modify]
   by_cases dh:j=i
   ·subst dh
    rw [hx]
    simp [hek]
   ·cases es[i]? <;> simp [dh]
  ·rw [m3,List.mem_cons]
   exact ⟨.inr,fun h=>h.elim (fun e=>e ▸ (m3 a).1 ha) id⟩
  ·obtain ⟨i,hi⟩:=List.getElem?_of_mem DQ
   rw [List.getElem?_modify] at hi
   cases xb:es[i]? with
   |none=>rw [xb] at hi;simp at hi
   |some y =>
    rw [xb] at hi
    simp only [Option.map_eq_map,Option.map_some,Option.some.injEq] at hi
    by_cases dh:j=i
    ·rw [if_pos dh] at hi;rw [← hi]
    ·rw [if_neg dh] at hi;rw [← hi];exact m4 y (List.mem_of_getElem? xb)
 ·have he:mS T t (.map (some A)) (kv a) (.agg ⟨[]⟩) (h1.lay bs w)=some ((h1.lay bs w).set A (.map (es++[{ key:=kv a,val:=.agg ⟨[]⟩,born:=cl }]) (cl+1))):=by
   unfold mS
   simp only [hd,hg,ZV hp a heq,if_true,f1 ha,Option.bind_some]
  rw [he]
  refine hK _ ⟨_,_,ks++[a],hh _,by simp [m2],fun b=>?_,fun x hx=>?_⟩ (hc _)
  ·rw [List.mem_append,List.mem_singleton,List.mem_cons,m3]
   exact Or.comm
  ·rcases List.mem_append.1 hx with hx|hx
   ·exact m4 x hx
   ·rw [List.mem_singleton.1 hx]
end
end Go.Am

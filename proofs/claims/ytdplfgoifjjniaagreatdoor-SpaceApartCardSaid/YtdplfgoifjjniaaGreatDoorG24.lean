/- What the arguments' cells are: calls of a space. Written out by fill2.py. No condition. -/
import Derived.Test.YtdplfgoifjjniaaGreatDoorG18
import Derived.Test.YtdplfgoifjjniaaGreatDoorG23
import Derived.Test.YtdplfgoifjjniaaGreatDoorG4
namespace Go.Proofs.YtdplfgoifjjniaaGreatDoor
open Go.Am
set_option linter.unusedSimpArgs false
set_option linter.unusedVariables false
set_option maxRecDepth 100000
theorem znA:Tryz.prog.cellsOf 57=13:=by kernel_rfl
theorem zAf {h:Heap} {n:Nat} {cs:List Value} (hs:Shp Tryz.prog h (n+6) 57 cs):∃ x,Rep.act.R h cs x:=by
 unfold Shp at hs
 rw [Tryz.underlying57] at hs
 obtain ⟨hl,hf⟩:=hs
 rw [znA] at hl
 have h0:Shp Tryz.prog h (n+5) 3 ((cs.drop 0).take 1):=hf 0 _ rfl
 have h1:Shp Tryz.prog h (n+5) 9 ((cs.drop 1).take 1):=hf 1 _ rfl
 have h2:Shp Tryz.prog h (n+5) 42 ((cs.drop 2).take 11):=hf 2 _ rfl
 obtain ⟨k,hk,_⟩:=ziZ h0
 obtain ⟨s,hs⟩:=zb9 h1
 obtain ⟨a,ha⟩:=zgm (n:=n+1) h2
 refine ⟨⟨k,s,a⟩,?_⟩
 rw [List.take_of_length_le (by simp;omega)] at ha
 match cs,hl with
 |x::y::r,_ =>
  simp only [List.drop_succ_cons,List.drop_zero,List.take_succ_cons,List.take_zero,List.cons.injEq,and_true] at hk hs ha
  rw [hk,hs,ha]
  rfl
theorem zv6 {h:Heap} {n:Nat} {v:Value} (hs:zeG Tryz.prog h (n+8) 48 v):∃ l,Sl Rep.act h v l:=by
 unfold zeG at hs
 rw [Tryz.underlying48] at hs
 exact zi3 (n:=n+7) Tryz.underlying48 znA (fun cs hc=>zAf (n:=n+1) hc) hs
end Go.Proofs.YtdplfgoifjjniaaGreatDoor
namespace Go.Am
variable {T:Tab} {fn:Func} {K:Value→Heap→Prop} {e:Env} {h:Heap}
theorem zeL (hr:fn.results=#[]):finE T fn K .ret e h=K undef h:=by
 simp [finE,za0,hr,undef]
theorem zc5 (hr:fn.results=#[]):finE T fn K .normal e h=K undef h:=by
 simp [finE,za0,hr,undef]
end Go.Am

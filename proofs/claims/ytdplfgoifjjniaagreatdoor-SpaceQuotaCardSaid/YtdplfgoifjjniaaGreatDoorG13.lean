/- Arguments that are slices, by what they hold. No condition. -/
import Derived.Test.YtdplfgoifjjniaaGreatDoorG7
import Derived.Test.YtdplfgoifjjniaaGreatDoorG12
import Derived.Test.YtdplfgoifjjniaaGreatDoorG10
set_option linter.unusedSimpArgs false
set_option linter.unusedVariables false
namespace Go.Proofs.YtdplfgoifjjniaaGreatDoor
open Go.Am
set_option maxRecDepth 100000
theorem zzi {h:Heap} {n:Nat} {cs:List Value} (hs:Shp Tryz.prog h (n+1) 3 cs):∃ b:Int,cs=[.int .i64 b]∧(Lit.int .i64 b).wf=true:=by
 unfold Shp at hs
 rw [Tryz.underlying3] at hs
 exact hs
theorem zrF {h:Heap} {n:Nat} {v:Value} (hs:zjL Tryz.prog h (n+1) 3 v):∃ b:Int,v=.int .i64 b∧(Lit.int .i64 b).wf=true:=by
 unfold zjL at hs
 rw [Tryz.underlying3] at hs
 obtain ⟨b,hb,hw⟩:=zzi hs
 simp only [List.cons.injEq,and_true] at hb
 exact ⟨b,hb,hw⟩
theorem zpO {P:Program} {h:Heap} {n:Nat} {ts us:List TypeId} {args:List Value} (e:ts=us) (hs:zdR P h n ts args):zdR P h n us args:=by
 subst e
 exact hs
theorem zhl {P:Program} {h:Heap} {n:Nat} {t:TypeId} {ts:List TypeId} {args:List Value} (hs:zdR P h n (t::ts) args):∃ v vs,args=v::vs∧zjL P h n t v∧zdR P h n ts vs:=by
 cases args with
 |nil=>exact absurd hs id
 |cons v vs=>exact ⟨v,vs,rfl,hs.1,hs.2⟩
theorem znu {P:Program} {h:Heap} {n:Nat} {args:List Value} (hs:zdR P h n [] args):args=[]:=by
 cases args with
 |nil=>rfl
 |cons v vs=>exact absurd hs id
end Go.Proofs.YtdplfgoifjjniaaGreatDoor
namespace Go.Am
variable {T:Tab} {fn:Func} {K:Value→Heap→Prop} {e:Env} {h:Heap}
theorem zeJ (hr:fn.results=#[]):finE T fn K .ret e h=K undef h:=by
 simp [finE,zaY,hr,undef]
theorem zc5 (hr:fn.results=#[]):finE T fn K .normal e h=K undef h:=by
 simp [finE,zaY,hr,undef]
end Go.Am

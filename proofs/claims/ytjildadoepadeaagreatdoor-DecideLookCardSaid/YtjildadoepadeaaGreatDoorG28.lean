/- slices.Insert over atoms, at this seat's program: what its text does, the builtin operations' runs being given. No condition. -/
import Derived.WalkKit
import Derived.Lib.Walk
import Derived.Lib.SliceRun
import Derived.Lib.AppendZeros
import Derived.Laws.Externs
import Derived.Laws.IdiomCopy
import Derived.Deep.RegionLaw
import Derived.OwnWalk
import Derived.Test.YtjildadoepadeaaGreatDoorZShelf
import Derived.Test.YtjildadoepadeaaGreatDoorG8
import Derived.Test.YtjildadoepadeaaGreatDoorG26
set_option linter.unusedSimpArgs false
set_option linter.unusedVariables false
namespace Go.Proofs
open Go.RowKit Go.Lib
variable {w':World} {v':Value} {o:Oper} {P:Program}
namespace YtjildadoepadeaaGreatDoor
theorem Zh (w:World) {a:Act} {K:Act->World->Prop} {Q:Exit->Act->World->Prop} (d s:Operand) (t t':TypeId)
 (ho:o.op=.call { callee:=.builtin .copy,args:=#[d,s],argTypes:=#[t,t'] }) (v u:Value) (hd:a.eval d=v) (hs:a.eval s=u) 
 (hr:(Builtin.copy_ #[t,t'] o.type #[v,u]).run P w=.ok v' w') (h:K (a.put o.dst v') w'):o.wp P a w K Q:=by
 unfold Oper.wp execOp
 simp only [ho,resolve,invoke,builtin,Sem.run_bind,Sem.run_pure,Result.andThen_ok,List.map_toArray,List.map_cons,List.map_nil,hd,hs,hr]
 exact h
theorem RD (w:World) {ops:Array Oper} {rest:List Oper} {a:Act} {Q:Exit->Act->World->Prop} (Li:o.guard=none) (d s:Operand) (t t':TypeId)
 (ho:o.op=.call { callee:=.builtin .copy,args:=#[d,s],argTypes:=#[t,t'] }) (v u:Value) (hd:a.eval d=v) (hs:a.eval s=u) 
 (hr:(Builtin.copy_ #[t,t'] o.type #[v,u]).run P w=.ok v' w') (h:wpList P ops Q rest (a.put o.dst v') w'):wpList P ops Q (o::rest) a w :=
 wpList_plain Li λ_ hK=>Zh w d s t t' ho v u hd hs hr (hK _ _ h)
theorem RM {ops:Array Oper} {a:Act} {w:World} {K:Act->World->Prop} {Q:Exit->Act->World->Prop} {E:Prop}
 (hg:o.guard=none) (d x:Operand) (dT sT:TypeId) (aG:o.op=Op.call { callee:=Callee.builtin Builtin.copy,args:=#[d,x],argTypes:=#[dT,sT] })
 (v u:Value) (hd:a.eval d=v) (hx:a.eval x=u) (hr:(Builtin.copy_ #[dT,sT] o.type #[v,u]).run P w=.ok v' w') (hK:K (a.put o.dst v') w') :
 if Region.wanted o (yielded ops a.tmps)=true then Oper.wp P o a w K Q else E:=by
 have hw:Region.wanted o (yielded ops a.tmps)=true:=by simp [Region.wanted,hg]
 rw [if_pos hw]
 unfold Oper.wp
 simp [execOp,aG,resolve,invoke,builtin,hd,hx,hr,Result.andThen]
 exact hK
set_option maxHeartbeats 4000000 in
set_option maxRecDepth 100000 in
theorem rK (a:Option Addr) (n c:Nat) (av:Option Addr) (cv:Nat) (w w':World) (r:Value) (pW:n<=c)
 (hr:∀ ty,(Builtin.append_ #[50,50] ty #[.slice a n c,.slice av 1 cv]).run Tryz.prog w=.ok r w') :
 Calls Tryz.prog 72 #[.slice a n c,.int .i64 n,.slice av 1 cv] w λe W=>e=.returned r/\W=w':=by
 have h1:(0:Int)<=(n:Int)/\(n:Int)<=(n:Int):=by omega
 cases a
 all_goals
  go_enter Tryz.func72,Tryz.ntmps72
  go_wp2_with (at_builtin;refine Lib.wpList_append_run _ rfl _ _ _ _ rfl _ _ rfl rfl _ _ (hr _) ?_)
  all_goals
   go_ret
   exact ⟨rfl,rfl⟩
set_option maxHeartbeats 4000000 in
set_option maxRecDepth 100000 in
theorem ph (b off n c i:Nat) (av:Option Addr) (cv:Nat) (w w1 w2:World) (x1 x2:Value) (hi:i < n) (eW:n+1<=c) (hc:c<=9223372036854775807)
 (lK:∀ lb cb,(callFunc 119 #[.slice av 1 cv,.slice (some ⟨b,off+(i+1)*11,none⟩) lb cb]).run Tryz.prog w=.ok (.value (.bool false)) w)
 (xF:∀ ty dc sc,(Builtin.copy_ #[50,50] ty #[.slice (some ⟨b,off+(i+1)*11,none⟩) (n - i) dc,.slice (some ⟨b,off+i*11,none⟩) (n+1 - i) sc]).run Tryz.prog w.drew=.ok x1 w1)
 (xG:∀ ty dc,(Builtin.copy_ #[50,50] ty #[.slice (some ⟨b,off+i*11,none⟩) (n+1 - i) dc,.slice av 1 cv]).run Tryz.prog w1=.ok x2 w2) :
 Calls Tryz.prog 72 #[.slice (some ⟨b,off,none⟩) n c,.int .i64 i,.slice av 1 cv] w λe W=>e=.returned (.slice (some ⟨b,off,none⟩) (n+1) c)/\W=w2:=by
 have pe:¬ ((i:Int)=(n:Int)):=by omega
 have rH:IntKind.i64.wrap ((i:Int)+1)=(i:Int)+1:=by rw [IntKind.wrap_i64];omega
 have Ad:IntKind.i64.wrap ((n:Int)+1)=(n:Int)+1:=by rw [IntKind.wrap_i64];omega
 have qM:(0:Int)<=(i:Int)+1:=by omega
 have aR:i<=n:=by omega
 have WB:((i:Int)+1).toNat=i+1:=by omega
 have qN:¬ (c=i+1):=by omega
 have xw:(i:Int)<=(n:Int)+1:=by omega
 have hb4:¬ (c=i):=by omega
 go_enter Tryz.func72,Tryz.ntmps72
 go_wp2_with (simp only [lK])
 go_region_law (refine RM rfl _ _ 50 50 rfl _ _ (by simp [Act.eval,Act.put]) (by simp [Act.eval,Act.put]) (xF _ _ _) ?_)
 go_wp2_with (at_builtin;refine RD _ rfl _ _ 50 50 rfl _ _ rfl rfl (xG _ _) ?_)
 go_ret
 exact ⟨rfl,rfl⟩
set_option maxHeartbeats 4000000 in
set_option maxRecDepth 100000 in
theorem pg (b off n c i nb g:Nat) (av:Option Addr) (cv:Nat) (w w1 w2 w3:World) (x1 x2:Value) (hi:i < n) (pW:n<=c) (eW:c < n+1) (hg:n+1<=g) (VQ:g<=9223372036854775807)
 (nj:∀ ty,(Builtin.append_ #[50,3] ty #[.slice (some ⟨b,off,none⟩) i c,.int .i64 ((n:Int)+1 - (i:Int))]).run Tryz.prog w=.ok (.slice (some ⟨nb,0,none⟩) (n+1) g) w1)
 (xF:∀ ty dc,(Builtin.copy_ #[50,50] ty #[.slice (some ⟨nb,i*11,none⟩) (n+1 - i) dc,.slice av 1 cv]).run Tryz.prog w1=.ok x1 w2)
 (xG:∀ ty dc sc,(Builtin.copy_ #[50,50] ty #[.slice (some ⟨nb,(i+1)*11,none⟩) (n - i) dc,.slice (some ⟨b,off+i*11,none⟩) (n - i) sc]).run Tryz.prog w2.drew=.ok x2 w3) :
 Calls Tryz.prog 72 #[.slice (some ⟨b,off,none⟩) n c,.int .i64 i,.slice av 1 cv] w λe W=>e=.returned (.slice (some ⟨nb,0,none⟩) (n+1) g)/\W=w3:=by
 have pe:¬ ((i:Int)=(n:Int)):=by omega
 have Af:(c:Int) < (n:Int)+1:=by omega
 have rH:IntKind.i64.wrap ((i:Int)+1)=(i:Int)+1:=by rw [IntKind.wrap_i64];omega
 have Ad:IntKind.i64.wrap ((n:Int)+1)=(n:Int)+1:=by rw [IntKind.wrap_i64];omega
 have qM:(0:Int)<=(i:Int)+1:=by omega
 have aR:i<=n:=by omega
 have WB:((i:Int)+1).toNat=i+1:=by omega
 have hGi:¬ (g=i):=by omega
 have Vp:¬ (g=i+1):=by omega
 have hci:¬ (c=i):=by omega
 have xw:(i:Int)<=(n:Int):=by omega
 go_enter Tryz.func72,Tryz.ntmps72
 go_wp2_with (first|(at_builtin;refine Lib.wpList_append_run _ rfl _ _ _ _ rfl _ _ rfl rfl _ _ (nj _) ?_)|(at_builtin;refine RD _ rfl _ _ 50 50 rfl _ _ rfl rfl (xF _ _) ?_))
 go_region_law (refine RM rfl _ _ 50 50 rfl _ _ (by simp [Act.eval,Act.put]) (by simp [Act.eval,Act.put]) (xG _ _ _) ?_)
 go_wp2
 go_ret
 exact ⟨rfl,rfl⟩
end YtjildadoepadeaaGreatDoor
end Go.Proofs
namespace Go.Proofs.YtjildadoepadeaaGreatDoor
open Go.RowKit Go.Am
theorem YX (x y:ai) (w:World) (h:(Extern.SlicesOverlaps.overlaps #[50,50] #[4] #[x,y]).run Tryz.prog w=.ok (.bool false) w):(callFunc 119 #[x,y]).run Tryz.prog w=.ok (.value (.bool false)) w:=by
 rw [run_callFunc_extern Tryz.func119 (by kernel_rfl) (by kernel_rfl) (by kernel_rfl) (e:=Extern.SlicesOverlaps.overlaps #[50,50] #[4]) (by kernel_rfl),h]
 rfl
theorem ztR:az.desc 50=some (.slice 41):=by kernel_rfl
theorem ztS:az.info 41=some (11,136,aw.cells):=by kernel_rfl
theorem Uy:wK Tryz.prog az.gs 72 (y8 az 50) :=
 zqB (k:=11) pD ztR ztS Tryz.underlying3 (uC pD zuE rfl) YX Go.Proofs.YtjildadoepadeaaGreatDoor.rK Go.Proofs.YtjildadoepadeaaGreatDoor.ph Go.Proofs.YtjildadoepadeaaGreatDoor.pg
noncomputable def Hq:Ov:=λf=>match f with
 |249=>some (y7 1 9)
 |219=>some I7
 |178=>some Ia
 |72=>some (y8 az 50)
 |_=>none
theorem UB:uV Tryz.prog az.gs Hq:=by
 intro f g hg
 unfold Hq at hg
 split at hg
 .cases hg
  exact SV (g:=1) (by decide) (uC pD Tv rfl) (λs w hs ha hc=>Any.strings_Fields_core Tryz.lays157 (by kernel_rfl) s w hs ha hc)
 .cases hg
  exact TU (uC pD Tu rfl) Tryz.strings_Join_none Tryz.strings_Join
 .cases hg
  exact St (uC pD Tt rfl) Tryz.strings_Compare
 .cases hg
  exact Uy
 .cases hg
theorem zqb:HW 2 (call Tryz.prog az Hq 200 (.func 5) [] (oB 1))=true:=by kernel_rfl
theorem zqa (w:World) (ht:∀ c,c < 256->w.cell? ⟨1,c,none⟩=some (.int .u8 (Lib.asciiSpaceTab.getD c 0))):Calls Tryz.prog 5 #[] w λe w'=>e=.returned (.bool true)/\Below w.heap.size w w':=SM mixed pD rfl UB rfl zqb w ht
theorem ZJ:HW 2 (call Tryz.prog az Hq 200 (.func 18) [] (oB 1))=true:=by kernel_rfl
theorem ZI (w:World) (ht:∀ c,c < 256->w.cell? ⟨1,c,none⟩=some (.int .u8 (Lib.asciiSpaceTab.getD c 0))):Calls Tryz.prog 18 #[] w λe w'=>e=.returned (.bool true)/\Below w.heap.size w w':=SM mixed pD rfl UB rfl ZJ w ht
noncomputable def ov:Ov:=λf=>match f with
 |249=>some (y7 1 9)
 |219=>some I7
 |178=>some Ia
 |72=>some (y8 az 50)
 |5=>some (zy 1)
 |18=>some (zy 1)
 |_=>none
theorem zyV:uV Tryz.prog az.gs ov:=by
 intro f g hg
 unfold ov at hg
 split at hg
 .cases hg
  exact SV (g:=1) (by decide) (uC pD Tv rfl) (λs w hs ha hc=>Any.strings_Fields_core Tryz.lays157 (by kernel_rfl) s w hs ha hc)
 .cases hg
  exact TU (uC pD Tu rfl) Tryz.strings_Join_none Tryz.strings_Join
 .cases hg
  exact St (uC pD Tt rfl) Tryz.strings_Compare
 .cases hg
  exact Uy
 .cases hg
  exact TD (g:=1) (by decide) (uC pD zwz rfl) zqa
 .cases hg
  exact TD (g:=1) (by decide) (uC pD zuD rfl) ZI
 .cases hg
end Go.Proofs.YtjildadoepadeaaGreatDoor
namespace Go.Proofs.YtjildadoepadeaaGreatDoor
open Go.Am Tryz
theorem Xj (h:Heap) (l:List bd) (w i o:Nat) (v:ai) (hi:i < l.length):gm az 3 (.pointer (some ⟨h.size+i,o,none⟩)) v (h.lay l w)=if v.cells.size=1 then oF l[i]? i o v.cells.toList h l w else none:=si ur h l w i o v hi
theorem yK (h:Heap) (l:List bd) (w i o:Nat) (v:ai) (hi:i < l.length):gm az 38 (.pointer (some ⟨h.size+i,o,none⟩)) v (h.lay l w)=if v.cells.size=2 then oF l[i]? i o v.cells.toList h l w else none:=si iD h l w i o v hi
theorem rV (h:Heap) (l:List bd) (w i o:Nat) (v:ai) (hi:i < l.length):gm az 41 (.pointer (some ⟨h.size+i,o,none⟩)) v (h.lay l w)=if v.cells.size=11 then oF l[i]? i o v.cells.toList h l w else none:=si dv h l w i o v hi
theorem Tj (a b:aH):bD prog az .eql 38 a.val b.val=some (.bool (decide (a=b))):=by
 have h1:bD prog az .eql 38 a.val b.val=(u6 a b).map λb=>.bool b:=by kernel_rfl
 rw [h1,Nr];rfl
theorem Nb (a b:aH):bD prog az .neq 38 a.val b.val=some (.bool (!decide (a=b))):=by
 have h1:bD prog az .neq 38 a.val b.val=(u6 a b).map λb=>.bool !b:=by kernel_rfl
 rw [h1,Nr];rfl
theorem ztw (p q:Bool):bD prog az .eql 4 (.bool p) (.bool q)=some (.bool (p == q)):=by cases p <;> cases q <;> kernel_rfl
theorem SD (v w:Bool) (s u:aA):bD prog az .neq 38 (.agg ⟨[.bool v,.string s]⟩) (.agg ⟨[.bool w,.string u]⟩)=some (.bool (!decide (aH.mk v s=aH.mk w u))):=Nb ⟨v,s⟩ ⟨w,u⟩
theorem RZ:mJ az 38 []=some (.agg ⟨[.bool false,.string ⟨#[]⟩]⟩):=by kernel_rfl
end Go.Proofs.YtjildadoepadeaaGreatDoor

/- slices.Insert over atoms, at this seat's program: what its text does, the builtin operations' runs being given. No condition. -/
import Derived.WalkKit
import Derived.Lib.Walk
import Derived.Lib.SliceRun
import Derived.Lib.AppendZeros
import Derived.Laws.Externs
import Derived.Laws.IdiomCopy
import Derived.Deep.RegionLaw
import Derived.OwnWalk
import Derived.Test.YtjildadoepadeaaGreatDoorG7
import Derived.Test.YtjildadoepadeaaGreatDoorZShelf
import Derived.Test.YtjildadoepadeaaGreatDoorG10
import Derived.Test.YtjildadoepadeaaGreatDoorGIns
import Derived.Test.YtjildadoepadeaaGreatDoorG12
set_option linter.unusedSimpArgs false
set_option linter.unusedVariables false
namespace Go.Proofs
open Go.RowKit Go.Lib
namespace YtjildadoepadeaaGreatDoor
theorem zf2 (w:World) {P:Program} {o:Oper} {a:Act} {K:Act->World->Prop} {Q:Exit->Act->World->Prop} (d s:Operand) (t t':TypeId)
 (ho:o.op=.call { callee:=.builtin .copy,args:=#[d,s],argTypes:=#[t,t'] }) (v u:Value) (hd:a.eval d=v) (hs:a.eval s=u) {v':Value} {w':World}
 (hr:(Builtin.copy_ #[t,t'] o.type #[v,u]).run P w=.ok v' w') (h:K (a.put o.dst v') w'):o.wp P a w K Q:=by
 unfold Oper.wp execOp
 simp only [ho,resolve,invoke,builtin,Sem.run_bind,Sem.run_pure,Result.andThen_ok,List.map_toArray,List.map_cons,List.map_nil,hd,hs,hr]
 exact h
theorem zbZ (w:World) {P:Program} {ops:Array Oper} {rest:List Oper} {o:Oper} {a:Act} {Q:Exit->Act->World->Prop} (hgd:o.guard=none) (d s:Operand) (t t':TypeId)
 (ho:o.op=.call { callee:=.builtin .copy,args:=#[d,s],argTypes:=#[t,t'] }) (v u:Value) (hd:a.eval d=v) (hs:a.eval s=u) {v':Value} {w':World}
 (hr:(Builtin.copy_ #[t,t'] o.type #[v,u]).run P w=.ok v' w') (h:wpList P ops Q rest (a.put o.dst v') w'):wpList P ops Q (o::rest) a w :=
 wpList_plain hgd λ_ hK=>zf2 w d s t t' ho v u hd hs hr (hK _ _ h)
theorem zcq {P:Program} {ops:Array Oper} {o:Oper} {a:Act} {w:World} {K:Act->World->Prop} {Q:Exit->Act->World->Prop} {E:Prop}
 (hg:o.guard=none) (d x:Operand) (dT sT:TypeId) (hop:o.op=Op.call { callee:=Callee.builtin Builtin.copy,args:=#[d,x],argTypes:=#[dT,sT] })
 (v u:Value) (hd:a.eval d=v) (hx:a.eval x=u) {v':Value} {w':World} (hr:(Builtin.copy_ #[dT,sT] o.type #[v,u]).run P w=.ok v' w') (hK:K (a.put o.dst v') w') :
 if Region.wanted o (yielded ops a.tmps)=true then Oper.wp P o a w K Q else E:=by
 have hw:Region.wanted o (yielded ops a.tmps)=true:=by simp [Region.wanted,hg]
 rw [if_pos hw]
 unfold Oper.wp
 simp [execOp,hop,resolve,invoke,builtin,hd,hx,hr,Result.andThen]
 exact hK
set_option maxHeartbeats 4000000 in
set_option maxRecDepth 100000 in
theorem insM_end (a:Option Addr) (n c:Nat) (av:Option Addr) (cv:Nat) (w w':World) (r:Value) (hnc:n<=c)
 (hr:∀ ty,(Builtin.append_ #[50,50] ty #[.slice a n c,.slice av 1 cv]).run Tryz.prog w=.ok r w') :
 Calls Tryz.prog 72 #[.slice a n c,.int .i64 n,.slice av 1 cv] w λe W=>e=.returned r/\W=w':=by
 have h1:(0:Int)<=(n:Int)/\(n:Int)<=(n:Int):=by omega
 cases a
 all_goals
  go_enter Tryz.func72,Tryz.ntmps72
  go_wp2_with (at_builtin;refine Lib.wpList_append_run _ rfl _ _ _ _ rfl _ _ rfl rfl _ _ (hr _) ?_)
  all_goals
   go_ret
   exact ⟨rfl,rfl⟩
set_option maxHeartbeats 4000000 in
set_option maxRecDepth 100000 in
theorem insM_room (b off n c i:Nat) (av:Option Addr) (cv:Nat) (w w1 w2:World) (x1 x2:Value) (hi:i < n) (hroom:n+1<=c) (hc:c<=9223372036854775807)
 (hov:∀ lb cb,(callFunc 119 #[.slice av 1 cv,.slice (some ⟨b,off+(i+1)*11,none⟩) lb cb]).run Tryz.prog w=.ok (.value (.bool false)) w)
 (hcp1:∀ ty dc sc,(Builtin.copy_ #[50,50] ty #[.slice (some ⟨b,off+(i+1)*11,none⟩) (n - i) dc,.slice (some ⟨b,off+i*11,none⟩) (n+1 - i) sc]).run Tryz.prog w.drew=.ok x1 w1)
 (hcp2:∀ ty dc,(Builtin.copy_ #[50,50] ty #[.slice (some ⟨b,off+i*11,none⟩) (n+1 - i) dc,.slice av 1 cv]).run Tryz.prog w1=.ok x2 w2) :
 Calls Tryz.prog 72 #[.slice (some ⟨b,off,none⟩) n c,.int .i64 i,.slice av 1 cv] w λe W=>e=.returned (.slice (some ⟨b,off,none⟩) (n+1) c)/\W=w2:=by
 have hz2:¬ ((i:Int)=(n:Int)):=by omega
 have hw1:IntKind.i64.wrap ((i:Int)+1)=(i:Int)+1:=by rw [IntKind.wrap_i64];omega
 have hw2:IntKind.i64.wrap ((n:Int)+1)=(n:Int)+1:=by rw [IntKind.wrap_i64];omega
 have hb1:(0:Int)<=(i:Int)+1:=by omega
 have hin:i<=n:=by omega
 have htn:((i:Int)+1).toNat=i+1:=by omega
 have hb2:¬ (c=i+1):=by omega
 have hb3:(i:Int)<=(n:Int)+1:=by omega
 have hb4:¬ (c=i):=by omega
 go_enter Tryz.func72,Tryz.ntmps72
 go_wp2_with (simp only [hov])
 go_region_law (refine zcq rfl _ _ 50 50 rfl _ _ (by simp [Act.eval,Act.put]) (by simp [Act.eval,Act.put]) (hcp1 _ _ _) ?_)
 go_wp2_with (at_builtin;refine zbZ _ rfl _ _ 50 50 rfl _ _ rfl rfl (hcp2 _ _) ?_)
 go_ret
 exact ⟨rfl,rfl⟩
set_option maxHeartbeats 4000000 in
set_option maxRecDepth 100000 in
theorem insM_grow (b off n c i nb g:Nat) (av:Option Addr) (cv:Nat) (w w1 w2 w3:World) (x1 x2:Value) (hi:i < n) (hnc:n<=c) (hroom:c < n+1) (hg:n+1<=g) (hg63:g<=9223372036854775807)
 (hap:∀ ty,(Builtin.append_ #[50,3] ty #[.slice (some ⟨b,off,none⟩) i c,.int .i64 ((n:Int)+1 - (i:Int))]).run Tryz.prog w=.ok (.slice (some ⟨nb,0,none⟩) (n+1) g) w1)
 (hcp1:∀ ty dc,(Builtin.copy_ #[50,50] ty #[.slice (some ⟨nb,i*11,none⟩) (n+1 - i) dc,.slice av 1 cv]).run Tryz.prog w1=.ok x1 w2)
 (hcp2:∀ ty dc sc,(Builtin.copy_ #[50,50] ty #[.slice (some ⟨nb,(i+1)*11,none⟩) (n - i) dc,.slice (some ⟨b,off+i*11,none⟩) (n - i) sc]).run Tryz.prog w2.drew=.ok x2 w3) :
 Calls Tryz.prog 72 #[.slice (some ⟨b,off,none⟩) n c,.int .i64 i,.slice av 1 cv] w λe W=>e=.returned (.slice (some ⟨nb,0,none⟩) (n+1) g)/\W=w3:=by
 have hz2:¬ ((i:Int)=(n:Int)):=by omega
 have hz3:(c:Int) < (n:Int)+1:=by omega
 have hw1:IntKind.i64.wrap ((i:Int)+1)=(i:Int)+1:=by rw [IntKind.wrap_i64];omega
 have hw2:IntKind.i64.wrap ((n:Int)+1)=(n:Int)+1:=by rw [IntKind.wrap_i64];omega
 have hb1:(0:Int)<=(i:Int)+1:=by omega
 have hin:i<=n:=by omega
 have htn:((i:Int)+1).toNat=i+1:=by omega
 have hGi:¬ (g=i):=by omega
 have hGim:¬ (g=i+1):=by omega
 have hci:¬ (c=i):=by omega
 have hb3:(i:Int)<=(n:Int):=by omega
 go_enter Tryz.func72,Tryz.ntmps72
 go_wp2_with (first|(at_builtin;refine Lib.wpList_append_run _ rfl _ _ _ _ rfl _ _ rfl rfl _ _ (hap _) ?_)|(at_builtin;refine zbZ _ rfl _ _ 50 50 rfl _ _ rfl rfl (hcp1 _ _) ?_))
 go_region_law (refine zcq rfl _ _ 50 50 rfl _ _ (by simp [Act.eval,Act.put]) (by simp [Act.eval,Act.put]) (hcp2 _ _ _) ?_)
 go_wp2
 go_ret
 exact ⟨rfl,rfl⟩
end YtjildadoepadeaaGreatDoor
end Go.Proofs
namespace Go.Proofs.YtjildadoepadeaaGreatDoor
open Go.RowKit Go.Am
theorem zfK (x y:Vly) (w:World) (h:(Extern.SlicesOverlaps.overlaps #[50,50] #[4] #[x,y]).run Tryz.prog w=.ok (.bool false) w):(callFunc 119 #[x,y]).run Tryz.prog w=.ok (.value (.bool false)) w:=by
 rw [run_callFunc_extern Tryz.func119 (by kernel_rfl) (by kernel_rfl) (by kernel_rfl) (e:=Extern.SlicesOverlaps.overlaps #[50,50] #[4]) (by kernel_rfl),h]
 rfl
theorem zhA:tab.desc 50=some (.slice 41):=by kernel_rfl
theorem zhB:tab.info 41=some (11,136,noAtomD.cells):=by kernel_rfl
theorem zhL:Ov1 Tryz.prog tab.gs 72 (zcv tab 50) :=
 zgZ (k:=11) zaD zhA zhB Tryz.underlying3 (zaT zaD zhF rfl) zfK Go.Proofs.YtjildadoepadeaaGreatDoor.insM_end Go.Proofs.YtjildadoepadeaaGreatDoor.insM_room Go.Proofs.YtjildadoepadeaaGreatDoor.insM_grow
noncomputable def ov0:Ov:=λf=>match f with
 |249=>some (ze1 1 9)
 |219=>some zhC
 |178=>some zdh
 |72=>some (zcv tab 50)
 |_=>none
theorem zhN:OvS Tryz.prog tab.gs ov0:=by
 intro f g hg
 unfold ov0 at hg
 split at hg
 .cases hg
  exact zeK (g:=1) (by decide) (zaT zaD zf0 rfl) (λs w hs ha hc=>Any.strings_Fields_core Tryz.lays157 (by kernel_rfl) s w hs ha hc)
 .cases hg
  exact zgB (zaT zaD zfZ rfl) Tryz.strings_Join_none Tryz.strings_Join
 .cases hg
  exact zdD (zaT zaD zfY rfl) Tryz.strings_Compare
 .cases hg
  exact zhL
 .cases hg
theorem zgW:zcF 2 (call Tryz.prog tab ov0 200 (.func 5) [] (zaH 1))=true:=by kernel_rfl
theorem zgV (w:World) (ht:∀ c,c < 256->w.cell? ⟨1,c,none⟩=some (.int .u8 (Lib.asciiSpaceTab.getD c 0))):Calls Tryz.prog 5 #[] w λe w'=>e=.returned (.bool true)/\Below w.heap.size w w':=zea mixed zaD rfl zhN rfl zgW w ht
theorem zgn:zcF 2 (call Tryz.prog tab ov0 200 (.func 18) [] (zaH 1))=true:=by kernel_rfl
theorem zgm (w:World) (ht:∀ c,c < 256->w.cell? ⟨1,c,none⟩=some (.int .u8 (Lib.asciiSpaceTab.getD c 0))):Calls Tryz.prog 18 #[] w λe w'=>e=.returned (.bool true)/\Below w.heap.size w w':=zea mixed zaD rfl zhN rfl zgn w ht
noncomputable def ov:Ov:=λf=>match f with
 |249=>some (ze1 1 9)
 |219=>some zhC
 |178=>some zdh
 |72=>some (zcv tab 50)
 |5=>some (zhG 1)
 |18=>some (zhG 1)
 |_=>none
theorem ziF:OvS Tryz.prog tab.gs ov:=by
 intro f g hg
 unfold ov at hg
 split at hg
 .cases hg
  exact zeK (g:=1) (by decide) (zaT zaD zf0 rfl) (λs w hs ha hc=>Any.strings_Fields_core Tryz.lays157 (by kernel_rfl) s w hs ha hc)
 .cases hg
  exact zgB (zaT zaD zfZ rfl) Tryz.strings_Join_none Tryz.strings_Join
 .cases hg
  exact zdD (zaT zaD zfY rfl) Tryz.strings_Compare
 .cases hg
  exact zhL
 .cases hg
  exact zfP (g:=1) (by decide) (zaT zaD zii rfl) zgV
 .cases hg
  exact zfP (g:=1) (by decide) (zaT zaD zhE rfl) zgm
 .cases hg
end Go.Proofs.YtjildadoepadeaaGreatDoor
namespace Go.Proofs.YtjildadoepadeaaGreatDoor
open Go.Am Tryz
set_option maxRecDepth 100000
theorem zet:zgi prog tab ov 100000 200 (.func 3) [] (zaH 1) (zb8 2)=true:=by kernel_rfl
end Go.Proofs.YtjildadoepadeaaGreatDoor

/- slices.Insert over atoms, at this seat's program: what its text does, the builtin operations' runs being given. No condition. -/
import Derived.WalkKit
import Derived.Lib.Walk
import Derived.Lib.SliceRun
import Derived.Lib.AppendZeros
import Derived.Laws.Externs
import Derived.Laws.IdiomCopy
import Derived.Deep.RegionLaw
import Derived.OwnWalk
import Derived.Test.YtdplfgoifjjniaaGreatDoorZShelf
import Derived.Test.YtdplfgoifjjniaaGreatDoorG9
import Derived.Test.YtdplfgoifjjniaaGreatDoorGIns
import Derived.Test.YtdplfgoifjjniaaGreatDoorG14
set_option linter.unusedSimpArgs false
set_option linter.unusedVariables false
namespace Go.Proofs
open Go.RowKit Go.Lib
namespace YtdplfgoifjjniaaGreatDoor
theorem znp (w:World) {P:Program} {o:Oper} {a:Act} {K:Act→World→Prop} {Q:Exit→Act→World→Prop} (d s:Operand) (t t':TypeId)
 (ho:o.op=.call { callee:=.builtin .copy,args:=#[d,s],argTypes:=#[t,t'] }) (v u:Value) (hd:a.eval d=v) (hs:a.eval s=u) {v':Value} {w':World}
 (hr:(Builtin.copy_ #[t,t'] o.type #[v,u]).run P w=.ok v' w') (h:K (a.put o.dst v') w'):o.wp P a w K Q:=by
 unfold Oper.wp execOp
 simp only [ho,resolve,invoke,builtin,Sem.run_bind,Sem.run_pure,Result.andThen_ok,List.map_toArray,List.map_cons,List.map_nil,hd,hs,hr]
 exact h
theorem zeP (w:World) {P:Program} {ops:Array Oper} {rest:List Oper} {o:Oper} {a:Act} {Q:Exit→Act→World→Prop} (hgd:o.guard=none) (d s:Operand) (t t':TypeId)
 (ho:o.op=.call { callee:=.builtin .copy,args:=#[d,s],argTypes:=#[t,t'] }) (v u:Value) (hd:a.eval d=v) (hs:a.eval s=u) {v':Value} {w':World}
 (hr:(Builtin.copy_ #[t,t'] o.type #[v,u]).run P w=.ok v' w') (h:wpList P ops Q rest (a.put o.dst v') w'):wpList P ops Q (o::rest) a w :=
 wpList_plain hgd fun _ hK=>znp w d s t t' ho v u hd hs hr (hK _ _ h)
theorem zfS {P:Program} {ops:Array Oper} {o:Oper} {a:Act} {w:World} {K:Act→World→Prop} {Q:Exit→Act→World→Prop} {E:Prop}
 (hg:o.guard=none) (d x:Operand) (dT sT:TypeId) (hop:o.op=Op.call { callee:=Callee.builtin Builtin.copy,args:=#[d,x],argTypes:=#[dT,sT] })
 (v u:Value) (hd:a.eval d=v) (hx:a.eval x=u) {v':Value} {w':World} (hr:(Builtin.copy_ #[dT,sT] o.type #[v,u]).run P w=.ok v' w') (hK:K (a.put o.dst v') w') :
 if Region.wanted o (yielded ops a.tmps)=true then Oper.wp P o a w K Q else E:=by
 have hw:Region.wanted o (yielded ops a.tmps)=true:=by simp [Region.wanted,hg]
 rw [if_pos hw]
 unfold Oper.wp
 simp [execOp,hop,resolve,invoke,builtin,hd,hx,hr,Result.andThen]
 exact hK
set_option maxHeartbeats 4000000 in
set_option maxRecDepth 100000 in
theorem insM_end (a:Option Addr) (n c:Nat) (av:Option Addr) (cv:Nat) (w w':World) (r:Value) (hnc:n≤c)
 (hr:∀ ty,(Builtin.append_ #[52,52] ty #[.slice a n c,.slice av 1 cv]).run Tryz.prog w=.ok r w') :
 Calls Tryz.prog 63 #[.slice a n c,.int .i64 n,.slice av 1 cv] w fun e W=>e=.returned r∧W=w':=by
 have h1:(0:Int)≤(n:Int)∧(n:Int)≤(n:Int):=by omega
 cases a
 all_goals
  go_enter Tryz.func63,Tryz.ntmps63
  go_wp2_with (at_builtin;refine Lib.wpList_append_run _ rfl _ _ _ _ rfl _ _ rfl rfl _ _ (hr _) ?_)
  all_goals
   go_ret
   exact ⟨rfl,rfl⟩
set_option maxHeartbeats 4000000 in
set_option maxRecDepth 100000 in
theorem insM_room (b off n c i:Nat) (av:Option Addr) (cv:Nat) (w w1 w2:World) (x1 x2:Value) (hi:i < n) (hroom:n+1≤c) (hc:c≤9223372036854775807)
 (hov:∀ lb cb,(callFunc 96 #[.slice av 1 cv,.slice (some ⟨b,off+(i+1)*11,none⟩) lb cb]).run Tryz.prog w=.ok (.value (.bool false)) w)
 (hcp1:∀ ty dc sc,(Builtin.copy_ #[52,52] ty #[.slice (some ⟨b,off+(i+1)*11,none⟩) (n - i) dc,.slice (some ⟨b,off+i*11,none⟩) (n+1 - i) sc]).run Tryz.prog w.drew=.ok x1 w1)
 (hcp2:∀ ty dc,(Builtin.copy_ #[52,52] ty #[.slice (some ⟨b,off+i*11,none⟩) (n+1 - i) dc,.slice av 1 cv]).run Tryz.prog w1=.ok x2 w2) :
 Calls Tryz.prog 63 #[.slice (some ⟨b,off,none⟩) n c,.int .i64 i,.slice av 1 cv] w fun e W=>e=.returned (.slice (some ⟨b,off,none⟩) (n+1) c)∧W=w2:=by
 have hz2:¬ ((i:Int)=(n:Int)):=by omega
 have hw1:IntKind.i64.wrap ((i:Int)+1)=(i:Int)+1:=by rw [IntKind.wrap_i64];omega
 have hw2:IntKind.i64.wrap ((n:Int)+1)=(n:Int)+1:=by rw [IntKind.wrap_i64];omega
 have hb1:(0:Int)≤(i:Int)+1:=by omega
 have hin:i≤n:=by omega
 have htn:((i:Int)+1).toNat=i+1:=by omega
 have hb2:¬ (c=i+1):=by omega
 have hb3:(i:Int)≤(n:Int)+1:=by omega
 have hb4:¬ (c=i):=by omega
 go_enter Tryz.func63,Tryz.ntmps63
 go_wp2_with (simp only [hov])
 go_region_law (refine zfS rfl _ _ 52 52 rfl _ _ (by simp [Act.eval,Act.put]) (by simp [Act.eval,Act.put]) (hcp1 _ _ _) ?_)
 go_wp2_with (at_builtin;refine zeP _ rfl _ _ 52 52 rfl _ _ rfl rfl (hcp2 _ _) ?_)
 go_ret
 exact ⟨rfl,rfl⟩
set_option maxHeartbeats 4000000 in
set_option maxRecDepth 100000 in
theorem insM_grow (b off n c i nb g:Nat) (av:Option Addr) (cv:Nat) (w w1 w2 w3:World) (x1 x2:Value) (hi:i < n) (hnc:n≤c) (hroom:c < n+1) (hg:n+1≤g) (hg63:g≤9223372036854775807)
 (hap:∀ ty,(Builtin.append_ #[52,3] ty #[.slice (some ⟨b,off,none⟩) i c,.int .i64 ((n:Int)+1 - (i:Int))]).run Tryz.prog w=.ok (.slice (some ⟨nb,0,none⟩) (n+1) g) w1)
 (hcp1:∀ ty dc,(Builtin.copy_ #[52,52] ty #[.slice (some ⟨nb,i*11,none⟩) (n+1 - i) dc,.slice av 1 cv]).run Tryz.prog w1=.ok x1 w2)
 (hcp2:∀ ty dc sc,(Builtin.copy_ #[52,52] ty #[.slice (some ⟨nb,(i+1)*11,none⟩) (n - i) dc,.slice (some ⟨b,off+i*11,none⟩) (n - i) sc]).run Tryz.prog w2.drew=.ok x2 w3) :
 Calls Tryz.prog 63 #[.slice (some ⟨b,off,none⟩) n c,.int .i64 i,.slice av 1 cv] w fun e W=>e=.returned (.slice (some ⟨nb,0,none⟩) (n+1) g)∧W=w3:=by
 have hz2:¬ ((i:Int)=(n:Int)):=by omega
 have hz3:(c:Int) < (n:Int)+1:=by omega
 have hw1:IntKind.i64.wrap ((i:Int)+1)=(i:Int)+1:=by rw [IntKind.wrap_i64];omega
 have hw2:IntKind.i64.wrap ((n:Int)+1)=(n:Int)+1:=by rw [IntKind.wrap_i64];omega
 have hb1:(0:Int)≤(i:Int)+1:=by omega
 have hin:i≤n:=by omega
 have htn:((i:Int)+1).toNat=i+1:=by omega
 have hGi:¬ (g=i):=by omega
 have hGim:¬ (g=i+1):=by omega
 have hci:¬ (c=i):=by omega
 have hb3:(i:Int)≤(n:Int):=by omega
 go_enter Tryz.func63,Tryz.ntmps63
 go_wp2_with (first|(at_builtin;refine Lib.wpList_append_run _ rfl _ _ _ _ rfl _ _ rfl rfl _ _ (hap _) ?_)|(at_builtin;refine zeP _ rfl _ _ 52 52 rfl _ _ rfl rfl (hcp1 _ _) ?_))
 go_region_law (refine zfS rfl _ _ 52 52 rfl _ _ (by simp [Act.eval,Act.put]) (by simp [Act.eval,Act.put]) (hcp2 _ _ _) ?_)
 go_wp2
 go_ret
 exact ⟨rfl,rfl⟩
end YtdplfgoifjjniaaGreatDoor
end Go.Proofs
namespace Go.Proofs.YtdplfgoifjjniaaGreatDoor
open Go.RowKit Go.Am
theorem zml (x y:Value) (w:World) (h:(Extern.SlicesOverlaps.overlaps #[52,52] #[4] #[x,y]).run Tryz.prog w=.ok (.bool false) w):(callFunc 96 #[x,y]).run Tryz.prog w=.ok (.value (.bool false)) w:=by
 rw [run_callFunc_extern Tryz.func96 (by kernel_rfl) (by kernel_rfl) (by kernel_rfl) (e:=Extern.SlicesOverlaps.overlaps #[52,52] #[4]) (by kernel_rfl),h]
 rfl
theorem zpk:tab.desc 52=some (.slice 42):=by kernel_rfl
theorem zkY:tab.info 42=some (11,136,noAtomD.cells):=by kernel_rfl
theorem zxH:Ov1 Tryz.prog tab.gs 63 (zcx tab 52) :=
 zqO (k:=11) zcH zpk zkY Tryz.underlying3 (zc1 zcH zwA rfl) zml Go.Proofs.YtdplfgoifjjniaaGreatDoor.insM_end Go.Proofs.YtdplfgoifjjniaaGreatDoor.insM_room Go.Proofs.YtdplfgoifjjniaaGreatDoor.insM_grow
noncomputable def ov0:Ov:=fun f=>match f with
 |149=>some (zf1 1 9)
 |144=>some zoc
 |127=>some zgi
 |63=>some (zcx tab 52)
 |_=>none
theorem zAN:OvS Tryz.prog tab.gs ov0:=by
 intro f g hg
 unfold ov0 at hg
 split at hg
 ·cases hg
  exact zj9 (g:=1) (by decide) (zc1 zcH zne rfl) (fun s w hs ha hc=>Any.strings_Fields_core Tryz.lays157 (by kernel_rfl) s w hs ha hc)
 ·cases hg
  exact zpt (zc1 zcH znd rfl) Tryz.strings_Join_none Tryz.strings_Join
 ·cases hg
  exact ziB (zc1 zcH zna rfl) Tryz.strings_Compare
 ·cases hg
  exact zxH
 ·cases hg
theorem zql:zn5 Tryz.prog tab ov0 100000 200 (.func 7) [] (zbD 1) (zio 2)=true:=by kernel_rfl
theorem zqk (w:World) (ht:∀ c,c < 256→w.cell? ⟨1,c,none⟩=some (.int .u8 (Lib.asciiSpaceTab.getD c 0))):Calls Tryz.prog 7 #[] w fun e w'=>e=.returned (.bool true)∧Below w.heap.size w w':=zq4 mixed zcH rfl zAN rfl zql w ht
noncomputable def ov:Ov:=fun f=>match f with
 |149=>some (zf1 1 9)
 |144=>some zoc
 |127=>some zgi
 |63=>some (zcx tab 52)
 |7=>some (zrk 1)
 |_=>none
theorem zEh:OvS Tryz.prog tab.gs ov:=by
 intro f g hg
 unfold ov at hg
 split at hg
 ·cases hg
  exact zj9 (g:=1) (by decide) (zc1 zcH zne rfl) (fun s w hs ha hc=>Any.strings_Fields_core Tryz.lays157 (by kernel_rfl) s w hs ha hc)
 ·cases hg
  exact zpt (zc1 zcH znd rfl) Tryz.strings_Join_none Tryz.strings_Join
 ·cases hg
  exact ziB (zc1 zcH zna rfl) Tryz.strings_Compare
 ·cases hg
  exact zxH
 ·cases hg
  exact ztd (g:=1) (by decide) (zc1 zcH zzw rfl) zqk
 ·cases hg
end Go.Proofs.YtdplfgoifjjniaaGreatDoor
namespace Go.Proofs.YtdplfgoifjjniaaGreatDoor
open Go.Am
theorem st4 (h:Heap) (l:List Blk) (w i o:Nat) (v:Value) (hi:i < l.length):zaZ tab 4 (.pointer (some ⟨h.size+i,o,none⟩)) v (h.lay l w)=if v.cells.size=1 then zee l[i]? i o v.cells.toList h l w else none:=zfR sz4 h l w i o v hi
theorem st3 (h:Heap) (l:List Blk) (w i o:Nat) (v:Value) (hi:i < l.length):zaZ tab 3 (.pointer (some ⟨h.size+i,o,none⟩)) v (h.lay l w)=if v.cells.size=1 then zee l[i]? i o v.cells.toList h l w else none:=zfR sz3 h l w i o v hi
theorem st9 (h:Heap) (l:List Blk) (w i o:Nat) (v:Value) (hi:i < l.length):zaZ tab 9 (.pointer (some ⟨h.size+i,o,none⟩)) v (h.lay l w)=if v.cells.size=1 then zee l[i]? i o v.cells.toList h l w else none:=zfR sz9 h l w i o v hi
theorem st39 (h:Heap) (l:List Blk) (w i o:Nat) (v:Value) (hi:i < l.length):zaZ tab 39 (.pointer (some ⟨h.size+i,o,none⟩)) v (h.lay l w)=if v.cells.size=2 then zee l[i]? i o v.cells.toList h l w else none:=zfR sz39 h l w i o v hi
theorem st42 (h:Heap) (l:List Blk) (w i o:Nat) (v:Value) (hi:i < l.length):zaZ tab 42 (.pointer (some ⟨h.size+i,o,none⟩)) v (h.lay l w)=if v.cells.size=11 then zee l[i]? i o v.cells.toList h l w else none:=zfR sz42 h l w i o v hi
theorem zrO (a b:TermD):binA Tryz.prog tab .neq 39 a.val b.val=some (.bool (!decide (a=b))):=by
 have h1:binA Tryz.prog tab .neq 39 a.val b.val=(eqT a b).map fun b=>.bool !b:=by kernel_rfl
 rw [h1,zu1];rfl
theorem zo7 (p q:Bool):binA Tryz.prog tab .eql 4 (.bool p) (.bool q)=some (.bool (p == q)):=by cases p <;> cases q <;> kernel_rfl
theorem zeX {t:TypeId} {a b:ByteArray} {h:Heap} {K:Value→Heap→Prop} (hs:a.size+b.size≤9223372036854775807) (hk:∀ S:ByteArray,S=a++b→S.size=a.size+b.size→K (.string S) h):valE (binA Tryz.prog tab .add t (.string a) (.string b)) h K:=by
 rw [zkA hs];exact hk _ rfl (ByteArray.size_append)
theorem zpR (v w:Bool) (s u:ByteArray):binA Tryz.prog tab .neq 39 (.agg ⟨[.bool v,.string s]⟩) (.agg ⟨[.bool w,.string u]⟩)=some (.bool (!decide (TermD.mk v s=TermD.mk w u))):=zrO ⟨v,s⟩ ⟨w,u⟩
theorem znB:zbZ tab 39 []=some (.agg ⟨[.bool false,.string ⟨#[]⟩]⟩):=by kernel_rfl
theorem zA0:zed tab 52 52=true:=by kernel_rfl
end Go.Proofs.YtdplfgoifjjniaaGreatDoor
namespace Go.Am
theorem zn8 (b:Bool):zgp undef b=false:=rfl
theorem zvR (e:Env) (d:Nat) (v:Value):put e (some d) v=Env.set e d v:=rfl
theorem zvQ (e:Env) (v:Value):put e none v=e:=rfl
theorem zvd (v:Value) (r:Env):Env.get (v::r) 0=v:=rfl
theorem zvc (v:Value) (r:Env) (n:Nat):Env.get (v::r) (n+1)=Env.get r n:=rfl
theorem zvY (x v:Value) (r:Env):Env.set (x::r) 0 v=v::r:=rfl
theorem zvX (x v:Value) (r:Env) (n:Nat):Env.set (x::r) (n+1) v=x::Env.set r n v:=rfl
theorem zAd (e:Env) (t:Nat):zab e (.tmp t)=e.get t:=rfl
theorem zu2 (e:Env) (v:Value):zab e (.const v)=v:=rfl
theorem zr4 (e:Env) (g:Nat):zab e (.global g)=.pointer (some ⟨g,0,none⟩):=rfl
theorem zyt (e:Env) (f:FuncId):zab e (.func f)=.func (.func f) #[] #[]:=rfl
theorem zpW (b:Bool):(Value.bool b).cells=#[.bool b]:=rfl
theorem zrT (k:IntKind) (i:Int):(Value.int k i).cells=#[.int k i]:=rfl
theorem zlP (s:ByteArray):(Value.string s).cells=#[.string s]:=rfl
theorem znE (a:Option Addr) (n c:Nat):(Value.slice a n c).cells=#[.slice a n c]:=rfl
theorem zkH (a:Option Addr):(Value.pointer a).cells=#[.pointer a]:=rfl
theorem zrU (a:Option Nat):(Value.map a).cells=#[.map a]:=rfl
theorem zpX (f:Fn) (a b:Array Value):(Value.func f a b).cells=#[.func f a b]:=rfl
theorem znD (t:TypeId) (v:Value):(Value.iface t v).cells=#[.iface t v]:=rfl
theorem zrS (cs:Array Value):(Value.agg cs).cells=cs:=rfl
theorem zuH (z:List Value) (n:Nat):zbo z n=(List.replicate n z).flatten:=rfl
theorem zq5 (cs:List Value) (o:Nat) (vs:List Value):splice cs o vs=cs.take o++vs++cs.drop (o+vs.length):=rfl
theorem zyl (cs:List Value) (o n:Nat):cut cs o n=if o+n≤cs.length then some ((cs.drop o).take n) else none:=rfl
def jr (J:Nat→Value):Nat→Nat→Env→Env
 |_,0,r=>r
 |a,n+1,r=>J a::jr J (a+1) n r
theorem zyT (J:Nat→Value) (a:Nat) (r:Env):jr J a 0 r=r:=rfl
theorem zyS (J:Nat→Value) (a n:Nat) (r:Env):jr J a (n+1) r=J a::jr J (a+1) n r:=rfl
noncomputable def ysymx:=PLift.up (And.intro @zyT <| And.intro @zyS <| And.intro @zn8 <| And.intro @zvR <| And.intro @zvQ <| And.intro @zvd <| And.intro @zvc <| And.intro @zvY <| And.intro @zvX <| And.intro @zAd <| And.intro @zu2 <| And.intro @zr4 <| And.intro @zyt <| And.intro @zpW <| And.intro @zrT <| And.intro @zlP <| And.intro @znE <| And.intro @zkH <| And.intro @zrU <| And.intro @zpX <| And.intro @znD <| And.intro @zrS <| And.intro @zuH <| And.intro @zq5 <| And.intro @zyl <| And.intro @Option.map_some.{0,0} <| And.intro @Option.bind_some.{0,0} <| And.intro @List.length_cons.{0} <| And.intro @List.length_nil.{0} <| And.intro @List.cons_append.{0} <| And.intro @List.nil_append.{0} <| And.intro @List.getElem?_cons_zero.{0} <| And.intro @List.getElem?_cons_succ.{0} <| And.intro @decide_true <| And.intro @decide_false <| And.intro @Int.cast_ofNat_Int <| And.intro @Int.zero_le_ofNat <| And.intro @Int.le_refl <| And.intro @and_self <| And.intro @and_true <| And.intro @true_and <| And.intro @if_true.{1} <| And.intro @if_false.{1} <| And.intro @Nat.zero_add <| And.intro @Bool.not_true <| And.intro @Bool.not_false <| And.intro @Int.toNat_natCast <| And.intro @zsn <| And.intro @zso <| And.intro @List.replicate_zero.{0} <| And.intro @List.replicate_succ.{0} <| And.intro @List.flatten_cons.{0} <| And.intro @List.flatten_nil.{0} <| And.intro @List.take_succ_cons.{0} <| And.intro @List.take_zero.{0} <| And.intro @List.drop_succ_cons.{0} <| And.intro @List.drop_zero.{0} <| And.intro @List.append_nil.{0} <| And.intro @Bool.or_self <| And.intro @Bool.false_eq_true <| And.intro @beq_self_eq_true.{0} <| And.intro @List.size_toArray.{0} <| And.intro @List.append_assoc.{0} <| And.intro @zx9 <| And.intro @zya <| And.intro @zqp <| And.intro @zsD <| And.intro @zrB <| And.intro @znt <| And.intro @zlD <| And.intro @zkx <| And.intro @zlB <| And.intro @zlC <| And.intro @zm7 <| And.intro @zoJ <| And.intro @zoK <| And.intro @zry <| And.intro @zan <| @zad)
theorem symx:type_of% ysymx.down:=ysymx.down
end Go.Am

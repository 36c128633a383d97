/- The code of some functions, node by node, for simp. Written by a program (mkcode.py). No condition. -/
import Derived.Test.YtdplfgoifjjniaaGreatDoorG27
import Derived.Test.YtdplfgoifjjniaaGreatDoorG25
import Derived.KernelRfl
import Derived.Test.YtdplfgoifjjniaaGreatDoorG37
import Derived.Test.YtdplfgoifjjniaaGreatDoorG19
import Derived.Test.YtdplfgoifjjniaaGreatDoorG31
namespace Go.Proofs.YtdplfgoifjjniaaGreatDoor
open Go.Am
set_option linter.unusedVariables false
set_option linter.unusedSimpArgs false
set_option maxRecDepth 100000
set_option maxHeartbeats 0
noncomputable def N77:=zaz Tryz.f77
noncomputable def x77:=PLift.up (by have c:=zah N77 Tryz.f77;simp only [zan,Tryz.f77,Option.getD_some,zaj,opsF,opsX,zag,zaA,dstL,zak,List.append_eq,List.cons_append,List.nil_append,seval] at c;exact nd c <| nd @zF4 <| nd @zFn <| nd @zGm <| @fi77)
theorem c77:type_of% x77.down:=x77.down
noncomputable def N78:=zaz Tryz.f78
noncomputable def x78:=PLift.up (by have c:=zah N78 Tryz.f78;simp only [zan,Tryz.f78,Option.getD_some,zaj,opsF,opsX,zag,zaA,dstL,zak,List.append_eq,List.cons_append,List.nil_append,seval] at c;exact nd c <| @fi78)
theorem c78:type_of% x78.down:=x78.down
noncomputable def N107:=zaz Tryz.f107
noncomputable def x107:=PLift.up (by have c:=zah N107 Tryz.f107;simp only [zan,Tryz.f107,Option.getD_some,zaj,opsF,opsX,zag,zaA,dstL,zak,List.append_eq,List.cons_append,List.nil_append,seval] at c;exact nd c <| nd @ld33 <| nd @ld4 <| @zGF)
theorem c107:type_of% x107.down:=x107.down
noncomputable def N81:=zaz Tryz.f81
noncomputable def x81:=PLift.up (by have c:=zah N81 Tryz.f81;simp only [zan,Tryz.f81,Option.getD_some,zaj,opsF,opsX,zag,zaA,dstL,zak,List.append_eq,List.cons_append,List.nil_append,seval] at c;exact nd c <| nd @zki <| nd @ld23 <| @fi81)
theorem c81:type_of% x81.down:=x81.down
noncomputable def N118:=zaz Tryz.f118
noncomputable def x118:=PLift.up (by have c:=zah N118 Tryz.f118;simp only [zan,Tryz.f118,Option.getD_some,zaj,opsF,opsX,zag,zaA,dstL,zak,List.append_eq,List.cons_append,List.nil_append,seval] at c;exact nd c <| nd @al67 <| nd @zpq <| nd @zpV <| nd @zzK <| nd @ix24 <| nd @ld24 <| nd @ld3 <| nd @ld67 <| nd @ld9 <| nd @ln24 <| @zEm)
theorem c118:type_of% x118.down:=x118.down
noncomputable def N90:=zaz Tryz.f90
noncomputable def x90:=PLift.up (by have c:=zah N90 Tryz.f90;simp only [zan,Tryz.f90,Option.getD_some,zaj,opsF,opsX,zag,zaA,dstL,zak,List.append_eq,List.cons_append,List.nil_append,seval] at c;exact nd c <| nd @zly <| nd @zgz <| nd @zpL <| nd @zth <| nd @ld29 <| nd @ld3 <| nd @ld9 <| @fi90)
theorem c90:type_of% x90.down:=x90.down
noncomputable def N119:=zaz Tryz.f119
noncomputable def x119:=PLift.up (by have c:=zah N119 Tryz.f119;simp only [zan,Tryz.f119,Option.getD_some,zaj,opsF,opsX,zag,zaA,dstL,zak,List.append_eq,List.cons_append,List.nil_append,seval] at c;exact nd c <| nd @ld42 <| @zEN)
theorem c119:type_of% x119.down:=x119.down
noncomputable def N60:=zaz Tryz.f60
noncomputable def x60:=PLift.up (by have c:=zah N60 Tryz.f60;simp only [zan,Tryz.f60,Option.getD_some,zaj,opsF,opsX,zag,zaA,dstL,zak,List.append_eq,List.cons_append,List.nil_append,seval] at c;exact nd c <| nd @zly <| nd @zgz <| nd @ld29 <| nd @ld42 <| nd @ld9 <| @fi60)
theorem c60:type_of% x60.down:=x60.down
noncomputable def N89:=zaz Tryz.f89
noncomputable def x89:=PLift.up (by have c:=zah N89 Tryz.f89;simp only [zan,Tryz.f89,Option.getD_some,zaj,opsF,opsX,zag,zaA,dstL,zak,List.append_eq,List.cons_append,List.nil_append,seval] at c;exact nd c <| nd @ld29 <| nd @ld42 <| @fi89)
theorem c89:type_of% x89.down:=x89.down
noncomputable def N64:=zaz Tryz.f64
noncomputable def x64:=PLift.up (by have c:=zah N64 Tryz.f64;simp only [zan,Tryz.f64,Option.getD_some,zaj,opsF,opsX,zag,zaA,dstL,zak,List.append_eq,List.cons_append,List.nil_append,seval] at c;exact nd c <| nd @ld42 <| @fi64)
theorem c64:type_of% x64.down:=x64.down
end Go.Proofs.YtdplfgoifjjniaaGreatDoor
namespace Go.Proofs.YtdplfgoifjjniaaGreatDoor
open Go.Am
set_option linter.unusedSimpArgs false
set_option linter.unusedVariables false
set_option maxRecDepth 100000
set_option maxHeartbeats 0
def RuleF (h:Heap) (fv:Value) (e:Int):Prop:=(∃ (f:Fn) (a b:Array Value),fv=.func f a b)∧∀ hc (K:Value→Heap→Prop),Frs [] h hc→(∀ h',Ext hc h'→K (.int .i64 e) h')→zg4 Tryz.prog tab ov [] hc K fv
theorem RuleF.frs {h h2:Heap} {fv:Value} {e:Int} (r:RuleF h fv e) (x:Frs [] h h2):RuleF h2 fv e:=⟨r.1,fun hc K y hk=>r.2 hc K (x.trans y (fun _ h=>nomatch h)) hk⟩
theorem RuleF.over {h1 h2:Heap} {bs:List Blk} {w:Nat} {fv:Value} {e:Int} (r:RuleF h1 fv e) (x:Ext (h1.lay bs w) h2):RuleF h2 fv e:=r.frs ((Frs.refl [] h1).over x)
theorem RuleF.lay {h1:Heap} {fv:Value} {e:Int} (r:RuleF h1 fv e) (bs:List Blk) (w:Nat):RuleF (h1.lay bs w) fv e:=r.frs (Frs.lay _ _ _ _)
theorem Ext.frs0 {h h2:Heap} (x:Ext h h2):Frs [] h h2:=x.frs []
theorem zBs (b:Bool) (e:Int) (A B:Nat) (h:Heap) (q0:Holds h A (.row [.bool b] 4 false)) (q1:Holds h B (.row [.int .i64 e] 33 false)) (K:Value→Heap→Prop) (hk:∀ h',Ext h h'→K (.int .i64 (notE b e)) h'):Ok Tryz.prog tab ov 107 [.pointer (some ⟨A,0,none⟩),.pointer (some ⟨B,0,none⟩)] h K:=by
 rw [zaa h]
 have z:=Ext.refl h
 refine Ok.into rfl zuW (zaB N107) rfl (m:=3) rfl ?_
 cases b
 ·simp -implicitDefEqProofs only [syms,symx,seval,c107,q0.lay,q1.lay]
  exact hk _ (z.upW _ _ (by omega))
 ·simp -implicitDefEqProofs only [syms,symx,seval,c107,q0.lay,q1.lay]
  exact hk _ (z.upW _ _ (by omega))
theorem zbq (b:Bool) (e:Int) (h:Heap) (K:Value→Heap→Prop) (hk:∀ h' fv,Ext h h'→RuleF h' fv (notE b e)→K fv h'):Ok Tryz.prog tab ov 78 [.bool b,.int .i64 e] h K:=by
 rw [zaa h]
 have z:=Ext.refl h
 refine Ok.into rfl zwi (zaB N78) rfl (m:=4) rfl ?_
 simp -implicitDefEqProofs only [syms,symx,seval,c78]
 refine hk _ _ (z.upW _ _ (by omega)) ⟨⟨_,_,_,rfl⟩,fun hc K2 y hk2=>?_⟩
 rw [zbQ]
 exact zBs b e _ _ hc (Holds.frs0 ⟨by rw [zad];simp,by rw [zbj];rfl⟩ y) (Holds.frs0 ⟨by rw [zad];simp,by rw [zbj];rfl⟩ y) K2 hk2
theorem zmn {es:List Int} {i:Nat} {e:Int} (hz:∀ x∈es.take i,x=0) (he:es[i]? = some e) (hne:e≠0):zbh es=e:=by
 induction es generalizing i with
 |nil=>simp at he
 |cons x es ih =>
  rw [zen]
  cases i with
  |zero=>simp at he;subst he;rw [if_neg hne]
  |succ i =>
   rw [if_pos (hz x (by simp))]
   exact ih (fun y hy=>hz y (by rw [List.take_succ_cons];exact List.mem_cons_of_mem _ hy)) (by simpa using he)
theorem zcg (fvs:List Value) (es:List Int) (v:Value) (h:Heap) (hl:Sl Rep.fnv h v fvs) (hs:fvs.length≤100) (hlen:es.length=fvs.length) (hr:∀ (i:Nat) fv e,fvs[i]? = some fv→es[i]? = some e→RuleF h fv e) (K:Value→Heap→Prop)
 (hk:∀ h',Ext h h'→K (.int .i64 (zbh es)) h'):Ok Tryz.prog tab ov 77 [v] h K:=by
 rw [zaa h]
 have z:=Ext.refl h
 have hva:=zaQ v
 have hlv:=fun (hh:Heap)=>hl.lenA zuw hh
 refine Ok.into rfl zva (zaB N77) rfl (m:=17) rfl ?_
 simp -implicitDefEqProofs only [syms,symx,seval,c77,hva,hlv]
 obtain ⟨I1,hI1⟩:∃ I:Nat→Env→Heap→Prop,I=(fun n e h'=>∃ (i:Nat) (h1:Heap),h'=h1.lay [] h1.low∧Ext h h1∧(n=fvs.length - i∧i≤fvs.length∧∀ x∈es.take i,x=0)∧∃ J:Nat→Value,e=(jr J 0 6 (v::.int .i64 fvs.length::.int .i64 i::jr J 9 9 ([])))):=⟨_,rfl⟩
 refine zaI I1 _ (by rw [hI1];exact ⟨0,_,rfl,z,⟨rfl,by omega,by simp⟩,junk (by kernel_rfl)⟩) ?_
 intro n e h' hin
 rw [hI1] at hin
 obtain ⟨i,h1',rfl,z,hinv,J,rfl⟩:=hin
 obtain ⟨rfl,hi,hall⟩:=hinv
 have hw:IntKind.i64.wrap ((i:Int)+1)=((i+1:Nat):Int):=by rw [wrap_i64 (by omega) (by omega)];omega
 simp -implicitDefEqProofs only [syms,symx,seval,c77]
 refine zaE (fun hlt=>?_) (fun hlt=>?_)
 rotate_left
 ·rw [List.take_of_length_le (by omega)] at hall
  rw [firstE_zero.2 hall] at hk
  simp -implicitDefEqProofs only [syms,symx,seval,c77]
  exact hk _ (z.upW _ _ (by omega))
 obtain ⟨fv,hf,hf'⟩:=za5 (l:=fvs) (i:=i) (by omega)
 obtain ⟨e,he,he'⟩:=za5 (l:=es) (i:=i) (by omega)
 have hvf:=zaQ fv
 simp -implicitDefEqProofs only [syms,symx,seval,c77,hva]
 repeat' ((first|with_reducible_and_instances refine ztE (hl.mono z.inc) zuw zGt (by omega) hf (fun p hp=>?_)|with_reducible_and_instances refine zcq hp zAn ?_) <;> simp -implicitDefEqProofs only [syms,symx,seval,c77,hva,hvf])
 refine (hr i fv e hf' he').2 _ _ ((z.upW _ _ (by omega)).frs []) (fun h' x=>?_)
 ((skip);replace z:=z.overW x (by (try simp only [lsz]);omega);rw [zaa h'])
 clear hp
 simp -implicitDefEqProofs only [syms,symx,seval,c77]
 refine zd5 (fun hne=>?_) (fun heq=>?_)
 ·rw [zmn hall he' hne] at hk
  simp -implicitDefEqProofs only [syms,symx,seval,c77]
  exact hk _ (z.upW _ _ (by omega))
 ·simp -implicitDefEqProofs only [syms,symx,seval,c77]
  rw [hw]
  (rw [hI1];with_reducible refine zae (m:=_) ?_ ⟨i+1,_,rfl,z,⟨rfl,by omega,zb5 (i:=i) (P:=fun x:Int=>x=0) he' hall heq⟩,junk (by kernel_rfl)⟩;omega)
theorem zcB (l:List ByteArray) (who:ByteArray) (p0 p1 p2 p5 p6:Value) (q b:Int) (h:Heap) (hl:Sl Rep.str h p0 l) (hs:l.length≤1000) (K:Value→Heap→Prop) (hk:∀ h',Ext h h'→K (.bool (hasP l who)) h'):Ok Tryz.prog tab ov 81 [zbO p0 p1 p2 p5 p6 q b,.string who] h K:=by
 rw [zaa h]
 have z:=Ext.refl h
 have hva:=zaQ p0
 have hvs:∀ (s:ByteArray) (h:Heap) (K:Value→Heap→Prop),valE (some (.string s)) h K=K (.string s) h:=fun _ _ _=>rfl
 refine Ok.into rfl zxz (zaB N81) rfl (m:=7) rfl ?_
 simp -implicitDefEqProofs only [syms,symx,seval,c81,zax,pol0,hva,hvs]
 refine zb7 l p0 who _ (hl.lay _ _) hs _ (fun h' x=>?_)
 ((skip);replace z:=z.overW x (by (try simp only [lsz]);omega);rw [zaa h'])
 simp -implicitDefEqProofs only [syms,symx,seval,c81]
 exact hk _ (z.upW _ _ (by omega))
theorem zsF {l:List PredD} {i:Nat} {x:PredD} {s:ByteArray} (hz:∀ y∈l.take i,¬ y.name=s) (hx:l[i]? = some x) (he:x.name=s):zeM l s=(x.arity,true):=by
 induction l generalizing i with
 |nil=>simp at hx
 |cons y l ih =>
  unfold zeM at ih ⊢
  cases i with
  |zero=>simp at hx;subst hx;rw [List.find?_cons_of_pos (by simpa using he)]
  |succ i =>
   rw [List.find?_cons_of_neg (by simpa using hz y (by simp))]
   exact ih (fun w hw=>hz w (by rw [List.take_succ_cons];exact List.mem_cons_of_mem _ hw)) (by simpa using hx)
theorem zo4 {l:List PredD} {s:ByteArray} (hz:∀ y∈l,¬ y.name=s):zeM l s=(0,false):=by
 unfold zeM
 rw [List.find?_eq_none.2 (fun x hx=>by simpa using hz x hx)]
theorem zCs (h:Heap) (l:List Blk) (w i o:Nat) (v:Value) (hi:i < l.length):za8 tab 67 (.pointer (some ⟨h.size+i,o,none⟩)) v (h.lay l w)=if v.cells.size=2 then zee l[i]? i o v.cells.toList h l w else none:=zfI sz67 h l w i o v hi
theorem zuF (l:List PredD) (who:ByteArray) (p0 p1 p2 p5 p6:Value) (q b:Int) (h:Heap) (hl:Sl Rep.pred h p1 l) (K:Value→Heap→Prop) (hk:∀ h',Ext h h'→K (.tuple #[.int .i64 (zeM l who).1,.bool (zeM l who).2]) h'):Ok Tryz.prog tab ov 118 [zbO p0 p1 p2 p5 p6 q b,.string who] h K:=by
 rw [zaa h]
 have z:=Ext.refl h
 have hle:=hl.le
 have hva:=zaQ p1
 have hvs:∀ (s:ByteArray) (h:Heap) (K:Value→Heap→Prop),valE (some (.string s)) h K=K (.string s) h:=fun _ _ _=>rfl
 have hlv:=fun (hh:Heap)=>hl.lenA ds24 hh
 refine Ok.into rfl ztJ (zaB N118) rfl (m:=20) rfl ?_
 simp -implicitDefEqProofs only [syms,symx,seval,c118,zax,pol1,hva,hlv]
 refine zd8 (fun h' x hq=>?_)
 have q0:=hq 0 _ rfl
 clear hq
 (replace z:=z.overW x (by (try simp only [lsz]);omega);rw [zaa h'])
 obtain ⟨I1,hI1⟩:∃ I:Nat→Env→Heap→Prop,I=(fun n e h'=>∃ (i:Nat) (h1:Heap),h'=h1.lay [] h1.low∧Ext h h1∧(n=l.length - i∧i≤l.length∧∀ y∈l.take i,¬ y.name=who)∧∃ J:Nat→Value,e=(J 0::.string who::jr J 2 7 (p1::.int .i64 l.length::.int .i64 i::jr J 12 10 ([])))):=⟨_,rfl⟩
 refine zaI I1 _ (by rw [hI1];exact ⟨0,_,rfl,z,⟨rfl,by omega,by simp⟩,junk (by kernel_rfl)⟩) ?_
 intro n e h' hin
 rw [hI1] at hin
 obtain ⟨i,h1',rfl,z,hinv,J,rfl⟩:=hin
 obtain ⟨rfl,hi,hall⟩:=hinv
 have hw:i < l.length→IntKind.i64.wrap ((i:Int)+1)=((i+1:Nat):Int):=fun hh=>by unfold maxLen at hle;rw [wrap_i64 (by omega) (by omega)];omega
 simp -implicitDefEqProofs only [syms,symx,seval,c118]
 refine zaE (fun hlt=>?_) (fun hlt=>?_)
 rotate_left
 ·rw [List.take_of_length_le (by omega)] at hall
  rw [zo4 hall] at hk
  simp -implicitDefEqProofs only [syms,symx,seval,c118]
  exact hk _ (z.upW _ _ (by omega))
 obtain ⟨r,hr,hr'⟩:=za5 (l:=l) (i:=i) (by omega)
 repeat' (first|simp -implicitDefEqProofs only [syms,symx,seval,c118,hva]|with_reducible_and_instances refine zsx (hl.mono z.inc) ds24 sz67 (by omega) hr (fun p hp=>?_)|with_reducible_and_instances refine ldP hp ag67 sz67 ?_)
 repeat' (first|simp -implicitDefEqProofs only [syms,symx,seval,c118,zbI,zaX,List.all_cons,List.all_nil,Am.one,Bool.and_true,Bool.true_and,Bool.and_self,List.set_cons_zero,List.set_cons_succ,st4,st3,st9,st39,st42,zCs,hvs]|((with_reducible  apply zaE ) <;> intro _))
 ·rw [zsF hall hr' (by assumption)] at hk
  exact hk _ (z.upW _ _ (by omega))
 ·rw [hw (by omega)]
  refine zft (z.upW _ _ (by omega)) (fun H z hO hI=>?_)
  (rw [hI1];with_reducible refine zae (m:=_) ?_ ⟨i+1,_,rfl,z,⟨rfl,by omega,zb5 (i:=i) (P:=fun y:PredD=>¬ y.name=who) hr' hall (by assumption)⟩,junk (by kernel_rfl)⟩;omega)
theorem zs2 (a:AtomD) (h:Heap) (hsp:SpaceAt 1 h) (K:Value→Heap→Prop) (hk:∀ h',Ext h h'→K (.int .i64 (zeh a)) h'):Ok Tryz.prog tab ov 120 [a.val] h K:=by
 rw [zaa h]
 have z:=Ext.refl h
 refine Ok.into rfl zsN (zaB N120) rfl (m:=40) rfl ?_
 repeat' ( simp -implicitDefEqProofs only [syms,symx,seval,c120,zas,zhm,zpc,zjV])
 refine zln _ _ (hsp.lay _ _) _ (fun hs h' x=>?_) (fun hs h' x=>?_)
 rotate_left
 ·((skip);replace z:=z.overW x (by (try simp only [lsz]);omega);rw [zaa h'])
  repeat' (first|simp -implicitDefEqProofs only [syms,symx,seval,c120]|((with_reducible_and_instances apply zal);(· rfl)))
  rw [zkc (.inl hs)] at hk
  exact hk _ (z.upW _ _ (by omega))
 have q0:=Holds.top (i:=0) x rfl
 ((skip);replace z:=z.overW x (by (try simp only [lsz]);omega);rw [zaa h'])
 repeat' (first|simp -implicitDefEqProofs only [syms,symx,seval,c120,q0.lay,zhm,zpc,zjV]|((with_reducible_and_instances apply zal);(· rfl)))
 refine zo6 _ _ ((hsp.ext z).lay _ _) _ (fun hp h' x=>?_) (fun hp h' x=>?_)
 rotate_left
 ·((skip);replace z:=z.overW x (by (try simp only [lsz]);omega);(try replace q0:=q0.over x);rw [zaa h'])
  repeat' (first|simp -implicitDefEqProofs only [syms,symx,seval,c120]|((with_reducible_and_instances apply zal);(· rfl)))
  rw [zkc (.inr hp)] at hk
  exact hk _ (z.upW _ _ (by omega))
 ((skip);replace z:=z.overW x (by (try simp only [lsz]);omega);(try replace q0:=q0.over x);rw [zaa h'])
 repeat' (first|simp -implicitDefEqProofs only [syms,symx,seval,c120,q0.lay,zhm,zpc,zjV,↓zaG,zaD,zar]|((with_reducible  apply zaE ) <;> intro _)|((with_reducible_and_instances apply zal);(· rfl)))
 all_goals first
  |(rw [ztA hs hp (by omega)] at hk
    exact hk _ (z.upW _ _ (by omega)))
  |skip
 have hn0:0≤a.n:=by omega
 have hn4:a.n≤4:=by omega
 have hcnt:a.cnt=a.n.toNat:=zCj hn0 hn4
 refine zi9 a _ _ (fun w h' x sw=>?_)
 ((skip);replace z:=z.overW x (by (try simp only [lsz]);omega);(try replace q0:=q0.over x);rw [zaa h'])
 have hvw:=zaQ w
 repeat' ( simp -implicitDefEqProofs only [syms,symx,seval,c120,hvw])
 refine ze8 a.args w _ badT _ (sw.lay _ _) (by rw [zbw];have:=zlt a;omega) (fun t hc K' xe hK=>by rw [za3];exact zp3 t hc ((hsp.ext z).lay _ _ |>.ext xe) K' hK) _ (fun h' x=>?_)
 ((skip);replace z:=z.overW x (by (try simp only [lsz]);omega);(try replace q0:=q0.over x);rw [zaa h'])
 cases hany:a.args.any badT
 rotate_left
 ·repeat' ( simp -implicitDefEqProofs only [syms,symx,seval,c120])
  rw [zrv hs hp (by omega) hany] at hk
  exact hk _ (z.upW _ _ (by omega))
 rw [zrj hs hp (by omega) hany,hcnt] at hk
 obtain ⟨k,hkn0⟩:=Int.eq_ofNat_of_zero_le hn0
 have hk4:k≤4:=by omega
 have hsl:=zzT
 have hrest:=zAv q0 k hk4
 have hin4:(0:Int)≤a.n∧a.n≤4:=⟨hn0,hn4⟩
 repeat' ( simp -implicitDefEqProofs only [syms,symx,seval,c120,q0.lay,zjV,zzT _ _ _ hn0 hn4])
 have hkn:a.n.toNat=k:=by omega
 rw [hkn] at hk ⊢
 obtain ⟨sv,hsv⟩:∃ sv,sv=Value.slice (some ⟨h.size+0,if 4=k then 3 else 3+k*2,none⟩) (4 - k) (4 - k):=⟨_,rfl⟩
 rw [← hsv] at hrest ⊢
 clear hsl
 obtain ⟨I1,hI1⟩:∃ I:Nat→Env→Heap→Prop,I=(fun n e h'=>∃ (i:Nat) (h1:Heap),h'=h1.lay [] h1.low∧Ext h h1∧(n=4 - k - i∧i≤4 - k∧(∀ t∈(a.all.drop k).take i,t=zcl)∧Sl Rep.term h1 sv (a.all.drop k))∧∃ J:Nat→Value,e=(jr J 0 31 (sv::.int .i64 ((4 - k:Nat):Int)::.int .i64 i::jr J 34 7 ([])))):=⟨_,rfl⟩
 refine zaI I1 _ (by rw [hI1];exact ⟨0,_,rfl,z,⟨rfl,by omega,by simp,hrest⟩,junk (by kernel_rfl)⟩) ?_
 intro n e h' hin
 rw [hI1] at hin
 obtain ⟨i,h1',rfl,z,hinv,J,rfl⟩:=hin
 clear hrest q0
 obtain ⟨rfl,hi,hall,hrest⟩:=hinv
 have hwi:IntKind.i64.wrap ((i:Int)+1)=((i+1:Nat):Int):=by rw [wrap_i64 (by omega) (by omega)];omega
 have hal:=zd1 a k
 simp -implicitDefEqProofs only [syms,symx,seval,c120]
 refine zaE (fun hlt=>?_) (fun hlt=>?_)
 rotate_left
 ·rw [List.take_of_length_le (by omega)] at hall
  repeat' ( simp -implicitDefEqProofs only [syms,symx,seval,c120])
  rw [if_neg (by rw [List.any_eq_true];rintro ⟨x,hx,e⟩;simp [hall x hx] at e)] at hk
  exact hk _ (z.upW _ _ (by omega))
 obtain ⟨⟨rv,rs⟩,hr,hr'⟩:=za5 (l:=a.all.drop k) (i:=i) (by omega)
 have hri:a.arg (k+i)=⟨rv,rs⟩:=Option.some.inj ((zzy a (by omega)).symm.trans hr')
 repeat' (first|simp -implicitDefEqProofs only [syms,symx,seval,c120,zbI,zaX,List.all_cons,List.all_nil,Am.one,Bool.and_true,Bool.true_and,Bool.and_self,List.set_cons_zero,List.set_cons_succ,st4,st3,st9,st39,st42,TermD.val,TermD.cells,zqZ,znR]|((with_reducible  apply zpz ) <;> intro _)|with_reducible_and_instances refine zm1 hrest ziG sz39 (by omega) hr (fun p hp=>?_)|with_reducible_and_instances refine ldt hp ag39 sz39 ?_)
 ·have hne9:¬ (⟨rv,rs⟩:TermD)=zcl:=‹¬ (⟨rv,rs⟩:TermD)=⟨false,⟨#[]⟩⟩›
  rw [if_pos (List.any_eq_true.2 ⟨_,List.mem_of_getElem? hr',by simp [hne9]⟩)] at hk
  exact hk _ (z.upW _ _ (by omega))
 ·have heq9:(⟨rv,rs⟩:TermD)=zcl:=‹(⟨rv,rs⟩:TermD)=⟨false,⟨#[]⟩⟩›
  rw [hwi]
  refine zft (z.upW _ _ (by omega)) (fun H z hO hI=>?_)
  (rw [hI1];with_reducible refine zae (m:=_) ?_ ⟨i+1,_,rfl,z,⟨rfl,by omega,zb5 (i:=i) (P:=fun t:TermD=>t=zcl) hr' hall heq9,hrest.mono hI⟩,junk (by kernel_rfl)⟩;omega)
theorem zvI (a:AtomD) (A:Nat) (h:Heap) (hsp:SpaceAt 1 h) (q0:Holds h A (.row a.cells 42 false)) (K:Value→Heap→Prop) (hk:∀ h',Ext h h'→K (.int .i64 (zeh a)) h'):Ok Tryz.prog tab ov 119 [.pointer (some ⟨A,0,none⟩)] h K:=by
 rw [zaa h]
 have z:=Ext.refl h
 refine Ok.into rfl zsS (zaB N119) rfl (m:=3) rfl ?_
 simp -implicitDefEqProofs only [syms,symx,seval,c119,q0.lay,zas,↓zaG,zaD,zar]
 refine zs2 a _ (hsp.lay _ _) _ (fun h' x=>?_)
 ((skip);replace z:=z.overW x (by (try simp only [lsz]);omega);rw [zaa h'])
 simp -implicitDefEqProofs only [syms,symx,seval,c119]
 exact hk _ (z.upW _ _ (by omega))
theorem zcc (b:Bool) (h:Heap) (K:Value→Heap→Prop):zfF b h K=K (.bool b) h:=by
 unfold zfF
 cases b
 ·simp
 ·simp
theorem zfM {h:Heap} {bs:List Blk} {w i c:Nat} {u:TypeId} {ro:Bool} {l:List Value} (hb:bs[i]? = some (.row l u ro)) (h1:l.all Am.one=true) (hc:c=l.length) (hl:l.length≤100):Sl Rep.fnv (h.lay bs w) (.slice (some ⟨h.size+i,0,none⟩) l.length c) l:=by
 have hi:=(List.getElem?_eq_some_iff.1 hb).1
 refine .inr ⟨h.size+i,0,c,l,u,ro,rfl,by unfold maxLen;omega,.inl ⟨by unfold G;omega,by omega⟩,by rw [zad];omega,by rw [zbj];exact hb,fun j x hx=>⟨[x],?_,rfl,List.all_eq_true.1 h1 x (List.mem_of_getElem? hx)⟩⟩
 have hj:=List.getElem?_eq_some_iff.1 hx
 have hj1:=hj.1
 show cut l (0+j*1) 1=some [x]
 unfold cut
 rw [if_pos (by omega),Nat.zero_add,Nat.mul_one,List.drop_eq_getElem_cons hj.1,hj.2]
 rfl
theorem zkG (d:PolicyD) (a:AtomD) (p0 p1 p2 p5 p6:Value) (q b:Int) (h:Heap) (hsp:SpaceAt 1 h) (hone:(zaw p0 p1 p2 p5 p6 q b).all Am.one=true) (h0:Sl Rep.str h p0 d.principals) (h1:Sl Rep.pred h p1 d.preds) (hs:d.principals.length≤1000) (K:Value→Heap→Prop) (hk:∀ h',Ext h h'→K (.int .i64 (zfj d a)) h'):Ok Tryz.prog tab ov 90 [zbO p0 p1 p2 p5 p6 q b,a.val] h K:=by
 rw [zaa h]
 have z:=Ext.refl h
 have hvs:∀ (s:ByteArray) (h:Heap) (K:Value→Heap→Prop),valE (some (.string s)) h K=K (.string s) h:=fun _ _ _=>rfl
 refine Ok.into rfl zwr (zaB N90) rfl (m:=29) rfl ?_
 simp -implicitDefEqProofs only [syms,symx,seval,c90,zax,↓zbG,zbD,za6,zas,zpc,hvs]
 refine zuF d.preds a.pred _ _ _ _ _ _ _ _ (h1.lay _ _) _ (fun h' x=>?_)
 have q0:=Holds.top (i:=0) x rfl
 have q1:=Holds.top (i:=1) x rfl
 (( skip);replace z:=z.overW x (by (try simp only [lsz]);omega);rw [zaa h'])
 simp -implicitDefEqProofs only [syms,symx,seval,c90,q0.lay,q1.lay]
 rw [zcc]
 simp -implicitDefEqProofs only [syms,symx,seval,c90,q0.lay,q1.lay]
 with_reducible first|refine zbT (by simp only [c90]) (z.upW _ _ (by omega)) ?_
 simp -implicitDefEqProofs only [syms,symx,seval,c90,q0.lay,q1.lay,zax,↓zbG,zbD,za6,zhm,zjV,hvs]
 refine zcB d.principals a.says _ _ _ _ _ _ _ _ ((h0.mono z.inc).lay _ _) hs _ (fun h' x=>?_)
 (( ((with_reducible refine zaq ?_ ?_ ?_);(· exact (by (try simp only [lsz]);have:=z.size;omega));(·  exact x )) );replace z:=z.overW x (by (try simp only [lsz]);omega);(try replace q0:=q0.over x);(try replace q1:=q1.over x);rw [zaa h'])
 simp -implicitDefEqProofs only [syms,symx,seval,c90]
 (with_reducible_and_instances apply zal);(· rfl)
 simp -implicitDefEqProofs only [syms,symx,seval,c90]
 refine zbq _ _ _ _ (fun h' f1 x r1=>?_)
 (( ((with_reducible refine zaq ?_ ?_ ?_);(· exact (by (try simp only [lsz]);have:=z.size;omega));(·  exact x )) );replace z:=z.overW x (by (try simp only [lsz]);omega);(try replace q0:=q0.over x);(try replace q1:=q1.over x);rw [zaa h'])
 simp -implicitDefEqProofs only [syms,symx,seval,c90]
 (with_reducible_and_instances apply zal);(· rfl)
 simp -implicitDefEqProofs only [syms,symx,seval,c90]
 refine zbq _ _ _ _ (fun h' f2 x r2=>?_)
 (( ((with_reducible refine zaq ?_ ?_ ?_);(· exact (by (try simp only [lsz]);have:=z.size;omega));(·  exact x )) );replace z:=z.overW x (by (try simp only [lsz]);omega);(try replace q0:=q0.over x);(try replace q1:=q1.over x);(try replace r1:=r1.over x);rw [zaa h'])
 simp -implicitDefEqProofs only [syms,symx,seval,c90,q0.lay,q1.lay,zhm,zjV,hvs]
 rw [zcc]
 simp -implicitDefEqProofs only [syms,symx,seval,c90]
 refine zbq _ _ _ _ (fun h' f3 x r3=>?_)
 (( ((with_reducible refine zaq ?_ ?_ ?_);(· exact (by (try simp only [lsz]);have:=z.size;omega));(·  exact x )) );replace z:=z.overW x (by (try simp only [lsz]);omega);(try replace q0:=q0.over x);(try replace q1:=q1.over x);(try replace r1:=r1.over x);(try replace r2:=r2.over x);rw [zaa h'])
 obtain ⟨A1,hA1⟩:∃ A1,A1=h.size+1:=⟨_,rfl⟩
 rw [← hA1] at q1
 rw [← hA1]
 have r0:RuleF h' (.func (.func 119) ⟨[]⟩ ⟨[.pointer (some ⟨A1,0,none⟩)]⟩) (zeh a):=⟨⟨_,_,_,rfl⟩,fun hc K2 y hk2=>by rw [zbQ];exact zvI a A1 hc (Holds.frs0 (hsp.ext z) y) (Holds.frs0 q1 y) K2 hk2⟩
 obtain ⟨g1,u1,v1,rfl⟩:=r1.1
 obtain ⟨g2,u2,v2,rfl⟩:=r2.1
 obtain ⟨g3,u3,v3,rfl⟩:=r3.1
 simp -implicitDefEqProofs only [syms,symx,seval,c90]
 refine zcm (by have:=z.size;omega) (by omega) ?_
 simp -implicitDefEqProofs only [syms,symx,seval,c90]
 refine zcg [.func (.func 119) ⟨[]⟩ ⟨[.pointer (some ⟨A1,0,none⟩)]⟩,.func g1 u1 v1,.func g2 u2 v2,.func g3 u3 v3] [zeh a,notE (!hasP d.principals a.says) 6,notE (!(zeM d.preds a.pred).2) 7,notE ((zeM d.preds a.pred).1 != a.n) 8] _ _ (zfM (i:=0) rfl rfl rfl (by simp)) (by simp) rfl (fun i fv e h1 h2=>?_) _ (fun h' x=>?_)
 ·match i,h1,h2 with
  |0,h1,h2=>cases h1;cases h2;exact r0.lay _ _
  |1,h1,h2=>cases h1;cases h2;exact r1.lay _ _
  |2,h1,h2=>cases h1;cases h2;exact r2.lay _ _
  |3,h1,h2=>cases h1;cases h2;exact r3.lay _ _
 (( ((with_reducible refine zaq ?_ ?_ ?_);(· exact (by (try simp only [lsz]);have:=z.size;omega));(·  exact x )) );replace z:=z.overW x (by (try simp only [lsz]);omega);(try replace q0:=q0.over x);(try replace q1:=q1.over x);(try replace r1:=r1.over x);(try replace r2:=r2.over x);(try replace r3:=r3.over x);rw [zaa h'])
 simp -implicitDefEqProofs only [syms,symx,seval,c90]
 ((with_reducible refine ⟨z.grw.lay _ _,?_⟩);(intro _ h' zz x _);(try simp only [zat,List.append_nil] at x);(try replace q0:=q0.over x);(try replace q1:=q1.over x);(try replace r1:=r1.over x);(try replace r2:=r2.over x);(try replace r3:=r3.over x);(replace z:=zz);(clear zz);rw [zaa h'])
 simp -implicitDefEqProofs only [syms,symx,seval,c90]
 have he:zbh [zeh a,notE (!hasP d.principals a.says) 6,notE (!(zeM d.preds a.pred).2) 7,notE ((zeM d.preds a.pred).1 != a.n) 8]=zfj d a:=rfl
 rw [he]
 exact hk _ (z.upW _ _ (by omega))
theorem zzp (d:PolicyD) (a:AtomD) (p0 p1 p2 p5 p6:Value) (q b:Int) (A B:Nat) (h:Heap) (hsp:SpaceAt 1 h) (hone:(zaw p0 p1 p2 p5 p6 q b).all Am.one=true) (h0:Sl Rep.str h p0 d.principals) (h1:Sl Rep.pred h p1 d.preds) (hs:d.principals.length≤1000) (q0:Holds h A (.row (zaw p0 p1 p2 p5 p6 q b) 29 false)) (q1:Holds h B (.row a.cells 42 false)) (K:Value→Heap→Prop) (hk:∀ h',Ext h h'→K (.int .i64 (zfj d a)) h'):Ok Tryz.prog tab ov 89 [.pointer (some ⟨A,0,none⟩),.pointer (some ⟨B,0,none⟩)] h K:=by
 rw [zaa h]
 have z:=Ext.refl h
 refine Ok.into rfl zyT (zaB N89) rfl (m:=4) rfl ?_
 simp -implicitDefEqProofs only [syms,symx,seval,c89,q0.lay,q1.lay,zax,↓zbG,zbD,za6,zas,↓zaG,zaD,zar]
 refine zkG d a _ _ _ _ _ _ _ _ (hsp.lay _ _) hone (h0.lay _ _) (h1.lay _ _) hs _ (fun h' x=>?_)
 ((skip);replace z:=z.overW x (by (try simp only [lsz]);omega);rw [zaa h'])
 simp -implicitDefEqProofs only [syms,symx,seval,c89]
 exact hk _ (z.upW _ _ (by omega))
theorem zxj (d:PolicyD) (s:ByteArray) (a:AtomD) (p0 p1 p2 p5 p6:Value) (q b:Int) (h:Heap) (hsp:SpaceAt 1 h) (hone:(zaw p0 p1 p2 p5 p6 q b).all Am.one=true) (h0:Sl Rep.str h p0 d.principals) (h1:Sl Rep.pred h p1 d.preds) (hs:d.principals.length≤1000) (K:Value→Heap→Prop) (hk:∀ h',Ext h h'→K (.int .i64 (zbx d s a)) h'):Ok Tryz.prog tab ov 60 [zbO p0 p1 p2 p5 p6 q b,.string s,a.val] h K:=by
 rw [zaa h]
 have z:=Ext.refl h
 have hvs:∀ (s:ByteArray) (h:Heap) (K:Value→Heap→Prop),valE (some (.string s)) h K=K (.string s) h:=fun _ _ _=>rfl
 refine Ok.into rfl zzr (zaB N60) rfl (m:=21) rfl ?_
 simp -implicitDefEqProofs only [syms,symx,seval,c60,zax,zas]
 refine zd8 (fun h' x hq=>?_)
 have q0:=hq 0 _ rfl
 have q1:=hq 1 _ rfl
 clear hq
 (replace z:=z.overW x (by (try simp only [lsz]);omega);rw [zaa h'])
 obtain ⟨A0,hA0⟩:∃ A0,A0=h.size+0:=⟨_,rfl⟩
 rw [← hA0] at q0
 rw [← hA0]
 obtain ⟨A1,hA1⟩:∃ A1,A1=h.size+1:=⟨_,rfl⟩
 rw [← hA1] at q1
 rw [← hA1]
 with_reducible first|refine zbT (by simp only [c60]) (z.upW _ _ (by omega)) ?_
 simp -implicitDefEqProofs only [syms,symx,seval,c60,q0.lay,q1.lay,zax,↓zbG,zbD,za6,hvs]
 refine zcB d.principals s _ _ _ _ _ _ _ _ ((h0.mono z.inc).lay _ _) hs _ (fun h' x=>?_)
 (( ((with_reducible refine zaq ?_ ?_ ?_);(· exact (by (try simp only [lsz]);have:=z.size;omega));(·  exact x )) );replace z:=z.overW x (by (try simp only [lsz]);omega);(try replace q0:=q0.over x);(try replace q1:=q1.over x);rw [zaa h'])
 simp -implicitDefEqProofs only [syms,symx,seval,c60]
 (with_reducible_and_instances apply zal);(· rfl)
 simp -implicitDefEqProofs only [syms,symx,seval,c60]
 refine zbq _ _ _ _ (fun h' f1 x r1=>?_)
 (( ((with_reducible refine zaq ?_ ?_ ?_);(· exact (by (try simp only [lsz]);have:=z.size;omega));(·  exact x )) );replace z:=z.overW x (by (try simp only [lsz]);omega);(try replace q0:=q0.over x);(try replace q1:=q1.over x);rw [zaa h'])
 simp -implicitDefEqProofs only [syms,symx,seval,c60,q0.lay,q1.lay,↓zaG,zaD,zar,zhm,hvs]
 refine zsv a _ _ (fun h' x=>?_)
 (( ((with_reducible refine zaq ?_ ?_ ?_);(· exact (by (try simp only [lsz]);have:=z.size;omega));(·  exact x )) );replace z:=z.overW x (by (try simp only [lsz]);omega);(try replace q0:=q0.over x);(try replace q1:=q1.over x);(try replace r1:=r1.over x);rw [zaa h'])
 simp -implicitDefEqProofs only [syms,symx,seval,c60]
 (with_reducible_and_instances apply zal);(· rfl)
 simp -implicitDefEqProofs only [syms,symx,seval,c60]
 refine zbq _ _ _ _ (fun h' f2 x r2=>?_)
 (( ((with_reducible refine zaq ?_ ?_ ?_);(· exact (by (try simp only [lsz]);have:=z.size;omega));(·  exact x )) );replace z:=z.overW x (by (try simp only [lsz]);omega);(try replace q0:=q0.over x);(try replace q1:=q1.over x);(try replace r1:=r1.over x);rw [zaa h'])
 simp -implicitDefEqProofs only [syms,symx,seval,c60,q0.lay,q1.lay,zhm,hvs]
 rw [zcc]
 simp -implicitDefEqProofs only [syms,symx,seval,c60]
 refine zbq _ _ _ _ (fun h' f3 x r3=>?_)
 (( ((with_reducible refine zaq ?_ ?_ ?_);(· exact (by (try simp only [lsz]);have:=z.size;omega));(·  exact x )) );replace z:=z.overW x (by (try simp only [lsz]);omega);(try replace q0:=q0.over x);(try replace q1:=q1.over x);(try replace r1:=r1.over x);(try replace r2:=r2.over x);rw [zaa h'])
 have r0:RuleF h' (.func (.func 89) ⟨[]⟩ ⟨[.pointer (some ⟨A0,0,none⟩),.pointer (some ⟨A1,0,none⟩)]⟩) (zfj d a):=⟨⟨_,_,_,rfl⟩,fun hc K2 y hk2=>by
  rw [zbQ]
  exact zzp d a _ _ _ _ _ _ _ A0 A1 hc (Holds.frs0 (hsp.ext z) y) hone ((h0.mono z.inc).mono y.all) ((h1.mono z.inc).mono y.all) hs (Holds.frs0 q0 y) (Holds.frs0 q1 y) K2 hk2⟩
 rw [show decide (a.says≠s) = !decide (a.says=s) by simp] at r3
 obtain ⟨g1,u1,v1,rfl⟩:=r1.1
 obtain ⟨g2,u2,v2,rfl⟩:=r2.1
 obtain ⟨g3,u3,v3,rfl⟩:=r3.1
 simp -implicitDefEqProofs only [syms,symx,seval,c60]
 refine zcm (by have:=z.size;omega) (by omega) ?_
 simp -implicitDefEqProofs only [syms,symx,seval,c60]
 refine zcg [.func g1 u1 v1,.func (.func 89) ⟨[]⟩ ⟨[.pointer (some ⟨A0,0,none⟩),.pointer (some ⟨A1,0,none⟩)]⟩,.func g2 u2 v2,.func g3 u3 v3] [notE (!hasP d.principals s) 6,zfj d a,notE (!a.ground) 10,notE (!decide (a.says=s)) 11] _ _ (zfM (i:=0) rfl rfl rfl (by simp)) (by simp) rfl (fun i fv e h1 h2=>?_) _ (fun h' x=>?_)
 ·match i,h1,h2 with
  |0,h1,h2=>cases h1;cases h2;exact r1.lay _ _
  |1,h1,h2=>cases h1;cases h2;exact r0.lay _ _
  |2,h1,h2=>cases h1;cases h2;exact r2.lay _ _
  |3,h1,h2=>cases h1;cases h2;exact r3.lay _ _
 (( ((with_reducible refine zaq ?_ ?_ ?_);(· exact (by (try simp only [lsz]);have:=z.size;omega));(·  exact x )) );replace z:=z.overW x (by (try simp only [lsz]);omega);(try replace q0:=q0.over x);(try replace q1:=q1.over x);(try replace r1:=r1.over x);(try replace r2:=r2.over x);(try replace r3:=r3.over x);rw [zaa h'])
 simp -implicitDefEqProofs only [syms,symx,seval,c60]
 ((with_reducible refine ⟨z.grw.lay _ _,?_⟩);(intro _ h' zz x _);(try simp only [zat,List.append_nil] at x);(try replace q0:=q0.over x);(try replace q1:=q1.over x);(try replace r1:=r1.over x);(try replace r2:=r2.over x);(try replace r3:=r3.over x);(replace z:=zz);(clear zz);rw [zaa h'])
 simp -implicitDefEqProofs only [syms,symx,seval,c60]
 exact hk _ (z.upW _ _ (by omega))
end Go.Proofs.YtdplfgoifjjniaaGreatDoor

/- Walks: the first error of several; an atom's error; a fact's. Written out by fill2.py. No condition. -/
import Derived.Test.YtdplfgoifjjniaaGreatDoorG36
import Derived.Test.YtdplfgoifjjniaaGreatDoorG30
set_option linter.unusedSimpArgs false
set_option linter.unusedVariables false
namespace Go.Proofs.YtdplfgoifjjniaaGreatDoor
open Go.Am
set_option maxRecDepth 100000
set_option maxHeartbeats 0
def RuleF (h:Heap) (fv:Value) (e:Int):Prop:=(∃ (f:Fn) (a b:Array Value),fv=.func f a b)∧∀ hc (K:Value→Heap→Prop),Frs [] h hc→(∀ h',Ext hc h'→K (.int .i64 e) h')→zgS Tryz.prog tab ov [] hc K fv
theorem RuleF.frs {h h2:Heap} {fv:Value} {e:Int} (r:RuleF h fv e) (x:Frs [] h h2):RuleF h2 fv e:=⟨r.1,fun hc K y hk=>r.2 hc K (x.trans y (fun _ h=>nomatch h)) hk⟩
theorem RuleF.over {h1 h2:Heap} {bs:List Blk} {w:Nat} {fv:Value} {e:Int} (r:RuleF h1 fv e) (x:Ext (h1.lay bs w) h2):RuleF h2 fv e:=r.frs ((Frs.refl [] h1).over x)
theorem RuleF.lay {h1:Heap} {fv:Value} {e:Int} (r:RuleF h1 fv e) (bs:List Blk) (w:Nat):RuleF (h1.lay bs w) fv e:=r.frs (Frs.lay _ _ _ _)
theorem Ext.frs0 {h h2:Heap} (x:Ext h h2):Frs [] h h2:=x.frs []
theorem zzc (b:Bool) (e:Int) (A B:Nat) (h:Heap) (q0:Holds h A (.row [.bool b] 4 false)) (q1:Holds h B (.row [.int .i64 e] 33 false)) (K:Value→Heap→Prop) (hk:∀ h',Ext h h'→K (.int .i64 (notE b e)) h'):Ok Tryz.prog tab ov 107 [.pointer (some ⟨A,0,none⟩),.pointer (some ⟨B,0,none⟩)] h K:=by
 rw [zaa h]
 have z:=Ext.refl h
 refine Ok.into rfl ztG (zaw N107) rfl (m:=3) rfl ?_
 cases b
 ·simp -implicitDefEqProofs only [syms,symx,seval,c107,q0.lay,q1.lay]
  exact hk _ (z.upW _ _ (by omega))
 ·simp -implicitDefEqProofs only [syms,symx,seval,c107,q0.lay,q1.lay]
  exact hk _ (z.upW _ _ (by omega))
theorem zbp (b:Bool) (e:Int) (h:Heap) (K:Value→Heap→Prop) (hk:∀ h' fv,Ext h h'→RuleF h' fv (notE b e)→K fv h'):Ok Tryz.prog tab ov 78 [.bool b,.int .i64 e] h K:=by
 rw [zaa h]
 have z:=Ext.refl h
 refine Ok.into rfl zwH (zaw N78) rfl (m:=4) rfl ?_
 simp -implicitDefEqProofs only [syms,symx,seval,c78]
 refine hk _ _ (z.upW _ _ (by omega)) ⟨⟨_,_,_,rfl⟩,fun hc K2 y hk2=>?_⟩
 rw [zbR]
 exact zzc b e _ _ hc (Holds.frs0 ⟨by rw [zad];simp,by rw [zbd];rfl⟩ y) (Holds.frs0 ⟨by rw [zad];simp,by rw [zbd];rfl⟩ y) K2 hk2
theorem zmg {es:List Int} {i:Nat} {e:Int} (hz:∀ x∈es.take i,x=0) (he:es[i]? = some e) (hne:e≠0):za6 es=e:=by
 induction es generalizing i with
 |nil=>simp at he
 |cons x es ih =>
  rw [zeq]
  cases i with
  |zero=>simp at he;subst he;rw [if_neg hne]
  |succ i =>
   rw [if_pos (hz x (by simp))]
   exact ih (fun y hy=>hz y (by rw [List.take_succ_cons];exact List.mem_cons_of_mem _ hy)) (by simpa using he)
theorem zce (fvs:List Value) (es:List Int) (v:Value) (h:Heap) (hl:Sl Rep.fnv h v fvs) (hs:fvs.length≤100) (hlen:es.length=fvs.length) (hr:∀ (i:Nat) fv e,fvs[i]? = some fv→es[i]? = some e→RuleF h fv e) (K:Value→Heap→Prop)
 (hk:∀ h',Ext h h'→K (.int .i64 (za6 es)) h'):Ok Tryz.prog tab ov 77 [v] h K:=by
 rw [zaa h]
 have z:=Ext.refl h
 have hva:=za3 v
 have hlv:=fun (hh:Heap)=>hl.lenA zr3 hh
 refine Ok.into rfl zwG (zaw N77) rfl (m:=17) rfl ?_
 simp -implicitDefEqProofs only [syms,symx,seval,c77,hva,hlv]
 obtain ⟨I1,hI1⟩:∃ I:Nat→Env→Heap→Prop,I=(fun n e h'=>∃ (i:Nat) (h1:Heap),h'=h1.lay [] h1.low∧Ext h h1∧(n=fvs.length - i∧i≤fvs.length∧∀ x∈es.take i,x=0)∧∃ J:Nat→Value,e=(jr J 0 6 (v::.int .i64 fvs.length::.int .i64 i::jr J 9 9 ([])))):=⟨_,rfl⟩
 refine zaE I1 _ (by rw [hI1];exact ⟨0,_,rfl,z,⟨rfl,by omega,by simp⟩,junk (by kernel_rfl)⟩) ?_
 intro n e h' hin
 rw [hI1] at hin
 obtain ⟨i,h1',rfl,z,hinv,J,rfl⟩:=hin
 obtain ⟨rfl,hi,hall⟩:=hinv
 have hw:=zcl i (by omega)
 simp -implicitDefEqProofs only [syms,symx,seval,c77]
 refine zaD (fun hlt=>?_) (fun hlt=>?_)
 rotate_left
 ·rw [List.take_of_length_le (by omega)] at hall
  rw [firstE_zero.2 hall] at hk
  simp -implicitDefEqProofs only [syms,symx,seval,c77]
  exact hk _ (z.upW _ _ (by omega))
 obtain ⟨fv,hf,hf'⟩:=zbs (l:=fvs) (i:=i) (by omega)
 obtain ⟨e,he,he'⟩:=zbs (l:=es) (i:=i) (by omega)
 have hvf:=za3 fv
 simp -implicitDefEqProofs only [syms,symx,seval,c77,hva]
 repeat' ((first|with_reducible_and_instances refine zsx (hl.mono z.inc) zr3 zGp (by omega) hf (fun p hp=>?_)|with_reducible_and_instances refine zfO hp zxZ ?_) <;> simp -implicitDefEqProofs only [syms,symx,seval,c77,hva,hvf])
 refine (hr i fv e hf' he').2 _ _ ((z.upW _ _ (by omega)).frs []) (fun h' x=>?_)
 (replace z:=z.overW x (by omega);rw [zaa h'])
 clear hp
 simp -implicitDefEqProofs only [syms,symx,seval,c77]
 refine zdS (fun hne=>?_) (fun heq=>?_)
 ·rw [zmg hall he' hne] at hk
  simp -implicitDefEqProofs only [syms,symx,seval,c77]
  exact hk _ (z.upW _ _ (by omega))
 ·simp -implicitDefEqProofs only [syms,symx,seval,c77]
  rw [hw]
  (rw [hI1];with_reducible refine zae (m:=_) ?_ ⟨i+1,_,rfl,z,⟨rfl,by omega,zeC (i:=i) (P:=fun x:Int=>x=0) he' hall heq⟩,junk (by kernel_rfl)⟩;omega)
theorem zcz (l:List ByteArray) (who:ByteArray) (p0 p1 p2 p5 p6:Value) (q b:Int) (h:Heap) (hl:Sl Rep.str h p0 l) (hs:l.length≤1000) (K:Value→Heap→Prop) (hk:∀ h',Ext h h'→K (.bool (hasP l who)) h'):Ok Tryz.prog tab ov 81 [zbN p0 p1 p2 p5 p6 q b,.string who] h K:=by
 rw [zaa h]
 have z:=Ext.refl h
 have hva:=za3 p0
 have hvs:=vStr
 refine Ok.into rfl zwK (zaw N81) rfl (m:=7) rfl ?_
 simp -implicitDefEqProofs only [syms,symx,seval,c81,zat,pol0,hva,hvs]
 refine zb4 l p0 who _ (hl.lay _ _) hs _ (fun h' x=>?_)
 (replace z:=z.overW x (by omega);rw [zaa h'])
 simp -implicitDefEqProofs only [syms,symx,seval,c81]
 exact hk _ (z.upW _ _ (by omega))
theorem zrI {l:List PredD} {i:Nat} {x:PredD} {s:ByteArray} (hz:∀ y∈l.take i,¬ y.name=s) (hx:l[i]? = some x) (he:x.name=s):zeG l s=(x.arity,true):=by
 induction l generalizing i with
 |nil=>simp at hx
 |cons y l ih =>
  unfold zeG at ih ⊢
  cases i with
  |zero=>simp at hx;subst hx;rw [List.find?_cons_of_pos (by simpa using he)]
  |succ i =>
   rw [List.find?_cons_of_neg (by simpa using hz y (by simp))]
   exact ih (fun w hw=>hz w (by rw [List.take_succ_cons];exact List.mem_cons_of_mem _ hw)) (by simpa using hx)
theorem znv {l:List PredD} {s:ByteArray} (hz:∀ y∈l,¬ y.name=s):zeG l s=(0,false):=by
 unfold zeG
 rw [List.find?_eq_none.2 (fun x hx=>by simpa using hz x hx)]
theorem zAY (h:Heap) (l:List Blk) (w i o:Nat) (v:Value) (hi:i < l.length):zaZ tab 67 (.pointer (some ⟨h.size+i,o,none⟩)) v (h.lay l w)=if v.cells.size=2 then zee l[i]? i o v.cells.toList h l w else none:=zfR sz67 h l w i o v hi
theorem zsL (l:List PredD) (who:ByteArray) (p0 p1 p2 p5 p6:Value) (q b:Int) (h:Heap) (hl:Sl Rep.pred h p1 l) (K:Value→Heap→Prop) (hk:∀ h',Ext h h'→K (.tuple #[.int .i64 (zeG l who).1,.bool (zeG l who).2]) h'):Ok Tryz.prog tab ov 118 [zbN p0 p1 p2 p5 p6 q b,.string who] h K:=by
 rw [zaa h]
 have z:=Ext.refl h
 have hle:=hl.le
 have hva:=za3 p1
 have hvs:=vStr
 have hlv:=fun (hh:Heap)=>hl.lenA ds24 hh
 refine Ok.into rfl ztR (zaw N118) rfl (m:=20) rfl ?_
 simp -implicitDefEqProofs only [syms,symx,seval,c118,zat,pol1,hva,hlv]
 refine zdW (fun h' x hq=>?_)
 have q0:=hq 0 _ rfl
 clear hq
 (replace z:=z.overW x (by omega);rw [zaa h'])
 obtain ⟨I1,hI1⟩:∃ I:Nat→Env→Heap→Prop,I=(fun n e h'=>∃ (i:Nat) (h1:Heap),h'=h1.lay [] h1.low∧Ext h h1∧(n=l.length - i∧i≤l.length∧∀ y∈l.take i,¬ y.name=who)∧∃ J:Nat→Value,e=(J 0::.string who::jr J 2 7 (p1::.int .i64 l.length::.int .i64 i::jr J 12 10 ([])))):=⟨_,rfl⟩
 refine zaE I1 _ (by rw [hI1];exact ⟨0,_,rfl,z,⟨rfl,by omega,by simp⟩,junk (by kernel_rfl)⟩) ?_
 intro n e h' hin
 rw [hI1] at hin
 obtain ⟨i,h1',rfl,z,hinv,J,rfl⟩:=hin
 obtain ⟨rfl,hi,hall⟩:=hinv
 have hw:i < l.length→IntKind.i64.wrap ((i:Int)+1)=((i+1:Nat):Int):=fun hh=>by unfold maxLen at hle;rw [wrap_i64 (by omega) (by omega)];omega
 simp -implicitDefEqProofs only [syms,symx,seval,c118]
 refine zaD (fun hlt=>?_) (fun hlt=>?_)
 rotate_left
 ·rw [List.take_of_length_le (by omega)] at hall
  rw [znv hall] at hk
  simp -implicitDefEqProofs only [syms,symx,seval,c118]
  exact hk _ (z.upW _ _ (by omega))
 obtain ⟨r,hr,hr'⟩:=zbs (l:=l) (i:=i) (by omega)
 repeat' (first|simp -implicitDefEqProofs only [syms,symx,seval,c118,hva]|with_reducible_and_instances refine zxI (hl.mono z.inc) ds24 sz67 (by omega) hr (fun p hp=>?_)|with_reducible_and_instances refine ldP hp ag67 sz67 ?_)
 repeat' (first|simp -implicitDefEqProofs only [syms,symx,seval,c118,zbA,zaS,List.all_cons,List.all_nil,Am.one,Bool.and_true,Bool.true_and,Bool.and_self,List.set_cons_zero,List.set_cons_succ,st4,st3,st9,st39,st42,zAY,hvs]|((with_reducible apply zaD) <;> intro _))
 ·rw [zrI hall hr' (by assumption)] at hk
  exact hk _ (z.upW _ _ (by omega))
 ·rw [hw (by omega)]
  refine zfy (z.upW _ _ (by omega)) (fun H z hO hI=>?_)
  (rw [hI1];with_reducible refine zae (m:=_) ?_ ⟨i+1,_,rfl,z,⟨rfl,by omega,zeC (i:=i) (P:=fun y:PredD=>¬ y.name=who) hr' hall (by assumption)⟩,junk (by kernel_rfl)⟩;omega)
theorem zsM (a:AtomD) (h:Heap) (hsp:SpaceAt 1 h) (K:Value→Heap→Prop) (hk:∀ h',Ext h h'→K (.int .i64 (zdj a)) h'):Ok Tryz.prog tab ov 120 [a.val] h K:=by
 rw [zaa h]
 have z:=Ext.refl h
 refine Ok.into rfl ztT (zaw N120) rfl (m:=40) rfl ?_
 repeat' (simp -implicitDefEqProofs only [syms,symx,seval,c120,zas,zhn,zo8,zjR])
 refine zlc _ _ (hsp.lay _ _) _ (fun hs h' x=>?_) (fun hs h' x=>?_)
 rotate_left
 ·(replace z:=z.overW x (by omega);rw [zaa h'])
  repeat' (first|simp -implicitDefEqProofs only [syms,symx,seval,c120]|((with_reducible_and_instances apply zar);(· rfl)))
  rw [zkp (.inl hs)] at hk
  exact hk _ (z.upW _ _ (by omega))
 have q0:=Holds.top (i:=0) x rfl
 (replace z:=z.overW x (by omega);rw [zaa h'])
 repeat' (first|simp -implicitDefEqProofs only [syms,symx,seval,c120,q0.lay,zhn,zo8,zjR]|((with_reducible_and_instances apply zar);(· rfl)))
 refine zpp _ _ ((hsp.ext z).lay _ _) _ (fun hp h' x=>?_) (fun hp h' x=>?_)
 rotate_left
 ·(replace z:=z.overW x (by omega);( replace q0:=q0.over x );rw [zaa h'])
  repeat' (first|simp -implicitDefEqProofs only [syms,symx,seval,c120]|((with_reducible_and_instances apply zar);(· rfl)))
  rw [zkp (.inr hp)] at hk
  exact hk _ (z.upW _ _ (by omega))
 (replace z:=z.overW x (by omega);(replace q0:=q0.over x);rw [zaa h'])
 repeat' (first|simp -implicitDefEqProofs only [syms,symx,seval,c120,q0.lay,zhn,zo8,zjR,↓zaF,zaA,zal]|((with_reducible apply zaD) <;> intro _)|((with_reducible_and_instances apply zar);(· rfl)))
 all_goals first
  |(rw [zuo hs hp (by omega)] at hk
    exact hk _ (z.upW _ _ (by omega)))
  |skip
 have hn0:0≤a.n:=by omega
 have hn4:a.n≤4:=by omega
 have hcnt:a.cnt=a.n.toNat:=zz9 hn0 hn4
 refine zix a _ _ (fun w h' x sw=>?_)
 (replace z:=z.overW x (by omega);(replace q0:=q0.over x);rw [zaa h'])
 have hvw:=za3 w
 repeat' (simp -implicitDefEqProofs only [syms,symx,seval,c120,hvw])
 refine zfc a.args w _ badT _ (sw.lay _ _) (by rw [zbt];have:=zkJ a;omega) (fun t hc K' xe hK=>by rw [za1];exact zqu t hc ((hsp.ext z).lay _ _ |>.ext xe) K' hK) _ (fun h' x=>?_)
 (replace z:=z.overW x (by omega);(replace q0:=q0.over x);rw [zaa h'])
 cases hany:a.args.any badT
 rotate_left
 ·repeat' ( simp -implicitDefEqProofs only [syms,symx,seval,c120])
  rw [zrh hs hp (by omega) hany] at hk
  exact hk _ (z.upW _ _ (by omega))
 rw [zhj hs hp (by omega) hany,hcnt] at hk
 obtain ⟨k,hkn0⟩:=Int.eq_ofNat_of_zero_le hn0
 have hk4:k≤4:=by omega
 have hsl:=zxL
 have hrest:=zzl q0 k hk4
 have hin4:(0:Int)≤a.n∧a.n≤4:=⟨hn0,hn4⟩
 repeat' (simp -implicitDefEqProofs only [syms,symx,seval,c120,q0.lay,zjR,zxL _ _ _ hn0 hn4])
 have hkn:a.n.toNat=k:=by omega
 rw [hkn] at hk ⊢
 obtain ⟨sv,hsv⟩:∃ sv,sv=Value.slice (some ⟨h.size+0,if 4=k then 3 else 3+k*2,none⟩) (4 - k) (4 - k):=⟨_,rfl⟩
 rw [← hsv] at hrest ⊢
 clear hsl
 obtain ⟨I1,hI1⟩:∃ I:Nat→Env→Heap→Prop,I=(fun n e h'=>∃ (i:Nat) (h1:Heap),h'=h1.lay [] h1.low∧Ext h h1∧(n=4 - k - i∧i≤4 - k∧(∀ t∈(a.all.drop k).take i,t=zaX)∧Sl Rep.term h1 sv (a.all.drop k))∧∃ J:Nat→Value,e=(jr J 0 31 (sv::.int .i64 ((4 - k:Nat):Int)::.int .i64 i::jr J 34 7 ([])))):=⟨_,rfl⟩
 refine zaE I1 _ (by rw [hI1];exact ⟨0,_,rfl,z,⟨rfl,by omega,by simp,hrest⟩,junk (by kernel_rfl)⟩) ?_
 intro n e h' hin
 rw [hI1] at hin
 obtain ⟨i,h1',rfl,z,hinv,J,rfl⟩:=hin
 clear hrest q0
 obtain ⟨rfl,hi,hall,hrest⟩:=hinv
 have hwi:=zcl i (by omega)
 have hal:=zdX a k
 simp -implicitDefEqProofs only [syms,symx,seval,c120]
 refine zaD (fun hlt=>?_) (fun hlt=>?_)
 rotate_left
 ·rw [List.take_of_length_le (by omega)] at hall
  repeat' (simp -implicitDefEqProofs only [syms,symx,seval,c120])
  rw [if_neg (by rw [List.any_eq_true];rintro ⟨x,hx,e⟩;simp [hall x hx] at e)] at hk
  exact hk _ (z.upW _ _ (by omega))
 obtain ⟨⟨rv,rs⟩,hr,hr'⟩:=zbs (l:=a.all.drop k) (i:=i) (by omega)
 have hri:a.arg (k+i)=⟨rv,rs⟩:=Option.some.inj ((zxh a (by omega)).symm.trans hr')
 repeat' (first|simp -implicitDefEqProofs only [syms,symx,seval,c120,zbA,zaS,List.all_cons,List.all_nil,Am.one,Bool.and_true,Bool.true_and,Bool.and_self,List.set_cons_zero,List.set_cons_succ,st4,st3,st9,st39,st42,TermD.val,TermD.cells,zpR,znB]|((with_reducible apply zhq) <;> intro _)|with_reducible_and_instances refine zmm hrest zh8 sz39 (by omega) hr (fun p hp=>?_)|with_reducible_and_instances refine ldt hp ag39 sz39 ?_)
 ·have hne9:¬ (⟨rv,rs⟩:TermD)=zaX:=‹¬ (⟨rv,rs⟩:TermD)=⟨false,⟨#[]⟩⟩›
  rw [if_pos (List.any_eq_true.2 ⟨_,List.mem_of_getElem? hr',by simp [hne9]⟩)] at hk
  exact hk _ (z.upW _ _ (by omega))
 ·have heq9:(⟨rv,rs⟩:TermD)=zaX:=‹(⟨rv,rs⟩:TermD)=⟨false,⟨#[]⟩⟩›
  rw [hwi]
  refine zfy (z.upW _ _ (by omega)) (fun H z hO hI=>?_)
  (rw [hI1];with_reducible refine zae (m:=_) ?_ ⟨i+1,_,rfl,z,⟨rfl,by omega,zeC (i:=i) (P:=fun t:TermD=>t=zaX) hr' hall heq9,hrest.mono hI⟩,junk (by kernel_rfl)⟩;omega)
theorem zvv (a:AtomD) (A:Nat) (h:Heap) (hsp:SpaceAt 1 h) (q0:Holds h A (.row a.cells 42 false)) (K:Value→Heap→Prop) (hk:∀ h',Ext h h'→K (.int .i64 (zdj a)) h'):Ok Tryz.prog tab ov 119 [.pointer (some ⟨A,0,none⟩)] h K:=by
 rw [zaa h]
 have z:=Ext.refl h
 refine Ok.into rfl ztS (zaw N119) rfl (m:=3) rfl ?_
 simp -implicitDefEqProofs only [syms,symx,seval,c119,q0.lay,zas,↓zaF,zaA,zal]
 refine zsM a _ (hsp.lay _ _) _ (fun h' x=>?_)
 (replace z:=z.overW x (by omega);rw [zaa h'])
 simp -implicitDefEqProofs only [syms,symx,seval,c119]
 exact hk _ (z.upW _ _ (by omega))
theorem zcc (b:Bool) (h:Heap) (K:Value→Heap→Prop):zfG b h K=K (.bool b) h:=by
 unfold zfG
 cases b
 ·simp
 ·simp
theorem zfQ {h:Heap} {bs:List Blk} {w i c:Nat} {u:TypeId} {ro:Bool} {l:List Value} (hb:bs[i]? = some (.row l u ro)) (h1:l.all Am.one=true) (hc:c=l.length) (hl:l.length≤100):Sl Rep.fnv (h.lay bs w) (.slice (some ⟨h.size+i,0,none⟩) l.length c) l:=by
 have hi:=(List.getElem?_eq_some_iff.1 hb).1
 refine .inr ⟨h.size+i,0,c,l,u,ro,rfl,by unfold maxLen;omega,.inl ⟨by unfold G;omega,by omega⟩,by rw [zad];omega,by rw [zbd];exact hb,fun j x hx=>⟨[x],?_,rfl,List.all_eq_true.1 h1 x (List.mem_of_getElem? hx)⟩⟩
 have hj:=List.getElem?_eq_some_iff.1 hx
 have hj1:=hj.1
 show cut l (0+j*1) 1=some [x]
 unfold cut
 rw [if_pos (by omega),Nat.zero_add,Nat.mul_one,List.drop_eq_getElem_cons hj.1,hj.2]
 rfl
theorem zla (d:PolicyD) (a:AtomD) (p0 p1 p2 p5 p6:Value) (q b:Int) (h:Heap) (hsp:SpaceAt 1 h) (hone:(zaq p0 p1 p2 p5 p6 q b).all Am.one=true) (h0:Sl Rep.str h p0 d.principals) (h1:Sl Rep.pred h p1 d.preds) (hs:d.principals.length≤1000) (K:Value→Heap→Prop) (hk:∀ h',Ext h h'→K (.int .i64 (zdE d a)) h'):Ok Tryz.prog tab ov 90 [zbN p0 p1 p2 p5 p6 q b,a.val] h K:=by
 rw [zaa h]
 have z:=Ext.refl h
 have hvs:=vStr
 refine Ok.into rfl zwT (zaw N90) rfl (m:=29) rfl ?_
 simp -implicitDefEqProofs only [syms,symx,seval,c90,zat,↓zbI,zbz,za0,zas,zo8,hvs]
 refine zsL d.preds a.pred _ _ _ _ _ _ _ _ (h1.lay _ _) _ (fun h' x=>?_)
 have q0:=Holds.top (i:=0) x rfl
 have q1:=Holds.top (i:=1) x rfl
 (replace z:=z.overW x (by omega);rw [zaa h'])
 simp -implicitDefEqProofs only [syms,symx,seval,c90,q0.lay,q1.lay]
 rw [zcc]
 simp -implicitDefEqProofs only [syms,symx,seval,c90,q0.lay,q1.lay]
 with_reducible first|refine zb9 (by simp only [c90]) (z.upW _ _ (by omega)) ?_
 simp -implicitDefEqProofs only [syms,symx,seval,c90,q0.lay,q1.lay,zat,↓zbI,zbz,za0,zhn,zjR,hvs]
 refine zcz d.principals a.says _ _ _ _ _ _ _ _ ((h0.mono z.inc).lay _ _) hs _ (fun h' x=>?_)
 (((with_reducible refine zah ?_ ?_ ?_);(· exact (by (simp only [lsz]);have:=z.size;omega));(· exact x));replace z:=z.overW x (by omega);(replace q0:=q0.over x);(replace q1:=q1.over x);rw [zaa h'])
 simp -implicitDefEqProofs only [syms,symx,seval,c90]
 (with_reducible_and_instances apply zar);(· rfl)
 simp -implicitDefEqProofs only [syms,symx,seval,c90]
 refine zbp _ _ _ _ (fun h' f1 x r1=>?_)
 (((with_reducible refine zah ?_ ?_ ?_);(· exact (by (simp only [lsz]);have:=z.size;omega));(· exact x));replace z:=z.overW x (by omega);(replace q0:=q0.over x);(replace q1:=q1.over x);rw [zaa h'])
 simp -implicitDefEqProofs only [syms,symx,seval,c90]
 (with_reducible_and_instances apply zar);(· rfl)
 simp -implicitDefEqProofs only [syms,symx,seval,c90]
 refine zbp _ _ _ _ (fun h' f2 x r2=>?_)
 (((with_reducible refine zah ?_ ?_ ?_);(· exact (by (simp only [lsz]);have:=z.size;omega));(· exact x));replace z:=z.overW x (by omega);(replace q0:=q0.over x);(replace q1:=q1.over x);(replace r1:=r1.over x);rw [zaa h'])
 simp -implicitDefEqProofs only [syms,symx,seval,c90,q0.lay,q1.lay,zhn,zjR,hvs]
 rw [zcc]
 simp -implicitDefEqProofs only [syms,symx,seval,c90]
 refine zbp _ _ _ _ (fun h' f3 x r3=>?_)
 (((with_reducible refine zah ?_ ?_ ?_);(· exact (by (simp only [lsz]);have:=z.size;omega));(· exact x));replace z:=z.overW x (by omega);(replace q0:=q0.over x);(replace q1:=q1.over x);(replace r1:=r1.over x);(replace r2:=r2.over x);rw [zaa h'])
 obtain ⟨A1,hA1⟩:∃ A1,A1=h.size+1:=⟨_,rfl⟩
 rw [← hA1] at q1
 rw [← hA1]
 have r0:RuleF h' (.func (.func 119) ⟨[]⟩ ⟨[.pointer (some ⟨A1,0,none⟩)]⟩) (zdj a):=⟨⟨_,_,_,rfl⟩,fun hc K2 y hk2=>by rw [zbR];exact zvv a A1 hc (Holds.frs0 (hsp.ext z) y) (Holds.frs0 q1 y) K2 hk2⟩
 obtain ⟨g1,u1,v1,rfl⟩:=r1.1
 obtain ⟨g2,u2,v2,rfl⟩:=r2.1
 obtain ⟨g3,u3,v3,rfl⟩:=r3.1
 simp -implicitDefEqProofs only [syms,symx,seval,c90]
 refine zci (by have:=z.size;omega) (by omega) ?_
 simp -implicitDefEqProofs only [syms,symx,seval,c90]
 refine zce [.func (.func 119) ⟨[]⟩ ⟨[.pointer (some ⟨A1,0,none⟩)]⟩,.func g1 u1 v1,.func g2 u2 v2,.func g3 u3 v3] [zdj a,notE (!hasP d.principals a.says) 6,notE (!(zeG d.preds a.pred).2) 7,notE ((zeG d.preds a.pred).1 != a.n) 8] _ _ (zfQ (i:=0) rfl rfl rfl (by simp)) (by simp) rfl (fun i fv e h1 h2=>?_) _ (fun h' x=>?_)
 ·match i,h1,h2 with
  |0,h1,h2=>cases h1;cases h2;exact r0.lay _ _
  |1,h1,h2=>cases h1;cases h2;exact r1.lay _ _
  |2,h1,h2=>cases h1;cases h2;exact r2.lay _ _
  |3,h1,h2=>cases h1;cases h2;exact r3.lay _ _
 (((with_reducible refine zah ?_ ?_ ?_);(· exact (by (simp only [lsz]);have:=z.size;omega));(· exact x));replace z:=z.overW x (by omega);(replace q0:=q0.over x);(replace q1:=q1.over x);(replace r1:=r1.over x);(replace r2:=r2.over x);(replace r3:=r3.over x);rw [zaa h'])
 simp -implicitDefEqProofs only [syms,symx,seval,c90]
 ((with_reducible refine ⟨z.grw.lay _ _,?_⟩);(intro _ h' zz x _);(simp only [zan,List.append_nil] at x);(replace q0:=q0.over x);(replace q1:=q1.over x);(replace r1:=r1.over x);(replace r2:=r2.over x);(replace r3:=r3.over x);(replace z:=zz);(clear zz);rw [zaa h'])
 simp -implicitDefEqProofs only [syms,symx,seval,c90]
 have he:za6 [zdj a,notE (!hasP d.principals a.says) 6,notE (!(zeG d.preds a.pred).2) 7,notE ((zeG d.preds a.pred).1 != a.n) 8]=zdE d a:=rfl
 rw [he]
 exact hk _ (z.upW _ _ (by omega))
theorem zvz (d:PolicyD) (a:AtomD) (p0 p1 p2 p5 p6:Value) (q b:Int) (A B:Nat) (h:Heap) (hsp:SpaceAt 1 h) (hone:(zaq p0 p1 p2 p5 p6 q b).all Am.one=true) (h0:Sl Rep.str h p0 d.principals) (h1:Sl Rep.pred h p1 d.preds) (hs:d.principals.length≤1000) (q0:Holds h A (.row (zaq p0 p1 p2 p5 p6 q b) 29 false)) (q1:Holds h B (.row a.cells 42 false)) (K:Value→Heap→Prop) (hk:∀ h',Ext h h'→K (.int .i64 (zdE d a)) h'):Ok Tryz.prog tab ov 89 [.pointer (some ⟨A,0,none⟩),.pointer (some ⟨B,0,none⟩)] h K:=by
 rw [zaa h]
 have z:=Ext.refl h
 refine Ok.into rfl zwS (zaw N89) rfl (m:=4) rfl ?_
 simp -implicitDefEqProofs only [syms,symx,seval,c89,q0.lay,q1.lay,zat,↓zbI,zbz,za0,zas,↓zaF,zaA,zal]
 refine zla d a _ _ _ _ _ _ _ _ (hsp.lay _ _) hone (h0.lay _ _) (h1.lay _ _) hs _ (fun h' x=>?_)
 (replace z:=z.overW x (by omega);rw [zaa h'])
 simp -implicitDefEqProofs only [syms,symx,seval,c89]
 exact hk _ (z.upW _ _ (by omega))
theorem zvA (d:PolicyD) (s:ByteArray) (a:AtomD) (p0 p1 p2 p5 p6:Value) (q b:Int) (h:Heap) (hsp:SpaceAt 1 h) (hone:(zaq p0 p1 p2 p5 p6 q b).all Am.one=true) (h0:Sl Rep.str h p0 d.principals) (h1:Sl Rep.pred h p1 d.preds) (hs:d.principals.length≤1000) (K:Value→Heap→Prop) (hk:∀ h',Ext h h'→K (.int .i64 (zbF d s a)) h'):Ok Tryz.prog tab ov 60 [zbN p0 p1 p2 p5 p6 q b,.string s,a.val] h K:=by
 rw [zaa h]
 have z:=Ext.refl h
 have hvs:=vStr
 refine Ok.into rfl zwx (zaw N60) rfl (m:=21) rfl ?_
 simp -implicitDefEqProofs only [syms,symx,seval,c60,zat,zas]
 refine zdW (fun h' x hq=>?_)
 have q0:=hq 0 _ rfl
 have q1:=hq 1 _ rfl
 clear hq
 (replace z:=z.overW x (by omega);rw [zaa h'])
 obtain ⟨A0,hA0⟩:∃ A0,A0=h.size+0:=⟨_,rfl⟩
 rw [← hA0] at q0
 rw [← hA0]
 obtain ⟨A1,hA1⟩:∃ A1,A1=h.size+1:=⟨_,rfl⟩
 rw [← hA1] at q1
 rw [← hA1]
 with_reducible first|refine zb9 (by simp only [c60]) (z.upW _ _ (by omega)) ?_
 simp -implicitDefEqProofs only [syms,symx,seval,c60,q0.lay,q1.lay,zat,↓zbI,zbz,za0,hvs]
 refine zcz d.principals s _ _ _ _ _ _ _ _ ((h0.mono z.inc).lay _ _) hs _ (fun h' x=>?_)
 (((with_reducible refine zah ?_ ?_ ?_);(· exact (by (simp only [lsz]);have:=z.size;omega));(· exact x));replace z:=z.overW x (by omega);(replace q0:=q0.over x);(replace q1:=q1.over x);rw [zaa h'])
 simp -implicitDefEqProofs only [syms,symx,seval,c60]
 (with_reducible_and_instances apply zar);(· rfl)
 simp -implicitDefEqProofs only [syms,symx,seval,c60]
 refine zbp _ _ _ _ (fun h' f1 x r1=>?_)
 (((with_reducible refine zah ?_ ?_ ?_);(· exact (by (simp only [lsz]);have:=z.size;omega));(· exact x));replace z:=z.overW x (by omega);(replace q0:=q0.over x);(replace q1:=q1.over x);rw [zaa h'])
 simp -implicitDefEqProofs only [syms,symx,seval,c60,q0.lay,q1.lay,↓zaF,zaA,zal,zhn,hvs]
 refine zsP a _ _ (fun h' x=>?_)
 (((with_reducible refine zah ?_ ?_ ?_);(· exact (by (simp only [lsz]);have:=z.size;omega));(· exact x));replace z:=z.overW x (by omega);(replace q0:=q0.over x);(replace q1:=q1.over x);(replace r1:=r1.over x);rw [zaa h'])
 simp -implicitDefEqProofs only [syms,symx,seval,c60]
 (with_reducible_and_instances apply zar);(· rfl)
 simp -implicitDefEqProofs only [syms,symx,seval,c60]
 refine zbp _ _ _ _ (fun h' f2 x r2=>?_)
 (((with_reducible refine zah ?_ ?_ ?_);(· exact (by (simp only [lsz]);have:=z.size;omega));(· exact x));replace z:=z.overW x (by omega);(replace q0:=q0.over x);(replace q1:=q1.over x);(replace r1:=r1.over x);rw [zaa h'])
 simp -implicitDefEqProofs only [syms,symx,seval,c60,q0.lay,q1.lay,zhn,hvs]
 rw [zcc]
 simp -implicitDefEqProofs only [syms,symx,seval,c60]
 refine zbp _ _ _ _ (fun h' f3 x r3=>?_)
 (((with_reducible refine zah ?_ ?_ ?_);(· exact (by (simp only [lsz]);have:=z.size;omega));(· exact x));replace z:=z.overW x (by omega);(replace q0:=q0.over x);(replace q1:=q1.over x);(replace r1:=r1.over x);(replace r2:=r2.over x);rw [zaa h'])
 have r0:RuleF h' (.func (.func 89) ⟨[]⟩ ⟨[.pointer (some ⟨A0,0,none⟩),.pointer (some ⟨A1,0,none⟩)]⟩) (zdE d a):=⟨⟨_,_,_,rfl⟩,fun hc K2 y hk2=>by
  rw [zbR]
  exact zvz d a _ _ _ _ _ _ _ A0 A1 hc (Holds.frs0 (hsp.ext z) y) hone ((h0.mono z.inc).mono y.all) ((h1.mono z.inc).mono y.all) hs (Holds.frs0 q0 y) (Holds.frs0 q1 y) K2 hk2⟩
 rw [show decide (a.says≠s) = !decide (a.says=s) by simp] at r3
 obtain ⟨g1,u1,v1,rfl⟩:=r1.1
 obtain ⟨g2,u2,v2,rfl⟩:=r2.1
 obtain ⟨g3,u3,v3,rfl⟩:=r3.1
 simp -implicitDefEqProofs only [syms,symx,seval,c60]
 refine zci (by have:=z.size;omega) (by omega) ?_
 simp -implicitDefEqProofs only [syms,symx,seval,c60]
 refine zce [.func g1 u1 v1,.func (.func 89) ⟨[]⟩ ⟨[.pointer (some ⟨A0,0,none⟩),.pointer (some ⟨A1,0,none⟩)]⟩,.func g2 u2 v2,.func g3 u3 v3] [notE (!hasP d.principals s) 6,zdE d a,notE (!a.ground) 10,notE (!decide (a.says=s)) 11] _ _ (zfQ (i:=0) rfl rfl rfl (by simp)) (by simp) rfl (fun i fv e h1 h2=>?_) _ (fun h' x=>?_)
 ·match i,h1,h2 with
  |0,h1,h2=>cases h1;cases h2;exact r1.lay _ _
  |1,h1,h2=>cases h1;cases h2;exact r0.lay _ _
  |2,h1,h2=>cases h1;cases h2;exact r2.lay _ _
  |3,h1,h2=>cases h1;cases h2;exact r3.lay _ _
 (((with_reducible refine zah ?_ ?_ ?_);(· exact (by (simp only [lsz]);have:=z.size;omega));(· exact x));replace z:=z.overW x (by omega);(replace q0:=q0.over x);(replace q1:=q1.over x);(replace r1:=r1.over x);(replace r2:=r2.over x);(replace r3:=r3.over x);rw [zaa h'])
 simp -implicitDefEqProofs only [syms,symx,seval,c60]
 ((with_reducible refine ⟨z.grw.lay _ _,?_⟩);(intro _ h' zz x _);(simp only [zan,List.append_nil] at x);(replace q0:=q0.over x);(replace q1:=q1.over x);(replace r1:=r1.over x);(replace r2:=r2.over x);(replace r3:=r3.over x);(replace z:=zz);(clear zz);rw [zaa h'])
 simp -implicitDefEqProofs only [syms,symx,seval,c60]
 exact hk _ (z.upW _ _ (by omega))
end Go.Proofs.YtdplfgoifjjniaaGreatDoor

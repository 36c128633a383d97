/- The code of some functions, node by node, for simp. Written by a program (mkcode.py). No condition. -/
import Derived.Test.YtemapihoobmonaaGreatDoorG21
import Derived.Test.YtemapihoobmonaaGreatDoorG25
import Derived.KernelRfl
import Derived.Test.YtemapihoobmonaaGreatDoorG27
import Derived.Test.YtemapihoobmonaaGreatDoorG24
namespace Go.Proofs.YtemapihoobmonaaGreatDoor
open Go.Am
set_option linter.unusedVariables false
set_option linter.unusedSimpArgs false
set_option maxRecDepth 100000
set_option maxHeartbeats 0
noncomputable def N25:=zaA Tryz.f25
noncomputable def x25:=PLift.up (by have c:=zai N25 Tryz.f25; simp only [zao,Tryz.f25,Option.getD_some,zam,opsF,opsX,zaf,zax,dstL,zal,List.append_eq,List.cons_append,List.nil_append,seval] at c; exact nd c <| nd @al57 <| nd @zlg <| nd @zgq <| nd @znL <| nd @ld3 <| nd @ld55 <| nd @ld9 <| @fi25)
theorem c25:type_of% x25.down:=x25.down
noncomputable def N80:=zaA Tryz.f80
noncomputable def x80:=PLift.up (by have c:=zai N80 Tryz.f80; simp only [zao,Tryz.f80,Option.getD_some,zam,opsF,opsX,zaf,zax,dstL,zal,List.append_eq,List.cons_append,List.nil_append,seval] at c; exact nd c <| @fi80)
theorem c80:type_of% x80.down:=x80.down
noncomputable def N31:=zaA Tryz.f31
noncomputable def x31:=PLift.up (by have c:=zai N31 Tryz.f31; simp only [zao,Tryz.f31,Option.getD_some,zam,opsF,opsX,zaf,zax,dstL,zal,List.append_eq,List.cons_append,List.nil_append,seval] at c; exact nd c <| @fi31)
theorem c31:type_of% x31.down:=x31.down
noncomputable def N81:=zaA Tryz.f81
noncomputable def x81:=PLift.up (by have c:=zai N81 Tryz.f81; simp only [zao,Tryz.f81,Option.getD_some,zam,opsF,opsX,zaf,zax,dstL,zal,List.append_eq,List.cons_append,List.nil_append,seval] at c; exact nd c <| nd @ld55 <| nd @ld62 <| nd @ld9 <| @fi81)
theorem c81:type_of% x81.down:=x81.down
noncomputable def N113:=zaA Tryz.f113
noncomputable def x113:=PLift.up (by have c:=zai N113 Tryz.f113; simp only [zao,Tryz.f113,Option.getD_some,zam,opsF,opsX,zaf,zax,dstL,zal,List.append_eq,List.cons_append,List.nil_append,seval] at c; exact nd c <| nd @al62 <| nd @ix69 <| nd @ld62 <| nd @ln69 <| @zCt)
theorem c113:type_of% x113.down:=x113.down
noncomputable def N114:=zaA Tryz.f114
noncomputable def x114:=PLift.up (by have c:=zai N114 Tryz.f114; simp only [zao,Tryz.f114,Option.getD_some,zam,opsF,opsX,zaf,zax,dstL,zal,List.append_eq,List.cons_append,List.nil_append,seval] at c; exact nd c <| nd @bs69 <| @zC3)
theorem c114:type_of% x114.down:=x114.down
noncomputable def N149:=zaA Tryz.f149
noncomputable def x149:=PLift.up (by have c:=zai N149 Tryz.f149; simp only [zao,Tryz.f149,Option.getD_some,zam,opsF,opsX,zaf,zax,dstL,zal,List.append_eq,List.cons_append,List.nil_append,seval] at c; exact nd c <| nd @ix69 <| nd @ld62 <| nd @ln69 <| @zCR)
theorem c149:type_of% x149.down:=x149.down
noncomputable def N33:=zaA Tryz.f33
noncomputable def x33:=PLift.up (by have c:=zai N33 Tryz.f33; simp only [zao,Tryz.f33,Option.getD_some,zam,opsF,opsX,zaf,zax,dstL,zal,List.append_eq,List.cons_append,List.nil_append,seval] at c; exact nd c <| nd @ix69 <| nd @ld62 <| nd @ln69 <| @fi33)
theorem c33:type_of% x33.down:=x33.down
noncomputable def N41:=zaA Tryz.f41
noncomputable def x41:=PLift.up (by have c:=zai N41 Tryz.f41; simp only [zao,Tryz.f41,Option.getD_some,zam,opsF,opsX,zaf,zax,dstL,zal,List.append_eq,List.cons_append,List.nil_append,seval] at c; exact nd c <| nd @al57 <| nd @zlg <| nd @zgq <| nd @znL <| nd @ld3 <| nd @ld55 <| nd @ld9 <| @fi41)
theorem c41:type_of% x41.down:=x41.down
noncomputable def N34:=zaA Tryz.f34
noncomputable def x34:=PLift.up (by have c:=zai N34 Tryz.f34; simp only [zao,Tryz.f34,Option.getD_some,zam,opsF,opsX,zaf,zax,dstL,zal,List.append_eq,List.cons_append,List.nil_append,seval] at c; exact nd c <| nd @bs69 <| nd @ix69 <| nd @ld55 <| nd @ld62 <| nd @ln69 <| @fi34)
theorem c34:type_of% x34.down:=x34.down
noncomputable def N29:=zaA Tryz.f29
noncomputable def x29:=PLift.up (by have c:=zai N29 Tryz.f29; simp only [zao,Tryz.f29,Option.getD_some,zam,opsF,opsX,zaf,zax,dstL,zal,List.append_eq,List.cons_append,List.nil_append,seval] at c; exact nd c <| nd @zgq <| nd @znL <| nd @ix69 <| nd @ld55 <| nd @ld9 <| nd @ln69 <| nd @ln9 <| @fi29)
theorem c29:type_of% x29.down:=x29.down
noncomputable def N6:=zaA Tryz.f6
noncomputable def x6:=PLift.up (by have c:=zai N6 Tryz.f6; simp only [zao,Tryz.f6,Option.getD_some,zam,opsF,opsX,zaf,zax,dstL,zal,List.append_eq,List.cons_append,List.nil_append,seval] at c; exact nd c <| nd @al55 <| nd @al57 <| nd @zqF <| nd @zlg <| nd @zgq <| nd @znL <| nd @ix69 <| nd @ld3 <| nd @ld55 <| nd @ld62 <| nd @ld9 <| nd @ln69 <| nd @ln9 <| @fi6)
theorem c6:type_of% x6.down:=x6.down
noncomputable def N5:=zaA Tryz.f5
noncomputable def x5:=PLift.up (by have c:=zai N5 Tryz.f5; simp only [zao,Tryz.f5,Option.getD_some,zam,opsF,opsX,zaf,zax,dstL,zal,List.append_eq,List.cons_append,List.nil_append,seval] at c; exact nd c <| nd @al57 <| nd @zlg <| nd @zvR <| nd @ix49 <| nd @ld26 <| nd @ld3 <| nd @ld55 <| nd @ld57 <| nd @ld9 <| nd @ln49 <| nd @ln9 <| @fi5)
theorem c5:type_of% x5.down:=x5.down
end Go.Proofs.YtemapihoobmonaaGreatDoor
namespace Go.Proofs.YtemapihoobmonaaGreatDoor
open Go.Am
set_option linter.unusedSimpArgs false
set_option linter.unusedVariables false
set_option maxRecDepth 100000
set_option maxHeartbeats 0
theorem zcI {T:Tab} {t e:TypeId} {kd:IntKind} {i:Int} {v:Value} {h1:Heap} {bs:List Blk} {w:Nat} {K:Value→Heap→Prop} {l:List SentD} {x:SentD} (f:Sl Rep.sent h1 v l) (hd:T.desc t=some (.slice e)) (hs:zaM T e=some 2) (h0:0≤i) (hx:l[i.toNat]? = some x) (hk:∀ p,AtP h1 p x.cells→K p (h1.lay bs w)):valE (zau T t v (.int kd i)) (h1.lay bs w) K:=by
  have hi:=(List.getElem?_eq_some_iff.1 hx).1
  refine zdZ f hd hs h0 (by omega) (fun x' p cs hx' hr hp=>?_)
  rw [hx] at hx'
  cases hx'
  exact hk p (hr ▸ hp)
theorem zwR {h:Heap} {v:Value} {l:List SentD} (f:Sl Rep.sent h v l):∃ b:Bool,binA Tryz.prog tab .eql 69 v (.slice none 0 0)=some (.bool b)∧(b=true→l=[]):=by
  rcases f with ⟨rfl,rfl⟩ | ⟨A,o,c,row,u,ro,rfl,_⟩
  · exact ⟨true,by kernel_rfl,fun _=>rfl⟩
  · exact ⟨false,by kernel_rfl,nofun⟩
theorem znP:zeL tab 69 69=true:=by kernel_rfl
theorem ldS {T:Tab} {t:TypeId} {p:Value} {h1:Heap} {bs:List Blk} {w:Nat} {K:Value→Heap→Prop} {x:SentD} (f:AtP h1 p x.cells) (hg:aggA T t=some true) (hs:zaM T t=some 2) (hk:K x.val (h1.lay bs w)):valE (zaX T t p (h1.lay bs w)) (h1.lay bs w) K:=znb f hg hs rfl hk
theorem zgr (l:List SentD) (v fv:Value) (pr:SentD→Bool) (hb h:Heap) (z0:Ext hb h) (hl:Sl Rep.sent h v l) (hn:l.length≤1000) (hpf:∀ x∈l,∀ (hc:Heap) (K:Value→Heap→Prop),Ext hb hc→(∀ h',Ext hc h'→K (.bool (pr x)) h')→zil Tryz.prog tab ov [x.val] hc K fv) (K:Value→Heap→Prop)
    (hk:∀ h',Ext h h'→K (.int .i64 (idxP pr l)) h'):Ok Tryz.prog tab ov 149 [v,fv] h K:=by
  rw [zaa h]
  have z:=Ext.refl h
  refine Ok.into rfl zu5 (zaD N149) rfl (m:=17) rfl ?_
  simp -implicitDefEqProofs only [syms,symx,seval,c149]
  repeat' (( with_reducible_and_instances refine zhy hl ds69 ?_) <;> simp -implicitDefEqProofs only [syms,symx,seval,c149])
  obtain ⟨I1,hI1⟩:∃ I:Nat→Env→Heap→Prop,I=(fun n e h'=>∃ (i:Nat) (h1:Heap),h'=h1.lay [] h1.low∧Ext h h1∧(n=l.length - i∧i≤l.length∧∀ x∈l.take i,pr x=false)∧∃ J:Nat→Value,e=(v::fv::jr J 2 5 (.int .i64 l.length::.int .i64 i::jr J 9 10 ([])))):=⟨_,rfl⟩
  refine zaC I1 _ (by rw [hI1]; exact ⟨0,_,rfl,z,⟨rfl,by omega,by simp⟩,junk (by kernel_rfl)⟩) ?_
  intro n e h' hin
  rw [hI1] at hin
  obtain ⟨i,h1',rfl,z,hinv,J,rfl⟩:=hin
  obtain ⟨rfl,hi,hall⟩:=hinv
  have hw:IntKind.i64.wrap ((i:Int)+1)=((i+1:Nat):Int):=by rw [zad (by omega) (by omega)]; omega
  repeat' (first | simp -implicitDefEqProofs only [syms,symx,seval,c149] | ((with_reducible  apply zar ) <;> intro _))
  rotate_left
  · rw [List.take_of_length_le (by omega)] at hall
    have:=zeA hall
    rw [this] at hk
    exact hk _ (z.upW _ _ (by omega))
  obtain ⟨r,hr,hr'⟩:=zaY (l:=l) (i:=i) (by assumption)
  repeat' ((first | with_reducible_and_instances refine zcI (hl.mono z.inc) ds69 sz62 (by omega) hr (fun p hp=>?_) | with_reducible_and_instances refine ldS hp ag62 sz62 ?_) <;> simp -implicitDefEqProofs only [syms,symx,seval,c149])
  refine hpf r (List.mem_of_getElem? hr') _ _ ((z0.trans z).upW _ _ (by omega)) (fun h' x=>?_)
  ((skip); replace z:=z.overW x (by (try simp only [lsz]); omega); rw [zaa h'])
  cases hx:pr r
  rotate_left
  · simp -implicitDefEqProofs only [syms,symx,seval,c149]
    have:=zd6 hr' hall hx
    rw [this] at hk
    exact hk _ (z.upW _ _ (by omega))
  · simp -implicitDefEqProofs only [syms,symx,seval,c149]
    rw [hw]
    (rw [hI1]; with_reducible refine zac (m:=_) ?_ ⟨i+1,_,rfl,z,⟨rfl,by omega,zci (i:=i) (P:=fun x:SentD=>pr x=false) hr' hall hx⟩,junk (by kernel_rfl)⟩; omega)
theorem zlw (s t:List SentD) (fv:Value) (pr:SentD→Bool) (A c:Nat) (h hs:Heap) (z:Ext h hs) (hA:h.size≤A) (q:Holds hs A (.row (zbt (s++t)) 62 false)) (hc:c=G*2+(s++t).length) (hn:(s++t).length≤100000) (hsn:s.length≤1000)
    (hpf:∀ x∈s,∀ (hc:Heap) (K:Value→Heap→Prop),Ext h hc→(∀ h',Ext hc h'→K (.bool (pr x)) h')→zil Tryz.prog tab ov [x.val] hc K fv) (K:Value→Heap→Prop)
    (hk:∀ h' w,Ext h h'→OwnAT h h' 62 w (s.filter (fun x => !pr x))→K w h'):Ok Tryz.prog tab ov 113 [.slice (some ⟨A,0,none⟩) s.length c,fv] hs K:=by
  have hO:OwnAT h hs 62 (.slice (some ⟨A,0,none⟩) s.length c) s:=ziI q hA (by omega) rfl hc
  rw [zaa hs]
  refine Ok.into rfl zmK (zaD N113) rfl (m:=40) rfl ?_
  repeat' ( simp -implicitDefEqProofs only [syms,symx,seval,c113])
  refine zgr s (.slice (some ⟨A,0,none⟩) s.length c) fv pr h _ (z.upW _ _ (by omega)) (hO.sl.lay _ _) hsn hpf _ (fun h' x=>?_)
  replace z:=(z.upW _ _ (by omega)).trans x
  replace q:=(q.on _ _).ext x
  rw [zaa h']
  have hfi:idxP pr s = -1∧(∀ x∈s,pr x=false)∨∃ i:Nat,idxP pr s=i∧i < s.length∧pr (s.getD i noSentD)=true∧∀ x∈s.take i,pr x=false:=zsr s
  simp -implicitDefEqProofs only [syms,symx,seval,c113]
  rcases hfi with ⟨e,hall⟩ | ⟨i0,e,hi0,hpi,hall⟩
  · rw [e]
    refine zd9 (fun _=>?_) (fun hh=>absurd rfl hh)
    repeat' ( simp -implicitDefEqProofs only [syms,symx,seval,c113])
    rw [List.filter_eq_self.2 (fun x hx=>by rw [hall x hx]; rfl)] at hk
    exact hk _ _ (z.upW _ _ (by omega)) (ziI (q.on _ _) hA (by omega) rfl hc)
  rw [e]
  refine zd9 (fun hh=>?_) (fun _=>?_)
  · exfalso
    omega
  have hwi:IntKind.i64.wrap ((i0:Int)+1)=((i0+1:Nat):Int):=by rw [zad (by omega) (by omega)]; omega
  repeat' ( simp -implicitDefEqProofs only [syms,symx,seval,c113,hwi])
  obtain ⟨I1,hI1⟩:∃ I:Nat→Env→Heap→Prop,I=(fun n e h'=>∃ (i j:Nat) (cur:List SentD) (h1:Heap),h'=h1.lay [] h1.low∧Ext h h1∧(n=s.length - j∧i < j∧j≤s.length∧cur.length=(s++t).length∧cur.take i=(s.take j).filter (fun x => !pr x)∧(∀ p,j≤p→cur.getD p noSentD=(s++t).getD p noSentD)∧Holds h1 A (.row (zbt cur) 62 false))∧∃ J:Nat→Value,e=(.slice (some ⟨A,0,none⟩) s.length c::fv::jr J 2 3 (.int .i64 i::.int .i64 j::jr J 7 35 ([])))):=⟨_,rfl⟩
  refine zaC I1 _ (by rw [hI1]; exact ⟨i0,i0+1,s++t,_,rfl,z,⟨rfl,by omega,by omega,rfl,zrW hi0 hpi hall,fun _ _=>rfl,q⟩,junk (by kernel_rfl)⟩) ?_
  intro n e h' hin
  rw [hI1] at hin
  obtain ⟨i,j,cur,h1',rfl,z,hinv,J,rfl⟩:=hin
  clear q
  obtain ⟨rfl,hij,hjs,hcl,htk,hce,q⟩:=hinv
  have hsl:s.length≤(s++t).length:=by rw [List.length_append]; omega
  have hwj:IntKind.i64.wrap ((j:Int)+1)=((j+1:Nat):Int):=by rw [zad (by omega) (by omega)]; omega
  have hwi2:IntKind.i64.wrap ((i:Int)+1)=((i+1:Nat):Int):=by rw [zad (by omega) (by omega)]; omega
  simp -implicitDefEqProofs only [syms,symx,seval,c113]
  refine zar (fun hlt=>?_) (fun hlt=>?_)
  rotate_left
  · have hjs2:j=s.length:=by omega
    have his:i≤s.length:=by omega
    simp -implicitDefEqProofs only [syms,symx,seval,c113]
    rw [hc,ztc ds69 sz62 his hsl (by omega),← hc]
    obtain ⟨C3,hC3⟩:∃ C3,C3=G*2+((s++t).length - i):=⟨_,rfl⟩
    rw [← hC3]
    simp -implicitDefEqProofs only [syms,symx,seval,c113,zyV]
    refine ztf q ds69 zbH (by omega) (fun h3 q3 c3=>?_)
    replace z:=z.stepW c3 hA (by omega)
    rw [zaa h3]
    clear q
    simp -implicitDefEqProofs only [syms,symx,seval,c113]
    rw [hc,zxy ds69 sz62 his hsl (by omega),← hc]
    repeat' ( simp -implicitDefEqProofs only [syms,symx,seval,c113])
    rw [htk,hjs2,List.take_length] at q3
    have hlen:i=(s.filter (fun x => !pr x)).length:=by
      have:=congrArg List.length htk
      rw [List.length_take,hjs2,List.take_length] at this
      omega
    have hlen2:(s.filter (fun x => !pr x)++(List.replicate (s.length - i) noSentD++cur.drop (i+(s.length - i)))).length=(s++t).length:=by
      rw [List.length_append,List.length_append,List.length_replicate,List.length_drop]
      omega
    exact hk _ _ (z.upW _ _ (by omega)) (ziI (q3.on _ _) hA (by omega) hlen (by rw [hlen2]; exact hc))
  have hin:(0:Int)≤(j:Int)∧(j:Int) < (s.length:Int):=by omega
  have hini:(0:Int)≤(i:Int)∧(i:Int) < (s.length:Int):=by omega
  have hld:=fun (bs:List Blk) (w:Nat)=>zrB (bs:=bs) (w:=w) q (zqR (l:=cur) (i:=j) (by omega))
  rw [hce _ (by omega),zuS (by omega)] at hld
  simp -implicitDefEqProofs only [syms,symx,seval,c113,hin,and_self,if_true,↓hld,zcV]
  refine zpu sz62 rfl ?_
  repeat' ( simp -implicitDefEqProofs only [syms,symx,seval,c113,↓zfq,zez,zcV])
  refine hpf _ (by have:=List.mem_of_getElem? (zqR (l:=s) (i:=j) (by omega)); exact this) _ _ (z.upW _ _ (by omega)) (fun h' x=>?_)
  have q1:=Holds.top (i:=0) x rfl
  ((skip); replace z:=z.overW x (by (try simp only [lsz]); omega); (try replace q:=q.over x); rw [zaa h'])
  have hcd:=zuV (pr:=pr) (s:=s) (j:=j) (by omega)
  have hck:=ztw (pr:=pr) (s:=s) (j:=j) (by omega)
  have hce2:∀ p,j+1≤p→cur.getD p noSentD=(s++t).getD p noSentD:=fun p hp=>hce p (by omega)
  cases hx:pr (s.getD j noSentD)
  rotate_left
  · repeat' (first | simp -implicitDefEqProofs only [syms,symx,seval,c113] | ((with_reducible_and_instances apply zap); (· rfl)))
    rw [hwj]
    (rw [hI1]; with_reducible refine zac (m:=_) ?_ ⟨i,j+1,cur,_,rfl,z,⟨rfl,by omega,by omega,hcl,by rw [hcd hx]; exact htk,hce2,q⟩,junk (by kernel_rfl)⟩; omega)
  repeat' (first | simp -implicitDefEqProofs only [syms,symx,seval,c113] | ((with_reducible_and_instances apply zap); (· rfl)))
  repeat' ( simp -implicitDefEqProofs only [syms,symx,seval,c113,q1.lay,↓zfq,zez,zcV,hini,and_self,if_true])
  have hce3:∀ p,j+1≤p→(cur.set i (s.getD j noSentD)).getD p noSentD=(s++t).getD p noSentD:=by
    intro p hp
    have hne:i≠p:=by omega
    rw [zkf hne]
    exact hce2 p hp
  have hz:=z.size
  refine zpJ q sz62 (by omega) (fun h3 q3 c3=>?_)
  replace z:=z.stepW c3 hA (by omega)
  rw [zaa h3]
  clear q q1
  repeat' ( simp -implicitDefEqProofs only [syms,symx,seval,c113])
  rw [hwi2,hwj]
  (rw [hI1]; with_reducible refine zac (m:=_) ?_ ⟨i+1,j+1,cur.set i (s.getD j noSentD),_,rfl,z,⟨rfl,by omega,by omega,by rw [List.length_set]; exact hcl,by rw [zuG (by omega),hck hx,htk],hce3,q3⟩,junk (by kernel_rfl)⟩; omega)
theorem zti (l:List SentD) (v:Value) (h:Heap) (hl:Sl Rep.sent h v l) (hs:l.length≤100000) (K:Value→Heap→Prop)
    (hk:∀ h' w A,Ext h h'→Ow Rep.sent h h' 62 A w l→K w h'):Ok Tryz.prog tab ov 114 [v] h K:=by
  rw [zaa h]
  obtain ⟨b,hb,hnil⟩:=zwR hl
  refine Ok.into rfl zuu (zaD N114) rfl (m:=7) rfl ?_
  simp -implicitDefEqProofs only [syms,symx,seval,c114,hb]
  cases b
  · simp -implicitDefEqProofs only [syms,symx,seval,c114,za3,znP]
    obtain ⟨news,hs,hsr⟩:=ziW (A:=h.size+1) (r:=Rep.sent) (by decide) (hl.lay [.row [] 62 false] h.low) (fun cs y hr=>hr)
    have f:Ow Rep.sent h (h.lay [.row [] 62 false] h.low) 62 (h.size+1) (.slice (some ⟨h.size+0,0,none⟩) 0 0) [] :=
      .inl ⟨by omega,rfl,.inr ⟨h.size+0,0,rfl,by omega,by rw [zag]; simp,[],62,false,by rw [zbc]; rfl⟩⟩
    obtain ⟨w,h',A',e1,e2,e3,e4,e5⟩:=zhV (t:=69) ds69 zbH rfl (by decide) (by rw [zag]; omega) f hs hsr (by simp only [List.length_nil]; omega) (by simp only [List.length_nil]; omega)
    rw [e1]
    simp -implicitDefEqProofs only [syms,symx,seval,c114]
    exact hk _ _ A' ((Ext.refl h).stepW e3 (by omega) (by omega)) (by simpa using e2)
  · simp -implicitDefEqProofs only [syms,symx,seval,c114]
    rw [hnil rfl] at hk
    exact hk _ _ _ ((Ext.refl h).upW _ _ (by omega)) (Ow.nil (Nat.le_refl _))
end Go.Proofs.YtemapihoobmonaaGreatDoor

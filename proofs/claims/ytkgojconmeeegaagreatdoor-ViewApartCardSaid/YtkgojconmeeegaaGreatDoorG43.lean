/- Walks: a policy's clauses. Written out by fill2.py. No condition. -/
import Derived.Test.YtkgojconmeeegaaGreatDoorG41
import Derived.Test.YtkgojconmeeegaaGreatDoorG42
set_option linter.unusedSimpArgs false
set_option linter.unusedVariables false
set_option maxRecDepth 100000
set_option maxHeartbeats 0
namespace Go.Proofs.YtkgojconmeeegaaGreatDoor
open Go.Am
theorem kX (d:au) (a:ab) (p0 p1 p2 p5 p6:Value) (q b:Int) (h:Heap) (bf:(cX p0 p1 p2 p5 p6 q b).all Am.one=true) (hd:dD h p0 p1 p2 p5 p6 d) (K:Value→Heap→Prop) (qh:rE a→∀ h',Ext h h'→K (.int .i64 0) h') (jU:∀ c h',c≠0→Ext h h'→K (.int .i64 c) h'):Ok Tryz.prog ae ov 104 [gi p0 p1 p2 p5 p6 q b,a.val] h K:=by
 rw [ao h]
 have z:=Ext.refl h
 refine Ok.aH rfl zwM (br KD) rfl (m:=31) rfl ?_
 repeat' (simp only [syms,aa,seval,pZ,ek,ec,↓eM,eh,dC])
 refine zje a _ _ (fun hv h' x=>?_) (fun c h' hc x=>?_)
 rotate_left
 ·(replace z:=z.an x (by omega);rw [ao h'])
  repeat' (first|simp only [syms,aa,seval,pZ]|((with_reducible apply iS) <;> intro _))
  all_goals first
   |exact jU _ _ hc (z.aw _ _ (by omega))
   |(exfalso;omega)
 have q0:=Holds.top (i:=0) x rfl
 have e0:=Holds.top (i:=1) x rfl
 (replace z:=z.an x (by omega);rw [ao h'])
 repeat' (simp only [syms,aa,seval,pZ,q0.lay,e0.lay,↓fm,eX,eG,Ka,R0,Ew])
 refine HI d.ah a.says _ _ _ _ _ _ _ _ ((hd.s0.mono z.inc).lay _ _) _ (fun h' x=>?_)
 (replace z:=z.an x (by omega);(replace q0:=q0.over x);(replace e0:=e0.over x);rw [ao h'])
 cases hh:jw d.ah a.says
 ·repeat' (first|simp only [syms,aa,seval,pZ,Bool.not_false]|((with_reducible_and_instances apply b8);(· rfl)))
  exact jU _ _ (by decide) (z.aw _ _ (by omega))
 repeat' (first|simp only [syms,aa,seval,pZ,Bool.not_true,q0.lay,e0.lay,↓fm,eX,eG,Ka,R0,Ew]|((with_reducible_and_instances apply b8);(· rfl)))
 refine JG d.bG a.pred _ _ _ _ _ _ _ _ ((hd.s1.mono z.inc).lay _ _) _ (fun nn bb h' x=>?_)
 (replace z:=z.an x (by omega);(replace q0:=q0.over x);(replace e0:=e0.over x);rw [ao h'])
 cases bb
 ·repeat' (first|simp only [syms,aa,seval,pZ,Bool.not_false]|((with_reducible_and_instances apply b8);(· rfl)))
  exact jU _ _ (by decide) (z.aw _ _ (by omega))
 repeat' (first|simp only [syms,aa,seval,pZ,Bool.not_true,e0.lay,Ew]|((with_reducible apply iS) <;> intro _)|((with_reducible_and_instances apply b8);(· rfl)))
 ·exact jU _ _ (by decide) (z.aw _ _ (by omega))
 ·exact qh hv _ (z.aw _ _ (by omega))
theorem pC (d:au) (a:ab) (l:List ab) (v:Value) (p0 p1 p2 p5 p6:Value) (q b:Int) (h:Heap) (bf:(cX p0 p1 p2 p5 p6 q b).all Am.one=true) (hd:dD h p0 p1 p2 p5 p6 d) (hl:Sl aJ.atom h v l) (K:Value→Heap→Prop) (qh:rE a→(∀ x∈l,rE x)→l.length≤6→∀ h',Ext h h'→K (.int .i64 0) h') (jU:∀ c h',c≠0→Ext h h'→K (.int .i64 c) h'):Ok Tryz.prog ae ov 102 [gi p0 p1 p2 p5 p6 q b,a.val,v] h K:=by
 rw [ao h]
 have z:=Ext.refl h
 have bx:=bY v
 have cz:=fun (hh:Heap)=>hl.bc bL hh
 refine Ok.aH rfl zwK (br KB) rfl (m:=30) rfl ?_
 repeat' (simp only [syms,aa,seval,kq,ek,ec,↓fm,eX,eG,↓eM,eh,dC,bx])
 refine kX d a _ _ _ _ _ _ _ _ bf (hd.lay _ _) _ (fun hv h' x=>?_) (fun c h' hc x=>?_)
 rotate_left
 ·(replace z:=z.an x (by omega);rw [ao h'])
  repeat' (first|simp only [syms,aa,seval,kq]|((with_reducible apply iS) <;> intro _))
  all_goals first
   |exact jU _ _ hc (z.aw _ _ (by omega))
   |(exfalso;omega)
 have q0:=Holds.top (i:=0) x rfl
 (replace z:=z.an x (by omega);rw [ao h'])
 obtain ⟨A0,dZ⟩:∃ A0,A0=h.size+0:=⟨_,rfl⟩
 rw [← dZ] at q0
 rw [← dZ]
 repeat' (first|simp only [syms,aa,seval,kq,bx,cz]|((with_reducible apply bt) <;> intro _))
 ·exact jU _ _ (by decide) (z.aw _ _ (by omega))
 obtain ⟨I1,aS⟩:∃ I:Nat→Env→Heap→Prop,I=(fun n e h'=>∃ (i:Nat) (h1:Heap),h'=h1.lay [] h1.low∧Ext h h1∧(n=l.length - i∧i≤l.length∧(∀ x∈l.take i,rE x)∧Holds h1 A0 (.row (cX p0 p1 p2 p5 p6 q b) 28 false))∧∃ J:Nat→Value,e=(jr J 0 2 (v::.pointer (some ⟨A0,0,none⟩)::jr J 4 4 (.int .i64 i::jr J 9 24 ([]))))):=⟨_,rfl⟩
 refine dj I1 _ (by rw [aS];exact ⟨0,_,rfl,z,⟨rfl,by omega,by simp,q0⟩,aE (by kernel_rfl)⟩) ?_
 intro n e h' aL
 rw [aS] at aL
 obtain ⟨i,bH,rfl,z,hinv,J,rfl⟩:=aL
 clear q0
 obtain ⟨rfl,hi,aB,q0⟩:=hinv
 have hw:=eb i (by omega)
 simp only [syms,aa,seval,kq,bx,cz]
 refine bt (fun aR=>?_) (fun aR=>?_)
 rotate_left
 ·rw [List.take_of_length_le (by omega)] at aB
  repeat' (simp only [syms,aa,seval,kq])
  exact qh hv aB (by omega) _ (z.aw _ _ (by omega))
 obtain ⟨r,hr,bz⟩:=eU (l:=l) (i:=i) (by omega)
 repeat' (first|simp only [syms,aa,seval,kq,q0.lay,↓fm,eX,eG,bx]|with_reducible refine dH (by simp only [kq]) (z.aw _ _ (by omega)) ?_|with_reducible_and_instances refine pT (hl.mono z.inc) bL bO (by omega) hr (fun p hp=>?_)|with_reducible_and_instances refine mW hp fx bO ?_)
 refine kX d r _ _ _ _ _ _ _ _ bf ((hd.mono z.inc).lay _ _) _ (fun ph h' x=>?_) (fun c h' hc x=>?_)
 ·(( ((with_reducible refine dv ?_ ?_ ?_);(· exact (by ( simp only [dx] );have:=z.size;omega));(·  exact x )) );replace z:=z.an x (by omega);( replace q0:=q0.over x );rw [ao h'])
  repeat' (first|simp only [syms,aa,seval,kq]|((with_reducible refine ⟨z.cN.lay _ _,?_⟩);(intro _ h' zz x _);(simp only [el,List.append_nil] at x);(replace q0:=q0.over x);(replace z:=zz);(clear zz);rw [ao h']))
  rw [hw]
  (rw [aS];with_reducible refine cB (m:=_) ?_ ⟨i+1,_,rfl,z,⟨rfl,by omega,oC (i:=i) (P:=rE) bz aB ph,q0⟩,aE (by kernel_rfl)⟩;omega)
 ·(( ((with_reducible refine dv ?_ ?_ ?_);(· exact (by ( simp only [dx] );have:=z.size;omega));(·  exact x )) );replace z:=z.an x (by omega);( replace q0:=q0.over x );rw [ao h'])
  repeat' (first|simp only [syms,aa,seval,kq]|((with_reducible apply iS) <;> intro _)|((with_reducible refine ⟨z.cN.lay _ _,?_⟩);(intro _ h' zz x _);(simp only [el,List.append_nil] at x);(replace q0:=q0.over x);(replace z:=zz);(clear zz);rw [ao h']))
  all_goals first
   |exact jU _ _ hc (z.aw _ _ (by omega))
   |(exfalso;omega)
theorem zk5:cw Tryz.prog ae .eql 4 (.bool true) (.bool true)=some (.bool true):=by kernel_rfl
theorem zj:cw Tryz.prog ae .eql 4 (.bool true) (.bool false)=some (.bool false):=by kernel_rfl
theorem zjT:cw Tryz.prog ae .eql 4 (.bool false) (.bool true)=some (.bool false):=by kernel_rfl
theorem zjL:cw Tryz.prog ae .eql 4 (.bool false) (.bool false)=some (.bool true):=by kernel_rfl
theorem zhG (a:ab) (i:Nat) (hi:i < 4):a.cells[3+i*2+0]? = some (.bool (a.arg i).v):=by
 have:i=0∨i=1∨i=2∨i=3:=by omega
 rcases this with rfl|rfl|rfl|rfl <;> rfl
theorem zhH (a:ab) (i:Nat) (hi:i < 4):a.cells[3+i*2+1]? = some (.string (a.arg i).s):=by
 have:i=0∨i=1∨i=2∨i=3:=by omega
 rcases this with rfl|rfl|rfl|rfl <;> rfl
theorem EG (a:ab) (bv:Bool) (h:Heap) (K:Value→Heap→Prop) (hk:∀ w l h',Ext h h'→Sl aJ.str h' w l→l.length≤4→K w h'):Ok Tryz.prog ae ov 191 [a.val,.bool bv] h K:=by
 rw [ao h]
 have z:=Ext.refl h
 have wI:a.cL≤4:=by unfold ab.cL;omega
 refine Ok.aH rfl zxD (br Lv) rfl (m:=50) rfl ?_
 repeat' (simp only [syms,aa,seval,k6,ec])
 refine ml (fun h' x hq=>?_)
 have q0:=hq 0 _ rfl
 clear hq
 (replace z:=z.an x (by omega);rw [ao h'])
 have uq:=z.size
 obtain ⟨A0,dZ⟩:∃ A0,A0=h.size+0:=⟨_,rfl⟩
 rw [← dZ] at q0
 rw [← dZ]
 have q0l:=q0.lt
 obtain ⟨I1,aS⟩:∃ I:Nat→Env→Heap→Prop,I=(fun n e h'=>∃ (i:Nat) (wv:Value) (A:Nat) (l:List ByteArray) (h1:Heap),h'=h1.lay [] h1.low∧Ext h h1∧(n=a.cL - i∧i≤a.cL∧l.length≤i∧Ow aJ.str h h1 9 A wv l∧A≠A0∧Holds h1 A0 (.row a.cells 34 false))∧∃ J:Nat→Value,e=(J 0::.bool bv::.pointer (some ⟨A0,0,none⟩)::jr J 3 2 (wv::.int .i64 i::jr J 7 45 ([])))):=⟨_,rfl⟩
 refine dj I1 _ (by rw [aS];exact ⟨0,.slice none 0 0,A0+1,[],_,rfl,z,⟨rfl,by omega,by simp,Ow.nil (by omega),by omega,q0⟩,aE (by kernel_rfl)⟩) ?_
 intro n e h' aL
 rw [aS] at aL
 obtain ⟨i,wv,A,l,bH,rfl,z,hinv,J,rfl⟩:=aL
 clear q0
 obtain ⟨rfl,hi,DM,ow,hAA,q0⟩:=hinv
 have hw:=eb i (by omega)
 have eR:=bY wv
 simp only [syms,aa,seval,k6,q0.lay,↓eM,eh,dC]
 refine Xq a _ _ (fun h' x=>?_)
 (replace z:=z.an x (by omega);(replace q0:=q0.over x);(replace ow:=ow.over x);rw [ao h'])
 simp only [syms,aa,seval,k6]
 refine bt (fun aR=>?_) (fun aR=>?_)
 rotate_left
 ·repeat' ( simp only [syms,aa,seval,k6,eR])
  exact hk _ _ _ (z.aw _ _ (by omega)) ((ow.sl (by decide)).lay _ _) (by omega)
 repeat' (simp only [syms,aa,seval,k6])
 obtain ⟨I2,fM⟩:∃ I:Nat→Env→Heap→Prop,I=(fun n e h'=>∃ (k:Nat) (b:Bool) (h1:Heap),h'=h1.lay [] h1.low∧Ext h h1∧(n=i - k∧k≤i∧Ow aJ.str h h1 9 A wv l∧Holds h1 A0 (.row a.cells 34 false))∧∃ J:Nat→Value,e=(J 0::.bool bv::.pointer (some ⟨A0,0,none⟩)::jr J 3 2 (wv::.int .i64 i::.bool b::.int .i64 k::jr J 9 43 ([])))):=⟨_,rfl⟩
 refine dj I2 _ (by rw [fM];exact ⟨0,false,_,rfl,z,⟨rfl,by omega,ow,q0⟩,aE (by kernel_rfl)⟩) ?_
 intro n e h' aL
 rw [fM] at aL
 obtain ⟨k,b,bH,rfl,z,hinv,J,rfl⟩:=aL
 clear q0 ow
 obtain ⟨rfl,wP,ow,q0⟩:=hinv
 have pP:=eb k (by omega)
 have IM:(0:Int)≤(i:Int)∧(i:Int) < 4:=by omega
 have lN:=Xk a i (by omega)
 simp only [syms,aa,seval,k6]
 refine bt (fun i7=>?_) (fun i7=>?_)
 ·have wQ:(0:Int)≤(k:Int)∧(k:Int) < 4:=by omega
  have Nw:=Xk a k (by omega)
  cases b
  ·repeat' (first|simp only [syms,aa,seval,k6,q0.lay,IM,wQ,↓lN,↓Nw,W4,RF,and_self,if_true,znb]|with_reducible refine dH (by simp only [k6]) (z.aw _ _ (by omega)) ?_|((with_reducible  apply bt ) <;> intro _)|((with_reducible refine ⟨z.cN.lay _ _,?_⟩);(intro _ h' zz x _);( simp only [el,List.append_nil] at x );( replace q0:=q0.over x );( replace ow:=ow.over x );(replace z:=zz);(clear zz);rw [ao h']))
   all_goals rw [pP]
   ·(rw [fM];with_reducible refine cB (m:=_) ?_ ⟨k+1,true,_,rfl,z,⟨rfl,by omega,ow,q0⟩,aE (by kernel_rfl)⟩;omega)
   ·(rw [fM];with_reducible refine cB (m:=_) ?_ ⟨k+1,false,_,rfl,z,⟨rfl,by omega,ow,q0⟩,aE (by kernel_rfl)⟩;omega)
  ·repeat' (first|simp only [syms,aa,seval,k6,q0.lay,IM,wQ,↓lN,↓Nw,W4,RF,and_self,if_true]|with_reducible refine dH (by simp only [k6]) (z.aw _ _ (by omega)) ?_|((with_reducible refine ⟨z.cN.lay _ _,?_⟩);(intro _ h' zz x _);( simp only [el,List.append_nil] at x );( replace q0:=q0.over x );( replace ow:=ow.over x );(replace z:=zz);(clear zz);rw [ao h']))
   rw [pP]
   (rw [fM];with_reducible refine cB (m:=_) ?_ ⟨k+1,true,_,rfl,z,⟨rfl,by omega,ow,q0⟩,aE (by kernel_rfl)⟩;omega)
 have IK:=zhG a i (by omega)
 have hcS:=zhH a i (by omega)
 have um:IntKind.i64.wrap ((i:Int)+1)=((i+1:Nat):Int):=hw
 obtain ⟨vb,sQ⟩:∃ vb,(a.arg i).v=vb:=⟨_,rfl⟩
 rw [sQ] at IK
 have asF:∀ (h:Heap) (K:Value→Heap→Prop),aW (some (.bool vb)) h K=K (.bool vb) h:=fun _ _=>rfl
 cases vb
 all_goals
  cases bv
  all_goals
   cases b
   all_goals
    repeat' (first|simp only [syms,aa,seval,k6,q0.lay,IM,and_self,if_true,IK,hcS,eR,zk5,zj,zjT,zjL,Bool.not_false,Bool.not_true]|((with_reducible_and_instances apply b8);(· rfl)))
 all_goals first
  |(rw [hw]
    (rw [aS];with_reducible refine cB (m:=_) ?_ ⟨i+1,wv,A,l,_,rfl,z,⟨rfl,by omega,by omega,ow,hAA,q0⟩,aE (by kernel_rfl)⟩;omega))
  |skip
 all_goals
  simp only [syms,aa,seval,k6,lG,VU]
  have zO:(bH.lay [bh.row [Value.string (a.arg i).s] 9 false] bH.low).size=bH.size+1:=by rw [bm];rfl
  obtain ⟨lS,mR⟩:=J8 (r:=aJ.str) (A:=A) (c:=1) (y:=(a.arg i).s) (by decide) (show (bH.lay [bh.row [Value.string (a.arg i).s] 9 false] bH.low).get (bH.size+0)=some (.row [Value.string (a.arg i).s] 9 false) by rw [iR];rfl) rfl
  have hz:=z.size
  obtain ⟨w',h2,A',e1,e2,e3,e4,e5⟩:=zb (t:=22) cY Eo rfl (by decide) (by rw [zO];omega) (ow.mono (cn.lay _ _ _)) lS mR (by omega) (by omega)
  have Ab:=ow.fresh
  have q0l:=q0.lt
  rw [zO] at e4
  replace z:=(z.aw [bh.row [Value.string (a.arg i).s] 9 false] bH.low (by omega)).step e3 Ab
  have q1:=q0.bE e3 (by omega)
  rw [e1,ao h2]
  clear q0 ow
 all_goals
  repeat' (simp only [syms,aa,seval,k6])
  rw [hw]
  (rw [aS];with_reducible refine cB (m:=_) ?_ ⟨i+1,w',A',l++[(a.arg i).s],_,rfl,z,⟨rfl,by omega,by rw [List.length_append,List.length_singleton];omega,e2,by omega,q1⟩,aE (by kernel_rfl)⟩;omega)
theorem HU (a:ab) (h:Heap) (K:Value→Heap→Prop) (hk:∀ w l h',Ext h h'→Sl aJ.str h' w l→l.length≤4→K w h'):Ok Tryz.prog ae ov 154 [a.val] h K:=by
 rw [ao h]
 have z:=Ext.refl h
 refine Ok.aH rfl zxg (br K8) rfl (m:=4) rfl ?_
 repeat' (simp only [syms,aa,seval,Mq,ec,↓eM,eh,dC])
 refine EG a true _ _ (fun w l h' x s hl=>?_)
 (replace z:=z.an x (by omega);rw [ao h'])
 have eR:=bY w
 repeat' (simp only [syms,aa,seval,Mq,eR])
 exact hk _ _ _ (z.aw _ _ (by omega)) (s.lay _ _) hl
theorem zjf (s:ByteArray):nV ae 31 [(0,.bool true),(1,.string s)]=some (.agg ⟨[.bool true,.string s]⟩):=by kernel_rfl
theorem zhp (a:aX) (s:ByteArray):cw Tryz.prog ae .eql 31 a.val (.agg ⟨[.bool true,.string s]⟩)=some (.bool (decide (a=⟨true,s⟩))):=znb a ⟨true,s⟩
theorem sk (a:ab) (l:List ab) (v:Value) (h:Heap) (hl:Sl aJ.atom h v l) (hn:l.length≤6) (pg:∀ x∈l,rE x) (K:Value→Heap→Prop) (hk:∀ b h',Ext h h'→K (.bool b) h'):Ok Tryz.prog ae ov 103 [a.val,v] h K:=by
 rw [ao h]
 have z:=Ext.refl h
 have bx:=bY v
 have cz:=fun (hh:Heap)=>hl.bc bL hh
 refine Ok.aH rfl zwL (br KC) rfl (m:=49) rfl ?_
 repeat' (simp only [syms,aa,seval,jL,ec,↓eM,eh,dC,bx])
 refine HU a _ _ (fun w ns h' x sn Gz=>?_)
 (replace z:=z.an x (by omega);rw [ao h'])
 have hw:=bY w
 repeat' (simp only [syms,aa,seval,jL,hw])
 have qv:=fun (hh:Heap)=>sn.bc cY hh
 obtain ⟨I1,aS⟩:∃ I:Nat→Env→Heap→Prop,I=(fun n e h'=>∃ (i:Nat) (h1:Heap),h'=h1.lay [] h1.low∧Ext h h1∧(n=ns.length - i∧i≤ns.length∧Sl aJ.str h1 w ns)∧∃ J:Nat→Value,e=(J 0::v::jr J 2 3 (w::.int .i64 i::jr J 7 44 ([])))):=⟨_,rfl⟩
 refine dj I1 _ (by rw [aS];exact ⟨0,_,rfl,z,⟨rfl,by omega,sn⟩,aE (by kernel_rfl)⟩) ?_
 intro n e h' aL
 rw [aS] at aL
 obtain ⟨i,bH,rfl,z,hinv,J,rfl⟩:=aL
 clear sn
 obtain ⟨rfl,hi,sn⟩:=hinv
 have gl:=eb i (by omega)
 simp only [syms,aa,seval,jL,hw,qv]
 refine bt (fun aR=>?_) (fun aR=>?_)
 rotate_left
 ·repeat' ( simp only [syms,aa,seval,jL])
  exact hk _ _ (z.aw _ _ (by omega))
 obtain ⟨s,hs,jH⟩:=eU (l:=ns) (i:=i) (by omega)
 repeat' (simp only [syms,aa,seval,jL])
 obtain ⟨I2,fM⟩:∃ I:Nat→Env→Heap→Prop,I=(fun n e h'=>∃ (k:Nat) (b:Bool) (h1:Heap),h'=h1.lay [] h1.low∧Ext h h1∧(n=l.length - k∧k≤l.length∧Sl aJ.str h1 w ns)∧∃ J:Nat→Value,e=(J 0::v::jr J 2 3 (w::.int .i64 i::.bool b::.int .i64 k::jr J 9 42 ([])))):=⟨_,rfl⟩
 refine dj I2 _ (by rw [fM];exact ⟨0,false,_,rfl,z,⟨rfl,by omega,sn⟩,aE (by kernel_rfl)⟩) ?_
 intro n e h' aL
 rw [fM] at aL
 obtain ⟨k,b,bH,rfl,z,hinv,J,rfl⟩:=aL
 clear sn
 obtain ⟨rfl,wP,sn⟩:=hinv
 have pP:=eb k (by omega)
 simp only [syms,aa,seval,jL,bx,cz]
 refine bt (fun i7=>?_) (fun i7=>?_)
 ·obtain ⟨r,hr,bz⟩:=eU (l:=l) (i:=k) (by omega)
  have ph:=pg _ (List.mem_of_getElem? bz)
  repeat' (simp only [syms,aa,seval,jL])
  obtain ⟨I3,mF⟩:∃ I:Nat→Env→Heap→Prop,I=(fun n e h'=>∃ (m:Nat) (b:Bool) (h1:Heap),h'=h1.lay [] h1.low∧Ext h h1∧(n=4 - m∧m≤4∧Sl aJ.str h1 w ns)∧∃ J:Nat→Value,e=(J 0::v::jr J 2 3 (w::.int .i64 i::.bool b::.int .i64 k::.int .i64 m::jr J 10 41 ([])))):=⟨_,rfl⟩
  refine dj I3 _ (by rw [mF];exact ⟨0,b,_,rfl,z,⟨rfl,by omega,sn⟩,aE (by kernel_rfl)⟩) ?_
  intro n e h' aL
  rw [mF] at aL
  obtain ⟨m,b,bH,rfl,z,hinv,J,rfl⟩:=aL
  clear sn
  obtain ⟨rfl,hm,sn⟩:=hinv
  have Tt:=eb m (by omega)
  simp only [syms,aa,seval,jL,bx]
  repeat' ((first|((with_reducible apply bt) <;> intro _)|with_reducible_and_instances refine pT (hl.mono z.inc) bL bO (by omega) hr (fun p hp=>?_)|with_reducible_and_instances refine Z9 hp EC (fun q hq=>?_)|with_reducible_and_instances refine hY hq L5 ?_) <;> simp only [syms,aa,seval,jL,bx])
  rotate_left
  ·rw [pP]
   (rw [fM];with_reducible refine cB (m:=_) ?_ ⟨k+1,b,_,rfl,z,⟨rfl,by omega,sn⟩,aE (by kernel_rfl)⟩;omega)
  have Gx:m < 4:=by have:=ph.hi;omega
  cases b
  rotate_left
  ·repeat' ((first|with_reducible refine dH (by simp only [jL]) (z.aw _ _ (by omega)) ?_|((with_reducible refine ⟨z.cN.lay _ _,?_⟩);(intro _ h' zz x _);( simp only [el,List.append_nil] at x );( replace sn:=sn.over x );(replace z:=zz);(clear zz);rw [ao h'])) <;> simp only [syms,aa,seval,jL,bx,hw])
   rw [Tt]
   (rw [mF];with_reducible refine cB (m:=_) ?_ ⟨m+1,true,_,rfl,z,⟨rfl,by omega,sn⟩,aE (by kernel_rfl)⟩;omega)
  repeat' ((first|with_reducible refine dH (by simp only [jL]) (z.aw _ _ (by omega)) ?_|((with_reducible apply bt) <;> intro _)|with_reducible_and_instances refine pT (hl.mono z.inc) bL bO (by omega) hr (fun p hp=>?_)|with_reducible_and_instances refine aaa hp Da (fun p hp=>?_)|with_reducible_and_instances refine ixg hp rY (by omega) (by omega) (fun p hp=>?_)|with_reducible_and_instances refine I8 hp pY jC ?_|with_reducible_and_instances refine qV sn cY oq (by omega) hs (fun p hp=>?_)|with_reducible_and_instances refine hY hp kc ?_|((with_reducible refine ⟨z.cN.lay _ _,?_⟩);(intro _ h' zz x _);(simp only [el,List.append_nil] at x);(replace sn:=sn.over x);(replace z:=zz);(clear zz);rw [ao h'])) <;> simp only [syms,aa,seval,jL,bx,hw,zjf,zhp])
  all_goals rw [Tt]
  ·(rw [mF];with_reducible refine cB (m:=_) ?_ ⟨m+1,true,_,rfl,z,⟨rfl,by omega,sn⟩,aE (by kernel_rfl)⟩;omega)
  ·(rw [mF];with_reducible refine cB (m:=_) ?_ ⟨m+1,false,_,rfl,z,⟨rfl,by omega,sn⟩,aE (by kernel_rfl)⟩;omega)
 cases b
 ·repeat' (first|simp only [syms,aa,seval,jL,Bool.not_false]|((with_reducible_and_instances apply b8);(· rfl)))
  exact hk _ _ (z.aw _ _ (by omega))
 ·repeat' (first|simp only [syms,aa,seval,jL,Bool.not_true]|((with_reducible_and_instances apply b8);(· rfl)))
  rw [gl]
  (rw [aS];with_reducible refine cB (m:=_) ?_ ⟨i+1,_,rfl,z,⟨rfl,by omega,sn⟩,aE (by kernel_rfl)⟩;omega)
theorem zli (h:Heap) (l:List bh) (w i o:Nat) (v:Value) (hi:i < l.length):ic ae 80 (.pointer (some ⟨h.size+i,o,none⟩)) v (h.lay l w)=if v.cells.size=13 then rz l[i]? i o v.cells.toList h l w else none:=uO nP h l w i o v hi
theorem zhI (d:au) (p0 p1 p2 p5 p6:Value) (q b:Int) (h:Heap) (bf:(cX p0 p1 p2 p5 p6 q b).all Am.one=true) (hd:dD h p0 p1 p2 p5 p6 d) (hn:d.aF.length≤70) (K:Value→Heap→Prop) (hk:∀ c h',Ext h h'→K (.int .i64 c) h'):Ok Tryz.prog ae ov 58 [gi p0 p1 p2 p5 p6 q b] h K:=by
 rw [ao h]
 have z:=Ext.refl h
 have ji:=bY p5
 have kG:=bY p6
 have mO:=fun (hh:Heap)=>hd.s5.bc my hh
 have lQ:=fun (hh:Heap)=>hd.s6.bc nE hh
 have ar1:=hd.s5.le
 have ar2:=hd.s6.le
 refine Ok.aH rfl zDH (br VM) rfl (m:=133) rfl ?_
 repeat' (simp only [syms,aa,seval,jQ,ek,↓fm,eX,eG])
 refine zjc d.ah _ _ _ _ _ _ _ _ (hd.s0.lay _ _) _ (fun c h' x=>?_)
 have q0:=Holds.top (i:=0) x rfl
 (replace z:=z.an x (by omega);rw [ao h'])
 obtain ⟨A0,dZ⟩:∃ A0,A0=h.size+0:=⟨_,rfl⟩
 rw [← dZ] at q0
 rw [← dZ]
 by_cases hc:c=0
 rotate_left
 ·repeat' (first|simp only [syms,aa,seval,jQ]|((with_reducible first|apply nX|apply iS ) <;> intro _))
  all_goals first
   |exact hk _ _ (z.aw _ _ (by omega))
   |(exfalso;omega)
 subst hc
 repeat' (simp only [syms,aa,seval,jQ,q0.lay,↓fm,eX,eG])
 refine zjb d.bG _ _ _ _ _ _ _ _ ((hd.s1.mono z.inc).lay _ _) _ (fun c h' x=>?_)
 (replace z:=z.an x (by omega);(replace q0:=q0.over x);rw [ao h'])
 by_cases hc:c=0
 rotate_left
 ·repeat' (first|simp only [syms,aa,seval,jQ]|((with_reducible first|apply nX|apply iS ) <;> intro _))
  all_goals first
   |exact hk _ _ (z.aw _ _ (by omega))
   |(exfalso;omega)
 subst hc
 repeat' (simp only [syms,aa,seval,jQ,q0.lay,↓fm,eX,eG])
 refine HN d _ _ _ _ _ _ _ _ bf ((hd.mono z.inc).lay _ _) hn _ (fun c h' x=>?_)
 (replace z:=z.an x (by omega);(replace q0:=q0.over x);rw [ao h'])
 by_cases hc:c=0
 rotate_left
 ·repeat' (first|simp only [syms,aa,seval,jQ]|((with_reducible  apply iS ) <;> intro _))
  all_goals first
   |exact hk _ _ (z.aw _ _ (by omega))
   |(exfalso;omega)
 subst hc
 repeat' (first|simp only [syms,aa,seval,jQ,q0.lay,Hf,Hg,gB,gN,ji,kG,mO,lQ]|((with_reducible apply bt) <;> intro _))
 iterate 7 (· exact hk _ _ (z.aw _ _ (by omega)))
 have e5:d.rules.length≤64:=by omega
 have e6:d.bo.length≤64:=by omega
 obtain ⟨I1,aS⟩:∃ I:Nat→Env→Heap→Prop,I=(fun n e h'=>∃ (i:Nat) (h1:Heap),h'=h1.lay [] h1.low∧Ext h h1∧(n=d.rules.length - i∧i≤d.rules.length∧Holds h1 A0 (.row (cX p0 p1 p2 p5 p6 q b) 28 false))∧∃ J:Nat→Value,e=(J 0::.pointer (some ⟨A0,0,none⟩)::jr J 2 2 (.int .i64 i::jr J 5 129 ([])))):=⟨_,rfl⟩
 refine dj I1 _ (by rw [aS];exact ⟨0,_,rfl,z,⟨rfl,by omega,q0⟩,aE (by kernel_rfl)⟩) ?_
 intro n e h' aL
 rw [aS] at aL
 obtain ⟨i,bH,rfl,z,hinv,J,rfl⟩:=aL
 clear q0
 obtain ⟨rfl,hi,q0⟩:=hinv
 have hw:=eb i (by omega)
 simp only [syms,aa,seval,jQ,q0.lay,gB,ji,mO]
 refine bt (fun aR=>?_) (fun aR=>?_)
 ·obtain ⟨r,hr,bz⟩:=eU (l:=d.rules) (i:=i) (by omega)
  repeat' (first|simp only [syms,aa,seval,jQ,q0.lay,↓fm,eX,eG,gB,ji]|with_reducible refine dH (by simp only [jQ]) (z.aw _ _ (by omega)) ?_|with_reducible_and_instances refine Si (hd.s5.mono z.inc) my px (by omega) hr (fun p bv hb hp=>?_)|with_reducible_and_instances refine FL hp HZ (fun qq hq=>?_)|with_reducible_and_instances refine mW hq fx bO ?_|with_reducible_and_instances refine FN hp H2 (fun qq hq=>?_)|with_reducible_and_instances refine hY hq rG ?_)
  refine pC d r.head r.body bv _ _ _ _ _ _ _ _ bf ((hd.mono z.inc).lay _ _) (hb.lay _ _) _ (fun hvh sQ rK h' x=>?_) (fun c h' hc x=>?_)
  rotate_left
  ·(( ((with_reducible refine dv ?_ ?_ ?_);(· exact (by ( simp only [dx] );have:=z.size;omega));(·  exact x )) );replace z:=z.an x (by omega);( replace q0:=q0.over x );rw [ao h'])
   repeat' (first|simp only [syms,aa,seval,jQ]|with_reducible refine dH (by simp only [jQ]) (z.aw _ _ (by omega)) ?_|((with_reducible first|apply nX|apply iS) <;> intro _)|((with_reducible refine ⟨z.cN.lay _ _,?_⟩);(intro _ h' zz x _);(simp only [el,List.append_nil] at x);(replace q0:=q0.over x);(replace z:=zz);(clear zz);rw [ao h']))
   all_goals first
    |exact hk _ _ (z.aw _ _ (by omega))
    |(exfalso;omega)
  (((with_reducible refine dv ?_ ?_ ?_);(· exact (by (simp only [dx]);have:=z.size;omega));(· exact x));replace z:=z.an x (by omega);(replace q0:=q0.over x);rw [ao h'])
  clear hb
  repeat' (first|simp only [syms,aa,seval,jQ,q0.lay,gB,ji]|with_reducible refine dH (by simp only [jQ]) (z.aw _ _ (by omega)) ?_|with_reducible_and_instances refine Si (hd.s5.mono z.inc) my px (by omega) hr (fun p bv hb hp=>?_)|with_reducible_and_instances refine FL hp HZ (fun qq hq=>?_)|with_reducible_and_instances refine mW hq fx bO ?_|with_reducible_and_instances refine FN hp H2 (fun qq hq=>?_)|with_reducible_and_instances refine hY hq rG ?_|((with_reducible refine ⟨z.cN.lay _ _,?_⟩);(intro _ h' zz x _);(simp only [el,List.append_nil] at x);(replace q0:=q0.over x);(replace z:=zz);(clear zz);rw [ao h']))
  refine sk r.head r.body bv _ (hb.lay _ _) rK sQ _ (fun bb h' x=>?_)
  (((with_reducible refine dv ?_ ?_ ?_);(· exact (by (simp only [dx]);have:=z.size;omega));(· exact x));replace z:=z.an x (by omega);(replace q0:=q0.over x);rw [ao h'])
  cases bb
  ·repeat' (first|simp only [syms,aa,seval,jQ,Bool.not_false]|((with_reducible_and_instances apply b8);(· rfl))|((with_reducible refine ⟨z.cN.lay _ _,?_⟩);(intro _ h' zz x _);( simp only [el,List.append_nil] at x );( replace q0:=q0.over x );(replace z:=zz);(clear zz);rw [ao h']))
   exact hk _ _ (z.aw _ _ (by omega))
  ·repeat' (first|simp only [syms,aa,seval,jQ,Bool.not_true]|((with_reducible_and_instances apply b8);(· rfl))|((with_reducible refine ⟨z.cN.lay _ _,?_⟩);(intro _ h' zz x _);( simp only [el,List.append_nil] at x );( replace q0:=q0.over x );(replace z:=zz);(clear zz);rw [ao h']))
   rw [hw]
   (rw [aS];with_reducible refine cB (m:=_) ?_ ⟨i+1,_,rfl,z,⟨rfl,by omega,q0⟩,aE (by kernel_rfl)⟩;omega)
 clear hi aR hw
 simp only [syms,aa,seval,jQ]
 obtain ⟨I2,fM⟩:∃ I:Nat→Env→Heap→Prop,I=(fun n e h'=>∃ (i:Nat) (h1:Heap),h'=h1.lay [] h1.low∧Ext h h1∧(n=d.bo.length - i∧i≤d.bo.length∧Holds h1 A0 (.row (cX p0 p1 p2 p5 p6 q b) 28 false))∧∃ J:Nat→Value,e=(J 0::.pointer (some ⟨A0,0,none⟩)::jr J 2 3 (.int .i64 i::jr J 6 128 ([])))):=⟨_,rfl⟩
 refine dj I2 _ (by rw [fM];exact ⟨0,_,rfl,z,⟨rfl,by omega,q0⟩,aE (by kernel_rfl)⟩) ?_
 intro n e h' aL
 rw [fM] at aL
 obtain ⟨i,bH,rfl,z,hinv,J,rfl⟩:=aL
 clear q0
 obtain ⟨rfl,hi,q0⟩:=hinv
 have hw:=eb i (by omega)
 simp only [syms,aa,seval,jQ,q0.lay,gN,kG,lQ]
 refine bt (fun aR=>?_) (fun aR=>?_)
 rotate_left
 ·repeat' ( simp only [syms,aa,seval,jQ])
  exact hk _ _ (z.aw _ _ (by omega))
 obtain ⟨r,hr,bz⟩:=eU (l:=d.bo) (i:=i) (by omega)
 repeat' (first|simp only [syms,aa,seval,jQ,q0.lay,↓fm,eX,eG,gN,kG,nT,pA,List.all_cons,List.all_nil,Am.one,Bool.and_true,Bool.true_and,Bool.and_self,List.set_cons_zero,List.set_cons_succ,lW,fV,pt,iA,iB,pF,zli]|with_reducible_and_instances refine XO (hd.s6.mono z.inc) nE nP (by omega) hr (fun p bv hb hp=>?_)|with_reducible_and_instances refine YV hp zq nP ?_)
 have GC:(r.head.cells++[bv]).all Am.one=true:=by have:=hb.one;simp only [ab.cells,List.all_append,List.all_cons,List.all_nil,this];rfl
 have vl:(r.head.cells++[bv]).length=12:=rfl
 have hbv:=bY bv
 have Bp:(Value.string r.to::(r.head.cells++[bv]))[0]? = some (.string r.to):=rfl
 have yq:(Value.string r.to::(r.head.cells++[bv]))[1]? = some (.string r.head.says):=rfl
 have acf:(Value.string r.to::(r.head.cells++[bv]))[12]? = some bv:=rfl
 have hgc:cut (Value.string r.to::(r.head.cells++[bv])) 1 11=some r.head.cells:=rfl
 rw [if_pos vl,if_pos (by rw [vl,GC];rfl),show (Value.string r.to::(r.head.cells++bv::List.drop (r.head.cells++[bv]).length [Value.string ⟨#[]⟩,Value.string ⟨#[]⟩,Value.int IntKind.i64 0,Value.bool false,Value.string ⟨#[]⟩,Value.bool false,Value.string ⟨#[]⟩,Value.bool false,Value.string ⟨#[]⟩,Value.bool false,Value.string ⟨#[]⟩,Value.slice none 0 0]))=Value.string r.to::(r.head.cells++[bv]) from rfl]
 repeat' (simp only [syms,aa,seval,jQ,q0.lay,↓fm,eX,eG])
 refine HI d.ah r.to _ _ _ _ _ _ _ _ ((hd.s0.mono z.inc).lay _ _) _ (fun h' x=>?_)
 have g0:=Holds.top (i:=0) x rfl
 (replace z:=z.an x (by omega);(replace q0:=q0.over x);(replace hb:=hb.over x);rw [ao h'])
 obtain ⟨A1,nH⟩:∃ A1,A1=bH.size+0:=⟨_,rfl⟩
 rw [← nH] at g0
 rw [← nH]
 cases hh:jw d.ah r.to
 ·repeat' (first|simp only [syms,aa,seval,jQ,Bool.not_false]|((with_reducible_and_instances apply b8);(· rfl)))
  exact hk _ _ (z.aw _ _ (by omega))
 repeat' (first|simp only [syms,aa,seval,jQ,Bool.not_true,g0.lay,Bp,yq,q0.lay,↓fm,eX,eG,↓hgc,eh,dC,acf,hbv]|((with_reducible apply bt) <;> intro _)|((with_reducible_and_instances apply b8);(· rfl)))
 ·exact hk _ _ (z.aw _ _ (by omega))
 refine pC d r.head r.body bv _ _ _ _ _ _ _ _ bf ((hd.mono z.inc).lay _ _) (hb.lay _ _) _ (fun hvh sQ rK h' x=>?_) (fun c h' hc x=>?_)
 rotate_left
 ·(replace z:=z.an x (by omega);( replace q0:=q0.over x );( replace g0:=g0.over x );( replace hb:=hb.over x );rw [ao h'])
  repeat' (first|simp only [syms,aa,seval,jQ]|((with_reducible apply iS) <;> intro _))
  all_goals first
   |exact hk _ _ (z.aw _ _ (by omega))
   |(exfalso;omega)
 (replace z:=z.an x (by omega);(replace q0:=q0.over x);(replace g0:=g0.over x);(replace hb:=hb.over x);rw [ao h'])
 repeat' (simp only [syms,aa,seval,jQ])
 rw [hw]
 (rw [fM];with_reducible refine cB (m:=_) ?_ ⟨i+1,_,rfl,z,⟨rfl,by omega,q0⟩,aE (by kernel_rfl)⟩;omega)
end Go.Proofs.YtkgojconmeeegaaGreatDoor

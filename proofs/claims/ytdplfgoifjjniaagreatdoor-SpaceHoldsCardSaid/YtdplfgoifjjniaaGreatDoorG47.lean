/- Walks: ground atoms, variables, clauses and facts that may be, by the document. Written out by fill2.py. No condition. -/
import Derived.Test.YtdplfgoifjjniaaGreatDoorG46
import Derived.Test.YtdplfgoifjjniaaGreatDoorG45
set_option linter.unusedSimpArgs false
set_option linter.unusedVariables false
set_option maxRecDepth 100000
set_option maxHeartbeats 0
namespace Go.Proofs.YtdplfgoifjjniaaGreatDoor
open Go.Am
theorem zkk (a:ab) (i:Nat) (hi:i < 4):a.cells[3+i*2+0]? = some (.bool (a.arg i).v):=by
 have:i=0∨i=1∨i=2∨i=3:=by omega
 rcases this with rfl|rfl|rfl|rfl <;> rfl
theorem zqW (a:ab) (i:Nat) (hi:i < 4):a.cells[3+i*2+1]? = some (.string (a.arg i).s):=by
 have:i=0∨i=1∨i=2∨i=3:=by omega
 rcases this with rfl|rfl|rfl|rfl <;> rfl
theorem zGH:bU Tryz.prog ae .eql 4 (.bool true) (.bool true)=some (.bool true):=by kernel_rfl
theorem zGG:bU Tryz.prog ae .eql 4 (.bool true) (.bool false)=some (.bool false):=by kernel_rfl
theorem zGF:bU Tryz.prog ae .eql 4 (.bool false) (.bool true)=some (.bool false):=by kernel_rfl
theorem zGE:bU Tryz.prog ae .eql 4 (.bool false) (.bool false)=some (.bool true):=by kernel_rfl
theorem zrO (a:ab) (h:Heap) (K:Value→Heap→Prop) (hk:∀ h',Ext h h'→K (.bool a.ground) h'):Ok Tryz.prog ae ov 28 [a.val] h K:=by
 rw [ao h]
 have z:=Ext.refl h
 have Ay:a.cx≤4:=by unfold ab.cx;omega
 refine Ok.aD rfl zzJ (br N28) rfl (m:=14) rfl ?_
 repeat' (simp -implicitDefEqProofs only [syms,aa,seval,Fk,eW])
 refine lG (fun h' x hq=>?_)
 have q0:=hq 0 _ rfl
 clear hq
 (replace z:=z.an x (by omega);rw [ao h'])
 obtain ⟨A0,dS⟩:∃ A0,A0=h.size+0:=⟨_,rfl⟩
 rw [← dS] at q0
 rw [← dS]
 obtain ⟨I1,aR⟩:∃ I:Nat→Env→Heap→Prop,I=(fun n e h'=>∃ (i:Nat) (h1:Heap),h'=h1.lay [] h1.low∧Ext h h1∧(n=a.cx - i∧i≤a.cx∧(∀ j,j < i→(a.arg j).v=false)∧Holds h1 A0 (.row a.cells 42 false))∧∃ J:Nat→Value,e=(J 0::.pointer (some ⟨A0,0,none⟩)::J 2::.int .i64 i::jr J 4 11 ([]))):=⟨_,rfl⟩
 refine dg I1 _ (by rw [aR];exact ⟨0,_,rfl,z,⟨rfl,by omega,fun j hj=>by omega,q0⟩,aB (by kernel_rfl)⟩) ?_
 intro n e h' aH
 rw [aR] at aH
 obtain ⟨i,bE,rfl,z,hinv,J,rfl⟩:=aH
 clear q0
 obtain ⟨rfl,hi,az,q0⟩:=hinv
 have hw:=eg i (by omega)
 simp -implicitDefEqProofs only [syms,aa,seval,Fk,q0.lay,↓ff,eR,dQ]
 refine Pd a _ _ (fun h' x=>?_)
 (replace z:=z.an x (by omega);(replace q0:=q0.over x);rw [ao h'])
 simp -implicitDefEqProofs only [syms,aa,seval,Fk]
 refine bp (fun aS=>?_) (fun aS=>?_)
 rotate_left
 ·have hg:a.ground=true:=la.2 (fun j hj=>az j (by omega))
  rw [hg] at hk
  repeat' (simp -implicitDefEqProofs only [syms,aa,seval,Fk])
  exact hk _ (z.aw _ _ (by omega))
 have FB:(0:Int)≤(i:Int)∧(i:Int) < 4:=by omega
 have Fy:=zkk a i (by omega)
 obtain ⟨vb,qT⟩:∃ vb,(a.arg i).v=vb:=⟨_,rfl⟩
 rw [qT] at Fy
 cases vb
 ·repeat' ( simp -implicitDefEqProofs only [syms,aa,seval,Fk,q0.lay,FB,and_self,if_true,Fy])
  rw [hw]
  have uD:∀ j,j < i+1→(a.arg j).v=false:=by
   intro j hj
   by_cases jN:j < i
   ·exact az j jN
   ·have:j=i:=by omega
    subst this
    exact qT
  (rw [aR];with_reducible refine cz (m:=_) ?_ ⟨i+1,_,rfl,z,⟨rfl,by omega,uD,q0⟩,aB (by kernel_rfl)⟩;omega)
 ·have hg:a.ground=false:=by
   cases hgg:a.ground
   ·rfl
   ·rw [la.1 hgg i (by omega)] at qT
    cases qT
  rw [hg] at hk
  repeat' (simp -implicitDefEqProofs only [syms,aa,seval,Fk,q0.lay,FB,and_self,if_true,Fy])
  exact hk _ (z.aw _ _ (by omega))
theorem zns (a:ab) (bv:Bool) (h:Heap) (K:Value→Heap→Prop) (hk:∀ w l A h',Ext h h'→Ow aK.str h h' 9 A w l→l.length≤4→(∀ x,x∈l↔∃ i:Nat,i < a.cx∧(a.arg i).v=bv∧(a.arg i).s=x)→K w h'):Ok Tryz.prog ae ov 50 [a.val,.bool bv] h K:=by
 rw [ao h]
 have z:=Ext.refl h
 have Ay:a.cx≤4:=by unfold ab.cx;omega
 refine Ok.aD rfl zz3 (br N50) rfl (m:=50) rfl ?_
 repeat' (simp -implicitDefEqProofs only [syms,aa,seval,rA,eW])
 refine lG (fun h' x hq=>?_)
 have q0:=hq 0 _ rfl
 clear hq
 (replace z:=z.an x (by omega);rw [ao h'])
 have Ke:=z.size
 obtain ⟨A0,dS⟩:∃ A0,A0=h.size+0:=⟨_,rfl⟩
 rw [← dS] at q0
 rw [← dS]
 have q0l:=q0.lt
 obtain ⟨I1,aR⟩:∃ I:Nat→Env→Heap→Prop,I=(fun n e h'=>∃ (i:Nat) (wv:Value) (A:Nat) (l:List ByteArray) (h1:Heap),h'=h1.lay [] h1.low∧Ext h h1∧(n=a.cx - i∧i≤a.cx∧l.length≤i∧(∀ x,x∈l↔∃ j:Nat,j < i∧(a.arg j).v=bv∧(a.arg j).s=x)∧Ow aK.str h h1 9 A wv l∧A≠A0∧Holds h1 A0 (.row a.cells 42 false))∧∃ J:Nat→Value,e=(J 0::.bool bv::.pointer (some ⟨A0,0,none⟩)::jr J 3 2 (wv::.int .i64 i::jr J 7 45 ([])))):=⟨_,rfl⟩
 refine dg I1 _ (by rw [aR];exact ⟨0,.slice none 0 0,A0+1,[],_,rfl,z,⟨rfl,by omega,by simp,by simp,Ow.nil (by omega),by omega,q0⟩,aB (by kernel_rfl)⟩) ?_
 intro n e h' aH
 rw [aR] at aH
 obtain ⟨i,wv,A,l,bE,rfl,z,hinv,J,rfl⟩:=aH
 clear q0
 obtain ⟨rfl,hi,FH,b8,ow,Vg,q0⟩:=hinv
 have hw:=eg i (by omega)
 have jm:=cJ wv
 simp -implicitDefEqProofs only [syms,aa,seval,rA,q0.lay,↓ff,eR,dQ]
 refine Pd a _ _ (fun h' x=>?_)
 (replace z:=z.an x (by omega);(replace q0:=q0.over x);(replace ow:=ow.over x);rw [ao h'])
 simp -implicitDefEqProofs only [syms,aa,seval,rA]
 refine bp (fun aS=>?_) (fun aS=>?_)
 rotate_left
 ·have he:i=a.cx:=by omega
  rw [he] at b8
  repeat' (simp -implicitDefEqProofs only [syms,aa,seval,rA,jm])
  exact hk _ _ _ _ (z.aw _ _ (by omega)) (ow.mono (cP.lay _ _ _)) (by omega) b8
 repeat' (simp -implicitDefEqProofs only [syms,aa,seval,rA])
 obtain ⟨I2,eM⟩:∃ I:Nat→Env→Heap→Prop,I=(fun n e h'=>∃ (k:Nat) (b:Bool) (h1:Heap),h'=h1.lay [] h1.low∧Ext h h1∧(n=i - k∧k≤i∧(b=true↔∃ j:Nat,j < k∧a.arg j=a.arg i)∧Ow aK.str h h1 9 A wv l∧Holds h1 A0 (.row a.cells 42 false))∧∃ J:Nat→Value,e=(J 0::.bool bv::.pointer (some ⟨A0,0,none⟩)::jr J 3 2 (wv::.int .i64 i::.bool b::.int .i64 k::jr J 9 43 ([])))):=⟨_,rfl⟩
 refine dg I2 _ (by rw [eM];exact ⟨0,false,_,rfl,z,⟨rfl,by omega,by simp,ow,q0⟩,aB (by kernel_rfl)⟩) ?_
 intro n e h' aH
 rw [eM] at aH
 obtain ⟨k,b,bE,rfl,z,hinv,J,rfl⟩:=aH
 clear q0 ow
 obtain ⟨rfl,uk,kS,ow,q0⟩:=hinv
 have mK:=eg k (by omega)
 have FB:(0:Int)≤(i:Int)∧(i:Int) < 4:=by omega
 have oE:=O8 a i (by omega)
 simp -implicitDefEqProofs only [syms,aa,seval,rA]
 refine bp (fun jb=>?_) (fun jb=>?_)
 ·have um:(0:Int)≤(k:Int)∧(k:Int) < 4:=by omega
  have Jl:=O8 a k (by omega)
  have j8:(∃ j:Nat,j < k+1∧a.arg j=a.arg i)↔(∃ j:Nat,j < k∧a.arg j=a.arg i)∨a.arg k=a.arg i:=by
   constructor
   ·rintro ⟨j,hj,e⟩
    by_cases xj:j=k
    ·subst xj
     exact .inr e
    ·exact .inl ⟨j,by omega,e⟩
   ·rintro (⟨j,hj,e⟩|e)
    ·exact ⟨j,by omega,e⟩
    ·exact ⟨k,by omega,e⟩
  cases b
  ·repeat' (first|simp -implicitDefEqProofs only [syms,aa,seval,rA,q0.lay,FB,um,↓oE,↓Jl,O4,Mj,and_self,if_true,zmc]|with_reducible refine eu (by simp only [rA]) (z.aw _ _ (by omega)) ?_|((with_reducible  apply bp ) <;> intro _)|((with_reducible refine ⟨z.cW.lay _ _,?_⟩);(intro _ h' zz x _);( simp only [cq,List.append_nil] at x );( replace q0:=q0.over x );( replace ow:=ow.over x );(replace z:=zz);(clear zz);rw [ao h']))
   all_goals rw [mK]
   ·have qI:(true=true↔∃ j:Nat,j < k+1∧a.arg j=a.arg i):=by rw [j8];exact ⟨fun _=>.inr (by assumption),fun _=>rfl⟩
    (rw [eM];with_reducible refine cz (m:=_) ?_ ⟨k+1,true,_,rfl,z,⟨rfl,by omega,qI,ow,q0⟩,aB (by kernel_rfl)⟩;omega)
   ·have qI:(false=true↔∃ j:Nat,j < k+1∧a.arg j=a.arg i):=by
     rw [j8,← kS]
     exact ⟨fun e=>.inl e,fun e=>e.elim id (fun e=>absurd e (by assumption))⟩
    (rw [eM];with_reducible refine cz (m:=_) ?_ ⟨k+1,false,_,rfl,z,⟨rfl,by omega,qI,ow,q0⟩,aB (by kernel_rfl)⟩;omega)
  ·repeat' (first|simp -implicitDefEqProofs only [syms,aa,seval,rA,q0.lay,FB,um,↓oE,↓Jl,O4,Mj,and_self,if_true]|with_reducible refine eu (by simp only [rA]) (z.aw _ _ (by omega)) ?_|((with_reducible refine ⟨z.cW.lay _ _,?_⟩);(intro _ h' zz x _);( simp only [cq,List.append_nil] at x );( replace q0:=q0.over x );( replace ow:=ow.over x );(replace z:=zz);(clear zz);rw [ao h']))
   rw [mK]
   have qI:(true=true↔∃ j:Nat,j < k+1∧a.arg j=a.arg i):=by rw [j8];exact ⟨fun e=>.inl (kS.1 e),fun _=>rfl⟩
   (rw [eM];with_reducible refine cz (m:=_) ?_ ⟨k+1,true,_,rfl,z,⟨rfl,by omega,qI,ow,q0⟩,aB (by kernel_rfl)⟩;omega)
 have qh:k=i:=by omega
 have Fy:=zkk a i (by omega)
 have hcS:=zqW a i (by omega)
 have rW:IntKind.i64.wrap ((i:Int)+1)=((i+1:Nat):Int):=hw
 have j8:∀ x,(∃ j:Nat,j < i+1∧(a.arg j).v=bv∧(a.arg j).s=x)↔(∃ j:Nat,j < i∧(a.arg j).v=bv∧(a.arg j).s=x)∨((a.arg i).v=bv∧(a.arg i).s=x):=by
  intro x
  constructor
  ·rintro ⟨j,hj,e⟩
   by_cases xj:j=i
   ·subst xj
    exact .inr e
   ·exact .inl ⟨j,by omega,e⟩
  ·rintro (⟨j,hj,e⟩|e)
   ·exact ⟨j,by omega,e⟩
   ·exact ⟨i,by omega,e⟩
 have kl:(b=true∨¬ (a.arg i).v=bv)→∀ x,x∈l↔∃ j:Nat,j < i+1∧(a.arg j).v=bv∧(a.arg j).s=x:=by
  intro hs x
  rw [j8,← b8]
  refine ⟨.inl,fun e=>e.elim id (fun e=>?_)⟩
  rcases hs with hs|hs
  ·obtain ⟨j,hj,ej⟩:=kS.1 hs
   rw [b8]
   exact ⟨j,by omega,by rw [ej];exact e⟩
  ·exact absurd e.1 hs
 have mJ:(a.arg i).v=bv→∀ x,x∈l++[(a.arg i).s]↔∃ j:Nat,j < i+1∧(a.arg j).v=bv∧(a.arg j).s=x:=by
  intro hs x
  rw [j8,← b8,List.mem_append,List.mem_singleton]
  exact ⟨fun e=>e.imp id (fun e=>⟨hs,e.symm⟩),fun e=>e.imp id (fun e=>e.2.symm)⟩
 obtain ⟨vb,qT⟩:∃ vb,(a.arg i).v=vb:=⟨_,rfl⟩
 rw [qT] at Fy kl mJ
 have alP:∀ (h:Heap) (K:Value→Heap→Prop),aU (some (.bool vb)) h K=K (.bool vb) h:=fun _ _=>rfl
 cases vb
 all_goals
  cases bv
  all_goals
   cases b
   all_goals
    repeat' (first|simp -implicitDefEqProofs only [syms,aa,seval,rA,q0.lay,FB,and_self,if_true,Fy,hcS,jm,zGH,zGG,zGF,zGE,Bool.not_false,Bool.not_true]|((with_reducible_and_instances apply cm);(· rfl)))
 all_goals first
  |(rw [hw]
    have uL:=kl (by simp)
    (rw [aR];with_reducible refine cz (m:=_) ?_ ⟨i+1,wv,A,l,_,rfl,z,⟨rfl,by omega,by omega,uL,ow,Vg,q0⟩,aB (by kernel_rfl)⟩;omega))
  |skip
 all_goals
  simp -implicitDefEqProofs only [syms,aa,seval,rA,sX,RI]
  have lz:=mJ rfl
  have Vk:(bE.lay [bh.row [Value.string (a.arg i).s] 9 false] bE.low).size=bE.size+1:=by rw [bB];rfl
  obtain ⟨xz,oP⟩:=zpw (r:=aK.str) (A:=A) (c:=1) (y:=(a.arg i).s) (by decide) (show (bE.lay [bh.row [Value.string (a.arg i).s] 9 false] bE.low).get (bE.size+0)=some (.row [Value.string (a.arg i).s] 9 false) by rw [kX];rfl) rfl
  have hz:=z.size
  obtain ⟨w',h2,A',e1,e2,e3,e4,e5⟩:=ER (t:=23) cM Ev rfl (by decide) (by rw [Vk];omega) (ow.mono (cP.lay _ _ _)) xz oP (by omega) (by omega)
  have VT:=ow.fresh
  have q0l:=q0.lt
  rw [Vk] at e4
  replace z:=(z.aw [bh.row [Value.string (a.arg i).s] 9 false] bE.low (by omega)).step e3 VT
  clear j8 kS qh
  have q1:=q0.bR e3 (by first|exact Vg|exact Ne.symm Vg)
  rw [e1,ao h2]
  clear q0 ow
 all_goals
  repeat' (simp -implicitDefEqProofs only [syms,aa,seval,rA])
  rw [hw]
  (rw [aR];with_reducible refine cz (m:=_) ?_ ⟨i+1,w',A',l++[(a.arg i).s],_,rfl,z,⟨rfl,by omega,by rw [List.length_append,List.length_singleton];omega,lz,e2,by omega,q1⟩,aB (by kernel_rfl)⟩;omega)
theorem zt9 (a:ab) (bv:Bool) (h:Heap) (K:Value→Heap→Prop) (hk:∀ w l h',Ext h h'→Sl aK.str h' w l→l.length≤4→(∀ x,x∈l↔∃ i:Nat,i < a.cx∧(a.arg i).v=bv∧(a.arg i).s=x)→K w h'):Ok Tryz.prog ae ov 50 [a.val,.bool bv] h K :=
 zns a bv h K (fun w l A h' x o hl hm=>hk w l h' x (o.sl (by decide)) hl hm)
theorem zxb (a:ab) (h:Heap) (K:Value→Heap→Prop) (hk:∀ w l h',Ext h h'→Sl aK.str h' w l→l.length≤4→(∀ x,x∈l↔iM a x)→K w h'):Ok Tryz.prog ae ov 75 [a.val] h K:=by
 rw [ao h]
 have z:=Ext.refl h
 refine Ok.aD rfl zAs (br N75) rfl (m:=4) rfl ?_
 repeat' (simp -implicitDefEqProofs only [syms,aa,seval,c75,eW,↓ff,eR,dQ])
 refine zt9 a true _ _ (fun w l h' x s hl hm=>?_)
 (replace z:=z.an x (by omega);rw [ao h'])
 have jm:=cJ w
 repeat' (simp -implicitDefEqProofs only [syms,aa,seval,c75,jm])
 exact hk _ _ _ (z.aw _ _ (by omega)) (s.lay _ _) hl (fun x=>(hm x).trans mP.symm)
section
variable {d:au} {a:ab} {l:List ab}
theorem zs3 (h:¬ iu d a=0):jR d a l=iu d a:=by unfold jR;rw [iq,if_neg h]
theorem zs2 (h:iu d a=0) (h2:6 < l.length):jR d a l=4:=by unfold jR;rw [iq,if_pos h,iq,decide_eq_true h2];rfl
theorem zs4 (h:iu d a=0) (h2:¬ 6 < l.length):jR d a l=ey (fun _ x=>iu d x) (l.take 0) (l.drop 0):=by
 unfold jR
 rw [iq,if_pos h,iq,decide_eq_false h2,iq]
 show (if zX d l=0 then (0:Int) else zX d l)=zX d l
 split
 ·rename_i e;exact e.symm
 ·rfl
theorem zmp (h:jR d a l=0):iQ a=0∧l.length≤6∧∀ x∈l,iQ x=0:=by
 unfold jR at h
 have h:=cH.1 h
 refine ⟨O5 (h (iu d a) (by simp)),?_,fun x hx=>?_⟩
 ·have:=(Gi (by decide)).1 (h (aX (decide (6 < l.length)) 4) (by simp))
  simpa using this
 ·have h2:=iZ.1 (h (zX d l) (by simp))
  obtain ⟨i,hi⟩:=List.getElem?_of_mem hx
  exact O5 (h2 i x hi)
theorem zDe (h:iQ a=0):a.n≤4:=(zjN h).hi
end
theorem ziU (d:au) (a:ab) (l:List ab) (v:Value) (p0 p1 p2 p5 p6:Value) (q b:Int) (h:Heap) (bw:(dw p0 p1 p2 p5 p6 q b).all Am.one=true) (hd:fO h p0 p1 p2 p5 p6 d) (hl:Sl aK.atom h v l) (K:Value→Heap→Prop) (hk:∀ h',Ext h h'→K (.int .i64 (jR d a l)) h'):Ok Tryz.prog ae ov 46 [gQ p0 p1 p2 p5 p6 q b,a.val,v] h K:=by
 rw [ao h]
 have z:=Ext.refl h
 have bC:=cJ v
 have gr:=mn
 have cp:=fun (hh:Heap)=>hl.bd cf hh
 refine Ok.aD rfl zzZ (br N46) rfl (m:=30) rfl ?_
 simp -implicitDefEqProofs only [syms,aa,seval,qF,eQ,eW,↓im,gP,gk,↓ff,eR,dQ,bC]
 refine znf d a _ _ _ _ _ _ _ _ bw (hd.lay _ _) _ (fun h' x=>?_)
 have q0:=Holds.top (i:=0) x rfl
 (replace z:=z.an x (by omega);rw [ao h'])
 obtain ⟨A0,dS⟩:∃ A0,A0=h.size+0:=⟨_,rfl⟩
 rw [← dS] at q0
 rw [← dS]
 simp -implicitDefEqProofs only [syms,aa,seval,qF,gr]
 refine iK (fun hc=>?_) (fun h0=>?_)
 ·rw [zs3 hc] at hk
  simp -implicitDefEqProofs only [syms,aa,seval,qF,gr]
  exact hk _ (z.aw _ _ (by omega))
 simp -implicitDefEqProofs only [syms,aa,seval,qF,bC,cp]
 refine bp (fun h6=>?_) (fun h6=>?_)
 ·rw [zs2 h0 (by omega)] at hk
  simp -implicitDefEqProofs only [syms,aa,seval,qF]
  exact hk _ (z.aw _ _ (by omega))
 have nx:=zs4 (l:=l) h0 (by omega)
 simp -implicitDefEqProofs only [syms,aa,seval,qF]
 obtain ⟨I1,aR⟩:∃ I:Nat→Env→Heap→Prop,I=(fun n e h'=>∃ (i:Nat) (h1:Heap),h'=h1.lay [] h1.low∧Ext h h1∧(n=l.length - i∧i≤l.length∧jR d a l=ey (fun _ x=>iu d x) (l.take i) (l.drop i)∧Holds h1 A0 (.row (dw p0 p1 p2 p5 p6 q b) 29 false))∧∃ J:Nat→Value,e=(jr J 0 2 (v::.pointer (some ⟨A0,0,none⟩)::jr J 4 4 (.int .i64 i::jr J 9 24 ([]))))):=⟨_,rfl⟩
 refine dg I1 _ (by rw [aR];exact ⟨0,_,rfl,z,⟨rfl,by omega,nx,q0⟩,aB (by kernel_rfl)⟩) ?_
 intro n e h' aH
 rw [aR] at aH
 obtain ⟨i,bE,rfl,z,hinv,J,rfl⟩:=aH
 clear q0
 obtain ⟨rfl,hi,dn,q0⟩:=hinv
 have hw:=eg i (by omega)
 simp -implicitDefEqProofs only [syms,aa,seval,qF,bC,cp]
 refine bp (fun aS=>?_) (fun aS=>?_)
 rotate_left
 ·rw [Ew dn (by omega)] at hk
  repeat' (simp -implicitDefEqProofs only [syms,aa,seval,qF])
  exact hk _ (z.aw _ _ (by omega))
 obtain ⟨r,hr,bo⟩:=eP (l:=l) (i:=i) (by omega)
 repeat' (first|simp -implicitDefEqProofs only [syms,aa,seval,qF,q0.lay,↓im,gP,gk,bC]|with_reducible refine eu (by simp only [qF]) (z.aw _ _ (by omega)) ?_|with_reducible_and_instances refine pg (hl.mono z.inc) cf bS (by omega) hr (fun p hp=>?_)|with_reducible_and_instances refine mM hp fw bS ?_)
 refine znf d r _ _ _ _ _ _ _ _ bw ((hd.mono z.inc).lay _ _) _ (fun h' x=>?_)
 (((with_reducible refine dK ?_ ?_ ?_);(· exact (by (simp only [dM]);have:=z.size;omega));(· exact x));replace z:=z.an x (by omega);(replace q0:=q0.over x);rw [ao h'])
 simp -implicitDefEqProofs only [syms,aa,seval,qF,gr]
 ((with_reducible refine ⟨z.cW.lay _ _,?_⟩);(intro _ h' zz x _);(simp only [cq,List.append_nil] at x);(replace q0:=q0.over x);(replace z:=zz);(clear zz);rw [ao h'])
 simp -implicitDefEqProofs only [syms,aa,seval,qF,gr]
 refine iK (fun hc=>?_) (fun h0=>?_)
 ·rw [n8 bo dn rfl hc] at hk
  simp -implicitDefEqProofs only [syms,aa,seval,qF,gr]
  exact hk _ (z.aw _ _ (by omega))
 ·simp -implicitDefEqProofs only [syms,aa,seval,qF,gr]
  rw [hw]
  (rw [aR];with_reducible refine cz (m:=_) ?_ ⟨i+1,_,rfl,z,⟨rfl,by omega,ED bo dn h0,q0⟩,aB (by kernel_rfl)⟩;omega)
theorem zsX (s:ByteArray):nR ae 39 [(0,.bool true),(1,.string s)]=some (.agg ⟨[.bool true,.string s]⟩):=by kernel_rfl
theorem zsW (a:aQ) (s:ByteArray):bU Tryz.prog ae .eql 39 a.val (.agg ⟨[.bool true,.string s]⟩)=some (.bool (decide (a=⟨true,s⟩))):=zmc a ⟨true,s⟩
def Fc (a:ab) (m:Nat) (s:ByteArray):Prop:=∃ j,j < m∧(j:Int) < a.n∧a.arg j=⟨true,s⟩
theorem zsz {a:ab} {m:Nat} {s:ByteArray} (hm:(m:Int) < a.n):Fc a (m+1) s↔Fc a m s∨a.arg m=⟨true,s⟩:=by
 constructor
 ·rintro ⟨j,h1,h2,e⟩
  by_cases hj:j=m
  ·subst hj;exact .inr e
  ·exact .inl ⟨j,by omega,h2,e⟩
 ·rintro (⟨j,h1,h2,e⟩|e)
  ·exact ⟨j,by omega,h2,e⟩
  ·exact ⟨m,by omega,hm,e⟩
theorem zv3 {a:ab} {m:Nat} {s:ByteArray} (hn:a.n≤4) (hm:a.n≤(m:Int)):Fc a m s↔iM a s:=by
 constructor
 ·rintro ⟨j,h1,h2,e⟩
  exact ⟨j,by omega,h2,by rw [e],by rw [e]⟩
 ·rintro ⟨j,h1,h2,h3,h4⟩
  refine ⟨j,by omega,h2,?_⟩
  cases ha:a.arg j with
  |mk vv ss =>
   rw [ha] at h3 h4
   cases h3
   cases h4
   rfl
theorem zph (a:ab) (l:List ab) (v:Value) (h:Heap) (hl:Sl aK.atom h v l) (hn:l.length≤6) (nZ:∀ x∈l,x.n≤4) (K:Value→Heap→Prop) (tK:(∀ x,iM a x→∃ y∈l,iM y x)→∀ h',Ext h h'→K (.bool true) h') (kB:¬ (∀ x,iM a x→∃ y∈l,iM y x)→∀ h',Ext h h'→K (.bool false) h'):Ok Tryz.prog ae ov 47 [a.val,v] h K:=by
 rw [ao h]
 have z:=Ext.refl h
 have bC:=cJ v
 have cp:=fun (hh:Heap)=>hl.bd cf hh
 refine Ok.aD rfl zz0 (br N47) rfl (m:=49) rfl ?_
 repeat' (simp -implicitDefEqProofs only [syms,aa,seval,pT,eW,↓ff,eR,dQ,bC])
 refine zxb a _ _ (fun w ns h' x sn JN hm=>?_)
 (replace z:=z.an x (by omega);rw [ao h'])
 have hw:=cJ w
 repeat' (simp -implicitDefEqProofs only [syms,aa,seval,pT,hw])
 have rQ:=fun (hh:Heap)=>sn.bd cM hh
 obtain ⟨I1,aR⟩:∃ I:Nat→Env→Heap→Prop,I=(fun n e h'=>∃ (i:Nat) (h1:Heap),h'=h1.lay [] h1.low∧Ext h h1∧(n=ns.length - i∧i≤ns.length∧(∀ x∈ns.take i,∃ y∈l,iM y x)∧Sl aK.str h1 w ns)∧∃ J:Nat→Value,e=(J 0::v::jr J 2 3 (w::.int .i64 i::jr J 7 44 ([])))):=⟨_,rfl⟩
 refine dg I1 _ (by rw [aR];exact ⟨0,_,rfl,z,⟨rfl,by omega,by simp,sn⟩,aB (by kernel_rfl)⟩) ?_
 intro n e h' aH
 rw [aR] at aH
 obtain ⟨i,bE,rfl,z,hinv,J,rfl⟩:=aH
 clear sn
 obtain ⟨rfl,hi,az,sn⟩:=hinv
 have gO:=eg i (by omega)
 simp -implicitDefEqProofs only [syms,aa,seval,pT,hw,rQ]
 refine bp (fun aS=>?_) (fun aS=>?_)
 rotate_left
 ·rw [List.take_of_length_le (by omega)] at az
  repeat' (simp -implicitDefEqProofs only [syms,aa,seval,pT])
  exact tK (fun x hx=>az x ((hm x).2 hx)) _ (z.aw _ _ (by omega))
 obtain ⟨s,hs,j6⟩:=eP (l:=ns) (i:=i) (by omega)
 have hsa:iM a s:=(hm s).1 (List.mem_of_getElem? j6)
 repeat' (simp -implicitDefEqProofs only [syms,aa,seval,pT])
 obtain ⟨I2,eM⟩:∃ I:Nat→Env→Heap→Prop,I=(fun n e h'=>∃ (k:Nat) (b:Bool) (h1:Heap),h'=h1.lay [] h1.low∧Ext h h1∧(n=l.length - k∧k≤l.length∧(b=true↔∃ y∈l.take k,iM y s)∧Sl aK.str h1 w ns)∧∃ J:Nat→Value,e=(J 0::v::jr J 2 3 (w::.int .i64 i::.bool b::.int .i64 k::jr J 9 42 ([])))):=⟨_,rfl⟩
 refine dg I2 _ (by rw [eM];exact ⟨0,false,_,rfl,z,⟨rfl,by omega,by simp,sn⟩,aB (by kernel_rfl)⟩) ?_
 intro n e h' aH
 rw [eM] at aH
 obtain ⟨k,b,bE,rfl,z,hinv,J,rfl⟩:=aH
 clear sn
 obtain ⟨rfl,uk,kS,sn⟩:=hinv
 have mK:=eg k (by omega)
 simp -implicitDefEqProofs only [syms,aa,seval,pT,bC,cp]
 refine bp (fun jb=>?_) (fun jb=>?_)
 ·obtain ⟨r,hr,bo⟩:=eP (l:=l) (i:=k) (by omega)
  have vV:=nZ _ (List.mem_of_getElem? bo)
  have lz:l.take (k+1)=l.take k++[r]:=by rw [List.take_add_one,bo];rfl
  repeat' (simp -implicitDefEqProofs only [syms,aa,seval,pT])
  obtain ⟨I3,j0⟩:∃ I:Nat→Env→Heap→Prop,I=(fun n e h'=>∃ (m:Nat) (b:Bool) (h1:Heap),h'=h1.lay [] h1.low∧Ext h h1∧(n=4 - m∧m≤4∧(b=true↔(∃ y∈l.take k,iM y s)∨Fc r m s)∧Sl aK.str h1 w ns)∧∃ J:Nat→Value,e=(J 0::v::jr J 2 3 (w::.int .i64 i::.bool b::.int .i64 k::.int .i64 m::jr J 10 41 ([])))):=⟨_,rfl⟩
  refine dg I3 _ (by rw [j0];exact ⟨0,b,_,rfl,z,⟨rfl,by omega,by rw [kS];exact ⟨.inl,fun h=>h.elim id (fun ⟨j,hj,_⟩=>by omega)⟩,sn⟩,aB (by kernel_rfl)⟩) ?_
  intro n e h' aH
  rw [j0] at aH
  obtain ⟨m,b,bE,rfl,z,hinv,J,rfl⟩:=aH
  clear sn
  obtain ⟨rfl,alc,CP,sn⟩:=hinv
  have FT:=eg m (by omega)
  simp -implicitDefEqProofs only [syms,aa,seval,pT,bC]
  repeat' ((first|((with_reducible apply bp) <;> intro _)|with_reducible_and_instances refine pg (hl.mono z.inc) cf bS (by omega) hr (fun p hp=>?_)|with_reducible_and_instances refine TI hp BA (fun q hq=>?_)|with_reducible_and_instances refine fX hq HX ?_) <;> simp -implicitDefEqProofs only [syms,aa,seval,pT,bC])
  rotate_left
  ·have qI:(b=true↔∃ y∈l.take (k+1),iM y s):=by
    rw [CP,zv3 vV (by omega),lz]
    simp only [List.mem_append,List.mem_singleton]
    constructor
    ·rintro (⟨y,h1,h2⟩|h2)
     ·exact ⟨y,.inl h1,h2⟩
     ·exact ⟨r,.inr rfl,h2⟩
    ·rintro ⟨y,h1|rfl,h2⟩
     ·exact .inl ⟨y,h1,h2⟩
     ·exact .inr h2
   rw [mK]
   (rw [eM];with_reducible refine cz (m:=_) ?_ ⟨k+1,b,_,rfl,z,⟨rfl,by omega,qI,sn⟩,aB (by kernel_rfl)⟩;omega)
  have NH:(m:Int) < r.n:=by omega
  have Dj:m < 4:=by omega
  have j8:=zsz (s:=s) NH
  cases b
  rotate_left
  ·have qI:(true=true↔(∃ y∈l.take k,iM y s)∨Fc r (m+1) s):=⟨fun _=>(CP.1 rfl).imp id (fun h=>j8.2 (.inl h)),fun _=>rfl⟩
   repeat' ((first|with_reducible refine eu (by simp only [pT]) (z.aw _ _ (by omega)) ?_|((with_reducible refine ⟨z.cW.lay _ _,?_⟩);(intro _ h' zz x _);(simp only [cq,List.append_nil] at x);(replace sn:=sn.over x);(replace z:=zz);(clear zz);rw [ao h'])) <;> simp -implicitDefEqProofs only [syms,aa,seval,pT,bC,hw])
   rw [FT]
   (rw [j0];with_reducible refine cz (m:=_) ?_ ⟨m+1,true,_,rfl,z,⟨rfl,by omega,qI,sn⟩,aB (by kernel_rfl)⟩;omega)
  repeat' ((first|with_reducible refine eu (by simp only [pT]) (z.aw _ _ (by omega)) ?_|((with_reducible apply bp) <;> intro _)|with_reducible_and_instances refine pg (hl.mono z.inc) cf bS (by omega) hr (fun p hp=>?_)|with_reducible_and_instances refine TJ hp wq (fun p hp=>?_)|with_reducible_and_instances refine ixg hp oT (by omega) (by omega) (fun p hp=>?_)|with_reducible_and_instances refine FW hp oh iJ ?_|with_reducible_and_instances refine ph sn cM mN (by omega) hs (fun p hp=>?_)|with_reducible_and_instances refine fX hp gU ?_|((with_reducible refine ⟨z.cW.lay _ _,?_⟩);(intro _ h' zz x _);(simp only [cq,List.append_nil] at x);(replace sn:=sn.over x);(replace z:=zz);(clear zz);rw [ao h'])) <;> simp -implicitDefEqProofs only [syms,aa,seval,pT,bC,hw,zsX,zsW])
  all_goals rw [FT]
  ·have he:r.arg m=⟨true,s⟩:=by assumption
   have qI:(true=true↔(∃ y∈l.take k,iM y s)∨Fc r (m+1) s):=⟨fun _=>.inr (j8.2 (.inr he)),fun _=>rfl⟩
   (rw [j0];with_reducible refine cz (m:=_) ?_ ⟨m+1,true,_,rfl,z,⟨rfl,by omega,qI,sn⟩,aB (by kernel_rfl)⟩;omega)
  ·have he:¬ r.arg m=⟨true,s⟩:=by assumption
   have qI:(false=true↔(∃ y∈l.take k,iM y s)∨Fc r (m+1) s):=by
    rw [j8,CP]
    exact ⟨fun h=>h.imp id .inl,fun h=>h.imp id (fun g=>g.resolve_right he)⟩
   (rw [j0];with_reducible refine cz (m:=_) ?_ ⟨m+1,false,_,rfl,z,⟨rfl,by omega,qI,sn⟩,aB (by kernel_rfl)⟩;omega)
 rw [List.take_of_length_le (by omega)] at kS
 cases b
 ·repeat' (first|simp -implicitDefEqProofs only [syms,aa,seval,pT,Bool.not_false]|((with_reducible_and_instances apply cm);(· rfl)))
  exact kB (fun hh=>by have:=kS.2 (hh s hsa);cases this) _ (z.aw _ _ (by omega))
 ·have Ja:∀ x∈ns.take (i+1),∃ y∈l,iM y x:=pf (i:=i) (P:=fun x=>∃ y∈l,iM y x) j6 az (kS.1 rfl)
  repeat' (first|simp -implicitDefEqProofs only [syms,aa,seval,pT,Bool.not_true]|((with_reducible_and_instances apply cm);(· rfl)))
  rw [gO]
  (rw [aR];with_reducible refine cz (m:=_) ?_ ⟨i+1,_,rfl,z,⟨rfl,by omega,Ja,sn⟩,aB (by kernel_rfl)⟩;omega)
section
variable {d:au}
theorem zB3 (h:¬ pj d.aj=0):mT d=pj d.aj:=by unfold mT;rw [iq,if_neg h]
theorem zB4 (h:pj d.aj=0) (h2:¬ rk d.bA=0):mT d=rk d.bA:=by unfold mT;rw [iq,if_pos h,iq,if_neg h2]
theorem zB1 (h:pj d.aj=0) (h2:rk d.bA=0) (h3:¬ vp d.aj d.aV=0):mT d=vp d.aj d.aV:=by unfold mT;rw [iq,if_pos h,iq,if_pos h2,iq,if_neg h3]
theorem zB2 (h:pj d.aj=0) (h2:rk d.bA=0) (h3:vp d.aj d.aV=0) (h4:d.du < 0∨1000 < d.du∨d.cD < 1∨1048576 < d.cD∨64 < d.rules.length+d.bc.length):mT d=4:=by
 have hb:(decide (d.du < 0∨1000 < d.du) || decide (d.cD < 1∨1048576 < d.cD) || decide (64 < d.rules.length+d.bc.length))=true:=by
  simp only [Bool.or_eq_true,decide_eq_true_eq]
  omega
 unfold mT
 rw [iq,if_pos h,iq,if_pos h2,iq,if_pos h3,iq]
 unfold vk
 rw [hb]
 rfl
theorem zB5 (h:pj d.aj=0) (h2:rk d.bA=0) (h3:vp d.aj d.aV=0) (h4:¬ (d.du < 0∨1000 < d.du∨d.cD < 1∨1048576 < d.cD∨64 < d.rules.length+d.bc.length)):mT d=gh [ey (fun _ c=>qy d c) [] d.rules,ey (fun _ g=>pI d g) [] d.bc]:=by
 have hb:(decide (d.du < 0∨1000 < d.du) || decide (d.cD < 1∨1048576 < d.cD) || decide (64 < d.rules.length+d.bc.length))=false:=by
  simp only [Bool.or_eq_false_iff,decide_eq_false_iff_not]
  omega
 unfold mT
 rw [iq,if_pos h,iq,if_pos h2,iq,if_pos h3,iq]
 unfold vk
 rw [hb]
 show (if BG d=0 then (0:Int) else BG d)=BG d
 split
 ·rename_i e;exact e.symm
 ·rfl
theorem Z6 {a b:Int} (h:¬ a=0):gh [a,b]=a:=by rw [iq,if_neg h]
theorem Z7 {a b:Int} (h:a=0):gh [a,b]=b:=by
 rw [iq,if_pos h]
 show (if b=0 then (0:Int) else b)=b
 split
 ·rename_i e;exact e.symm
 ·rfl
theorem zC2 {c:bP} (h:¬ jR d c.head c.body=0):qy d c=jR d c.head c.body:=Z6 h
theorem zC1 {c:bP} (h:jR d c.head c.body=0) (h2:¬ ∀ x,iM c.head x→∃ y∈c.body,iM y x):qy d c=9:=by
 have h3:∃ x,iM c.head x∧∀ a∈c.body,¬ iM a x:=Classical.byContradiction fun hn=>h2 fun x hx=>Classical.byContradiction fun hy=>hn ⟨x,hx,fun a ha hv=>hy ⟨a,ha,hv⟩⟩
 unfold qy
 rw [Z7 h]
 unfold zQ
 simp only [h3,decide_true]
 rfl
theorem zC0 {c:bP} (h:jR d c.head c.body=0) (h2:∀ x,iM c.head x→∃ y∈c.body,iM y x):qy d c=0:=by
 have h3:¬ ∃ x,iM c.head x∧∀ a∈c.body,¬ iM a x:=by
  rintro ⟨x,hx,hn⟩
  obtain ⟨y,hy,hv⟩:=h2 x hx
  exact hn y hy hv
 unfold qy
 rw [Z7 h]
 unfold zQ
 simp only [h3,decide_false]
 rfl
theorem zwA {g:dC} (h:bg d.aj g.to=false):pI d g=6:=by unfold pI;rw [h];rfl
theorem ztD {g:dC} (h:bg d.aj g.to=true) (h2:g.to=g.head.says):pI d g=11:=by unfold pI;rw [h,decide_eq_true h2];rfl
theorem zwB {g:dC} (h:bg d.aj g.to=true) (h2:¬ g.to=g.head.says):pI d g=jR d g.head g.body:=by
 unfold pI
 rw [h,decide_eq_false h2]
 show (if jR d g.head g.body=0 then (0:Int) else jR d g.head g.body)=_
 split
 ·rename_i e;exact e.symm
 ·rfl
end
theorem zEx (h:Heap) (l:List bh) (w i o:Nat) (v:Value) (hi:i < l.length):gA ae 73 (.pointer (some ⟨h.size+i,o,none⟩)) v (h.lay l w)=if v.cells.size=13 then qw l[i]? i o v.cells.toList h l w else none:=tc ml h l w i o v hi
theorem zrz (d:au) (p0 p1 p2 p5 p6:Value) (q b:Int) (h:Heap) (bw:(dw p0 p1 p2 p5 p6 q b).all Am.one=true) (hd:fO h p0 p1 p2 p5 p6 d) (hq:d.du=q) (hb:d.cD=b) (hn:d.aV.length≤70) (K:Value→Heap→Prop) (hk:∀ h',Ext h h'→K (.int .i64 (mT d)) h'):Ok Tryz.prog ae ov 25 [gQ p0 p1 p2 p5 p6 q b] h K:=by
 rw [ao h]
 have z:=Ext.refl h
 have jP:=cJ p5
 have kJ:=cJ p6
 have gr:=mn
 have lu:=fun (hh:Heap)=>hd.s5.bd kA hh
 have kG:=fun (hh:Heap)=>hd.s6.bd k9 hh
 have ala:=hd.s5.le
 have alb:=hd.s6.le
 have Ka:d.rules.length≤64→d.bc.length≤64→IntKind.i64.wrap ((d.rules.length:Int)+(d.bc.length:Int))=(d.rules.length:Int)+(d.bc.length:Int):=fun _ _=>wrap_i64 (by omega) (by omega)
 refine Ok.aD rfl zzG (br N25) rfl (m:=133) rfl ?_
 simp -implicitDefEqProofs only [syms,aa,seval,iW,eQ,↓im,gP,gk]
 refine ziY d.aj _ _ _ _ _ _ _ _ (hd.s0.lay _ _) _ (fun h' x=>?_)
 have q0:=Holds.top (i:=0) x rfl
 (replace z:=z.an x (by omega);rw [ao h'])
 obtain ⟨A0,dS⟩:∃ A0,A0=h.size+0:=⟨_,rfl⟩
 rw [← dS] at q0
 rw [← dS]
 simp -implicitDefEqProofs only [syms,aa,seval,iW,gr]
 refine pK (fun h0=>?_) (fun hc=>?_)
 rotate_left
 ·rw [zB3 hc] at hk
  repeat' (first|simp -implicitDefEqProofs only [syms,aa,seval,iW,gr]|((with_reducible first|apply pK|apply iK) <;> intro _))
  all_goals first
   |exact hk _ (z.aw _ _ (by omega))
   |(exfalso;omega)
 simp -implicitDefEqProofs only [syms,aa,seval,iW,gr,q0.lay,↓im,gP,gk]
 refine zrS d.bA _ _ _ _ _ _ _ _ ((hd.s1.mono z.inc).lay _ _) _ (fun h' x=>?_)
 (replace z:=z.an x (by omega);(replace q0:=q0.over x);rw [ao h'])
 simp -implicitDefEqProofs only [syms,aa,seval,iW,gr]
 refine pK (fun h1=>?_) (fun hc=>?_)
 rotate_left
 ·rw [zB4 h0 hc] at hk
  repeat' (first|simp -implicitDefEqProofs only [syms,aa,seval,iW,gr]|((with_reducible apply iK) <;> intro _))
  all_goals first
   |exact hk _ (z.aw _ _ (by omega))
   |(exfalso;omega)
 simp -implicitDefEqProofs only [syms,aa,seval,iW,gr,q0.lay,↓im,gP,gk]
 refine zpb d _ _ _ _ _ _ _ _ bw ((hd.mono z.inc).lay _ _) hn _ (fun h' x=>?_)
 (replace z:=z.an x (by omega);(replace q0:=q0.over x);rw [ao h'])
 simp -implicitDefEqProofs only [syms,aa,seval,iW,gr]
 refine iK (fun hc=>?_) (fun h2=>?_)
 ·rw [zB1 h0 h1 hc] at hk
  simp -implicitDefEqProofs only [syms,aa,seval,iW,gr]
  exact hk _ (z.aw _ _ (by omega))
 repeat' (first|simp -implicitDefEqProofs only [syms,aa,seval,iW,q0.lay,xT,Ea,fH,fW,jP,kJ,lu,kG,gr]|((with_reducible apply bp) <;> intro _))
 iterate 7
  ·rw [zB2 h0 h1 h2 (by first|omega|(have:=Ka (by omega) (by omega);omega))] at hk
   exact hk _ (z.aw _ _ (by omega))
 have adg:=Ka (by omega) (by omega)
 have FL:¬ (d.du < 0∨1000 < d.du∨d.cD < 1∨1048576 < d.cD∨64 < d.rules.length+d.bc.length):=by omega
 rw [zB5 h0 h1 h2 FL] at hk
 have e5:d.rules.length≤64:=by omega
 have e6:d.bc.length≤64:=by omega
 obtain ⟨E5,hE5⟩:∃ e,e=ey (fun _ c=>qy d c) [] d.rules:=⟨_,rfl⟩
 obtain ⟨E6,hE6⟩:∃ e,e=ey (fun _ g=>pI d g) [] d.bc:=⟨_,rfl⟩
 rw [← hE5,← hE6] at hk
 obtain ⟨I1,aR⟩:∃ I:Nat→Env→Heap→Prop,I=(fun n e h'=>∃ (i:Nat) (h1:Heap),h'=h1.lay [] h1.low∧Ext h h1∧(n=d.rules.length - i∧i≤d.rules.length∧E5=ey (fun _ c=>qy d c) (d.rules.take i) (d.rules.drop i)∧Holds h1 A0 (.row (dw p0 p1 p2 p5 p6 q b) 29 false))∧∃ J:Nat→Value,e=(J 0::.pointer (some ⟨A0,0,none⟩)::jr J 2 2 (.int .i64 i::jr J 5 129 ([])))):=⟨_,rfl⟩
 refine dg I1 _ (by rw [aR];exact ⟨0,_,rfl,z,⟨rfl,by omega,hE5,q0⟩,aB (by kernel_rfl)⟩) ?_
 intro n e h' aH
 rw [aR] at aH
 obtain ⟨i,bE,rfl,z,hinv,J,rfl⟩:=aH
 clear q0
 obtain ⟨rfl,hi,dn,q0⟩:=hinv
 have hw:=eg i (by omega)
 simp -implicitDefEqProofs only [syms,aa,seval,iW,q0.lay,fH,jP,lu]
 refine bp (fun aS=>?_) (fun aS=>?_)
 ·obtain ⟨r,hr,bo⟩:=eP (l:=d.rules) (i:=i) (by omega)
  repeat' (first|simp -implicitDefEqProofs only [syms,aa,seval,iW,q0.lay,↓im,gP,gk,fH,jP]|with_reducible refine eu (by simp only [iW]) (z.aw _ _ (by omega)) ?_|with_reducible_and_instances refine ML (hd.s5.mono z.inc) kA nL (by omega) hr (fun p bv hb hp=>?_)|with_reducible_and_instances refine Cz hp EN (fun qq hq=>?_)|with_reducible_and_instances refine mM hq fw bS ?_|with_reducible_and_instances refine CA hp EO (fun qq hq=>?_)|with_reducible_and_instances refine fX hq rr ?_)
  refine ziU d r.head r.body bv _ _ _ _ _ _ _ _ bw ((hd.mono z.inc).lay _ _) (hb.lay _ _) _ (fun h' x=>?_)
  (((with_reducible refine dK ?_ ?_ ?_);(· exact (by (simp only [dM]);have:=z.size;omega));(· exact x));replace z:=z.an x (by omega);(replace q0:=q0.over x);rw [ao h'])
  clear hb
  by_cases pq:jR d r.head r.body=0
  rotate_left
  ·have eb:=n8 (f:=fun _ c=>qy d c) bo dn (zC2 pq) pq
   rw [eb,Z6 pq] at hk
   repeat' (first|simp -implicitDefEqProofs only [syms,aa,seval,iW,gr]|with_reducible refine eu (by simp only [iW]) (z.aw _ _ (by omega)) ?_|((with_reducible first|apply pK|apply iK) <;> intro _)|((with_reducible refine ⟨z.cW.lay _ _,?_⟩);(intro _ h' zz x _);(simp only [cq,List.append_nil] at x);(replace q0:=q0.over x);(replace z:=zz);(clear zz);rw [ao h']))
   all_goals first
    |exact hk _ (z.aw _ _ (by omega))
    |(exfalso;omega)
  rw [pq]
  simp -implicitDefEqProofs only [syms,aa,seval,iW,gr]
  ((with_reducible refine ⟨z.cW.lay _ _,?_⟩);(intro _ h' zz x _);(simp only [cq,List.append_nil] at x);(replace q0:=q0.over x);(replace z:=zz);(clear zz);rw [ao h'])
  simp -implicitDefEqProofs only [syms,aa,seval,iW,gr]
  with_reducible first|refine eu (by simp only [iW]) (z.aw _ _ (by omega)) ?_
  obtain ⟨qn,Wf,mh⟩:=zmp pq
  repeat' (first|simp -implicitDefEqProofs only [syms,aa,seval,iW,gr,q0.lay,fH,jP]|with_reducible_and_instances refine ML (hd.s5.mono z.inc) kA nL (by omega) hr (fun p bv hb hp=>?_)|with_reducible_and_instances refine Cz hp EN (fun qq hq=>?_)|with_reducible_and_instances refine mM hq fw bS ?_|with_reducible_and_instances refine CA hp EO (fun qq hq=>?_)|with_reducible_and_instances refine fX hq rr ?_)
  refine zph r.head r.body bv _ (hb.lay _ _) Wf (fun x hx=>zDe (mh x hx)) _ (fun WB h' x=>?_) (fun WB h' x=>?_)
  ·(( ((with_reducible refine dK ?_ ?_ ?_);(· exact (by ( simp only [dM] );have:=z.size;omega));(·  exact x )) );replace z:=z.an x (by omega);( replace q0:=q0.over x );rw [ao h'])
   repeat' (first|simp -implicitDefEqProofs only [syms,aa,seval,iW,Bool.not_true]|((with_reducible_and_instances apply cm);(· rfl))|((with_reducible refine ⟨z.cW.lay _ _,?_⟩);(intro _ h' zz x _);(simp only [cq,List.append_nil] at x);(replace q0:=q0.over x);(replace z:=zz);(clear zz);rw [ao h']))
   rw [hw]
   (rw [aR];with_reducible refine cz (m:=_) ?_ ⟨i+1,_,rfl,z,⟨rfl,by omega,ED (f:=fun _ c=>qy d c) bo dn (zC0 pq WB),q0⟩,aB (by kernel_rfl)⟩;omega)
  ·have eb:=n8 (f:=fun _ c=>qy d c) bo dn (zC1 pq WB) (by decide)
   rw [eb,Z6 (by decide)] at hk
   (((with_reducible refine dK ?_ ?_ ?_);(· exact (by (simp only [dM]);have:=z.size;omega));(· exact x));replace z:=z.an x (by omega);(replace q0:=q0.over x);rw [ao h'])
   repeat' (first|simp -implicitDefEqProofs only [syms,aa,seval,iW,Bool.not_false]|((with_reducible_and_instances apply cm);(· rfl))|((with_reducible refine ⟨z.cW.lay _ _,?_⟩);(intro _ h' zz x _);(simp only [cq,List.append_nil] at x);(replace q0:=q0.over x);(replace z:=zz);(clear zz);rw [ao h']))
   exact hk _ (z.aw _ _ (by omega))
 have Vh:=Ew dn (by omega)
 rw [Z7 Vh] at hk
 clear hi aS hw dn
 simp -implicitDefEqProofs only [syms,aa,seval,iW]
 obtain ⟨I2,eM⟩:∃ I:Nat→Env→Heap→Prop,I=(fun n e h'=>∃ (i:Nat) (h1:Heap),h'=h1.lay [] h1.low∧Ext h h1∧(n=d.bc.length - i∧i≤d.bc.length∧E6=ey (fun _ g=>pI d g) (d.bc.take i) (d.bc.drop i)∧Holds h1 A0 (.row (dw p0 p1 p2 p5 p6 q b) 29 false))∧∃ J:Nat→Value,e=(J 0::.pointer (some ⟨A0,0,none⟩)::jr J 2 3 (.int .i64 i::jr J 6 128 ([])))):=⟨_,rfl⟩
 refine dg I2 _ (by rw [eM];exact ⟨0,_,rfl,z,⟨rfl,by omega,hE6,q0⟩,aB (by kernel_rfl)⟩) ?_
 intro n e h' aH
 rw [eM] at aH
 obtain ⟨i,bE,rfl,z,hinv,J,rfl⟩:=aH
 clear q0
 obtain ⟨rfl,hi,dn,q0⟩:=hinv
 have hw:=eg i (by omega)
 simp -implicitDefEqProofs only [syms,aa,seval,iW,q0.lay,fW,kJ,kG]
 refine bp (fun aS=>?_) (fun aS=>?_)
 rotate_left
 ·rw [Ew dn (by omega)] at hk
  repeat' (simp -implicitDefEqProofs only [syms,aa,seval,iW])
  exact hk _ (z.aw _ _ (by omega))
 obtain ⟨r,hr,bo⟩:=eP (l:=d.bc) (i:=i) (by omega)
 repeat' (first|simp -implicitDefEqProofs only [syms,aa,seval,iW,q0.lay,↓im,gP,gk,fW,kJ,mr,nO,List.all_cons,List.all_nil,Am.one,Bool.and_true,Bool.true_and,Bool.and_self,List.set_cons_zero,List.set_cons_succ,kM,fe,nJ,gy,gz,zEx]|with_reducible_and_instances refine PC (hd.s6.mono z.inc) k9 ml (by omega) hr (fun p bv hb hp=>?_)|with_reducible_and_instances refine ldG hp wH ml ?_)
 have Dp:(r.head.cells++[bv]).all Am.one=true:=by have:=hb.one;simp only [ab.cells,List.all_append,List.all_cons,List.all_nil,this];rfl
 have hlg:(r.head.cells++[bv]).length=12:=rfl
 have hbv:=cJ bv
 have V1:(Value.string r.to::(r.head.cells++[bv]))[0]? = some (.string r.to):=rfl
 have AE:(Value.string r.to::(r.head.cells++[bv]))[1]? = some (.string r.head.says):=rfl
 have V2:(Value.string r.to::(r.head.cells++[bv]))[12]? = some bv:=rfl
 have hgc:cut (Value.string r.to::(r.head.cells++[bv])) 1 11=some r.head.cells:=rfl
 rw [if_pos hlg,if_pos (by rw [hlg,Dp];rfl),show (Value.string r.to::(r.head.cells++bv::List.drop (r.head.cells++[bv]).length [Value.string ⟨#[]⟩,Value.string ⟨#[]⟩,Value.int IntKind.i64 0,Value.bool false,Value.string ⟨#[]⟩,Value.bool false,Value.string ⟨#[]⟩,Value.bool false,Value.string ⟨#[]⟩,Value.bool false,Value.string ⟨#[]⟩,Value.slice none 0 0]))=Value.string r.to::(r.head.cells++[bv]) from rfl]
 repeat' (simp -implicitDefEqProofs only [syms,aa,seval,iW,q0.lay,↓im,gP,gk])
 refine Gx d.aj r.to _ _ _ _ _ _ _ _ ((hd.s0.mono z.inc).lay _ _) _ (fun h' x=>?_)
 have g0:=Holds.top (i:=0) x rfl
 (replace z:=z.an x (by omega);(replace q0:=q0.over x);(replace hb:=hb.over x);rw [ao h'])
 obtain ⟨A1,mb⟩:∃ A1,A1=bE.size+0:=⟨_,rfl⟩
 rw [← mb] at g0
 rw [← mb]
 rw [GN]
 cases hh:bg d.aj r.to
 ·rw [n8 (f:=fun _ g=>pI d g) bo dn (zwA hh) (by decide)] at hk
  repeat' (first|simp -implicitDefEqProofs only [syms,aa,seval,iW,Bool.not_false]|((with_reducible_and_instances apply cm);(· rfl)))
  exact hk _ (z.aw _ _ (by omega))
 repeat' (first|simp -implicitDefEqProofs only [syms,aa,seval,iW,Bool.not_true,g0.lay,V1,AE,q0.lay,↓im,gP,gk,↓hgc,eR,dQ,V2,hbv]|((with_reducible apply bp) <;> intro _)|((with_reducible_and_instances apply cm);(· rfl)))
 ·rw [n8 (f:=fun _ g=>pI d g) bo dn (ztD hh (by assumption)) (by decide)] at hk
  exact hk _ (z.aw _ _ (by omega))
 have aO:¬ r.to=r.head.says:=by assumption
 refine ziU d r.head r.body bv _ _ _ _ _ _ _ _ bw ((hd.mono z.inc).lay _ _) (hb.lay _ _) _ (fun h' x=>?_)
 (replace z:=z.an x (by omega);(replace q0:=q0.over x);(replace g0:=g0.over x);(replace hb:=hb.over x);rw [ao h'])
 have Jv:=zwB hh aO
 simp -implicitDefEqProofs only [syms,aa,seval,iW,gr]
 refine iK (fun hc=>?_) (fun h0=>?_)
 ·rw [n8 (f:=fun _ g=>pI d g) bo dn Jv hc] at hk
  simp -implicitDefEqProofs only [syms,aa,seval,iW,gr]
  exact hk _ (z.aw _ _ (by omega))
 ·simp -implicitDefEqProofs only [syms,aa,seval,iW,gr]
  rw [hw]
  (rw [eM];with_reducible refine cz (m:=_) ?_ ⟨i+1,_,rfl,z,⟨rfl,by omega,ED (f:=fun _ g=>pI d g) bo dn (Jv.trans h0),q0⟩,aB (by kernel_rfl)⟩;omega)
end Go.Proofs.YtdplfgoifjjniaaGreatDoor

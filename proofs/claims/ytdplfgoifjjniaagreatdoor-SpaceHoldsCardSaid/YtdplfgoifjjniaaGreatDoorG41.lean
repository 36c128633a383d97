/- Walks: the place of an atom; is it there? Written out by fill2.py. No condition. -/
import Derived.Test.YtdplfgoifjjniaaGreatDoorG40
import Derived.Test.YtdplfgoifjjniaaGreatDoorG29
set_option linter.unusedSimpArgs false
set_option linter.unusedVariables false
set_option maxRecDepth 100000
set_option maxHeartbeats 0
namespace Go.Proofs.YtdplfgoifjjniaaGreatDoor
open Go.Am
theorem zng (l:List ab) (a:ab) (v:Value) (h:Heap) (hl:Sl aK.atom h v l) (hs:ez l) (hn:l.length≤1000) (aS:∀ x∈l,x.ba=true) (ha:a.ba=true) (K:Value→Heap→Prop)
 (hk:∀ h' i,Ext h h'→eG l a i→K (.tuple #[.int .i64 (i:Nat),.bool (bV l a)]) h'):Ok Tryz.prog ae ov 94 [v,a.val,.func (.func 95) ⟨[]⟩ ⟨[]⟩] h K:=by
 rw [ao h]
 have z:=Ext.refl h
 have iO:=fun (hh:Heap)=>hl.bd cf hh
 refine Ok.aD rfl zAL (br N94) rfl (m:=46) rfl ?_
 simp -implicitDefEqProofs only [syms,aa,seval,lY,iO,eW]
 refine lG (fun h' x hq=>?_)
 have q0:=hq 0 _ rfl
 clear hq
 (replace z:=z.an x (by omega);rw [ao h'])
 obtain ⟨I1,aR⟩:∃ I:Nat→Env→Heap→Prop,I=(fun n e h'=>∃ (i j:Nat) (h1:Heap),h'=h1.lay [] h1.low∧Ext h h1∧(n=j - i∧i≤j∧j≤l.length∧(∀ k,k < i→aM (l.getD k ah) a < 0)∧(∀ k,j≤k→k < l.length→¬ aM (l.getD k ah) a < 0)∧Holds h1 (h.size+0) (.row a.cells 42 false))∧∃ J:Nat→Value,e=(v::J 1::.func (.func 95) ⟨[]⟩ ⟨[]⟩::J 3::.pointer (some ⟨h.size+0,0,none⟩)::jr J 5 3 (.int .i64 l.length::.int .i64 i::.int .i64 j::jr J 11 38 ([])))):=⟨_,rfl⟩
 refine dg I1 _ (by rw [aR];exact ⟨0,l.length,_,rfl,z,⟨rfl,by omega,by omega,fun k g=>by omega,fun k g1 g2=>by omega,q0⟩,aB (by kernel_rfl)⟩) ?_
 intro n e h' aH
 rw [aR] at aH
 obtain ⟨i,j,bE,rfl,z,hinv,J,rfl⟩:=aH
 clear q0
 obtain ⟨rfl,dh,xk,cR,kT,q0⟩:=hinv
 simp -implicitDefEqProofs only [syms,aa,seval,lY]
 refine bp (fun j3=>?_) (fun j3=>?_)
 rotate_left
 ·have e:i=j:=by omega
  subst e
  have nB:eG l a i:=⟨xk,cR,kT⟩
  have ue:=nB.has hs
  simp -implicitDefEqProofs only [syms,aa,seval,lY]
  refine (eu (by simp only [lY])) (z.aw _ _ (by omega)) ?_
  simp -implicitDefEqProofs only [syms,aa,seval,lY]
  refine bp (fun aH=>?_) (fun aH=>?_)
  rotate_left
  ·have e:bV l a=false:=by
    cases e:bV l a
    ·rfl
    ·exact absurd (ue.1 e).1 (by omega)
   rw [e] at hk
   repeat' (first|simp -implicitDefEqProofs only [syms,aa,seval,lY]|((with_reducible refine ⟨z.cW.lay _ _,?_⟩);(intro _ h' zz x _);(simp only [cq,List.append_nil] at x);(replace q0:=q0.over x);(replace z:=zz);(clear zz);rw [ao h']))
   exact hk _ _ (z.aw _ _ (by omega)) nB
  have hr:l[(i:Int).toNat]? = some (l.getD i ah):=iP (by omega)
  simp -implicitDefEqProofs only [syms,aa,seval,lY]
  repeat' ((first|with_reducible_and_instances refine pg (hl.mono z.inc) cf bS (by omega) hr (fun p hp=>?_)|with_reducible_and_instances refine mM hp fw bS ?_) <;> simp -implicitDefEqProofs only [syms,aa,seval,lY,q0.lay,eW,↓ff,eR,dQ])
  refine BE _ _ (n5 aS (by omega)) ha _ _ (fun h' x=>?_)
  (((with_reducible refine dK ?_ ?_ ?_);(· exact (by (simp only [dM]);have:=z.size;omega));(· exact x));replace z:=z.an x (by omega);(replace q0:=q0.over x);rw [ao h'])
  simp -implicitDefEqProofs only [syms,aa,seval,lY]
  refine pK (fun hc=>?_) (fun hc=>?_)
  ·rw [ue.2 ⟨by omega,hc⟩] at hk
   repeat' (first|simp -implicitDefEqProofs only [syms,aa,seval,lY]|((with_reducible refine ⟨z.cW.lay _ _,?_⟩);(intro _ h' zz x _);(simp only [cq,List.append_nil] at x);(replace q0:=q0.over x);(replace z:=zz);(clear zz);rw [ao h']))
   exact hk _ _ (z.aw _ _ (by omega)) nB
  ·have e:bV l a=false:=by
    cases e:bV l a
    ·rfl
    ·exact absurd (ue.1 e).2 hc
   rw [e] at hk
   repeat' (first|simp -implicitDefEqProofs only [syms,aa,seval,lY]|((with_reducible refine ⟨z.cW.lay _ _,?_⟩);(intro _ h' zz x _);(simp only [cq,List.append_nil] at x);(replace q0:=q0.over x);(replace z:=zz);(clear zz);rw [ao h']))
   exact hk _ _ (z.aw _ _ (by omega)) nB
 obtain ⟨e1,e2,e3,e4⟩:=Mk i j (by omega)
 repeat' (simp -implicitDefEqProofs only [syms,aa,seval,lY,e1])
 rw [wm rfl rfl rfl (Mx _) rfl,e2]
 simp -implicitDefEqProofs only [syms,aa,seval,lY,e1]
 rw [MD (by decide),e4]
 simp -implicitDefEqProofs only [syms,aa,seval,lY,e1]
 rw [wm rfl rfl rfl (MI _) rfl,e3]
 repeat' (simp -implicitDefEqProofs only [syms,aa,seval,lY,e1])
 have rK:i≤(i+j) / 2∧(i+j) / 2 < j:=by omega
 have uO:IntKind.i64.wrap ((((i+j) / 2:Nat):Int)+1)=(((i+j) / 2+1:Nat):Int):=by rw [wrap_i64 (by omega) (by omega)];omega
 generalize (i+j) / 2=y at rK uO ⊢
 have hr:l[(y:Int).toNat]? = some (l.getD y ah):=iP (by omega)
 refine (eu (by simp only [lY])) (z.aw _ _ (by omega)) ?_
 simp -implicitDefEqProofs only [syms,aa,seval,lY]
 repeat' ((first|with_reducible_and_instances refine pg (hl.mono z.inc) cf bS (by omega) hr (fun p hp=>?_)|with_reducible_and_instances refine mM hp fw bS ?_) <;> simp -implicitDefEqProofs only [syms,aa,seval,lY,q0.lay,eW,↓ff,eR,dQ])
 refine BE _ _ (n5 aS (by omega)) ha _ _ (fun h' x=>?_)
 (((with_reducible refine dK ?_ ?_ ?_);(· exact (by (simp only [dM]);have:=z.size;omega));(· exact x));replace z:=z.an x (by omega);(replace q0:=q0.over x);rw [ao h'])
 simp -implicitDefEqProofs only [syms,aa,seval,lY]
 refine bp (fun hc=>?_) (fun hc=>?_)
 ·repeat' (first|simp -implicitDefEqProofs only [syms,aa,seval,lY]|((with_reducible refine ⟨z.cW.lay _ _,?_⟩);(intro _ h' zz x _);( simp only [cq,List.append_nil] at x );( replace q0:=q0.over x );(replace z:=zz);(clear zz);rw [ao h']))
  rw [uO]
  (rw [aR];with_reducible refine cz (m:=_) ?_ ⟨y+1,j,_,rfl,z,⟨rfl,by omega,by omega,fun k g=>by
   rcases Nat.lt_or_ge k y with e|e
   ·exact LO (MV (fb.1 hs) e (by omega)) hc
   ·have e:k=y:=by omega
    subst e
    exact hc,kT,q0⟩,aB (by kernel_rfl)⟩;omega)
 ·have V5:∀ k,y≤k→k < l.length→¬ aM (l.getD k ah) a < 0:=by
   intro k g1 g2
   rcases Nat.eq_or_lt_of_le g1 with e|e
   ·subst e
    exact hc
   ·intro g
    exact hc (LO (MV (fb.1 hs) e g2) g)
  repeat' (first|simp -implicitDefEqProofs only [syms,aa,seval,lY]|((with_reducible refine ⟨z.cW.lay _ _,?_⟩);(intro _ h' zz x _);(simp only [cq,List.append_nil] at x);(replace q0:=q0.over x);(replace z:=zz);(clear zz);rw [ao h']))
  (rw [aR];with_reducible refine cz (m:=_) ?_ ⟨i,y,_,rfl,z,⟨rfl,by omega,by omega,cR,V5,q0⟩,aB (by kernel_rfl)⟩;omega)
theorem zql (l:List ab) (a:ab) (v:Value) (h:Heap) (hl:Sl aK.atom h v l) (hs:ez l) (hn:l.length≤1000) (aS:∀ x∈l,x.ba=true) (ha:a.ba=true) (K:Value→Heap→Prop)
 (hk:∀ h' i,Ext h h'→eG l a i→K (.tuple #[.int .i64 (i:Nat),.bool (bV l a)]) h'):Ok Tryz.prog ae ov 62 [v,a.val] h K:=by
 rw [ao h]
 have z:=Ext.refl h
 refine Ok.aD rfl zAf (br N62) rfl (m:=9) rfl ?_
 repeat' (simp -implicitDefEqProofs only [syms,aa,seval,c62,eW,↓ff,eR,dQ])
 refine zng l a v _ (hl.lay _ _) hs hn aS ha _ (fun h' i x hp=>?_)
 (replace z:=z.an x (by omega);rw [ao h'])
 generalize bV l a=b at hk ⊢
 cases b
 all_goals
  repeat' (simp -implicitDefEqProofs only [syms,aa,seval,c62])
  exact hk _ _ (z.aw _ _ (by omega)) hp
end Go.Proofs.YtdplfgoifjjniaaGreatDoor

namespace Go.Proofs.YtdplfgoifjjniaaGreatDoor
open Go.Am
noncomputable def N33:=bq Tryz.f33
noncomputable def x33:=PLift.up (by have c:=bu N33 Tryz.f33;simp only [aE,Tryz.f33,seval] at c;exact nd c <| nd @Cb <| nd @b9 <| @T8)
theorem Fl:type_of% x33.down:=x33.down
noncomputable def N37:=bq Tryz.f37
noncomputable def x37:=PLift.up (by have c:=bu N37 Tryz.f37;simp only [aE,Tryz.f37,seval] at c;exact nd c <| nd @b9 <| @Ub)
theorem Is:type_of% x37.down:=x37.down
noncomputable def N66:=bq Tryz.f66
noncomputable def x66:=PLift.up (by have c:=bu N66 Tryz.f66;simp only [aE,Tryz.f66,seval] at c;exact nd c <| nd @ia <| @UD)
theorem Ah:type_of% x66.down:=x66.down
theorem zEg (s:List ab) (a:ab) (i:Nat) (w:Value) (h h1:Heap) (z:Ext h h1) (ho:eh h h1 42 w s) (hn:s.length≤10000) (aH:i≤s.length) (lw:Nat) (rQ:min h1.low h1.size≤lw) (K:Value→Heap→Prop)
 (hk:∀ h' w',Ext h h'→eh h h' 42 w' (s.take i++a::s.drop i)→K w' h'):Ok Tryz.prog ae ov 63 [w,.int .i64 i,.slice (some ⟨h1.size+0,0,none⟩) 1 1] (h1.lay [.row a.cells 42 false] lw) K:=by
 obtain ⟨w',H',e,FN,A,hA,c⟩:=zCD (i:=i) (a:=a) (lw:=lw) zqe ZT (by decide) (by decide) z.size ho hn aH
 exact Ok.over rfl e (hk _ _ (z.dI c hA rQ) FN)
theorem zEf (l:List ab) (a:ab) (v:Value) (h:Heap) (hl:Sl aK.atom h v l) (hn:l.length≤900) (aS:∀ x∈l,x.ba=true) (ha:a.ba=true) (K:Value→Heap→Prop)
 (hk:∀ h' w,Ext h h'→eh h h' 42 w (cB a (jT l))→K (.tuple #[w,.bool (!bV l a)]) h'):Ok Tryz.prog ae ov 33 [v,a.val] h K:=by
 rw [ao h]
 have z:=Ext.refl h
 refine Ok.aD rfl zzO (br N33) rfl (m:=22) rfl ?_
 simp -implicitDefEqProofs only [syms,aa,seval,Fl,eW]
 refine zt6 l v _ (hl.lay _ _) hn aS _ (fun h' w x ho=>?_)
 replace ho:=ho.down (h0:=h) (by rw [bB];omega)
 have q0:=Holds.top (i:=0) x rfl
 (replace z:=z.an x (by omega);rw [ao h'])
 have bC:=cJ w
 repeat' (simp -implicitDefEqProofs only [syms,aa,seval,Fl,bC,q0.lay,eW,↓ff,eR,dQ])
 have FH:=YM l
 refine zql (jT l) a w _ (ho.sl.lay _ _) (vl l).iS (by omega) (zjm aS) ha _ (fun h' i x hp=>?_)
 replace ho:=(ho.lay _ _).mono x.inc
 (replace z:=z.an x (by omega);(replace q0:=q0.over x);rw [ao h'])
 cases hb:bV (jT l) a
 ·have Du:=znC hp hb
  rw [OW] at hb
  repeat' (simp -implicitDefEqProofs only [syms,aa,seval,Fl,bC,q0.lay,eW,↓ff,eR,dQ])
  repeat' (simp -implicitDefEqProofs only [syms,aa,seval,Fl,zty])
  rw [hb] at hk
  have hz:=z.size
  refine zEg (jT l) a i w h h' z ho (by omega) hp.le _ (by omega) _ (fun h' w' x ho=>?_)
  replace z:=x
  rw [Du] at ho
  have bC:∀ (h:Heap) (K:Value→Heap→Prop),aU (some w') h K=K w' h:=fun _ _=>rfl
  rw [ao h']
  repeat' (simp -implicitDefEqProofs only [syms,aa,seval,Fl,bC])
  exact hk _ _ (z.aw _ _ (by omega)) (ho.lay _ _)
 ·have Du:=zuA (vl l).iS hb
  rw [OW] at hb
  rw [hb,Du] at hk
  repeat' (simp -implicitDefEqProofs only [syms,aa,seval,Fl,bC])
  exact hk _ _ (z.aw _ _ (by omega)) (ho.lay _ _)
theorem zEr {T:bD} {t u:TypeId} {A n q i j:Nat} {k1 k2 k3:IntKind} (hd:T.desc t=some (.slice u)) (hs:bO T u=some 11) (dh:i≤j) (hj:j≤n) (hn:n≤q) (hq:q≤100000) :
 kf T t (.slice (some ⟨A,0,none⟩) n (G*11+q)) (some (.int k1 i)) (some (.int k2 j)) (some (.int k3 n))=some (.slice (some ⟨A,if n=i then 0 else 0+i*11,none⟩) (j - i) (n - i)):=by
 have hG:=E7
 obtain ⟨d1,d2,d3⟩:=Bo (k:=11) (q:=q) (by decide) (by omega)
 unfold kf
 simp only [hd,hs,Option.bind_some]
 rw [if_neg (by omega),d2,if_pos rfl,d3]
 unfold pF
 simp only [Ge hn,Ge hj,Ge dh,Option.bind_some,Option.map_some]
theorem zxd {T:bD} {t u:TypeId} {A n q i j:Nat} {k1 k2:IntKind} (hd:T.desc t=some (.slice u)) (hs:bO T u=some 11) (dh:i≤j) (hj:j≤q) (hq:q≤100000) :
 kf T t (.slice (some ⟨A,0,none⟩) n (G*11+q)) (some (.int k1 i)) (some (.int k2 j)) none=some (.slice (some ⟨A,0+i*11,none⟩) (j - i) (G*11+(q - i))):=by
 have hG:=E7
 obtain ⟨d1,d2,d3⟩:=Bo (k:=11) (q:=q) (by decide) (by omega)
 unfold kf
 simp only [hd,hs,Option.bind_some]
 rw [if_neg (by omega),d2,if_pos rfl,d3]
 unfold pF
 simp only [Ge hj,Ge dh,Option.bind_some,Option.map_some]
def kp (h0 h:Heap) (u:TypeId) (v:Value) (s:List ab):Prop:=∃ A t,v=.slice (some ⟨A,0,none⟩) s.length (G*11+(s++t).length)∧Holds h A (.row (aG (s++t)) u false)∧h0.size≤A∧(s++t).length≤100000
theorem eh.b {h0 h:Heap} {u:TypeId} {v:Value} {s:List ab} (f:eh h0 h u v s) (hs:s≠[]):kp h0 h u v s:=by
 rcases f with ⟨e,_⟩|f
 ·exact absurd e hs
 ·exact f
theorem kp.a {h0 h:Heap} {u:TypeId} {v:Value} {s:List ab} (f:kp h0 h u v s):eh h0 h u v s:=.inr f
theorem kp.lay {h0 h:Heap} {u:TypeId} {v:Value} {s:List ab} (f:kp h0 h u v s) (bs:List bh) (w:Nat):kp h0 (h.lay bs w) u v s:=by
 obtain ⟨A,t,e1,e2,e3⟩:=f
 exact ⟨A,t,e1,e2.on _ _,e3⟩
theorem kp.kill {h0 h:Heap} {u:TypeId} {v:Value} {s:List ab} {D:List Nat} (f:kp h0 h u v s) (hD:∀ B∈D,B < h0.size):Sl aK.atom (aN D h) v s:=by
 obtain ⟨A,t,e1,e2,e3,e4⟩:=f
 have hA:A ∉ D:=fun hm=>by have:=hD A hm;omega
 exact eh.sl (h0:=h0) (u:=u) (.inr ⟨A,t,e1,⟨by rw [jn];exact e2.lt,by rw [n9 hA];exact e2.get⟩,e3,e4⟩)
theorem zuv {h0 h:Heap} {u:TypeId} {A n c:Nat} {s t:List ab} (q:Holds h A (.row (aG (s++t)) u false)) (hA:h0.size≤A) (hn:(s++t).length≤100000) (hl:n=s.length) (hc:c=G*11+(s++t).length):kp h0 h u (.slice (some ⟨A,0,none⟩) n c) s:=by
 subst hl hc
 exact ⟨A,t,rfl,q,hA,hn⟩
theorem zuH {α:Type} {r:aK α} {h:Heap} {v:Value} {l:List α} (f:Sl r h v l):∃ a n c,v=.slice a n c:=by
 rcases f with ⟨rfl,_⟩|⟨A,o,c,row,u,ro,rfl,_⟩ <;> exact ⟨_,_,_,rfl⟩
theorem zrM (s:List ab) (i:Nat) (w:Value) (h hs:Heap) (z:Ext h hs) (ho:eh h hs 42 w s) (hn:s.length≤10000) (aH:i < s.length) (K:Value→Heap→Prop)
 (hk:∀ h' w',Ext h h'→kp h h' 42 w' (s.take i++s.drop (i+1))→K w' h'):Ok Tryz.prog ae ov 66 [w,.int .i64 i,.int .i64 ((i+1:Nat):Int)] hs K:=by
 rcases ho with ⟨rfl,_⟩|⟨A,t,rfl,q,hA,hle⟩
 ·simp at aH
 have pz:s.length≤(s++t).length:=by rw [List.length_append];omega
 rw [ao hs]
 refine Ok.aD rfl zAj (br N66) rfl (m:=30) rfl ?_
 simp -implicitDefEqProofs only [syms,aa,seval,Ah,zEr cf bS (show i≤i+1 by omega) aH pz hle]
 refine pK (fun hh=>absurd hh (by omega)) (fun _=>?_)
 repeat' (simp -implicitDefEqProofs only [syms,aa,seval,Ah])
 refine (eu (by simp only [Ah])) (z.aw _ _ (by omega)) ?_
 simp -implicitDefEqProofs only [syms,aa,seval,Ah,zup cf bS (show i≤s.length by omega) pz hle,Y8 cf bS (show i+1≤s.length by omega) pz hle,sX,zEw]
 obtain ⟨h2,e2,q2,c2⟩:=zq9 (i:=i) (C2:=G*11+((s++t).length - (i+1))) cf ZT (by decide) (q.on _ _) aH hn hle
 rw [e2]
 simp -implicitDefEqProofs only [syms,aa,seval,Ah]
 have hzz:=z.size
 refine nM (A:=A) (by kernel_rfl) (by rw [bB];omega) (by omega) (by simpa only [cq,bB,List.append_nil,List.length_cons,List.length_nil,Nat.zero_add,Nat.add_zero] using c2) ?_
 replace z:=z.dI c2 hA (by omega)
 rw [ao h2]
 clear q
 repeat' (first|simp -implicitDefEqProofs only [syms,aa,seval,Ah]|((with_reducible refine ⟨z.cW.lay _ _,?_⟩);(intro _ h' zz x _);(simp only [cq,List.append_nil] at x);(replace q2:=q2.over x);(replace z:=zz);(clear zz);rw [ao h']))
 have eN:(s.take i++s.drop (i+1)).length=s.length - 1:=by simp only [List.length_append,List.length_take,List.length_drop];omega
 have fT:(s.take i++s.drop (i+1)++(s.drop (s.length - 1)++t)).length=(s++t).length:=by
  rw [List.length_append,eN,List.length_append,List.length_append,List.length_drop]
  omega
 simp -implicitDefEqProofs only [syms,aa,seval,Ah,zxd cf bS (show s.length - 1≤s.length by omega) pz hle,zv4]
 refine zs5 (i:=s.length - 1) (n:=s.length - (s.length - 1)) q2 cf Gd (by rw [fT];omega) (fun h3 q3 c3=>?_)
 replace z:=z.dI c3 hA (by omega)
 rw [ao h3]
 clear q2
 repeat' (simp -implicitDefEqProofs only [syms,aa,seval,Ah])
 rw [List.take_left' eN] at q3
 have JD:(s.take i++s.drop (i+1)++(List.replicate (s.length - (s.length - 1)) ah++(s.take i++s.drop (i+1)++(s.drop (s.length - 1)++t)).drop (s.length - 1+(s.length - (s.length - 1))))).length=(s++t).length:=by
  rw [List.length_append,eN,List.length_append,List.length_replicate,List.length_drop,fT,List.length_append]
  omega
 exact hk _ _ (z.aw _ _ (by omega)) (zuv (q3.on _ _) hA (by rw [JD];exact hle) eN.symm (by rw [JD]))
theorem zrV (l:List ab) (a:ab) (v:Value) (h:Heap) (hl:Sl aK.atom h v l) (hn:l.length≤900) (aS:∀ x∈l,x.ba=true) (ha:a.ba=true) (K:Value→Heap→Prop)
 (hk:∀ h' w,Ext h h'→(∃ a n c,w=.slice a n c)→(bV l a=true→kp h h' 42 w (fB a (jT l)))→K (.tuple #[w,.bool (bV l a)]) h'):Ok Tryz.prog ae ov 37 [v,a.val] h K:=by
 rw [ao h]
 have z:=Ext.refl h
 refine Ok.aD rfl zzR (br N37) rfl (m:=23) rfl ?_
 simp -implicitDefEqProofs only [syms,aa,seval,Is,eW]
 refine zt6 l v _ (hl.lay _ _) hn aS _ (fun h' w x ho=>?_)
 replace ho:=ho.down (h0:=h) (by rw [bB];omega)
 have q0:=Holds.top (i:=0) x rfl
 (replace z:=z.an x (by omega);rw [ao h'])
 have bC:=cJ w
 repeat' (simp -implicitDefEqProofs only [syms,aa,seval,Is,bC,q0.lay,eW,↓ff,eR,dQ])
 have FH:=YM l
 refine zql (jT l) a w _ (ho.sl.lay _ _) (vl l).iS (by omega) (zjm aS) ha _ (fun h' i x hp=>?_)
 replace ho:=(ho.lay _ _).mono x.inc
 (replace z:=z.an x (by omega);(replace q0:=q0.over x);rw [ao h'])
 cases hb:bV (jT l) a
 ·have Du:=zA8 hb
  rw [OW] at hb
  rw [hb,Du] at hk
  repeat' (first|simp -implicitDefEqProofs only [syms,aa,seval,Is,bC]|((with_reducible_and_instances apply cm);(· rfl)))
  exact hk _ _ (z.aw _ _ (by omega)) (zuH ho.sl) (fun e=>absurd e (by decide))
 ·obtain ⟨kE,Du⟩:=ztc (vl l).iS hp hb
  rw [OW] at hb
  have gO:=eg i (by omega)
  repeat' (first|simp -implicitDefEqProofs only [syms,aa,seval,Is,bC,gO]|((with_reducible_and_instances apply cm);(· rfl)))
  rw [hb] at hk
  refine zrM (jT l) i w h _ (z.aw _ _ (by omega)) (ho.lay _ _) (by omega) kE _ (fun h' w' x ho=>?_)
  replace z:=x
  rw [Du] at ho
  have bC:∀ (h:Heap) (K:Value→Heap→Prop),aU (some w') h K=K w' h:=fun _ _=>rfl
  rw [ao h']
  repeat' (simp -implicitDefEqProofs only [syms,aa,seval,Is,bC])
  exact hk _ _ (z.aw _ _ (by omega)) (zuH ho.a.sl) (fun _=>ho.lay _ _)
end Go.Proofs.YtdplfgoifjjniaaGreatDoor

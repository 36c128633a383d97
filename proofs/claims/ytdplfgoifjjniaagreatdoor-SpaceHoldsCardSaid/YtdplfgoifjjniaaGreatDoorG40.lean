/- Walks: sorting in place: Am.one block Written out by fill2.py. No condition. -/
import Derived.Test.YtdplfgoifjjniaaGreatDoorG33
set_option linter.unusedSimpArgs false
set_option linter.unusedVariables false
set_option maxRecDepth 100000
set_option maxHeartbeats 0
namespace Go.Proofs.YtdplfgoifjjniaaGreatDoor
open Go.Am
theorem zhI (l:List ab) (A c a b:Nat) (h hs:Heap) (z:Ext h hs) (hA:h.size≤A) (q:Holds hs A (.row (aG l) 42 false)) (CN:a≤b) (hb:b≤l.length) (hn:l.length≤100000) (aS:∀ x∈l,x.ba=true) (K:Value→Heap→Prop)
 (hk:∀ h' l',Ext h h'→Holds h' A (.row (aG l') 42 false)→l'.Perm l→eE l l'→gj l' a b→EB l l' a b→K undef h'):Ok Tryz.prog ae ov 152 [.slice (some ⟨A,0,none⟩) l.length c,.int .i64 a,.int .i64 b,.func (.func 95) ⟨[]⟩ ⟨[]⟩] hs K:=by
 rw [ao hs]
 have hw0:=eg a (by omega)
 refine Ok.aD rfl zn3 (br BZ) rfl (m:=49) rfl ?_
 simp -implicitDefEqProofs only [syms,aa,seval,fc]
 rw [hw0]
 obtain ⟨I1,aR⟩:∃ I:Nat→Env→Heap→Prop,I=(fun n e h'=>∃ (i:Nat) (l1:List ab) (h1:Heap),h'=h1.lay [] h1.low∧Ext h h1∧(n=b - i∧a < i∧(i≤b∨(i=a+1∧l1=l))∧l1.Perm l∧eE l l1∧gj l1 a i∧EB l l1 a i∧Holds h1 A (.row (aG l1) 42 false))∧∃ J:Nat→Value,e=(.slice (some ⟨A,0,none⟩) l.length c::.int .i64 a::.int .i64 b::.func (.func 95) ⟨[]⟩ ⟨[]⟩::jr J 4 4 (.int .i64 i::jr J 9 44 ([])))):=⟨_,rfl⟩
 refine dg I1 _ (by rw [aR];exact ⟨a+1,l,_,rfl,z,⟨rfl,by omega,.inr ⟨rfl,rfl⟩,List.Perm.refl _,eE.refl _,fun k g1 g2=>by omega,fun k _=>rfl,q⟩,aB (by kernel_rfl)⟩) ?_
 intro n e h' aH
 rw [aR] at aH
 obtain ⟨i,l1,bE,rfl,z,hinv,J,rfl⟩:=aH
 clear q
 obtain ⟨rfl,Nz,ND,AP,DF,DC,DA,q⟩:=hinv
 have hw:=eg i (by omega)
 simp -implicitDefEqProofs only [syms,aa,seval,fc]
 refine bp (fun j3=>?_) (fun j3=>?_)
 rotate_left
 ·simp -implicitDefEqProofs only [syms,aa,seval,fc,zD3]
  repeat' ((first|((with_reducible first|apply bp|apply pK|apply iK|apply MT|apply zCx) <;> intro _)|((with_reducible refine ⟨z.cW.lay _ _,?_⟩);(intro _ h' zz x _);(first|simp only [cq,List.append_nil] at x|skip);(replace z:=zz);(clear zz);rw [ao h'])) <;> simp -implicitDefEqProofs only [syms,aa,seval,fc])
  refine hk _ _ (z.aw _ _ (by omega)) (q.on _ _) AP DF (fun k g1 g2=>DC k g1 (by omega)) (fun k g=>?_)
  rcases ND with ND|⟨_,rfl⟩
  ·exact DA k (by omega)
  ·rfl
 have eN:=AP.length_eq
 have JG:=Bm aS AP
 repeat' (simp -implicitDefEqProofs only [syms,aa,seval,fc])
 obtain ⟨I2,eM⟩:∃ I:Nat→Env→Heap→Prop,I=(fun n e h'=>∃ (j:Nat) (l2:List ab) (h1:Heap),h'=h1.lay [] h1.low∧Ext h h1∧(n=j - a∧a≤j∧j≤i∧l2.Perm l∧eE l l2∧M4 l2 a i j∧EB l l2 a (i+1)∧Holds h1 A (.row (aG l2) 42 false))∧∃ J:Nat→Value,e=(.slice (some ⟨A,0,none⟩) l.length c::.int .i64 a::.int .i64 b::.func (.func 95) ⟨[]⟩ ⟨[]⟩::jr J 4 4 (.int .i64 i::.int .i64 j::jr J 10 43 ([])))):=⟨_,rfl⟩
 refine dg I2 _ (by rw [eM];exact ⟨i,l1,_,rfl,z,⟨rfl,by omega,by omega,AP,DF,zpr DC,fun k g=>DA k (by omega),q⟩,aB (by kernel_rfl)⟩) ?_
 intro n e h' aH
 rw [eM] at aH
 obtain ⟨j,l2,vJ,rfl,z,hinv,J,rfl⟩:=aH
 clear q AP DF DC DA eN JG
 obtain ⟨rfl,Vw,jN,AQ,DG,NN,DB,q⟩:=hinv
 have fT:=AQ.length_eq
 have jb:=Bm aS AQ
 simp -implicitDefEqProofs only [syms,aa,seval,fc]
 refine (eu (by simp only [fc])) (z.aw _ _ (by omega)) ?_
 simp -implicitDefEqProofs only [syms,aa,seval,fc]
 refine bp (fun qd=>?_) (fun qd=>?_)
 rotate_left
 ·repeat' (first|simp -implicitDefEqProofs only [syms,aa,seval,fc]|((with_reducible refine ⟨z.cW.lay _ _,?_⟩);(intro _ h' zz x _);( simp only [cq,List.append_nil] at x );( replace q:=q.over x );(replace z:=zz);(clear zz);rw [ao h']))
  rw [hw]
  (rw [aR];with_reducible refine cz (m:=_) ?_ ⟨i+1,l2,_,rfl,z,⟨rfl,by omega,.inl (by omega),AQ,DG,znM NN jN (fun g=>absurd g (by omega)),DB,q⟩,aB (by kernel_rfl)⟩;omega)
 have FR:IntKind.i64.wrap ((j:Int) - 1)=((j - 1:Nat):Int):=by rw [wrap_i64 (by omega) (by omega)];omega
 have aH:(0:Int)≤(j:Int)∧(j:Int) < (l.length:Int):=by omega
 have fE:(0:Int)≤((j - 1:Nat):Int)∧((j - 1:Nat):Int) < (l.length:Int):=by omega
 have jl:=fun (bs:List bh) (w:Nat)=>mq (bs:=bs) (w:=w) q (iP (l:=l2) (i:=j) (by omega))
 have eV:=fun (bs:List bh) (w:Nat)=>mq (bs:=bs) (w:=w) q (iP (l:=l2) (i:=j - 1) (by omega))
 repeat' (simp -implicitDefEqProofs only [syms,aa,seval,fc,FR,aH,fE,and_self,if_true,↓jl,↓eV,dQ])
 refine BE _ _ (n5 jb (by omega)) (n5 jb (by omega)) _ _ (fun h' x=>?_)
 (((with_reducible refine dK ?_ ?_ ?_);(· exact (by (simp only [dM]);have:=z.size;omega));(· exact x));replace z:=z.an x (by omega);(replace q:=q.over x);rw [ao h'])
 simp -implicitDefEqProofs only [syms,aa,seval,fc]
 refine bp (fun hc=>?_) (fun hc=>?_)
 rotate_left
 ·repeat' (first|simp -implicitDefEqProofs only [syms,aa,seval,fc]|((with_reducible refine ⟨z.cW.lay _ _,?_⟩);(intro _ h' zz x _);( simp only [cq,List.append_nil] at x );( replace q:=q.over x );(replace z:=zz);(clear zz);rw [ao h']))
  rw [hw]
  (rw [aR];with_reducible refine cz (m:=_) ?_ ⟨i+1,l2,_,rfl,z,⟨rfl,by omega,.inl (by omega),AQ,DG,znM NN jN (fun _=>Gt hc),DB,q⟩,aB (by kernel_rfl)⟩;omega)
 repeat' (first|simp -implicitDefEqProofs only [syms,aa,seval,fc]|((with_reducible refine ⟨z.cW.lay _ _,?_⟩);(intro _ h' zz x _);(simp only [cq,List.append_nil] at x);(replace q:=q.over x);(replace z:=zz);(clear zz);rw [ao h']))
 have jl:=fun (bs:List bh) (w:Nat)=>mq (bs:=bs) (w:=w) q (iP (l:=l2) (i:=j) (by omega))
 have eV:=fun (bs:List bh) (w:Nat)=>mq (bs:=bs) (w:=w) q (iP (l:=l2) (i:=j - 1) (by omega))
 refine (eu (by simp only [fc])) (z.aw _ _ (by omega)) ?_
 repeat' (simp -implicitDefEqProofs only [syms,aa,seval,fc,FR,aH,fE,and_self,if_true,↓jl,↓eV,dQ])
 refine zJ q bS (by omega) (fun h3 q3 c3=>?_)
 have hz:=z.size
 refine nM (A:=A) (by kernel_rfl) (by rw [bB];omega) (by omega) (by simpa only [cq,bB,List.append_nil,List.length_cons,List.length_nil,Nat.add_zero] using c3) ?_
 replace z:=(z.aw [] (h'.size+0) (by omega)).step c3 hA
 rw [ao h3]
 clear q jl eV
 repeat' (simp -implicitDefEqProofs only [syms,aa,seval,fc,FR,aH,fE,and_self,if_true])
 refine zJ q3 bS (by rw [List.length_set];omega) (fun h4 q4 c4=>?_)
 have hz:=z.size
 refine nM (A:=A) (by kernel_rfl) (by rw [bB];omega) (by omega) (by simpa only [cq,bB,List.append_nil,List.length_cons,List.length_nil,Nat.add_zero] using c4) ?_
 replace z:=(z.aw [] (h3.size+0) (by omega)).step c4 hA
 rw [ao h4]
 clear q3
 repeat' (first|simp -implicitDefEqProofs only [syms,aa,seval,fc,FR]|((with_reducible refine ⟨z.cW.lay _ _,?_⟩);(intro _ h' zz x _);(simp only [cq,List.append_nil] at x);(replace q4:=q4.over x);(replace z:=zz);(clear zz);rw [ao h']))
 replace q4:Holds _ A (.row (aG (jM l2 j (j - 1))) 42 false):=q4
 (rw [eM];with_reducible refine cz (m:=_) ?_ ⟨j - 1,jM l2 j (j - 1),_,rfl,z,⟨rfl,by omega,by omega,(Y6 (by omega) (by omega)).trans AQ,DG.trans (znS (by omega) (by omega) hc),zsc NN (by omega) jN (by omega) hc,znJ DB (by omega) jN (by omega),q4⟩,aB (by kernel_rfl)⟩;omega)
theorem YI (l:List ab) (A c a b w:Nat) (fv:Value) (h hs:Heap) (z:Ext h hs) (hA:h.size≤A) (q:Holds hs A (.row (aG l) 42 false)) (CN:a+w≤b) (hb:b+w≤l.length) (hn:l.length≤100000) (K:Value→Heap→Prop)
 (hk:∀ h' l',Ext h h'→Holds h' A (.row (aG l') 42 false)→l'.Perm l→BI l l' a b w→K undef h'):Ok Tryz.prog ae ov 168 [.slice (some ⟨A,0,none⟩) l.length c,.int .i64 a,.int .i64 b,.int .i64 w,fv] hs K:=by
 rw [ao hs]
 refine Ok.aD rfl zvC (br HL) rfl (m:=33) rfl ?_
 simp -implicitDefEqProofs only [syms,aa,seval,oo]
 obtain ⟨I1,aR⟩:∃ I:Nat→Env→Heap→Prop,I=(fun n e h'=>∃ (i:Nat) (l1:List ab) (h1:Heap),h'=h1.lay [] h1.low∧Ext h h1∧(n=w - i∧i≤w∧l1.Perm l∧BI l l1 a b i∧Holds h1 A (.row (aG l1) 42 false))∧∃ J:Nat→Value,e=(.slice (some ⟨A,0,none⟩) l.length c::.int .i64 a::.int .i64 b::.int .i64 w::jr J 4 6 (.int .i64 i::jr J 11 27 ([])))):=⟨_,rfl⟩
 refine dg I1 _ (by rw [aR];exact ⟨0,l,_,rfl,z,⟨rfl,by omega,List.Perm.refl _,zpC l a b,q⟩,aB (by kernel_rfl)⟩) ?_
 intro n e h' aH
 rw [aR] at aH
 obtain ⟨i,l1,bE,rfl,z,hinv,J,rfl⟩:=aH
 clear q
 obtain ⟨rfl,hi,hp,J5,q⟩:=hinv
 have eN:=hp.length_eq
 have hw:=eg i (by omega)
 simp -implicitDefEqProofs only [syms,aa,seval,oo]
 refine bp (fun aS=>?_) (fun aS=>?_)
 rotate_left
 ·repeat' ( simp -implicitDefEqProofs only [syms,aa,seval,oo])
  have hiw:i=w:=by omega
  subst hiw
  exact hk _ _ (z.aw _ _ (by omega)) (q.on _ _) hp J5
 have W1:IntKind.i64.wrap ((a:Int)+(i:Int))=((a+i:Nat):Int):=by rw [wrap_i64 (by omega) (by omega)];omega
 have xD:IntKind.i64.wrap ((b:Int)+(i:Int))=((b+i:Nat):Int):=by rw [wrap_i64 (by omega) (by omega)];omega
 have aH:(0:Int)≤((a+i:Nat):Int)∧((a+i:Nat):Int) < (l.length:Int):=by omega
 have fE:(0:Int)≤((b+i:Nat):Int)∧((b+i:Nat):Int) < (l.length:Int):=by omega
 have jl:=fun (bs:List bh) (w:Nat)=>mq (bs:=bs) (w:=w) q (iP (l:=l1) (i:=a+i) (by omega))
 have eV:=fun (bs:List bh) (w:Nat)=>mq (bs:=bs) (w:=w) q (iP (l:=l1) (i:=b+i) (by omega))
 simp -implicitDefEqProofs only [syms,aa,seval,oo]
 refine (eu (by simp only [oo])) (z.aw _ _ (by omega)) ?_
 repeat' (simp -implicitDefEqProofs only [syms,aa,seval,oo,W1,xD,aH,fE,and_self,if_true,↓jl,↓eV,dQ])
 have hz:=z.size
 refine zJ q bS (by omega) (fun h3 q3 c3=>?_)
 refine nM (A:=A) (by kernel_rfl) (by rw [bB];omega) (by omega) (by simpa only [cq,bB,List.append_nil,List.length_cons,List.length_nil,Nat.add_zero] using c3) ?_
 replace z:=(z.aw [] (bE.size+0) (by omega)).step c3 hA
 rw [ao h3]
 clear q jl eV
 repeat' (simp -implicitDefEqProofs only [syms,aa,seval,oo,W1,xD,aH,fE,and_self,if_true])
 refine zJ q3 bS (by rw [List.length_set];omega) (fun h4 q4 c4=>?_)
 have hz:=z.size
 refine nM (A:=A) (by kernel_rfl) (by rw [bB];omega) (by omega) (by simpa only [cq,bB,List.append_nil,List.length_cons,List.length_nil,Nat.add_zero] using c4) ?_
 replace z:=(z.aw [] (h3.size+0) (by omega)).step c4 hA
 rw [ao h4]
 clear q3
 repeat' (first|simp -implicitDefEqProofs only [syms,aa,seval,oo]|((with_reducible refine ⟨z.cW.lay _ _,?_⟩);(intro _ h' zz x _);(simp only [cq,List.append_nil] at x);(replace q4:=q4.over x);(replace z:=zz);(clear zz);rw [ao h']))
 rw [hw]
 replace q4:Holds _ A (.row (aG (jM l1 (a+i) (b+i))) 42 false):=q4
 (rw [aR];with_reducible refine cz (m:=_) ?_ ⟨i+1,jM l1 (a+i) (b+i),_,rfl,z,⟨rfl,by omega,(Y6 (by omega) (by omega)).trans hp,zpB J5 CN (by omega) (by omega),q4⟩,aB (by kernel_rfl)⟩;omega)
theorem zue (l:List ab) (A c a m b:Nat) (fv:Value) (h hs:Heap) (z:Ext h hs) (hA:h.size≤A) (q:Holds hs A (.row (aG l) 42 false)) (sD:a < m) (xo:m < b) (hb:b≤l.length) (hn:l.length≤100000) (K:Value→Heap→Prop)
 (hk:∀ h',Ext h h'→Holds h' A (.row (aG (wC l a m b)) 42 false)→(wC l a m b).Perm l→K undef h'):Ok Tryz.prog ae ov 164 [.slice (some ⟨A,0,none⟩) l.length c,.int .i64 a,.int .i64 m,.int .i64 b,fv] hs K:=by
 rw [ao hs]
 have uN:IntKind.i64.wrap ((m:Int) - (a:Int))=((m - a:Nat):Int):=by rw [wrap_i64 (by omega) (by omega)];omega
 have sM:IntKind.i64.wrap ((b:Int) - (m:Int))=((b - m:Nat):Int):=by rw [wrap_i64 (by omega) (by omega)];omega
 refine Ok.aD rfl zvB (br HK) rfl (m:=53) rfl ?_
 simp -implicitDefEqProofs only [syms,aa,seval,na,uN,sM]
 obtain ⟨I1,aR⟩:∃ I:Nat→Env→Heap→Prop,I=(fun n e h'=>∃ (i j:Nat) (l1:List ab) (h1:Heap),h'=h1.lay [] h1.low∧Ext h h1∧(n=i+j∧0 < i∧0 < j∧i≤m∧m+j≤l.length∧l1.Perm l∧E8 (wC l a m b) l1 m i j∧Holds h1 A (.row (aG l1) 42 false))∧∃ J:Nat→Value,e=(.slice (some ⟨A,0,none⟩) l.length c::J 1::.int .i64 m::J 3::fv::jr J 5 5 (.int .i64 i::.int .i64 j::jr J 12 46 ([])))):=⟨_,rfl⟩
 refine dg I1 _ (by rw [aR];exact ⟨m - a,b - m,l,_,rfl,z,⟨rfl,by omega,by omega,by omega,by omega,List.Perm.refl _,zpJ (by omega) (by omega) hb,q⟩,aB (by kernel_rfl)⟩) ?_
 intro n e h' aH
 rw [aR] at aH
 obtain ⟨i,j,l1,bE,rfl,z,hinv,J,rfl⟩:=aH
 clear q
 obtain ⟨rfl,qe,hj0,rM,JA,hp,WS,q⟩:=hinv
 have eN:=hp.length_eq
 simp -implicitDefEqProofs only [syms,aa,seval,na]
 have DP:IntKind.i64.wrap ((m:Int) - (i:Int))=((m - i:Nat):Int):=by rw [wrap_i64 (by omega) (by omega)];omega
 refine iK (fun aO=>?_) (fun heq=>?_)
 rotate_left
 ·have dh:i=j:=by omega
  subst dh
  repeat' (simp -implicitDefEqProofs only [syms,aa,seval,na,DP])
  have key:=fun K hk=>YI l1 A c (m - i) m i fv h (bE.lay [] bE.low) (z.aw _ _ (by omega)) hA (q.on _ _) (by omega) (by omega) (by omega) K hk
  simp only [eN] at key
  refine key _ (fun h' l' x q' lx j6=>?_)
  have lq:l'=wC l a m b:=ZN (by rw [zhR,lx.length_eq,eN]) (fun k=>(zvW WS rM j6 k).symm)
  subst lq
  rw [ao h']
  repeat' (simp -implicitDefEqProofs only [syms,aa,seval,na])
  exact hk _ (x.aw _ _ (by omega)) (q'.on _ _) (lx.trans hp)
 simp -implicitDefEqProofs only [syms,aa,seval,na]
 refine bp (fun qd=>?_) (fun qd=>?_)
 ·repeat' ( simp -implicitDefEqProofs only [syms,aa,seval,na,DP])
  have key:=fun K hk=>YI l1 A c (m - i) m j fv h (bE.lay [] bE.low) (z.aw _ _ (by omega)) hA (q.on _ _) (by omega) (by omega) (by omega) K hk
  simp only [eN] at key
  refine key _ (fun h' l' x q' lx j6=>?_)
  replace z:=x
  rw [ao h']
  have W3:IntKind.i64.wrap ((i:Int) - (j:Int))=((i - j:Nat):Int):=by rw [wrap_i64 (by omega) (by omega)];omega
  repeat' (simp -implicitDefEqProofs only [syms,aa,seval,na,W3])
  (rw [aR];with_reducible refine cz (m:=_) ?_ ⟨i - j,j,l',_,rfl,z,⟨rfl,by omega,by omega,by omega,by omega,lx.trans hp,zsu WS rM (by omega) j6,q'⟩,aB (by kernel_rfl)⟩;omega)
 ·have W6:IntKind.i64.wrap ((m:Int)+(j:Int))=((m+j:Nat):Int):=by rw [wrap_i64 (by omega) (by omega)];omega
  have Kc:IntKind.i64.wrap (((m+j:Nat):Int) - (i:Int))=((m+j - i:Nat):Int):=by rw [wrap_i64 (by omega) (by omega)];omega
  repeat' (simp -implicitDefEqProofs only [syms,aa,seval,na,DP,W6,Kc])
  have key:=fun K hk=>YI l1 A c (m - i) (m+j - i) i fv h (bE.lay [] bE.low) (z.aw _ _ (by omega)) hA (q.on _ _) (by omega) (by omega) (by omega) K hk
  simp only [eN] at key
  refine key _ (fun h' l' x q' lx j6=>?_)
  replace z:=x
  rw [ao h']
  have W4:IntKind.i64.wrap ((j:Int) - (i:Int))=((j - i:Nat):Int):=by rw [wrap_i64 (by omega) (by omega)];omega
  repeat' (simp -implicitDefEqProofs only [syms,aa,seval,na,W4])
  (rw [aR];with_reducible refine cz (m:=_) ?_ ⟨i,j - i,l',_,rfl,z,⟨rfl,by omega,by omega,by omega,by omega,lx.trans hp,zpI WS rM (by omega) j6,q'⟩,aB (by kernel_rfl)⟩;omega)
def X8 (sz:Nat):Prop:=∀ (l:List ab) (A c a m b:Nat) (h hs:Heap),Ext h hs→h.size≤A→Holds hs A (.row (aG l) 42 false)→a < m→m < b→b - a≤sz→b≤l.length→l.length≤100000→(∀ x∈l,x.ba=true)→gj l a m→gj l m b→∀ (K:Value→Heap→Prop),
 (∀ h' l',Ext h h'→Holds h' A (.row (aG l') 42 false)→Mv l l' a b→gj l' a b→K undef h')→Ok Tryz.prog ae ov 153 [.slice (some ⟨A,0,none⟩) l.length c,.int .i64 a,.int .i64 m,.int .i64 b,.func (.func 95) ⟨[]⟩ ⟨[]⟩] hs K
theorem Mk (x y:Nat) (h:x+y≤1000000):IntKind.i64.wrap ((x:Int)+(y:Int))=((x+y:Nat):Int)∧IntKind.u64.wrap ((x+y:Nat):Int)=((x+y:Nat):Int)∧IntKind.i64.wrap (((x+y) / 2:Nat):Int)=(((x+y) / 2:Nat):Int)∧Int.fdiv ((x+y:Nat):Int) (2 ^ (min (1:Int).toNat (IntKind.bits .u64)))=(((x+y) / 2:Nat):Int):=by
 refine ⟨by rw [wrap_i64 (by omega) (by omega)];omega,by unfold IntKind.wrap;simp [IntKind.bits];omega,wrap_i64 (by omega) (by omega),?_⟩
 show Int.fdiv ((x+y:Nat):Int) 2=_
 rw [Int.fdiv_eq_ediv_of_nonneg _ (by omega)]
 omega
theorem zrX (sz:Nat) (ih:X8 sz):X8 (sz+1):=by
 intro l A c a m b h hs z hA q sD xo dB hb hn aS h1 h2 K hk
 rw [ao hs]
 have uN:IntKind.i64.wrap ((m:Int) - (a:Int))=((m - a:Nat):Int):=by rw [wrap_i64 (by omega) (by omega)];omega
 have sM:IntKind.i64.wrap ((b:Int) - (m:Int))=((b - m:Nat):Int):=by rw [wrap_i64 (by omega) (by omega)];omega
 have FG:l[a]? = some (l.getD a ah):=iP (by omega)
 have FJ:l[m]? = some (l.getD m ah):=iP (by omega)
 refine Ok.aD rfl zvw (br iD) rfl (m:=215) rfl ?_
 simp -implicitDefEqProofs only [syms,aa,seval,bJ,uN,sM]
 refine pK (fun bw=>?_) (fun bw=>?_)
 ·-- Am.one element in front
  simp -implicitDefEqProofs only [syms,aa,seval,bJ]
  obtain ⟨I1,aR⟩:∃ I:Nat→Env→Heap→Prop,I=(fun n e h'=>∃ (i j:Nat) (h1:Heap),h'=h1.lay [] h1.low∧Ext h h1∧(n=j - i∧m≤i∧i≤j∧j≤b∧(i=m∨aM (l.getD (i - 1) ah) (l.getD a ah) < 0)∧(j=b∨¬ aM (l.getD j ah) (l.getD a ah) < 0)∧Holds h1 A (.row (aG l) 42 false))∧∃ J:Nat→Value,e=(.slice (some ⟨A,0,none⟩) l.length c::.int .i64 a::.int .i64 m::.int .i64 b::.func (.func 95) ⟨[]⟩ ⟨[]⟩::jr J 5 5 (.int .i64 i::.int .i64 j::jr J 12 208 ([])))):=⟨_,rfl⟩
  refine dg I1 _ (by rw [aR];exact ⟨m,b,_,rfl,z,⟨rfl,by omega,by omega,by omega,.inl rfl,.inl rfl,q⟩,aB (by kernel_rfl)⟩) ?_
  intro n e h' aH
  rw [aR] at aH
  obtain ⟨i,j,bE,rfl,z,hinv,J,rfl⟩:=aH
  clear q
  obtain ⟨rfl,g1,g2,g3,g4,g5,q⟩:=hinv
  simp -implicitDefEqProofs only [syms,aa,seval,bJ]
  refine bp (fun dh=>?_) (fun dh=>?_)
  rotate_left
  ·have Da:i=j:=by omega
   subst Da
   have FF:=g4
   have sJ:=g5
   have gO:IntKind.i64.wrap ((i:Int) - 1)=((i - 1:Nat):Int):=by rw [wrap_i64 (by omega) (by omega)];omega
   have Vy:m=a+1:=by omega
   subst Vy
   simp -implicitDefEqProofs only [syms,aa,seval,bJ]
   obtain ⟨I2,eM⟩:∃ I:Nat→Env→Heap→Prop,I=(fun n e h'=>∃ (k:Nat) (l1:List ab) (h1:Heap),h'=h1.lay [] h1.low∧Ext h h1∧(n=i - 1 - k∧a≤k∧k≤i - 1∧Mv l l1 a b∧tk l l1 a k∧Holds h1 A (.row (aG l1) 42 false))∧∃ J:Nat→Value,e=(.slice (some ⟨A,0,none⟩) l.length c::jr J 1 9 (.int .i64 i::jr J 11 2 (.int .i64 k::jr J 14 206 ([]))))):=⟨_,rfl⟩
   refine dg I2 _ (by rw [eM];exact ⟨a,l,_,rfl,z,⟨rfl,by omega,by omega,Mv.refl l a b,zsx l a,q⟩,aB (by kernel_rfl)⟩) ?_
   intro n e h' aH
   rw [eM] at aH
   obtain ⟨k,l1,vJ,rfl,z,hinv,J,rfl⟩:=aH
   clear q
   obtain ⟨rfl,f1,f2,f3,f4,q⟩:=hinv
   have eN:=f3.perm.length_eq
   have mK:=eg k (by omega)
   simp -implicitDefEqProofs only [syms,aa,seval,bJ,gO]
   refine bp (fun qh=>?_) (fun qh=>?_)
   rotate_left
   ·have Dc:k=i - 1:=by omega
    subst Dc
    repeat' (simp -implicitDefEqProofs only [syms,aa,seval,bJ])
    exact hk _ _ (z.aw _ _ (by omega)) (q.on _ _) f3 (zCC h2 (by omega) (by omega) FF sJ f4)
   have aH:(0:Int)≤(k:Int)∧(k:Int) < (l.length:Int):=by omega
   have fE:(0:Int)≤((k+1:Nat):Int)∧((k+1:Nat):Int) < (l.length:Int):=by omega
   have jl:=fun (bs:List bh) (w:Nat)=>mq (bs:=bs) (w:=w) q (iP (l:=l1) (i:=k) (by omega))
   have eV:=fun (bs:List bh) (w:Nat)=>mq (bs:=bs) (w:=w) q (iP (l:=l1) (i:=k+1) (by omega))
   simp -implicitDefEqProofs only [syms,aa,seval,bJ]
   refine (eu (by simp only [bJ])) (z.aw _ _ (by omega)) ?_
   repeat' (simp -implicitDefEqProofs only [syms,aa,seval,bJ,mK,aH,fE,and_self,if_true,↓jl,↓eV,dQ])
   have hz:=z.size
   refine zJ q bS (by omega) (fun h3 q3 c3=>?_)
   refine nM (A:=A) (by kernel_rfl) (by rw [bB];omega) (by omega) (by simpa only [cq,bB,List.append_nil,List.length_cons,List.length_nil,Nat.add_zero] using c3) ?_
   replace z:=(z.aw [] (vJ.size+0) (by omega)).step c3 hA
   rw [ao h3]
   clear q jl eV
   repeat' (simp -implicitDefEqProofs only [syms,aa,seval,bJ,mK,aH,fE,and_self,if_true])
   refine zJ q3 bS (by rw [List.length_set];omega) (fun h4 q4 c4=>?_)
   have hz:=z.size
   refine nM (A:=A) (by kernel_rfl) (by rw [bB];omega) (by omega) (by simpa only [cq,bB,List.append_nil,List.length_cons,List.length_nil,Nat.add_zero] using c4) ?_
   replace z:=(z.aw [] (h3.size+0) (by omega)).step c4 hA
   rw [ao h4]
   clear q3
   repeat' (first|simp -implicitDefEqProofs only [syms,aa,seval,bJ]|((with_reducible refine ⟨z.cW.lay _ _,?_⟩);(intro _ h' zz x _);(simp only [cq,List.append_nil] at x);(replace q4:=q4.over x);(replace z:=zz);(clear zz);rw [ao h']))
   rw [mK]
   replace q4:Holds _ A (.row (aG (jM l1 k (k+1))) 42 false):=q4
   (rw [eM];with_reducible refine cz (m:=_) ?_ ⟨k+1,jM l1 k (k+1),_,rfl,z,⟨rfl,by omega,by omega,f3.trans (Mv.swap (by omega) (by omega) (by omega) (zC6 (by omega) (zv0 h2 g3 FF f1 (by omega) f4))),zvZ f4 f1 (by omega),q4⟩,aB (by kernel_rfl)⟩;omega)
  obtain ⟨e1,e2,e3,e4⟩:=Mk i j (by omega)
  repeat' (simp -implicitDefEqProofs only [syms,aa,seval,bJ,e1])
  rw [wm rfl rfl rfl (Mx _) rfl,e2]
  simp -implicitDefEqProofs only [syms,aa,seval,bJ,e1]
  rw [MD (by decide),e4]
  simp -implicitDefEqProofs only [syms,aa,seval,bJ,e1]
  rw [wm rfl rfl rfl (MI _) rfl,e3]
  repeat' (simp -implicitDefEqProofs only [syms,aa,seval,bJ,e1])
  have rK:i≤(i+j) / 2∧(i+j) / 2 < j:=by omega
  have uO:IntKind.i64.wrap ((((i+j) / 2:Nat):Int)+1)=(((i+j) / 2+1:Nat):Int):=by rw [wrap_i64 (by omega) (by omega)];omega
  generalize (i+j) / 2=y at rK uO ⊢
  have aH:(0:Int)≤(y:Int)∧(y:Int) < (l.length:Int):=by omega
  have fE:(0:Int)≤(a:Int)∧(a:Int) < (l.length:Int):=by omega
  have jl:=fun (bs:List bh) (w:Nat)=>mq (bs:=bs) (w:=w) q (iP (l:=l) (i:=y) (by omega))
  have eV:=fun (bs:List bh) (w:Nat)=>mq (bs:=bs) (w:=w) q (iP (l:=l) (i:=a) (by omega))
  refine (eu (by simp only [bJ])) (z.aw _ _ (by omega)) ?_
  repeat' (simp -implicitDefEqProofs only [syms,aa,seval,bJ,aH,fE,and_self,if_true,↓jl,↓eV,dQ])
  refine BE _ _ (n5 aS (by omega)) (n5 aS (by omega)) _ _ (fun h' x=>?_)
  (((with_reducible refine dK ?_ ?_ ?_);(· exact (by (simp only [dM]);have:=z.size;omega));(· exact x));replace z:=z.an x (by omega);(replace q:=q.over x);rw [ao h'])
  simp -implicitDefEqProofs only [syms,aa,seval,bJ]
  refine bp (fun hc=>?_) (fun hc=>?_)
  ·repeat' (first|simp -implicitDefEqProofs only [syms,aa,seval,bJ]|((with_reducible refine ⟨z.cW.lay _ _,?_⟩);(intro _ h' zz x _);( simp only [cq,List.append_nil] at x );( replace q:=q.over x );(replace z:=zz);(clear zz);rw [ao h']))
   rw [uO]
   (rw [aR];with_reducible refine cz (m:=_) ?_ ⟨y+1,j,_,rfl,z,⟨rfl,by omega,by omega,by omega,.inr (by rw [Nat.add_sub_cancel];exact hc),g5,q⟩,aB (by kernel_rfl)⟩;omega)
  ·repeat' (first|simp -implicitDefEqProofs only [syms,aa,seval,bJ]|((with_reducible refine ⟨z.cW.lay _ _,?_⟩);(intro _ h' zz x _);( simp only [cq,List.append_nil] at x );( replace q:=q.over x );(replace z:=zz);(clear zz);rw [ao h']))
   (rw [aR];with_reducible refine cz (m:=_) ?_ ⟨i,y,_,rfl,z,⟨rfl,by omega,by omega,by omega,g4,.inr hc,q⟩,aB (by kernel_rfl)⟩;omega)
 simp -implicitDefEqProofs only [syms,aa,seval,bJ,sM]
 refine pK (fun AO=>?_) (fun AO=>?_)
 ·-- Am.one element behind
  simp -implicitDefEqProofs only [syms,aa,seval,bJ]
  obtain ⟨I3,j0⟩:∃ I:Nat→Env→Heap→Prop,I=(fun n e h'=>∃ (i j:Nat) (h1:Heap),h'=h1.lay [] h1.low∧Ext h h1∧(n=j - i∧a≤i∧i≤j∧j≤m∧(i=a∨¬ aM (l.getD m ah) (l.getD (i - 1) ah) < 0)∧(j=m∨aM (l.getD m ah) (l.getD j ah) < 0)∧Holds h1 A (.row (aG l) 42 false))∧∃ J:Nat→Value,e=(.slice (some ⟨A,0,none⟩) l.length c::.int .i64 a::.int .i64 m::.int .i64 b::.func (.func 95) ⟨[]⟩ ⟨[]⟩::jr J 5 9 (.int .i64 i::.int .i64 j::jr J 16 204 ([])))):=⟨_,rfl⟩
  refine dg I3 _ (by rw [j0];exact ⟨a,m,_,rfl,z,⟨rfl,by omega,by omega,by omega,.inl rfl,.inl rfl,q⟩,aB (by kernel_rfl)⟩) ?_
  intro n e h' aH
  rw [j0] at aH
  obtain ⟨i,j,bE,rfl,z,hinv,J,rfl⟩:=aH
  clear q
  obtain ⟨rfl,g1,g2,g3,g4,g5,q⟩:=hinv
  simp -implicitDefEqProofs only [syms,aa,seval,bJ]
  refine bp (fun dh=>?_) (fun dh=>?_)
  rotate_left
  ·have Da:i=j:=by omega
   subst Da
   have FF:=g4
   have sJ:=g5
   have VC:b=m+1:=by omega
   subst VC
   simp -implicitDefEqProofs only [syms,aa,seval,bJ]
   obtain ⟨I4,CI⟩:∃ I:Nat→Env→Heap→Prop,I=(fun n e h'=>∃ (k:Nat) (l1:List ab) (h1:Heap),h'=h1.lay [] h1.low∧Ext h h1∧(n=k - i∧i≤k∧k≤m∧Mv l l1 a (m+1)∧MK l l1 m k∧Holds h1 A (.row (aG l1) 42 false))∧∃ J:Nat→Value,e=(.slice (some ⟨A,0,none⟩) l.length c::jr J 1 13 (.int .i64 i::jr J 15 2 (.int .i64 k::jr J 18 202 ([]))))):=⟨_,rfl⟩
   refine dg I4 _ (by rw [CI];exact ⟨m,l,_,rfl,z,⟨rfl,by omega,by omega,Mv.refl l a _,zmy l m,q⟩,aB (by kernel_rfl)⟩) ?_
   intro n e h' aH
   rw [CI] at aH
   obtain ⟨k,l1,vJ,rfl,z,hinv,J,rfl⟩:=aH
   clear q
   obtain ⟨rfl,f1,f2,f3,f4,q⟩:=hinv
   have eN:=f3.perm.length_eq
   simp -implicitDefEqProofs only [syms,aa,seval,bJ]
   refine bp (fun qh=>?_) (fun qh=>?_)
   rotate_left
   ·have Dc:k=i:=by omega
    subst Dc
    repeat' (simp -implicitDefEqProofs only [syms,aa,seval,bJ])
    exact hk _ _ (z.aw _ _ (by omega)) (q.on _ _) f3 (zwG h1 (by omega) (by omega) FF sJ f4)
   have mK:IntKind.i64.wrap ((k:Int) - 1)=((k - 1:Nat):Int):=by rw [wrap_i64 (by omega) (by omega)];omega
   have aH:(0:Int)≤(k:Int)∧(k:Int) < (l.length:Int):=by omega
   have fE:(0:Int)≤((k - 1:Nat):Int)∧((k - 1:Nat):Int) < (l.length:Int):=by omega
   have jl:=fun (bs:List bh) (w:Nat)=>mq (bs:=bs) (w:=w) q (iP (l:=l1) (i:=k) (by omega))
   have eV:=fun (bs:List bh) (w:Nat)=>mq (bs:=bs) (w:=w) q (iP (l:=l1) (i:=k - 1) (by omega))
   simp -implicitDefEqProofs only [syms,aa,seval,bJ]
   refine (eu (by simp only [bJ])) (z.aw _ _ (by omega)) ?_
   repeat' (simp -implicitDefEqProofs only [syms,aa,seval,bJ,mK,aH,fE,and_self,if_true,↓jl,↓eV,dQ])
   have hz:=z.size
   refine zJ q bS (by omega) (fun h3 q3 c3=>?_)
   refine nM (A:=A) (by kernel_rfl) (by rw [bB];omega) (by omega) (by simpa only [cq,bB,List.append_nil,List.length_cons,List.length_nil,Nat.add_zero] using c3) ?_
   replace z:=(z.aw [] (vJ.size+0) (by omega)).step c3 hA
   rw [ao h3]
   clear q jl eV
   repeat' (simp -implicitDefEqProofs only [syms,aa,seval,bJ,mK,aH,fE,and_self,if_true])
   refine zJ q3 bS (by rw [List.length_set];omega) (fun h4 q4 c4=>?_)
   have hz:=z.size
   refine nM (A:=A) (by kernel_rfl) (by rw [bB];omega) (by omega) (by simpa only [cq,bB,List.append_nil,List.length_cons,List.length_nil,Nat.add_zero] using c4) ?_
   replace z:=(z.aw [] (h3.size+0) (by omega)).step c4 hA
   rw [ao h4]
   clear q3
   repeat' (first|simp -implicitDefEqProofs only [syms,aa,seval,bJ]|((with_reducible refine ⟨z.cW.lay _ _,?_⟩);(intro _ h' zz x _);(simp only [cq,List.append_nil] at x);(replace q4:=q4.over x);(replace z:=zz);(clear zz);rw [ao h']))
   rw [mK]
   replace q4:Holds _ A (.row (aG (jM l1 k (k - 1))) 42 false):=q4
   (rw [CI];with_reducible refine cz (m:=_) ?_ ⟨k - 1,jM l1 k (k - 1),_,rfl,z,⟨rfl,by omega,by omega,f3.trans (Mv.swap (by omega) (by omega) (by omega) (znS (by omega) (by omega) (zoB h1 g1 sJ (by omega) f2 f4))),zoA f4 (by omega) f2 (by omega),q4⟩,aB (by kernel_rfl)⟩;omega)
  obtain ⟨e1,e2,e3,e4⟩:=Mk i j (by omega)
  repeat' (simp -implicitDefEqProofs only [syms,aa,seval,bJ,e1])
  rw [wm rfl rfl rfl (Mx _) rfl,e2]
  simp -implicitDefEqProofs only [syms,aa,seval,bJ,e1]
  rw [MD (by decide),e4]
  simp -implicitDefEqProofs only [syms,aa,seval,bJ,e1]
  rw [wm rfl rfl rfl (MI _) rfl,e3]
  repeat' (simp -implicitDefEqProofs only [syms,aa,seval,bJ,e1])
  have rK:i≤(i+j) / 2∧(i+j) / 2 < j:=by omega
  have uO:IntKind.i64.wrap ((((i+j) / 2:Nat):Int)+1)=(((i+j) / 2+1:Nat):Int):=by rw [wrap_i64 (by omega) (by omega)];omega
  generalize (i+j) / 2=y at rK uO ⊢
  have aH:(0:Int)≤(y:Int)∧(y:Int) < (l.length:Int):=by omega
  have fE:(0:Int)≤(m:Int)∧(m:Int) < (l.length:Int):=by omega
  have jl:=fun (bs:List bh) (w:Nat)=>mq (bs:=bs) (w:=w) q (iP (l:=l) (i:=y) (by omega))
  have eV:=fun (bs:List bh) (w:Nat)=>mq (bs:=bs) (w:=w) q (iP (l:=l) (i:=m) (by omega))
  refine (eu (by simp only [bJ])) (z.aw _ _ (by omega)) ?_
  repeat' (simp -implicitDefEqProofs only [syms,aa,seval,bJ,aH,fE,and_self,if_true,↓jl,↓eV,dQ])
  refine BE _ _ (n5 aS (by omega)) (n5 aS (by omega)) _ _ (fun h' x=>?_)
  (((with_reducible refine dK ?_ ?_ ?_);(· exact (by (simp only [dM]);have:=z.size;omega));(· exact x));replace z:=z.an x (by omega);(replace q:=q.over x);rw [ao h'])
  simp -implicitDefEqProofs only [syms,aa,seval,bJ]
  refine bp (fun hc=>?_) (fun hc=>?_)
  ·repeat' (first|simp -implicitDefEqProofs only [syms,aa,seval,bJ]|((with_reducible_and_instances apply cm);(· rfl))|((with_reducible refine ⟨z.cW.lay _ _,?_⟩);(intro _ h' zz x _);( simp only [cq,List.append_nil] at x );( replace q:=q.over x );(replace z:=zz);(clear zz);rw [ao h']))
   (rw [j0];with_reducible refine cz (m:=_) ?_ ⟨i,y,_,rfl,z,⟨rfl,by omega,by omega,by omega,g4,.inr hc,q⟩,aB (by kernel_rfl)⟩;omega)
  ·repeat' (first|simp -implicitDefEqProofs only [syms,aa,seval,bJ]|((with_reducible_and_instances apply cm);(· rfl))|((with_reducible refine ⟨z.cW.lay _ _,?_⟩);(intro _ h' zz x _);( simp only [cq,List.append_nil] at x );( replace q:=q.over x );(replace z:=zz);(clear zz);rw [ao h']))
   rw [uO]
   (rw [j0];with_reducible refine cz (m:=_) ?_ ⟨y+1,j,_,rfl,z,⟨rfl,by omega,by omega,by omega,.inr (by rw [Nat.add_sub_cancel];exact hc),g5,q⟩,aB (by kernel_rfl)⟩;omega)
 -- both parts longer
 obtain ⟨e1,e2,e3,e4⟩:=Mk a b (by omega)
 repeat' (simp -implicitDefEqProofs only [syms,aa,seval,bJ,e1])
 rw [wm rfl rfl rfl (Mx _) rfl,e2]
 simp -implicitDefEqProofs only [syms,aa,seval,bJ,e1]
 rw [MD (by decide),e4]
 simp -implicitDefEqProofs only [syms,aa,seval,bJ,e1]
 rw [wm rfl rfl rfl (MI _) rfl,e3]
 have gH:2*((a+b) / 2)≤a+b:=by omega
 have jc:a+b≤2*((a+b) / 2)+1:=by omega
 generalize (a+b) / 2=mid at gH jc ⊢
 have FU:IntKind.i64.wrap ((mid:Int)+(m:Int))=((mid+m:Nat):Int):=by rw [wrap_i64 (by omega) (by omega)];omega
 have NQ:IntKind.i64.wrap (((mid+m:Nat):Int) - 1)=((mid+m - 1:Nat):Int):=by rw [wrap_i64 (by omega) (by omega)];omega
 have xD:mid < m→IntKind.i64.wrap (((mid+m:Nat):Int) - (b:Int))=((mid+m - b:Nat):Int):=fun _=>by rw [wrap_i64 (by omega) (by omega)];omega
 simp -implicitDefEqProofs only [syms,aa,seval,bJ,FU]
 refine bp (fun hgm=>?_) (fun hgm=>?_)
 focus
  have xD:=xD (by omega)
  simp -implicitDefEqProofs only [syms,aa,seval,bJ,FU,xD,NQ]
  have oM:=zzt (l:=l) (a:=a) xo (show mid < m by omega)
 rotate_left
 focus
  simp -implicitDefEqProofs only [syms,aa,seval,bJ,FU,NQ]
  have oM:=zzs (l:=l) (b:=b) sD (show m≤mid by omega)
 all_goals
  obtain ⟨I5,Nx⟩:∃ I:Nat→Env→Heap→Prop,I=(fun n e h'=>∃ (s r:Nat) (h1:Heap),h'=h1.lay [] h1.low∧Ext h h1∧(n=r - s∧gp l a m b mid s r∧Holds h1 A (.row (aG l) 42 false))∧∃ J:Nat→Value,e=(.slice (some ⟨A,0,none⟩) l.length c::.int .i64 a::.int .i64 m::.int .i64 b::.func (.func 95) ⟨[]⟩ ⟨[]⟩::jr J 5 13 (.int .i64 mid::.int .i64 ((mid+m:Nat):Int)::.int .i64 s::.int .i64 r::.int .i64 ((mid+m - 1:Nat):Int)::jr J 23 197 ([])))):=⟨_,rfl⟩
  refine dg I5 _ (by rw [Nx];exact ⟨_,_,_,rfl,z,⟨rfl,oM,q⟩,aB (by kernel_rfl)⟩) ?_
  intro n e h' aH
  rw [Nx] at aH
  obtain ⟨s,r,bE,rfl,z,hinv,J,rfl⟩:=aH
  clear q oM
  obtain ⟨rfl,hinv,q⟩:=hinv
  simp -implicitDefEqProofs only [syms,aa,seval,bJ]
  refine bp (fun oP=>?_) (fun oP=>?_)
  rotate_left
  ·have WK:s=r:=by have:=hinv.sr;omega
   subst WK
   have sp:=zkM hinv sD xo gH jc
   obtain ⟨p1,p2,p3,p4,p5,_,_⟩:=sp
   have sp:=zkM hinv sD xo gH jc
   have NP:IntKind.i64.wrap (((mid+m:Nat):Int) - (s:Int))=((mid+m - s:Nat):Int):=by rw [wrap_i64 (by omega) (by omega)];omega
   simp -implicitDefEqProofs only [syms,aa,seval,Kr (o8 (iD 107)) 3 rfl,zDN (iD 108) (iD 109) (iD 110) rfl,zDS (iD 110) rfl]
   rw [zE (iD 119) (iD 120) (iD 121) rfl]
   obtain ⟨R6,hR6⟩:∃ R:Env→Heap→Prop,R=(fun e h'=>∃ (h1:Heap),h'=h1.lay [] h1.low∧Ext h h1∧(Holds h1 A (.row (aG l) 42 false))∧∃ J:Nat→Value,e=(.slice (some ⟨A,0,none⟩) l.length c::.int .i64 a::.int .i64 m::.int .i64 b::.func (.func 95) ⟨[]⟩ ⟨[]⟩::jr J 5 13 (.int .i64 mid::J 19::.int .i64 s::jr J 21 3 (.int .i64 ((mid+m - s:Nat):Int)::jr J 25 195 ([]))))∧True):=⟨_,rfl⟩
   refine X9 R6 ?cut ?rest
   case' rest =>
    intro e h' aH
    rw [hR6] at aH
    obtain ⟨vJ,rfl,z,hinv,J,rfl,_⟩:=aH
   case cut =>
    simp -implicitDefEqProofs only [syms,aa,seval,bJ,NP]
    (rw [hR6];exact ⟨_,rfl,z,q,M6 (by kernel_rfl) (trivial)⟩)
   case rest =>
   have q:=hinv
   simp -implicitDefEqProofs only [syms,aa,seval]
   rw [zE (iD 121) (iD 122) (iD 127) rfl]
   obtain ⟨R7,Vp⟩:∃ R:Env→Heap→Prop,R=(fun e h'=>∃ (l1:List ab) (h1:Heap),h'=h1.lay [] h1.low∧Ext h h1∧(Mv l l1 s (mid+m - s)∧BL l l1 s m (mid+m - s)∧Holds h1 A (.row (aG l1) 42 false))∧∃ J:Nat→Value,e=(.slice (some ⟨A,0,none⟩) l.length c::.int .i64 a::.int .i64 m::.int .i64 b::.func (.func 95) ⟨[]⟩ ⟨[]⟩::jr J 5 13 (.int .i64 mid::J 19::.int .i64 s::jr J 21 3 (.int .i64 ((mid+m - s:Nat):Int)::jr J 25 195 ([]))))∧True):=⟨_,rfl⟩
   refine X9 R7 ?cut ?rest
   case' rest =>
    intro e h' aH
    rw [Vp] at aH
    obtain ⟨l1,vK,rfl,z,hinv,J,rfl,_⟩:=aH
   case cut =>
    repeat' (first|simp -implicitDefEqProofs only [syms,aa,seval,bJ]|((with_reducible apply bp) <;> intro _))
    all_goals first
     |(rw [Vp];exact ⟨l,_,rfl,z,⟨Mv.refl _ _ _,zAU (by omega) (by omega) (by omega),q⟩,M6 (by kernel_rfl) (trivial)⟩)
     |(refine zue l A c s m (mid+m - s) _ h _ (z.aw _ _ (by omega)) hA (q.on _ _) (by omega) (by omega) (by omega) hn _ (fun h' x q1 AP=>?_)
       replace z:=x
       rw [ao h']
       simp -implicitDefEqProofs only [syms,aa,seval,bJ]
       (rw [Vp];exact ⟨wC l s m (mid+m - s),_,rfl,z,⟨zAT (fun k=>O3 (by omega) k) (by omega) (by omega) AP (zsh h1 h2 sp (fun k=>O3 (by omega) k) (by omega) AP.length_eq),fun k=>O3 (by omega) k,q1⟩,M6 (by kernel_rfl) (trivial)⟩))
   case rest =>
   obtain ⟨NU,t1,q⟩:=hinv
   obtain ⟨so1,so2,so3,so4⟩:=zpv h1 h2 sp t1
   have hcr:=fun (i j:Nat) (g1:a≤i) (g2:i < mid) (g3:mid≤j) (g4:j < b)=>zpu h1 h2 sp t1 g1 g2 g3 g4
   have eN:=NU.perm.length_eq
   simp -implicitDefEqProofs only [syms,aa,seval]
   rw [zE (iD 127) (iD 128) (iD 133) rfl]
   obtain ⟨R8,Vq⟩:∃ R:Env→Heap→Prop,R=(fun e h'=>∃ (l2:List ab) (h1:Heap),h'=h1.lay [] h1.low∧Ext h h1∧(Mv l1 l2 a mid∧gj l2 a mid∧Holds h1 A (.row (aG l2) 42 false))∧∃ J:Nat→Value,e=(.slice (some ⟨A,0,none⟩) l.length c::.int .i64 a::.int .i64 m::.int .i64 b::.func (.func 95) ⟨[]⟩ ⟨[]⟩::jr J 5 13 (.int .i64 mid::J 19::.int .i64 s::jr J 21 3 (.int .i64 ((mid+m - s:Nat):Int)::jr J 25 195 ([]))))∧True):=⟨_,rfl⟩
   refine X9 R8 ?cut ?rest
   case' rest =>
    intro e h' aH
    rw [Vq] at aH
    obtain ⟨l2,Nv,rfl,z,hinv,J,rfl,_⟩:=aH
   case cut =>
    repeat' (first|simp -implicitDefEqProofs only [syms,aa,seval,bJ]|((with_reducible apply bp) <;> intro _))
    all_goals first
     |(rw [Vq];exact ⟨l1,_,rfl,z,⟨Mv.refl _ _ _,(by first|(have e:s=mid:=by omega);rw [← e];exact so1|(have e:a=s:=by omega);rw [e];exact so2),q⟩,M6 (by kernel_rfl) (trivial)⟩)
     |(have key:=ih l1 A c a s mid h (vK.lay [] vK.low) (z.aw _ _ (by omega)) hA (q.on _ _) (by omega) (by omega) (by omega) (by omega) (by omega) (Bm aS NU.perm) so1 so2
       simp only [eN] at key
       refine key _ (fun h' l2 x q1 xS Oe=>?_)
       replace z:=x
       rw [ao h']
       simp -implicitDefEqProofs only [syms,aa,seval,bJ]
       (rw [Vq];exact ⟨l2,_,rfl,z,⟨xS,Oe,q1⟩,M6 (by kernel_rfl) (trivial)⟩))
   case rest =>
   obtain ⟨xS,Oe,q⟩:=hinv
   have fT:=xS.perm.length_eq
   have so6:=Oo so3 (fun k g1 g2=>xS.out k (.inr g1))
   have so7:=Oo so4 (fun k g1 g2=>xS.out k (.inr (by omega)))
   have mvT:=(NU.vd p1 p5).trans (xS.vd (Nat.le_refl _) (show mid≤b by omega))
   repeat' (first|simp -implicitDefEqProofs only [syms,aa,seval,bJ]|((with_reducible apply bp) <;> intro _))
   all_goals first
    |exact hk _ l2 (z.aw _ _ (by omega)) (q.on _ _) mvT (znb hcr xS (Mv.refl l2 mid b) Oe (by first|(have e:mid=mid+m - s:=by omega);rw [e];exact so7|(have e:mid+m - s=b:=by omega);rw [← e];exact so6))
    |(have key:=ih l2 A c mid (mid+m - s) b h (Nv.lay [] Nv.low) (z.aw _ _ (by omega)) hA (q.on _ _) (by omega) (by omega) (by omega) (by omega) (by omega) (Bm (Bm aS NU.perm) xS.perm) so6 so7
      simp only [fT,eN] at key
      refine key _ (fun h' l3 x q1 mv3 so8=>?_)
      rw [ao h']
      repeat' (simp -implicitDefEqProofs only [syms,aa,seval,bJ])
      exact hk _ l3 (x.aw _ _ (by omega)) (q1.on _ _) (mvT.trans (mv3.vd (show a≤mid by omega) (Nat.le_refl _))) (znb hcr xS mv3 Oe so8))
  have NK:r≤l.length:=by
   rcases Nat.lt_or_ge mid m with g|g
   ·have:=hinv.FY g;omega
   ·have:=hinv.FX g;omega
  obtain ⟨e1,e2,e3,e4⟩:=Mk s r (by omega)
  repeat' (simp -implicitDefEqProofs only [syms,aa,seval,bJ,e1])
  rw [wm rfl rfl rfl (Mx _) rfl,e2]
  simp -implicitDefEqProofs only [syms,aa,seval,bJ,e1]
  rw [MD (by decide),e4]
  simp -implicitDefEqProofs only [syms,aa,seval,bJ,e1]
  rw [wm rfl rfl rfl (MI _) rfl,e3]
  repeat' (simp -implicitDefEqProofs only [syms,aa,seval,bJ,e1])
  have rK:s≤(s+r) / 2∧(s+r) / 2 < r:=by omega
  have uO:IntKind.i64.wrap ((((s+r) / 2:Nat):Int)+1)=(((s+r) / 2+1:Nat):Int):=by rw [wrap_i64 (by omega) (by omega)];omega
  generalize (s+r) / 2=y at rK uO ⊢
  have NF:=zuP hinv rK.1 rK.2 sD xo gH jc
  have W7:IntKind.i64.wrap (((mid+m - 1:Nat):Int) - (y:Int))=((mid+m - 1 - y:Nat):Int):=by rw [wrap_i64 (by omega) (by omega)];omega
  have aH:(0:Int)≤(y:Int)∧(y:Int) < (l.length:Int):=by omega
  have fE:(0:Int)≤((mid+m - 1 - y:Nat):Int)∧((mid+m - 1 - y:Nat):Int) < (l.length:Int):=by omega
  have jl:=fun (bs:List bh) (w:Nat)=>mq (bs:=bs) (w:=w) q (iP (l:=l) (i:=y) (by omega))
  have eV:=fun (bs:List bh) (w:Nat)=>mq (bs:=bs) (w:=w) q (iP (l:=l) (i:=mid+m - 1 - y) (by omega))
  refine (eu (by simp only [bJ])) (z.aw _ _ (by omega)) ?_
  repeat' (simp -implicitDefEqProofs only [syms,aa,seval,bJ,W7,aH,fE,and_self,if_true,↓jl,↓eV,dQ])
  refine BE _ _ (n5 aS (by omega)) (n5 aS (by omega)) _ _ (fun h' x=>?_)
  (((with_reducible refine dK ?_ ?_ ?_);(· exact (by (simp only [dM]);have:=z.size;omega));(· exact x));replace z:=z.an x (by omega);(replace q:=q.over x);rw [ao h'])
  simp -implicitDefEqProofs only [syms,aa,seval,bJ]
  refine bp (fun hc=>?_) (fun hc=>?_)
  ·repeat' (first|simp -implicitDefEqProofs only [syms,aa,seval,bJ]|((with_reducible_and_instances apply cm);(· rfl))|((with_reducible refine ⟨z.cW.lay _ _,?_⟩);(intro _ h' zz x _);( simp only [cq,List.append_nil] at x );( replace q:=q.over x );(replace z:=zz);(clear zz);rw [ao h']))
   (rw [Nx];with_reducible refine cz (m:=_) ?_ ⟨s,y,_,rfl,z,⟨rfl,zpD hinv rK.1 rK.2 hc,q⟩,aB (by kernel_rfl)⟩;omega)
  ·repeat' (first|simp -implicitDefEqProofs only [syms,aa,seval,bJ]|((with_reducible_and_instances apply cm);(· rfl))|((with_reducible refine ⟨z.cW.lay _ _,?_⟩);(intro _ h' zz x _);( simp only [cq,List.append_nil] at x );( replace q:=q.over x );(replace z:=zz);(clear zz);rw [ao h']))
   rw [uO]
   (rw [Nx];with_reducible refine cz (m:=_) ?_ ⟨y+1,r,_,rfl,z,⟨rfl,zuQ hinv rK.1 rK.2 hc,q⟩,aB (by kernel_rfl)⟩;omega)
theorem Yr:∀ sz,X8 sz
 |0=>by intro l A c a m b h hs z hA q h1 h2 h3;omega
 |sz+1=>zrX sz (Yr sz)
theorem zul (l:List ab) (A c:Nat) (h hs:Heap) (z:Ext h hs) (hA:h.size≤A) (q:Holds hs A (.row (aG l) 42 false)) (hn:l.length≤100000) (aS:∀ x∈l,x.ba=true) (K:Value→Heap→Prop)
 (hk:∀ h' l',Ext h h'→Holds h' A (.row (aG l') 42 false)→l'.Perm l→eE l l'→gj l' 0 l.length→K undef h'):Ok Tryz.prog ae ov 142 [.slice (some ⟨A,0,none⟩) l.length c,.int .i64 l.length,.func (.func 95) ⟨[]⟩ ⟨[]⟩] hs K:=by
 rw [ao hs]
 refine Ok.aD rfl zn0 (br BX) rfl (m:=60) rfl ?_
 simp -implicitDefEqProofs only [syms,aa,seval,fx]
 obtain ⟨I1,aR⟩:∃ I:Nat→Env→Heap→Prop,I=(fun n e h'=>∃ (a:Nat) (l1:List ab) (h1:Heap),h'=h1.lay [] h1.low∧Ext h h1∧(n=l.length - a∧a % 20=0∧a≤l.length∧l1.Perm l∧eE l l1∧Bl l1 20 l.length a∧Holds h1 A (.row (aG l1) 42 false))∧∃ J:Nat→Value,e=(.slice (some ⟨A,0,none⟩) l.length c::.int .i64 l.length::.func (.func 95) ⟨[]⟩ ⟨[]⟩::jr J 3 3 (.int .i64 20::.int .i64 a::.int .i64 (a+20:Nat)::jr J 9 54 ([])))):=⟨_,rfl⟩
 refine dg I1 _ (by rw [aR];exact ⟨0,l,_,rfl,z,⟨rfl,by omega,by omega,List.Perm.refl _,eE.refl _,fun k _ hk=>absurd hk (by omega),q⟩,aB (by kernel_rfl)⟩) ?_
 intro n e h' aH
 rw [aR] at aH
 obtain ⟨a,l1,bE,rfl,z,hinv,J,rfl⟩:=aH
 clear q
 obtain ⟨rfl,I8,han,hp,eb,sE,q⟩:=hinv
 have eN:=hp.length_eq
 have j3:=Bm aS hp
 simp -implicitDefEqProofs only [syms,aa,seval,fx]
 refine bp (fun hle=>?_) (fun hle=>?_)
 ·have uN:IntKind.i64.wrap (((a+20:Nat):Int)+20)=((a+20+20:Nat):Int):=by rw [wrap_i64 (by omega) (by omega)];omega
  repeat' (simp -implicitDefEqProofs only [syms,aa,seval,fx])
  have key:=fun K hk=>zhI l1 A c a (a+20) h (bE.lay [] bE.low) (z.aw _ _ (by omega)) hA (q.on _ _) (by omega) (by omega) (by omega) j3 K hk
  simp only [eN] at key
  refine key _ (fun h' l' x q' lx rU j6 FN=>?_)
  replace z:=x
  rw [ao h']
  repeat' (simp -implicitDefEqProofs only [syms,aa,seval,fx,uN])
  (rw [aR];with_reducible refine cz (m:=_) ?_ ⟨a+20,l',_,rfl,z,⟨rfl,by omega,by omega,lx.trans hp,eb.trans rU,Z9 sE I8 (by rw [show min (a+20) l.length=a+20 by omega];exact j6) (by rw [show min (a+20) l.length=a+20 by omega];exact FN) _ (by omega),q'⟩,aB (by kernel_rfl)⟩;omega)
 repeat' (simp -implicitDefEqProofs only [syms,aa,seval,fx])
 have key:=fun K hk=>zhI l1 A c a l.length h (bE.lay [] bE.low) (z.aw _ _ (by omega)) hA (q.on _ _) (by omega) (by omega) (by omega) j3 K hk
 simp only [eN] at key
 refine key _ (fun h' l' x q' lx rU j6 FN=>?_)
 replace z:=x
 replace hp:=lx.trans hp
 replace eb:=eb.trans rU
 replace sE:Bl l' 20 l.length l.length:=Z9 sE I8 (by rw [show min (a+20) l.length=l.length by omega];exact j6) (by rw [show min (a+20) l.length=l.length by omega];exact FN) _ (by omega)
 clear key j6 FN lx rU eN j3 q
 rw [ao h']
 repeat' (simp -implicitDefEqProofs only [syms,aa,seval,fx])
 obtain ⟨I2,eM⟩:∃ I:Nat→Env→Heap→Prop,I=(fun n e h'=>∃ (w:Nat) (l1:List ab) (h1:Heap),h'=h1.lay [] h1.low∧Ext h h1∧(n=l.length - w∧20≤w∧w≤200000∧l1.Perm l∧eE l l1∧Bl l1 w l.length l.length∧Holds h1 A (.row (aG l1) 42 false))∧∃ J:Nat→Value,e=(.slice (some ⟨A,0,none⟩) l.length c::.int .i64 l.length::.func (.func 95) ⟨[]⟩ ⟨[]⟩::jr J 3 3 (.int .i64 w::jr J 7 56 ([])))):=⟨_,rfl⟩
 refine dg I2 _ (by rw [eM];exact ⟨20,l',_,rfl,z,⟨rfl,by omega,by omega,hp,eb,sE,q'⟩,aB (by kernel_rfl)⟩) ?_
 intro n e h' aH
 rw [eM] at aH
 obtain ⟨w,l1,vJ,rfl,z,hinv,J,rfl⟩:=aH
 clear q' sE hp eb
 obtain ⟨rfl,alS,alT,hp,eb,sE,q⟩:=hinv
 simp -implicitDefEqProofs only [syms,aa,seval,fx]
 refine bp (fun jb=>?_) (fun jb=>?_)
 rotate_left
 ·repeat' ( simp -implicitDefEqProofs only [syms,aa,seval,fx])
  exact hk _ _ (z.aw _ _ (by omega)) (q.on _ _) hp eb (zDE sE (by omega))
 have jc:IntKind.i64.wrap ((2:Int)*(w:Int))=((2*w:Nat):Int):=by rw [wrap_i64 (by omega) (by omega)];omega
 repeat' (simp -implicitDefEqProofs only [syms,aa,seval,fx,jc,Ph])
 obtain ⟨I3,j0⟩:∃ I:Nat→Env→Heap→Prop,I=(fun n e h'=>∃ (a b:Nat) (l2:List ab) (h1:Heap),h'=h1.lay [] h1.low∧Ext h h1∧(n=l.length - a∧b=a+2*w∧a % (2*w)=0∧a≤l.length∧l2.Perm l∧eE l l2∧BR l2 w l.length a∧Holds h1 A (.row (aG l2) 42 false))∧∃ J:Nat→Value,e=(.slice (some ⟨A,0,none⟩) l.length c::.int .i64 l.length::.func (.func 95) ⟨[]⟩ ⟨[]⟩::jr J 3 3 (.int .i64 w::.int .i64 a::.int .i64 b::jr J 9 54 ([])))):=⟨_,rfl⟩
 refine dg I3 _ (by rw [j0];exact ⟨0,2*w,l1,_,rfl,z,⟨rfl,by omega,Nat.zero_mod _,by omega,hp,eb,zta sE,q⟩,aB (by kernel_rfl)⟩) ?_
 intro n e h' aH
 rw [j0] at aH
 obtain ⟨a,b,l2,vK,rfl,z,hinv,J,rfl⟩:=aH
 clear q sE hp eb
 obtain ⟨rfl,hb,mE,han,hp,eb,FA,q⟩:=hinv
 have fT:=hp.length_eq
 have Dh:=Bm aS hp
 have haw:IntKind.i64.wrap ((a:Int)+(w:Int))=((a+w:Nat):Int):=by rw [wrap_i64 (by omega) (by omega)];omega
 simp -implicitDefEqProofs only [syms,aa,seval,fx]
 refine bp (fun hle=>?_) (fun hle=>?_)
 ·have hbw:IntKind.i64.wrap ((b:Int)+((2*w:Nat):Int))=((b+2*w:Nat):Int):=by rw [wrap_i64 (by omega) (by omega)];omega
  have Dr:=zmu FA (by omega) mE (by omega)
  rw [show min (a+2*w) l.length=b by omega] at Dr
  repeat' (simp -implicitDefEqProofs only [syms,aa,seval,fx,haw])
  have key:=fun K hk=>Yr l.length l2 A c a (a+w) b h (vK.lay [] vK.low) (z.aw _ _ (by omega)) hA (q.on _ _) (by omega) (by omega) (by omega) (by omega) (by omega) Dh Dr.1 Dr.2 K hk
  simp only [fT] at key
  refine key _ (fun h' l' x q' uy j6=>?_)
  replace z:=x
  rw [ao h']
  repeat' (simp -implicitDefEqProofs only [syms,aa,seval,fx,jc,Ph,hbw])
  have oQ:=zp0 (l':=l') FA (by omega) mE (by rw [show min (a+2*w) l.length=b by omega];exact j6) (by rw [show min (a+2*w) l.length=b by omega];exact uy)
  rw [show min (a+2*w) l.length=b by omega] at oQ
  (rw [j0];with_reducible refine cz (m:=_) ?_ ⟨b,b+2*w,l',_,rfl,z,⟨rfl,by omega,by rw [hb,Nat.add_mod_right];exact mE,by omega,uy.perm.trans hp,eb.trans uy.u7,oQ,q'⟩,aB (by kernel_rfl)⟩;omega)
 have sM:IntKind.i64.wrap ((w:Int)*(2:Int))=((2*w:Nat):Int):=by rw [wrap_i64 (by omega) (by omega)];omega
 repeat' (first|simp -implicitDefEqProofs only [syms,aa,seval,fx,haw]|((with_reducible apply bp) <;> intro _))
 ·have Dr:=zmu FA (by omega) mE (by omega)
  rw [show min (a+2*w) l.length=l.length by omega] at Dr
  have key:=fun K hk=>Yr l.length l2 A c a (a+w) l.length h (vK.lay [] vK.low) (z.aw _ _ (by omega)) hA (q.on _ _) (by omega) (by omega) (by omega) (by omega) (by omega) Dh Dr.1 Dr.2 K hk
  simp only [fT] at key
  refine key _ (fun h' l' x q' uy j6=>?_)
  replace z:=x
  rw [ao h']
  repeat' (simp -implicitDefEqProofs only [syms,aa,seval,fx,sM,Ph])
  have oQ:=zp0 (l':=l') FA (by omega) mE (by rw [show min (a+2*w) l.length=l.length by omega];exact j6) (by rw [show min (a+2*w) l.length=l.length by omega];exact uy)
  rw [show min (a+2*w) l.length=l.length by omega] at oQ
  (rw [eM];with_reducible refine cz (m:=_) ?_ ⟨2*w,l',_,rfl,z,⟨rfl,by omega,by omega,uy.perm.trans hp,eb.trans uy.u7,zCb oQ (by omega),q'⟩,aB (by kernel_rfl)⟩;omega)
 ·repeat' ( simp -implicitDefEqProofs only [syms,aa,seval,fx,sM,Ph])
  (rw [eM];with_reducible refine cz (m:=_) ?_ ⟨2*w,l2,_,rfl,z,⟨rfl,by omega,by omega,hp,eb,zCc FA (by omega) mE (by omega),q⟩,aB (by kernel_rfl)⟩;omega)
theorem zlN (l:List ab) (A c:Nat) (h hs:Heap) (z:Ext h hs) (hA:h.size≤A) (q:Holds hs A (.row (aG l) 42 false)) (hn:l.length≤100000) (aS:∀ x∈l,x.ba=true) (K:Value→Heap→Prop)
 (hk:∀ h' l',Ext h h'→Holds h' A (.row (aG l') 42 false)→l'.Perm l→eE l l'→gj l' 0 l.length→K undef h'):Ok Tryz.prog ae ov 124 [.slice (some ⟨A,0,none⟩) l.length c,.func (.func 95) ⟨[]⟩ ⟨[]⟩] hs K:=by
 rw [ao hs]
 refine Ok.aD rfl znV (br BT) rfl (m:=7) rfl ?_
 repeat' (simp -implicitDefEqProofs only [syms,aa,seval,m9])
 refine zul l A c h (hs.lay [] hs.low) (z.aw _ _ (by omega)) hA (q.on _ _) hn aS _ (fun h' l' x q' lx rU j6=>?_)
 rw [ao h']
 repeat' (simp -implicitDefEqProofs only [syms,aa,seval,m9])
 exact hk _ _ (x.aw _ _ (by omega)) (q'.on _ _) lx rU j6
theorem zwT {h:Heap} {v:Value} {l:List ab} (f:Sl aK.atom h v l):∃ b:Bool,bU Tryz.prog ae .eql 52 v (.slice none 0 0)=some (.bool b)∧(b=true→l=[]):=by
 rcases f with ⟨rfl,rfl⟩|⟨A,o,c,row,u,ro,rfl,_⟩
 ·exact ⟨true,by kernel_rfl,fun _=>rfl⟩
 ·exact ⟨false,by kernel_rfl,nofun⟩
theorem znh (l:List ab) (v:Value) (h:Heap) (hl:Sl aK.atom h v l) (hs:l.length≤100000) (K:Value→Heap→Prop)
 (hk:∀ h' w,Ext h h'→wE h h' 42 w l→K w h'):Ok Tryz.prog ae ov 41 [v] h K:=by
 rw [ao h]
 obtain ⟨b,hb,qi⟩:=zwT hl
 refine Ok.aD rfl zqC (br RL) rfl (m:=7) rfl ?_
 simp -implicitDefEqProofs only [syms,aa,seval,Af,hb]
 cases b
 ·simp -implicitDefEqProofs only [syms,aa,seval,Af,sX,zEw]
  obtain ⟨news,hs,oP⟩:=MZ (A:=h.size+1) (r:=aK.atom) (by decide) (hl.lay [.row [] 42 false] h.low) (fun cs y hr=>hr)
  have f:Ow aK.atom h (h.lay [.row [] 42 false] h.low) 42 (h.size+1) (.slice (some ⟨h.size+0,0,none⟩) 0 0) [] :=
   .inl ⟨by omega,rfl,.inr ⟨h.size+0,0,rfl,by omega,by rw [bB];simp,[],42,false,by rw [kX];rfl⟩⟩
  obtain ⟨w,h',A',e1,e2,e3,e4,e5⟩:=ER (t:=52) cf Gd rfl (by decide) (by rw [bB];omega) f hs oP (by simp only [List.length_nil];omega) (by simp only [List.length_nil];omega)
  rw [e1]
  simp -implicitDefEqProofs only [syms,aa,seval,Af]
  exact hk _ _ ((Ext.refl h).dI e3 (by omega) (by omega)) (zuu (by simpa using e2))
 ·simp -implicitDefEqProofs only [syms,aa,seval,Af]
  rw [qi rfl] at hk
  exact hk _ _ ((Ext.refl h).aw _ _ (by omega)) (.inl ⟨rfl,qA.nil⟩)
theorem zuj (a b:ab) (ha:a.ba=true) (hb:b.ba=true) (h:Heap) (K:Value→Heap→Prop) (hk:∀ h',Ext h h'→K (.bool (aM a b == 0)) h'):Ok Tryz.prog ae ov 126 [a.val,b.val] h K:=by
 rw [ao h]
 have z:=Ext.refl h
 refine Ok.aD rfl zvf (br Hp) rfl (m:=7) rfl ?_
 repeat' (simp -implicitDefEqProofs only [syms,aa,seval,wM,eW,↓ff,eR,dQ])
 refine BE a b ha hb _ _ (fun h' x=>?_)
 (replace z:=z.an x (by omega);rw [ao h'])
 simp -implicitDefEqProofs only [syms,aa,seval,wM]
 refine pK (fun hc=>?_) (fun hc=>?_)
 ·repeat' ( simp -implicitDefEqProofs only [syms,aa,seval,wM])
  rw [show (aM a b == 0)=true by rw [hc];rfl] at hk
  exact hk _ (z.aw _ _ (by omega))
 ·repeat' ( simp -implicitDefEqProofs only [syms,aa,seval,wM])
  rw [show (aM a b == 0)=false by simpa using hc] at hk
  exact hk _ (z.aw _ _ (by omega))
theorem zrJ (l:List ab) (A:Nat) (h hs:Heap) (z:Ext h hs) (hA:h.size≤A) (q:Holds hs A (.row (aG l) 42 false)) (hn:l.length≤100000) (aS:∀ x∈l,x.ba=true) (K:Value→Heap→Prop)
 (hk:∀ h' v,Ext h h'→eh h h' 42 v (mU l l.length)→K v h'):Ok Tryz.prog ae ov 125 [.slice (some ⟨A,0,none⟩) l.length (G*11+l.length),.func (.func 126) ⟨[]⟩ ⟨[]⟩] hs K:=by
 rw [ao hs]
 have akv:∀ (x:Value) (hh:Heap) (K2:Value→Heap→Prop),aU (some (.slice (some ⟨A,0,none⟩) l.length (G*11+l.length))) hh K2=K2 (.slice (some ⟨A,0,none⟩) l.length (G*11+l.length)) hh:=fun _ _ _=>rfl
 obtain ⟨C,hC⟩:∃ C,C=G*11+l.length:=⟨_,rfl⟩
 rw [← hC]
 refine Ok.aD rfl znW (br BU) rfl (m:=64) rfl ?_
 repeat' (first|simp -implicitDefEqProofs only [syms,aa,seval,ei]|((with_reducible apply bp) <;> intro _))
 ·have e:=zpK (l:=l) (by omega)
  rw [e] at hk
  exact hk _ _ (z.aw _ _ (by omega)) (Mn (q.on _ _) hA (by omega) hC)
 have hu1:mU l 1=l.take 1:=by
  rw [Zm (m:=0) (by omega)]
  rfl
 obtain ⟨I1,aR⟩:∃ I:Nat→Env→Heap→Prop,I=(fun n e h'=>∃ (k:Nat) (h1:Heap),h'=h1.lay [] h1.low∧Ext h h1∧(n=l.length - k∧1≤k∧k≤l.length∧mU l k=l.take k∧Holds h1 A (.row (aG l) 42 false))∧∃ J:Nat→Value,e=(.slice (some ⟨A,0,none⟩) l.length C::.func (.func 126) ⟨[]⟩ ⟨[]⟩::jr J 2 3 (.int .i64 k::jr J 6 60 ([])))):=⟨_,rfl⟩
 refine dg I1 _ (by rw [aR];exact ⟨1,_,rfl,z,⟨rfl,by omega,by omega,hu1,q⟩,aB (by kernel_rfl)⟩) ?_
 intro n e h' aH
 rw [aR] at aH
 obtain ⟨k,bE,rfl,z,hinv,J,rfl⟩:=aH
 clear q
 obtain ⟨rfl,uk,AH,hu,q⟩:=hinv
 have mK:=eg k (by omega)
 have W5:IntKind.i64.wrap ((k:Int) - 1)=((k - 1:Nat):Int):=by rw [wrap_i64 (by omega) (by omega)];omega
 simp -implicitDefEqProofs only [syms,aa,seval,ei]
 refine bp (fun j3=>?_) (fun j3=>?_)
 rotate_left
 ·repeat' ( simp -implicitDefEqProofs only [syms,aa,seval,ei])
  have kU:k=l.length:=by omega
  subst kU
  rw [hu,List.take_length] at hk
  exact hk _ _ (z.aw _ _ (by omega)) (Mn (q.on _ _) hA (by omega) hC)
 have aH:(0:Int)≤(k:Int)∧(k:Int) < (l.length:Int):=by omega
 have fE:(0:Int)≤((k - 1:Nat):Int)∧((k - 1:Nat):Int) < (l.length:Int):=by omega
 have jl:=fun (bs:List bh) (w:Nat)=>mq (bs:=bs) (w:=w) q (iP (l:=l) (i:=k) (by omega))
 have eV:=fun (bs:List bh) (w:Nat)=>mq (bs:=bs) (w:=w) q (iP (l:=l) (i:=k - 1) (by omega))
 simp -implicitDefEqProofs only [syms,aa,seval,ei]
 refine (eu (by simp only [ei])) (z.aw _ _ (by omega)) ?_
 repeat' (simp -implicitDefEqProofs only [syms,aa,seval,ei,W5,aH,fE,and_self,if_true,↓jl,↓eV,dQ])
 refine zuj _ _ (n5 aS (by omega)) (n5 aS (by omega)) _ _ (fun h' x=>?_)
 (((with_reducible refine dK ?_ ?_ ?_);(· exact (by (simp only [dM]);have:=z.size;omega));(· exact x));replace z:=z.an x (by omega);(replace q:=q.over x);rw [ao h'])
 cases hc:(aM (l.getD k ah) (l.getD (k - 1) ah) == 0)
 ·repeat' (first|simp -implicitDefEqProofs only [syms,aa,seval,ei]|((with_reducible refine ⟨z.cW.lay _ _,?_⟩);(intro _ h' zz x _);( simp only [cq,List.append_nil] at x );( replace q:=q.over x );(replace z:=zz);(clear zz);rw [ao h']))
  rw [mK]
  (rw [aR];with_reducible refine cz (m:=_) ?_ ⟨k+1,_,rfl,z,⟨rfl,by omega,by omega,zsv (by omega) (by omega) hu (by simpa using hc),q⟩,aB (by kernel_rfl)⟩;omega)
 have hc:aM (l.getD k ah) (l.getD (k - 1) ah)=0:=by simpa using hc
 repeat' (first|simp -implicitDefEqProofs only [syms,aa,seval,ei]|((with_reducible refine ⟨z.cW.lay _ _,?_⟩);(intro _ h' zz x _);(simp only [cq,List.append_nil] at x);(replace q:=q.over x);(replace z:=zz);(clear zz);rw [ao h']))
 rw [hC,Y8 cf bS (by omega) (Nat.le_refl _) (by omega),← hC]
 repeat' (simp -implicitDefEqProofs only [syms,aa,seval,ei])
 obtain ⟨C2,hC2⟩:∃ C2,C2=G*11+(l.length - k):=⟨_,rfl⟩
 rw [← hC2]
 obtain ⟨I2,eM⟩:∃ I:Nat→Env→Heap→Prop,I=(fun n e h'=>∃ (b i:Nat) (cur:List ab) (h1:Heap),h'=h1.lay [] h1.low∧Ext h h1∧(n=l.length - (k+b)∧1≤b∧k+b≤l.length∧cur.length=l.length∧i+1≤k+b∧cur.take i=mU l (k+b)∧(∀ p,k+b≤p+1→cur.getD p ah=l.getD p ah)∧Holds h1 A (.row (aG cur) 42 false))∧∃ J:Nat→Value,e=(.slice (some ⟨A,0,none⟩) l.length C::.func (.func 126) ⟨[]⟩ ⟨[]⟩::jr J 2 3 (.int .i64 i::.slice (some ⟨A,k*11,none⟩) (l.length - k) C2::.int .i64 b::jr J 8 58 ([])))):=⟨_,rfl⟩
 refine dg I2 _ (by rw [eM];exact ⟨1,k,l,_,rfl,z,⟨rfl,by omega,by omega,rfl,by omega,by rw [zqG (by omega) hc];exact hu.symm,fun _ _=>rfl,q⟩,aB (by kernel_rfl)⟩) ?_
 intro n e h' aH
 rw [eM] at aH
 obtain ⟨b,i,cur,vJ,rfl,z,hinv,J,rfl⟩:=aH
 clear q
 obtain ⟨rfl,Au,qI,Ax,rL,NA,Aw,q⟩:=hinv
 have xD:=eg b (by omega)
 have W2:IntKind.i64.wrap ((b:Int) - 1)=((b - 1:Nat):Int):=by rw [wrap_i64 (by omega) (by omega)];omega
 have gO:=eg i (by omega)
 simp -implicitDefEqProofs only [syms,aa,seval,ei]
 refine bp (fun jb=>?_) (fun jb=>?_)
 rotate_left
 ·have hkb:k+b=l.length:=by omega
  have kE:i≤l.length:=by omega
  simp -implicitDefEqProofs only [syms,aa,seval,ei]
  rw [hC,Y8 cf bS kE (Nat.le_refl _) (by omega),← hC]
  obtain ⟨C3,hC3⟩:∃ C3,C3=G*11+(l.length - i):=⟨_,rfl⟩
  rw [← hC3]
  simp -implicitDefEqProofs only [syms,aa,seval,ei,zv4]
  refine zq2 q cf Gd (by omega) (by omega) (fun h3 q3 c3=>?_)
  replace z:=z.dI c3 hA (by omega)
  rw [ao h3]
  clear q
  simp -implicitDefEqProofs only [syms,aa,seval,ei]
  rw [hC,zup cf bS kE (Nat.le_refl _) (by omega),← hC]
  repeat' (simp -implicitDefEqProofs only [syms,aa,seval,ei])
  rw [NA,hkb] at q3
  have hlen:i=(mU l l.length).length:=by rw [← hkb,← NA,List.length_take];omega
  have JE:(mU l l.length++List.replicate (cur.length - i) ah).length=l.length:=by rw [List.length_append,List.length_replicate];omega
  exact hk _ _ (z.aw _ _ (by omega)) (ZD (q3.on _ _) hA (by omega) hlen (by rw [JE];exact hC))
 have aH:(0:Int)≤(b:Int)∧(b:Int) < ((l.length - k:Nat):Int):=by omega
 have fE:(0:Int)≤((b - 1:Nat):Int)∧((b - 1:Nat):Int) < ((l.length - k:Nat):Int):=by omega
 have jl:=fun (bs:List bh) (w:Nat)=>mq (bs:=bs) (w:=w) q (iP (l:=cur) (i:=k+b) (by omega))
 have eV:=fun (bs:List bh) (w:Nat)=>mq (bs:=bs) (w:=w) q (iP (l:=cur) (i:=k+(b - 1)) (by omega))
 rw [Nat.add_mul] at jl eV
 rw [Aw _ (by omega)] at jl eV
 simp -implicitDefEqProofs only [syms,aa,seval,ei]
 refine (eu (by simp only [ei])) (z.aw _ _ (by omega)) ?_
 repeat' (simp -implicitDefEqProofs only [syms,aa,seval,ei,W2,aH,fE,and_self,if_true,↓jl,↓eV,dQ])
 refine zuj _ _ (n5 aS (by omega)) (n5 aS (by omega)) _ _ (fun h' x=>?_)
 (((with_reducible refine dK ?_ ?_ ?_);(· exact (by (simp only [dM]);have:=z.size;omega));(· exact x));replace z:=z.an x (by omega);(replace q:=q.over x);rw [ao h'])
 cases qJ:(aM (l.getD (k+b) ah) (l.getD (k+(b - 1)) ah) == 0)
 rotate_left
 ·have qJ:aM (l.getD (k+b) ah) (l.getD (k+b - 1) ah)=0:=by rw [show k+b - 1=k+(b - 1) by omega];simpa using qJ
  repeat' (first|simp -implicitDefEqProofs only [syms,aa,seval,ei]|((with_reducible_and_instances apply cm);(· rfl))|((with_reducible refine ⟨z.cW.lay _ _,?_⟩);(intro _ h' zz x _);(simp only [cq,List.append_nil] at x);(replace q:=q.over x);(replace z:=zz);(clear zz);rw [ao h']))
  rw [xD]
  (rw [eM];with_reducible refine cz (m:=_) ?_ ⟨b+1,i,cur,_,rfl,z,⟨rfl,by omega,by omega,Ax,by omega,by rw [NA,show k+(b+1)=k+b+1 by omega,zqG (by omega) qJ],fun p hp=>Aw p (by omega),q⟩,aB (by kernel_rfl)⟩;omega)
 have qJ:aM (l.getD (k+b) ah) (l.getD (k+b - 1) ah)≠0:=by rw [show k+b - 1=k+(b - 1) by omega];simpa using qJ
 repeat' (first|simp -implicitDefEqProofs only [syms,aa,seval,ei]|((with_reducible_and_instances apply cm);(· rfl))|((with_reducible refine ⟨z.cW.lay _ _,?_⟩);(intro _ h' zz x _);(simp only [cq,List.append_nil] at x);(replace q:=q.over x);(replace z:=zz);(clear zz);rw [ao h']))
 have jl:=fun (bs:List bh) (w:Nat)=>mq (bs:=bs) (w:=w) q (iP (l:=cur) (i:=k+b) (by omega))
 rw [Nat.add_mul] at jl
 rw [Aw _ (by omega)] at jl
 have V8:(0:Int)≤(i:Int)∧(i:Int) < (l.length:Int):=by omega
 repeat' (simp -implicitDefEqProofs only [syms,aa,seval,ei,aH,V8,and_self,if_true,↓jl,dQ])
 have hz:=z.size
 refine zJ q bS (by omega) (fun h3 q3 c3=>?_)
 replace z:=z.dI c3 hA (by omega)
 rw [ao h3]
 clear q jl
 repeat' (simp -implicitDefEqProofs only [syms,aa,seval,ei])
 rw [gO,xD]
 have VE:∀ p,k+(b+1)≤p+1→(cur.set i (l.getD (k+b) ah)).getD p ah=l.getD p ah:=by
  intro p hp
  have aO:i≠p:=by omega
  rw [zkZ aO]
  exact Aw p (by omega)
 (rw [eM];with_reducible refine cz (m:=_) ?_ ⟨b+1,i+1,cur.set i (l.getD (k+b) ah),_,rfl,z,⟨rfl,by omega,by omega,by rw [List.length_set];exact Ax,by omega,by rw [zAO (by omega),NA,show k+(b+1)=k+b+1 by omega,zvX qJ],VE,q3⟩,aB (by kernel_rfl)⟩;omega)
theorem zrW (v:Value) (h:Heap) (hl:Sl aK.atom h v []) (K:Value→Heap→Prop) (hk:∀ h',Ext h h'→K undef h'):Ok Tryz.prog ae ov 124 [v,.func (.func 95) ⟨[]⟩ ⟨[]⟩] h K:=by
 rw [ao h]
 have z:=Ext.refl h
 have iO:=fun (hh:Heap)=>hl.bd cf hh
 have bC:=cJ v
 simp only [List.length_nil] at iO
 have nX:((0:Nat):Int)=0:=rfl
 refine Ok.aD rfl znV (br BT) rfl (m:=7) rfl ?_
 repeat' (simp -implicitDefEqProofs only [syms,aa,seval,fx,m9,ei,fc,iO,bC,nX])
 refine Ok.aD rfl zn0 (br BX) rfl (m:=60) rfl ?_
 simp -implicitDefEqProofs only [syms,aa,seval,fx,m9,ei,fc,iO,bC,nX]
 refine Mq ?_
 simp -implicitDefEqProofs only [syms,aa,seval,fx,m9,ei,fc,iO,bC,nX,decide_false,OG]
 refine Ok.aD rfl zn3 (br BZ) rfl (m:=49) rfl ?_
 simp -implicitDefEqProofs only [syms,aa,seval,fx,m9,ei,fc,iO,bC,nX]
 refine Mq ?_
 simp -implicitDefEqProofs only [syms,aa,seval,fx,m9,ei,fc,iO,bC,nX,decide_false,OG]
 refine Mq ?_
 simp -implicitDefEqProofs only [syms,aa,seval,fx,m9,ei,fc,iO,bC,nX,decide_false,OG]
 exact hk _ (z.aw _ _ (by omega))
theorem zlJ (v:Value) (h:Heap) (hl:Sl aK.atom h v []) (f:Value) (K:Value→Heap→Prop) (hk:∀ h',Ext h h'→K v h'):Ok Tryz.prog ae ov 125 [v,f] h K:=by
 rw [ao h]
 have z:=Ext.refl h
 have iO:=fun (hh:Heap)=>hl.bd cf hh
 have bC:=cJ v
 simp only [List.length_nil] at iO
 have nX:((0:Nat):Int)=0:=rfl
 refine Ok.aD rfl znW (br BU) rfl (m:=64) rfl ?_
 simp -implicitDefEqProofs only [syms,aa,seval,fx,m9,ei,fc,iO,bC,nX,decide_true,zkv]
 exact hk _ (z.aw _ _ (by omega))
theorem zuk (l:List ab) (v:Value) (h:Heap) (hl:Sl aK.atom h v l) (hn:l.length≤100000) (aS:∀ x∈l,x.ba=true) (K:Value→Heap→Prop)
 (hk:∀ h' w,Ext h h'→eh h h' 42 w (jT l)→K w h'):Ok Tryz.prog ae ov 93 [v] h K:=by
 rw [ao h]
 have z:=Ext.refl h
 refine Ok.aD rfl zAK (br N93) rfl (m:=9) rfl ?_
 repeat' (simp -implicitDefEqProofs only [syms,aa,seval,Cr])
 refine znh l v _ (hl.lay _ _) (by omega) _ (fun h' w x ho=>?_)
 rcases ho with ⟨rfl,ho⟩|⟨A,rfl,q,hA,aO⟩
 ·have bC:=cJ w
  (replace z:=z.an x (by omega);rw [ao h'])
  repeat' (simp -implicitDefEqProofs only [syms,aa,seval,Cr,bC])
  refine zrW w _ (ho.lay _ _).sl _ (fun h' x=>?_)
  replace ho:=ho.over x
  (replace z:=z.an x (by omega);rw [ao h'])
  repeat' (simp -implicitDefEqProofs only [syms,aa,seval,Cr,bC])
  refine zlJ w _ (ho.lay _ _).sl _ _ (fun h' x=>?_)
  replace ho:=ho.over x
  (replace z:=z.an x (by omega);rw [ao h'])
  repeat' (simp -implicitDefEqProofs only [syms,aa,seval,Cr,bC])
  exact hk _ _ (z.aw _ _ (by omega)) (.inl ⟨rfl,ho.lay _ _⟩)
 ·(replace z:=z.an x (by omega);rw [ao h'])
  repeat' (simp -implicitDefEqProofs only [syms,aa,seval,Cr])
  refine zlN l A (G*11+l.length) h _ (z.aw _ _ (by omega)) hA (q.on _ _) hn aS _ (fun h' l' x q' hp eb xA=>?_)
  replace z:=x
  rw [ao h']
  repeat' (simp -implicitDefEqProofs only [syms,aa,seval,Cr])
  have key:=fun K hk=>zrJ l' A h (h'.lay [] h'.low) (z.aw _ _ (by omega)) hA (q'.on _ _) (by rw [hp.length_eq];omega) (Bm aS hp) K hk
  rw [zsw hp eb xA,hp.length_eq] at key
  refine key _ (fun h' w x ho=>?_)
  replace z:=x
  have bC:=cJ w
  rw [ao h']
  repeat' (simp -implicitDefEqProofs only [syms,aa,seval,Cr,bC])
  exact hk _ _ (z.aw _ _ (by omega)) (ho.lay _ _)
theorem zH4 (l:List ab) (v:Value) (h:Heap) (hl:Sl aK.atom h v l) (hn:l.length≤1000) (aS:∀ x∈l,x.ba=true) (K:Value→Heap→Prop)
 (hk:∀ h',Ext h h'→K (.bool (DV l)) h'):Ok Tryz.prog ae ov 92 [v] h K:=by
 rw [ao h]
 have z:=Ext.refl h
 have iO:=fun (hh:Heap)=>hl.bd cf hh
 refine Ok.aD rfl zAJ (br N92) rfl (m:=24) rfl ?_
 simp -implicitDefEqProofs only [syms,aa,seval,sB,iO]
 obtain ⟨I1,aR⟩:∃ I:Nat→Env→Heap→Prop,I=(fun n e h'=>∃ (i:Nat) (h1:Heap),h'=h1.lay [] h1.low∧Ext h h1∧(n=l.length - i∧i≤l.length∧(∀ k,0 < k→k < i→aM (l.getD (k - 1) ah) (l.getD k ah) < 0))∧∃ J:Nat→Value,e=(v::jr J 1 4 (.int .i64 l.length::.int .i64 i::jr J 7 18 ([])))):=⟨_,rfl⟩
 refine dg I1 _ (by rw [aR];exact ⟨0,_,rfl,z,⟨rfl,by omega,fun k _ g=>by omega⟩,aB (by kernel_rfl)⟩) ?_
 intro n e h' aH
 rw [aR] at aH
 obtain ⟨i,bE,rfl,z,hinv,J,rfl⟩:=aH
 obtain ⟨rfl,aH,j8⟩:=hinv
 have gO:=eg i (by omega)
 have ql:0 < i→IntKind.i64.wrap ((i:Int) - 1)=((i - 1:Nat):Int):=fun _=>by rw [wrap_i64 (by omega) (by omega)];omega
 simp -implicitDefEqProofs only [syms,aa,seval,sB]
 refine bp (fun j3=>?_) (fun j3=>?_)
 rotate_left
 ·have hi:i=l.length:=by omega
  subst hi
  rw [jG.2 (fb.2 j8)] at hk
  repeat' (simp -implicitDefEqProofs only [syms,aa,seval,sB])
  exact hk _ (z.aw _ _ (by omega))
 have hr:l[(i:Int).toNat]? = some (l.getD i ah):=iP (by omega)
 have uG:l[((i - 1:Nat):Int).toNat]? = some (l.getD (i - 1) ah):=iP (by omega)
 simp -implicitDefEqProofs only [syms,aa,seval,sB]
 refine (eu (by simp only [sB])) (z.aw _ _ (by omega)) ?_
 simp -implicitDefEqProofs only [syms,aa,seval,sB]
 refine bp (fun jB=>?_) (fun jB=>?_)
 rotate_left
 ·have qe:i=0:=by omega
  subst qe
  repeat' (first|simp -implicitDefEqProofs only [syms,aa,seval,sB]|((with_reducible refine ⟨z.cW.lay _ _,?_⟩);(intro _ h' zz x _);(simp only [cq,List.append_nil] at x);(replace z:=zz);(clear zz);rw [ao h']))
  (rw [aR];with_reducible refine cz (m:=_) ?_ ⟨1,_,rfl,z,⟨rfl,by omega,fun k _ g=>by omega⟩,aB (by kernel_rfl)⟩;omega)
 have ql:=ql (by omega)
 simp -implicitDefEqProofs only [syms,aa,seval,sB,ql]
 repeat' ((first|with_reducible_and_instances refine pg (hl.mono z.inc) cf bS (by omega) uG (fun p hp=>?_)|with_reducible_and_instances refine pg (hl.mono z.inc) cf bS (by omega) hr (fun p hp=>?_)|with_reducible_and_instances refine mM hp fw bS ?_) <;> simp -implicitDefEqProofs only [syms,aa,seval,sB,ql])
 refine BE _ _ (n5 aS (by omega)) (n5 aS (by omega)) _ _ (fun h' x=>?_)
 (((with_reducible refine dK ?_ ?_ ?_);(· exact (by (simp only [dM]);have:=z.size;omega));(· exact x));replace z:=z.an x (by omega);rw [ao h'])
 simp -implicitDefEqProofs only [syms,aa,seval,sB]
 refine bp (fun hc=>?_) (fun hc=>?_)
 ·rw [zBk (fun g=>by have:=fb.1 g i (by omega) (by omega);omega)] at hk
  repeat' (first|simp -implicitDefEqProofs only [syms,aa,seval,sB]|((with_reducible refine ⟨z.cW.lay _ _,?_⟩);(intro _ h' zz x _);(simp only [cq,List.append_nil] at x);(replace z:=zz);(clear zz);rw [ao h']))
  exact hk _ (z.aw _ _ (by omega))
 ·repeat' (first|simp -implicitDefEqProofs only [syms,aa,seval,sB]|((with_reducible refine ⟨z.cW.lay _ _,?_⟩);(intro _ h' zz x _);( simp only [cq,List.append_nil] at x );(replace z:=zz);(clear zz);rw [ao h']))
  rw [gO]
  (rw [aR];with_reducible refine cz (m:=_) ?_ ⟨i+1,_,rfl,z,⟨rfl,by omega,fun k g1 g2=>by
   rcases Nat.lt_or_ge k i with e|e
   ·exact j8 k g1 e
   ·have e:k=i:=by omega
    subst e
    omega⟩,aB (by kernel_rfl)⟩;omega)
theorem zt6 (l:List ab) (v:Value) (h:Heap) (hl:Sl aK.atom h v l) (hn:l.length≤900) (aS:∀ x∈l,x.ba=true) (K:Value→Heap→Prop)
 (hk:∀ h' w,Ext h h'→eh h h' 42 w (jT l)→K w h'):Ok Tryz.prog ae ov 61 [v] h K:=by
 rw [ao h]
 have z:=Ext.refl h
 refine Ok.aD rfl zAe (br N61) rfl (m:=8) rfl ?_
 repeat' (simp -implicitDefEqProofs only [syms,aa,seval,It])
 refine zH4 l v _ (hl.lay _ _) (by omega) aS _ (fun h' x=>?_)
 (replace z:=z.an x (by omega);rw [ao h'])
 cases hi:DV l
 ·repeat' ( simp -implicitDefEqProofs only [syms,aa,seval,It])
  refine zuk l v _ ((hl.mono z.inc).lay _ _) (by omega) aS _ (fun h' w x ho=>?_)
  have dB:=z.size
  replace ho:=ho.down (h0:=h) (by rw [bB];omega)
  (replace z:=z.an x (by omega);rw [ao h'])
  have bC:=cJ w
  repeat' (simp -implicitDefEqProofs only [syms,aa,seval,It,bC])
  exact hk _ _ (z.aw _ _ (by omega)) (ho.lay _ _)
 ·repeat' ( simp -implicitDefEqProofs only [syms,aa,seval,It])
  refine znh l v _ ((hl.mono z.inc).lay _ _) (by omega) _ (fun h' w x ho=>?_)
  have dB:=z.size
  replace ho:=(ho.own (by omega)).down (h0:=h) (by rw [bB];omega)
  rw [← znP (jG.1 hi)] at ho
  (replace z:=z.an x (by omega);rw [ao h'])
  have bC:=cJ w
  repeat' (simp -implicitDefEqProofs only [syms,aa,seval,It,bC])
  exact hk _ _ (z.aw _ _ (by omega)) (ho.lay _ _)
end Go.Proofs.YtdplfgoifjjniaaGreatDoor

/- Walks: sorting in place: Am.one block Written out by fill2.py. No condition. -/
import Derived.Test.YtkgojconmeeegaaGreatDoorG31
set_option linter.unusedSimpArgs false
set_option linter.unusedVariables false
set_option maxRecDepth 100000
set_option maxHeartbeats 0
namespace Go.Proofs.YtkgojconmeeegaaGreatDoor
open Go.Am
theorem zig (l:List ab) (A c a b:Nat) (h hs:Heap) (z:Ext h hs) (hA:h.size≤A) (q:Holds hs A (.row (aO l) 34 false)) (wB:a≤b) (hb:b≤l.length) (hn:l.length≤100000) (aR:∀ x∈l,x.aT=true) (K:Value→Heap→Prop)
 (hk:∀ h' l',Ext h h'→Holds h' A (.row (aO l') 34 false)→l'.Perm l→eV l l'→gY l' a b→HL l l' a b→K undef h'):Ok Tryz.prog ae ov 193 [.slice (some ⟨A,0,none⟩) l.length c,.int .i64 a,.int .i64 b,.func (.func 108) ⟨[]⟩ ⟨[]⟩] hs K:=by
 rw [ao hs]
 have hw0:=eb a (by omega)
 refine Ok.aH rfl zpa (br E4) rfl (m:=49) rfl ?_
 simp only [syms,aa,seval,fK]
 rw [hw0]
 obtain ⟨I1,aS⟩:∃ I:Nat→Env→Heap→Prop,I=(fun n e h'=>∃ (i:Nat) (l1:List ab) (h1:Heap),h'=h1.lay [] h1.low∧Ext h h1∧(n=b - i∧a < i∧(i≤b∨(i=a+1∧l1=l))∧l1.Perm l∧eV l l1∧gY l1 a i∧HL l l1 a i∧Holds h1 A (.row (aO l1) 34 false))∧∃ J:Nat→Value,e=(.slice (some ⟨A,0,none⟩) l.length c::.int .i64 a::.int .i64 b::.func (.func 108) ⟨[]⟩ ⟨[]⟩::jr J 4 4 (.int .i64 i::jr J 9 44 ([])))):=⟨_,rfl⟩
 refine dj I1 _ (by rw [aS];exact ⟨a+1,l,_,rfl,z,⟨rfl,by omega,.inr ⟨rfl,rfl⟩,List.Perm.refl _,eV.refl _,fun k g1 g2=>by omega,fun k _=>rfl,q⟩,aE (by kernel_rfl)⟩) ?_
 intro n e h' aL
 rw [aS] at aL
 obtain ⟨i,l1,bH,rfl,z,hinv,J,rfl⟩:=aL
 clear q
 obtain ⟨rfl,Td,Th,DU,GO,GM,GJ,q⟩:=hinv
 have hw:=eb i (by omega)
 simp only [syms,aa,seval,fK]
 refine bt (fun i6=>?_) (fun i6=>?_)
 rotate_left
 ·simp only [syms,aa,seval,fK,Jp]
  repeat' ((first|((with_reducible first|apply bt|apply nX|apply iS|apply H3|apply UR) <;> intro _)|((with_reducible refine ⟨z.cN.lay _ _,?_⟩);(intro _ h' zz x _);(first|simp only [el,List.append_nil] at x|skip);(replace z:=zz);(clear zz);rw [ao h'])) <;> simp only [syms,aa,seval,fK])
  refine hk _ _ (z.aw _ _ (by omega)) (q.on _ _) DU GO (fun k g1 g2=>GM k g1 (by omega)) (fun k g=>?_)
  rcases Th with Th|⟨_,rfl⟩
  ·exact GJ k (by omega)
  ·rfl
 have fT:=DU.length_eq
 have NZ:=Ej aR DU
 repeat' (simp only [syms,aa,seval,fK])
 obtain ⟨I2,fM⟩:∃ I:Nat→Env→Heap→Prop,I=(fun n e h'=>∃ (j:Nat) (l2:List ab) (h1:Heap),h'=h1.lay [] h1.low∧Ext h h1∧(n=j - a∧a≤j∧j≤i∧l2.Perm l∧eV l l2∧SE l2 a i j∧HL l l2 a (i+1)∧Holds h1 A (.row (aO l2) 34 false))∧∃ J:Nat→Value,e=(.slice (some ⟨A,0,none⟩) l.length c::.int .i64 a::.int .i64 b::.func (.func 108) ⟨[]⟩ ⟨[]⟩::jr J 4 4 (.int .i64 i::.int .i64 j::jr J 10 43 ([])))):=⟨_,rfl⟩
 refine dj I2 _ (by rw [fM];exact ⟨i,l1,_,rfl,z,⟨rfl,by omega,by omega,DU,GO,zqN GM,fun k g=>GJ k (by omega),q⟩,aE (by kernel_rfl)⟩) ?_
 intro n e h' aL
 rw [fM] at aL
 obtain ⟨j,l2,yi,rfl,z,hinv,J,rfl⟩:=aL
 clear q DU GO GM GJ fT NZ
 obtain ⟨rfl,Bf,ke,DV,GP,To,GK,q⟩:=hinv
 have hU:=DV.length_eq
 have i7:=Ej aR DV
 simp only [syms,aa,seval,fK]
 refine (dH (by simp only [fK])) (z.aw _ _ (by omega)) ?_
 simp only [syms,aa,seval,fK]
 refine bt (fun tQ=>?_) (fun tQ=>?_)
 rotate_left
 ·repeat' (first|simp only [syms,aa,seval,fK]|((with_reducible refine ⟨z.cN.lay _ _,?_⟩);(intro _ h' zz x _);( simp only [el,List.append_nil] at x );( replace q:=q.over x );(replace z:=zz);(clear zz);rw [ao h']))
  rw [hw]
  (rw [aS];with_reducible refine cB (m:=_) ?_ ⟨i+1,l2,_,rfl,z,⟨rfl,by omega,.inl (by omega),DV,GP,zoT To ke (fun g=>absurd g (by omega)),GK,q⟩,aE (by kernel_rfl)⟩;omega)
 have Ts:IntKind.i64.wrap ((j:Int) - 1)=((j - 1:Nat):Int):=by rw [wrap_i64 (by omega) (by omega)];omega
 have aL:(0:Int)≤(j:Int)∧(j:Int) < (l.length:Int):=by omega
 have gu:(0:Int)≤((j - 1:Nat):Int)∧((j - 1:Nat):Int) < (l.length:Int):=by omega
 have kf:=fun (bs:List bh) (w:Nat)=>nR (bs:=bs) (w:=w) q (jn (l:=l2) (i:=j) (by omega))
 have fD:=fun (bs:List bh) (w:Nat)=>nR (bs:=bs) (w:=w) q (jn (l:=l2) (i:=j - 1) (by omega))
 repeat' (simp only [syms,aa,seval,fK,Ts,aL,gu,and_self,if_true,↓kf,↓fD,dC])
 refine EI _ _ (rm i7 (by omega)) (rm i7 (by omega)) _ _ (fun h' x=>?_)
 (((with_reducible refine dv ?_ ?_ ?_);(· exact (by (simp only [dx]);have:=z.size;omega));(· exact x));replace z:=z.an x (by omega);(replace q:=q.over x);rw [ao h'])
 simp only [syms,aa,seval,fK]
 refine bt (fun hc=>?_) (fun hc=>?_)
 rotate_left
 ·repeat' (first|simp only [syms,aa,seval,fK]|((with_reducible refine ⟨z.cN.lay _ _,?_⟩);(intro _ h' zz x _);( simp only [el,List.append_nil] at x );( replace q:=q.over x );(replace z:=zz);(clear zz);rw [ao h']))
  rw [hw]
  (rw [aS];with_reducible refine cB (m:=_) ?_ ⟨i+1,l2,_,rfl,z,⟨rfl,by omega,.inl (by omega),DV,GP,zoT To ke (fun _=>J1 hc),GK,q⟩,aE (by kernel_rfl)⟩;omega)
 repeat' (first|simp only [syms,aa,seval,fK]|((with_reducible refine ⟨z.cN.lay _ _,?_⟩);(intro _ h' zz x _);(simp only [el,List.append_nil] at x);(replace q:=q.over x);(replace z:=zz);(clear zz);rw [ao h']))
 have kf:=fun (bs:List bh) (w:Nat)=>nR (bs:=bs) (w:=w) q (jn (l:=l2) (i:=j) (by omega))
 have fD:=fun (bs:List bh) (w:Nat)=>nR (bs:=bs) (w:=w) q (jn (l:=l2) (i:=j - 1) (by omega))
 refine (dH (by simp only [fK])) (z.aw _ _ (by omega)) ?_
 repeat' (simp only [syms,aa,seval,fK,Ts,aL,gu,and_self,if_true,↓kf,↓fD,dC])
 refine CE q bO (by omega) (fun h3 q3 c3=>?_)
 have hz:=z.size
 refine nQ (A:=A) (by kernel_rfl) (by rw [bm];omega) (by omega) (by simpa only [el,bm,List.append_nil,List.length_cons,List.length_nil,Nat.add_zero] using c3) ?_
 replace z:=(z.aw [] (h'.size+0) (by omega)).step c3 hA
 rw [ao h3]
 clear q kf fD
 repeat' (simp only [syms,aa,seval,fK,Ts,aL,gu,and_self,if_true])
 refine CE q3 bO (by rw [List.length_set];omega) (fun h4 q4 c4=>?_)
 have hz:=z.size
 refine nQ (A:=A) (by kernel_rfl) (by rw [bm];omega) (by omega) (by simpa only [el,bm,List.append_nil,List.length_cons,List.length_nil,Nat.add_zero] using c4) ?_
 replace z:=(z.aw [] (h3.size+0) (by omega)).step c4 hA
 rw [ao h4]
 clear q3
 repeat' (first|simp only [syms,aa,seval,fK,Ts]|((with_reducible refine ⟨z.cN.lay _ _,?_⟩);(intro _ h' zz x _);(simp only [el,List.append_nil] at x);(replace q4:=q4.over x);(replace z:=zz);(clear zz);rw [ao h']))
 replace q4:Holds _ A (.row (aO (kO l2 j (j - 1))) 34 false):=q4
 (rw [fM];with_reducible refine cB (m:=_) ?_ ⟨j - 1,kO l2 j (j - 1),_,rfl,z,⟨rfl,by omega,by omega,(TO (by omega) (by omega)).trans DV,GP.trans (zo0 (by omega) (by omega) hc),ztF To (by omega) ke (by omega) hc,zoQ GK (by omega) ke (by omega),q4⟩,aE (by kernel_rfl)⟩;omega)
theorem H6 (l:List ab) (A c a b w:Nat) (fv:Value) (h hs:Heap) (z:Ext h hs) (hA:h.size≤A) (q:Holds hs A (.row (aO l) 34 false)) (wB:a+w≤b) (hb:b+w≤l.length) (hn:l.length≤100000) (K:Value→Heap→Prop)
 (hk:∀ h' l',Ext h h'→Holds h' A (.row (aO l') 34 false)→l'.Perm l→Ey l l' a b w→K undef h'):Ok Tryz.prog ae ov 227 [.slice (some ⟨A,0,none⟩) l.length c,.int .i64 a,.int .i64 b,.int .i64 w,fv] hs K:=by
 rw [ao hs]
 refine Ok.aH rfl zxT (br LM) rfl (m:=33) rfl ?_
 simp only [syms,aa,seval,qb]
 obtain ⟨I1,aS⟩:∃ I:Nat→Env→Heap→Prop,I=(fun n e h'=>∃ (i:Nat) (l1:List ab) (h1:Heap),h'=h1.lay [] h1.low∧Ext h h1∧(n=w - i∧i≤w∧l1.Perm l∧Ey l l1 a b i∧Holds h1 A (.row (aO l1) 34 false))∧∃ J:Nat→Value,e=(.slice (some ⟨A,0,none⟩) l.length c::.int .i64 a::.int .i64 b::.int .i64 w::jr J 4 6 (.int .i64 i::jr J 11 27 ([])))):=⟨_,rfl⟩
 refine dj I1 _ (by rw [aS];exact ⟨0,l,_,rfl,z,⟨rfl,by omega,List.Perm.refl _,zqX l a b,q⟩,aE (by kernel_rfl)⟩) ?_
 intro n e h' aL
 rw [aS] at aL
 obtain ⟨i,l1,bH,rfl,z,hinv,J,rfl⟩:=aL
 clear q
 obtain ⟨rfl,hi,hp,xm,q⟩:=hinv
 have fT:=hp.length_eq
 have hw:=eb i (by omega)
 simp only [syms,aa,seval,qb]
 refine bt (fun aR=>?_) (fun aR=>?_)
 rotate_left
 ·repeat' ( simp only [syms,aa,seval,qb])
  have hiw:i=w:=by omega
  subst hiw
  exact hk _ _ (z.aw _ _ (by omega)) (q.on _ _) hp xm
 have BJ:IntKind.i64.wrap ((a:Int)+(i:Int))=((a+i:Nat):Int):=by rw [wrap_i64 (by omega) (by omega)];omega
 have Az:IntKind.i64.wrap ((b:Int)+(i:Int))=((b+i:Nat):Int):=by rw [wrap_i64 (by omega) (by omega)];omega
 have aL:(0:Int)≤((a+i:Nat):Int)∧((a+i:Nat):Int) < (l.length:Int):=by omega
 have gu:(0:Int)≤((b+i:Nat):Int)∧((b+i:Nat):Int) < (l.length:Int):=by omega
 have kf:=fun (bs:List bh) (w:Nat)=>nR (bs:=bs) (w:=w) q (jn (l:=l1) (i:=a+i) (by omega))
 have fD:=fun (bs:List bh) (w:Nat)=>nR (bs:=bs) (w:=w) q (jn (l:=l1) (i:=b+i) (by omega))
 simp only [syms,aa,seval,qb]
 refine (dH (by simp only [qb])) (z.aw _ _ (by omega)) ?_
 repeat' (simp only [syms,aa,seval,qb,BJ,Az,aL,gu,and_self,if_true,↓kf,↓fD,dC])
 have hz:=z.size
 refine CE q bO (by omega) (fun h3 q3 c3=>?_)
 refine nQ (A:=A) (by kernel_rfl) (by rw [bm];omega) (by omega) (by simpa only [el,bm,List.append_nil,List.length_cons,List.length_nil,Nat.add_zero] using c3) ?_
 replace z:=(z.aw [] (bH.size+0) (by omega)).step c3 hA
 rw [ao h3]
 clear q kf fD
 repeat' (simp only [syms,aa,seval,qb,BJ,Az,aL,gu,and_self,if_true])
 refine CE q3 bO (by rw [List.length_set];omega) (fun h4 q4 c4=>?_)
 have hz:=z.size
 refine nQ (A:=A) (by kernel_rfl) (by rw [bm];omega) (by omega) (by simpa only [el,bm,List.append_nil,List.length_cons,List.length_nil,Nat.add_zero] using c4) ?_
 replace z:=(z.aw [] (h3.size+0) (by omega)).step c4 hA
 rw [ao h4]
 clear q3
 repeat' (first|simp only [syms,aa,seval,qb]|((with_reducible refine ⟨z.cN.lay _ _,?_⟩);(intro _ h' zz x _);(simp only [el,List.append_nil] at x);(replace q4:=q4.over x);(replace z:=zz);(clear zz);rw [ao h']))
 rw [hw]
 replace q4:Holds _ A (.row (aO (kO l1 (a+i) (b+i))) 34 false):=q4
 (rw [aS];with_reducible refine cB (m:=_) ?_ ⟨i+1,kO l1 (a+i) (b+i),_,rfl,z,⟨rfl,by omega,(TO (by omega) (by omega)).trans hp,zqW xm wB (by omega) (by omega),q4⟩,aE (by kernel_rfl)⟩;omega)
theorem zv2 (l:List ab) (A c a m b:Nat) (fv:Value) (h hs:Heap) (z:Ext h hs) (hA:h.size≤A) (q:Holds hs A (.row (aO l) 34 false)) (zT:a < m) (Ai:m < b) (hb:b≤l.length) (hn:l.length≤100000) (K:Value→Heap→Prop)
 (hk:∀ h',Ext h h'→Holds h' A (.row (aO (zl l a m b)) 34 false)→(zl l a m b).Perm l→K undef h'):Ok Tryz.prog ae ov 215 [.slice (some ⟨A,0,none⟩) l.length c,.int .i64 a,.int .i64 m,.int .i64 b,fv] hs K:=by
 rw [ao hs]
 have uj:IntKind.i64.wrap ((m:Int) - (a:Int))=((m - a:Nat):Int):=by rw [wrap_i64 (by omega) (by omega)];omega
 have re:IntKind.i64.wrap ((b:Int) - (m:Int))=((b - m:Nat):Int):=by rw [wrap_i64 (by omega) (by omega)];omega
 refine Ok.aH rfl zxN (br LG) rfl (m:=53) rfl ?_
 simp only [syms,aa,seval,oM,uj,re]
 obtain ⟨I1,aS⟩:∃ I:Nat→Env→Heap→Prop,I=(fun n e h'=>∃ (i j:Nat) (l1:List ab) (h1:Heap),h'=h1.lay [] h1.low∧Ext h h1∧(n=i+j∧0 < i∧0 < j∧i≤m∧m+j≤l.length∧l1.Perm l∧Ib (zl l a m b) l1 m i j∧Holds h1 A (.row (aO l1) 34 false))∧∃ J:Nat→Value,e=(.slice (some ⟨A,0,none⟩) l.length c::J 1::.int .i64 m::J 3::fv::jr J 5 5 (.int .i64 i::.int .i64 j::jr J 12 46 ([])))):=⟨_,rfl⟩
 refine dj I1 _ (by rw [aS];exact ⟨m - a,b - m,l,_,rfl,z,⟨rfl,by omega,by omega,by omega,by omega,List.Perm.refl _,zq5 (by omega) (by omega) hb,q⟩,aE (by kernel_rfl)⟩) ?_
 intro n e h' aL
 rw [aS] at aL
 obtain ⟨i,j,l1,bH,rfl,z,hinv,J,rfl⟩:=aL
 clear q
 obtain ⟨rfl,rP,Yh,tT,NO,hp,BG,q⟩:=hinv
 have fT:=hp.length_eq
 simp only [syms,aa,seval,oM]
 have G2:IntKind.i64.wrap ((m:Int) - (i:Int))=((m - i:Nat):Int):=by rw [wrap_i64 (by omega) (by omega)];omega
 refine iS (fun aP=>?_) (fun heq=>?_)
 rotate_left
 ·have di:i=j:=by omega
  subst di
  repeat' (simp only [syms,aa,seval,oM,G2])
  have key:=fun K hk=>H6 l1 A c (m - i) m i fv h (bH.lay [] bH.low) (z.aw _ _ (by omega)) hA (q.on _ _) (by omega) (by omega) (by omega) K hk
  simp only [fT] at key
  refine key _ (fun h' l' x q' mP jH=>?_)
  have ld:l'=zl l a m b:=Uj (by rw [ziu,mP.length_eq,fT]) (fun k=>(zyf BG tT jH k).symm)
  subst ld
  rw [ao h']
  repeat' (simp only [syms,aa,seval,oM])
  exact hk _ (x.aw _ _ (by omega)) (q'.on _ _) (mP.trans hp)
 simp only [syms,aa,seval,oM]
 refine bt (fun tQ=>?_) (fun tQ=>?_)
 ·repeat' ( simp only [syms,aa,seval,oM,G2])
  have key:=fun K hk=>H6 l1 A c (m - i) m j fv h (bH.lay [] bH.low) (z.aw _ _ (by omega)) hA (q.on _ _) (by omega) (by omega) (by omega) K hk
  simp only [fT] at key
  refine key _ (fun h' l' x q' mP jH=>?_)
  replace z:=x
  rw [ao h']
  have adg:IntKind.i64.wrap ((i:Int) - (j:Int))=((i - j:Nat):Int):=by rw [wrap_i64 (by omega) (by omega)];omega
  repeat' (simp only [syms,aa,seval,oM,adg])
  (rw [aS];with_reducible refine cB (m:=_) ?_ ⟨i - j,j,l',_,rfl,z,⟨rfl,by omega,by omega,by omega,by omega,mP.trans hp,zt5 BG tT (by omega) jH,q'⟩,aE (by kernel_rfl)⟩;omega)
 ·have adj:IntKind.i64.wrap ((m:Int)+(j:Int))=((m+j:Nat):Int):=by rw [wrap_i64 (by omega) (by omega)];omega
  have OJ:IntKind.i64.wrap (((m+j:Nat):Int) - (i:Int))=((m+j - i:Nat):Int):=by rw [wrap_i64 (by omega) (by omega)];omega
  repeat' (simp only [syms,aa,seval,oM,G2,adj,OJ])
  have key:=fun K hk=>H6 l1 A c (m - i) (m+j - i) i fv h (bH.lay [] bH.low) (z.aw _ _ (by omega)) hA (q.on _ _) (by omega) (by omega) (by omega) K hk
  simp only [fT] at key
  refine key _ (fun h' l' x q' mP jH=>?_)
  replace z:=x
  rw [ao h']
  have adh:IntKind.i64.wrap ((j:Int) - (i:Int))=((j - i:Nat):Int):=by rw [wrap_i64 (by omega) (by omega)];omega
  repeat' (simp only [syms,aa,seval,oM,adh])
  (rw [aS];with_reducible refine cB (m:=_) ?_ ⟨i,j - i,l',_,rfl,z,⟨rfl,by omega,by omega,by omega,by omega,mP.trans hp,zq4 BG tT (by omega) jH,q'⟩,aE (by kernel_rfl)⟩;omega)
def Cb (sz:Nat):Prop:=∀ (l:List ab) (A c a m b:Nat) (h hs:Heap),Ext h hs→h.size≤A→Holds hs A (.row (aO l) 34 false)→a < m→m < b→b - a≤sz→b≤l.length→l.length≤100000→(∀ x∈l,x.aT=true)→gY l a m→gY l m b→∀ (K:Value→Heap→Prop),
 (∀ h' l',Ext h h'→Holds h' A (.row (aO l') 34 false)→Mv l l' a b→gY l' a b→K undef h')→Ok Tryz.prog ae ov 194 [.slice (some ⟨A,0,none⟩) l.length c,.int .i64 a,.int .i64 m,.int .i64 b,.func (.func 108) ⟨[]⟩ ⟨[]⟩] hs K
theorem RM (x y:Nat) (h:x+y≤1000000):IntKind.i64.wrap ((x:Int)+(y:Int))=((x+y:Nat):Int)∧IntKind.u64.wrap ((x+y:Nat):Int)=((x+y:Nat):Int)∧IntKind.i64.wrap (((x+y) / 2:Nat):Int)=(((x+y) / 2:Nat):Int)∧Int.fdiv ((x+y:Nat):Int) (2 ^ (min (1:Int).toNat (IntKind.bits .u64)))=(((x+y) / 2:Nat):Int):=by
 refine ⟨by rw [wrap_i64 (by omega) (by omega)];omega,by unfold IntKind.wrap;simp [IntKind.bits];omega,wrap_i64 (by omega) (by omega),?_⟩
 show Int.fdiv ((x+y:Nat):Int) 2=_
 rw [Int.fdiv_eq_ediv_of_nonneg _ (by omega)]
 omega
theorem ztp (sz:Nat) (ih:Cb sz):Cb (sz+1):=by
 intro l A c a m b h hs z hA q zT Ai dz hb hn aR h1 h2 K hk
 rw [ao hs]
 have uj:IntKind.i64.wrap ((m:Int) - (a:Int))=((m - a:Nat):Int):=by rw [wrap_i64 (by omega) (by omega)];omega
 have re:IntKind.i64.wrap ((b:Int) - (m:Int))=((b - m:Nat):Int):=by rw [wrap_i64 (by omega) (by omega)];omega
 have DL:l[a]? = some (l.getD a aj):=jn (by omega)
 have IU:l[m]? = some (l.getD m aj):=jn (by omega)
 refine Ok.aH rfl zxE (br jq) rfl (m:=215) rfl ?_
 simp only [syms,aa,seval,bR,uj,re]
 refine nX (fun bf=>?_) (fun bf=>?_)
 ·-- Am.one element in front
  simp only [syms,aa,seval,bR]
  obtain ⟨I1,aS⟩:∃ I:Nat→Env→Heap→Prop,I=(fun n e h'=>∃ (i j:Nat) (h1:Heap),h'=h1.lay [] h1.low∧Ext h h1∧(n=j - i∧m≤i∧i≤j∧j≤b∧(i=m∨aQ (l.getD (i - 1) aj) (l.getD a aj) < 0)∧(j=b∨¬ aQ (l.getD j aj) (l.getD a aj) < 0)∧Holds h1 A (.row (aO l) 34 false))∧∃ J:Nat→Value,e=(.slice (some ⟨A,0,none⟩) l.length c::.int .i64 a::.int .i64 m::.int .i64 b::.func (.func 108) ⟨[]⟩ ⟨[]⟩::jr J 5 5 (.int .i64 i::.int .i64 j::jr J 12 208 ([])))):=⟨_,rfl⟩
  refine dj I1 _ (by rw [aS];exact ⟨m,b,_,rfl,z,⟨rfl,by omega,by omega,by omega,.inl rfl,.inl rfl,q⟩,aE (by kernel_rfl)⟩) ?_
  intro n e h' aL
  rw [aS] at aL
  obtain ⟨i,j,bH,rfl,z,hinv,J,rfl⟩:=aL
  clear q
  obtain ⟨rfl,g1,g2,g3,g4,g5,q⟩:=hinv
  simp only [syms,aa,seval,bR]
  refine bt (fun di=>?_) (fun di=>?_)
  rotate_left
  ·have Gq:i=j:=by omega
   subst Gq
   have IQ:=g4
   have vo:=g5
   have gl:IntKind.i64.wrap ((i:Int) - 1)=((i - 1:Nat):Int):=by rw [wrap_i64 (by omega) (by omega)];omega
   have abO:m=a+1:=by omega
   subst abO
   simp only [syms,aa,seval,bR]
   obtain ⟨I2,fM⟩:∃ I:Nat→Env→Heap→Prop,I=(fun n e h'=>∃ (k:Nat) (l1:List ab) (h1:Heap),h'=h1.lay [] h1.low∧Ext h h1∧(n=i - 1 - k∧a≤k∧k≤i - 1∧Mv l l1 a b∧vP l l1 a k∧Holds h1 A (.row (aO l1) 34 false))∧∃ J:Nat→Value,e=(.slice (some ⟨A,0,none⟩) l.length c::jr J 1 9 (.int .i64 i::jr J 11 2 (.int .i64 k::jr J 14 206 ([]))))):=⟨_,rfl⟩
   refine dj I2 _ (by rw [fM];exact ⟨a,l,_,rfl,z,⟨rfl,by omega,by omega,Mv.refl l a b,zt8 l a,q⟩,aE (by kernel_rfl)⟩) ?_
   intro n e h' aL
   rw [fM] at aL
   obtain ⟨k,l1,yi,rfl,z,hinv,J,rfl⟩:=aL
   clear q
   obtain ⟨rfl,f1,f2,f3,f4,q⟩:=hinv
   have fT:=f3.perm.length_eq
   have pP:=eb k (by omega)
   simp only [syms,aa,seval,bR,gl]
   refine bt (fun rS=>?_) (fun rS=>?_)
   rotate_left
   ·have Gs:k=i - 1:=by omega
    subst Gs
    repeat' (simp only [syms,aa,seval,bR])
    exact hk _ _ (z.aw _ _ (by omega)) (q.on _ _) f3 (zGg h2 (by omega) (by omega) IQ vo f4)
   have aL:(0:Int)≤(k:Int)∧(k:Int) < (l.length:Int):=by omega
   have gu:(0:Int)≤((k+1:Nat):Int)∧((k+1:Nat):Int) < (l.length:Int):=by omega
   have kf:=fun (bs:List bh) (w:Nat)=>nR (bs:=bs) (w:=w) q (jn (l:=l1) (i:=k) (by omega))
   have fD:=fun (bs:List bh) (w:Nat)=>nR (bs:=bs) (w:=w) q (jn (l:=l1) (i:=k+1) (by omega))
   simp only [syms,aa,seval,bR]
   refine (dH (by simp only [bR])) (z.aw _ _ (by omega)) ?_
   repeat' (simp only [syms,aa,seval,bR,pP,aL,gu,and_self,if_true,↓kf,↓fD,dC])
   have hz:=z.size
   refine CE q bO (by omega) (fun h3 q3 c3=>?_)
   refine nQ (A:=A) (by kernel_rfl) (by rw [bm];omega) (by omega) (by simpa only [el,bm,List.append_nil,List.length_cons,List.length_nil,Nat.add_zero] using c3) ?_
   replace z:=(z.aw [] (yi.size+0) (by omega)).step c3 hA
   rw [ao h3]
   clear q kf fD
   repeat' (simp only [syms,aa,seval,bR,pP,aL,gu,and_self,if_true])
   refine CE q3 bO (by rw [List.length_set];omega) (fun h4 q4 c4=>?_)
   have hz:=z.size
   refine nQ (A:=A) (by kernel_rfl) (by rw [bm];omega) (by omega) (by simpa only [el,bm,List.append_nil,List.length_cons,List.length_nil,Nat.add_zero] using c4) ?_
   replace z:=(z.aw [] (h3.size+0) (by omega)).step c4 hA
   rw [ao h4]
   clear q3
   repeat' (first|simp only [syms,aa,seval,bR]|((with_reducible refine ⟨z.cN.lay _ _,?_⟩);(intro _ h' zz x _);(simp only [el,List.append_nil] at x);(replace q4:=q4.over x);(replace z:=zz);(clear zz);rw [ao h']))
   rw [pP]
   replace q4:Holds _ A (.row (aO (kO l1 k (k+1))) 34 false):=q4
   (rw [fM];with_reducible refine cB (m:=_) ?_ ⟨k+1,kO l1 k (k+1),_,rfl,z,⟨rfl,by omega,by omega,f3.trans (Mv.swap (by omega) (by omega) (by omega) (zGK (by omega) (zyk h2 g3 IQ f1 (by omega) f4))),zyj f4 f1 (by omega),q4⟩,aE (by kernel_rfl)⟩;omega)
  obtain ⟨e1,e2,e3,e4⟩:=RM i j (by omega)
  repeat' (simp only [syms,aa,seval,bR,e1])
  rw [zg rfl rfl rfl (R9 _) rfl,e2]
  simp only [syms,aa,seval,bR,e1]
  rw [RY (by decide),e4]
  simp only [syms,aa,seval,bR,e1]
  rw [zg rfl rfl rfl (Sa _) rfl,e3]
  repeat' (simp only [syms,aa,seval,bR,e1])
  have tR:i≤(i+j) / 2∧(i+j) / 2 < j:=by omega
  have xr:IntKind.i64.wrap ((((i+j) / 2:Nat):Int)+1)=(((i+j) / 2+1:Nat):Int):=by rw [wrap_i64 (by omega) (by omega)];omega
  generalize (i+j) / 2=y at tR xr ⊢
  have aL:(0:Int)≤(y:Int)∧(y:Int) < (l.length:Int):=by omega
  have gu:(0:Int)≤(a:Int)∧(a:Int) < (l.length:Int):=by omega
  have kf:=fun (bs:List bh) (w:Nat)=>nR (bs:=bs) (w:=w) q (jn (l:=l) (i:=y) (by omega))
  have fD:=fun (bs:List bh) (w:Nat)=>nR (bs:=bs) (w:=w) q (jn (l:=l) (i:=a) (by omega))
  refine (dH (by simp only [bR])) (z.aw _ _ (by omega)) ?_
  repeat' (simp only [syms,aa,seval,bR,aL,gu,and_self,if_true,↓kf,↓fD,dC])
  refine EI _ _ (rm aR (by omega)) (rm aR (by omega)) _ _ (fun h' x=>?_)
  (((with_reducible refine dv ?_ ?_ ?_);(· exact (by (simp only [dx]);have:=z.size;omega));(· exact x));replace z:=z.an x (by omega);(replace q:=q.over x);rw [ao h'])
  simp only [syms,aa,seval,bR]
  refine bt (fun hc=>?_) (fun hc=>?_)
  ·repeat' (first|simp only [syms,aa,seval,bR]|((with_reducible refine ⟨z.cN.lay _ _,?_⟩);(intro _ h' zz x _);( simp only [el,List.append_nil] at x );( replace q:=q.over x );(replace z:=zz);(clear zz);rw [ao h']))
   rw [xr]
   (rw [aS];with_reducible refine cB (m:=_) ?_ ⟨y+1,j,_,rfl,z,⟨rfl,by omega,by omega,by omega,.inr (by rw [Nat.add_sub_cancel];exact hc),g5,q⟩,aE (by kernel_rfl)⟩;omega)
  ·repeat' (first|simp only [syms,aa,seval,bR]|((with_reducible refine ⟨z.cN.lay _ _,?_⟩);(intro _ h' zz x _);( simp only [el,List.append_nil] at x );( replace q:=q.over x );(replace z:=zz);(clear zz);rw [ao h']))
   (rw [aS];with_reducible refine cB (m:=_) ?_ ⟨i,y,_,rfl,z,⟨rfl,by omega,by omega,by omega,g4,.inr hc,q⟩,aE (by kernel_rfl)⟩;omega)
 simp only [syms,aa,seval,bR,re]
 refine nX (fun DT=>?_) (fun DT=>?_)
 ·-- Am.one element behind
  simp only [syms,aa,seval,bR]
  obtain ⟨I3,mF⟩:∃ I:Nat→Env→Heap→Prop,I=(fun n e h'=>∃ (i j:Nat) (h1:Heap),h'=h1.lay [] h1.low∧Ext h h1∧(n=j - i∧a≤i∧i≤j∧j≤m∧(i=a∨¬ aQ (l.getD m aj) (l.getD (i - 1) aj) < 0)∧(j=m∨aQ (l.getD m aj) (l.getD j aj) < 0)∧Holds h1 A (.row (aO l) 34 false))∧∃ J:Nat→Value,e=(.slice (some ⟨A,0,none⟩) l.length c::.int .i64 a::.int .i64 m::.int .i64 b::.func (.func 108) ⟨[]⟩ ⟨[]⟩::jr J 5 9 (.int .i64 i::.int .i64 j::jr J 16 204 ([])))):=⟨_,rfl⟩
  refine dj I3 _ (by rw [mF];exact ⟨a,m,_,rfl,z,⟨rfl,by omega,by omega,by omega,.inl rfl,.inl rfl,q⟩,aE (by kernel_rfl)⟩) ?_
  intro n e h' aL
  rw [mF] at aL
  obtain ⟨i,j,bH,rfl,z,hinv,J,rfl⟩:=aL
  clear q
  obtain ⟨rfl,g1,g2,g3,g4,g5,q⟩:=hinv
  simp only [syms,aa,seval,bR]
  refine bt (fun di=>?_) (fun di=>?_)
  rotate_left
  ·have Gq:i=j:=by omega
   subst Gq
   have IQ:=g4
   have vo:=g5
   have abS:b=m+1:=by omega
   subst abS
   simp only [syms,aa,seval,bR]
   obtain ⟨I4,FZ⟩:∃ I:Nat→Env→Heap→Prop,I=(fun n e h'=>∃ (k:Nat) (l1:List ab) (h1:Heap),h'=h1.lay [] h1.low∧Ext h h1∧(n=k - i∧i≤k∧k≤m∧Mv l l1 a (m+1)∧Sf l l1 m k∧Holds h1 A (.row (aO l1) 34 false))∧∃ J:Nat→Value,e=(.slice (some ⟨A,0,none⟩) l.length c::jr J 1 13 (.int .i64 i::jr J 15 2 (.int .i64 k::jr J 18 202 ([]))))):=⟨_,rfl⟩
   refine dj I4 _ (by rw [FZ];exact ⟨m,l,_,rfl,z,⟨rfl,by omega,by omega,Mv.refl l a _,znz l m,q⟩,aE (by kernel_rfl)⟩) ?_
   intro n e h' aL
   rw [FZ] at aL
   obtain ⟨k,l1,yi,rfl,z,hinv,J,rfl⟩:=aL
   clear q
   obtain ⟨rfl,f1,f2,f3,f4,q⟩:=hinv
   have fT:=f3.perm.length_eq
   simp only [syms,aa,seval,bR]
   refine bt (fun rS=>?_) (fun rS=>?_)
   rotate_left
   ·have Gs:k=i:=by omega
    subst Gs
    repeat' (simp only [syms,aa,seval,bR])
    exact hk _ _ (z.aw _ _ (by omega)) (q.on _ _) f3 (zy7 h1 (by omega) (by omega) IQ vo f4)
   have pP:IntKind.i64.wrap ((k:Int) - 1)=((k - 1:Nat):Int):=by rw [wrap_i64 (by omega) (by omega)];omega
   have aL:(0:Int)≤(k:Int)∧(k:Int) < (l.length:Int):=by omega
   have gu:(0:Int)≤((k - 1:Nat):Int)∧((k - 1:Nat):Int) < (l.length:Int):=by omega
   have kf:=fun (bs:List bh) (w:Nat)=>nR (bs:=bs) (w:=w) q (jn (l:=l1) (i:=k) (by omega))
   have fD:=fun (bs:List bh) (w:Nat)=>nR (bs:=bs) (w:=w) q (jn (l:=l1) (i:=k - 1) (by omega))
   simp only [syms,aa,seval,bR]
   refine (dH (by simp only [bR])) (z.aw _ _ (by omega)) ?_
   repeat' (simp only [syms,aa,seval,bR,pP,aL,gu,and_self,if_true,↓kf,↓fD,dC])
   have hz:=z.size
   refine CE q bO (by omega) (fun h3 q3 c3=>?_)
   refine nQ (A:=A) (by kernel_rfl) (by rw [bm];omega) (by omega) (by simpa only [el,bm,List.append_nil,List.length_cons,List.length_nil,Nat.add_zero] using c3) ?_
   replace z:=(z.aw [] (yi.size+0) (by omega)).step c3 hA
   rw [ao h3]
   clear q kf fD
   repeat' (simp only [syms,aa,seval,bR,pP,aL,gu,and_self,if_true])
   refine CE q3 bO (by rw [List.length_set];omega) (fun h4 q4 c4=>?_)
   have hz:=z.size
   refine nQ (A:=A) (by kernel_rfl) (by rw [bm];omega) (by omega) (by simpa only [el,bm,List.append_nil,List.length_cons,List.length_nil,Nat.add_zero] using c4) ?_
   replace z:=(z.aw [] (h3.size+0) (by omega)).step c4 hA
   rw [ao h4]
   clear q3
   repeat' (first|simp only [syms,aa,seval,bR]|((with_reducible refine ⟨z.cN.lay _ _,?_⟩);(intro _ h' zz x _);(simp only [el,List.append_nil] at x);(replace q4:=q4.over x);(replace z:=zz);(clear zz);rw [ao h']))
   rw [pP]
   replace q4:Holds _ A (.row (aO (kO l1 k (k - 1))) 34 false):=q4
   (rw [FZ];with_reducible refine cB (m:=_) ?_ ⟨k - 1,kO l1 k (k - 1),_,rfl,z,⟨rfl,by omega,by omega,f3.trans (Mv.swap (by omega) (by omega) (by omega) (zo0 (by omega) (by omega) (zpO h1 g1 vo (by omega) f2 f4))),zpN f4 (by omega) f2 (by omega),q4⟩,aE (by kernel_rfl)⟩;omega)
  obtain ⟨e1,e2,e3,e4⟩:=RM i j (by omega)
  repeat' (simp only [syms,aa,seval,bR,e1])
  rw [zg rfl rfl rfl (R9 _) rfl,e2]
  simp only [syms,aa,seval,bR,e1]
  rw [RY (by decide),e4]
  simp only [syms,aa,seval,bR,e1]
  rw [zg rfl rfl rfl (Sa _) rfl,e3]
  repeat' (simp only [syms,aa,seval,bR,e1])
  have tR:i≤(i+j) / 2∧(i+j) / 2 < j:=by omega
  have xr:IntKind.i64.wrap ((((i+j) / 2:Nat):Int)+1)=(((i+j) / 2+1:Nat):Int):=by rw [wrap_i64 (by omega) (by omega)];omega
  generalize (i+j) / 2=y at tR xr ⊢
  have aL:(0:Int)≤(y:Int)∧(y:Int) < (l.length:Int):=by omega
  have gu:(0:Int)≤(m:Int)∧(m:Int) < (l.length:Int):=by omega
  have kf:=fun (bs:List bh) (w:Nat)=>nR (bs:=bs) (w:=w) q (jn (l:=l) (i:=y) (by omega))
  have fD:=fun (bs:List bh) (w:Nat)=>nR (bs:=bs) (w:=w) q (jn (l:=l) (i:=m) (by omega))
  refine (dH (by simp only [bR])) (z.aw _ _ (by omega)) ?_
  repeat' (simp only [syms,aa,seval,bR,aL,gu,and_self,if_true,↓kf,↓fD,dC])
  refine EI _ _ (rm aR (by omega)) (rm aR (by omega)) _ _ (fun h' x=>?_)
  (((with_reducible refine dv ?_ ?_ ?_);(· exact (by (simp only [dx]);have:=z.size;omega));(· exact x));replace z:=z.an x (by omega);(replace q:=q.over x);rw [ao h'])
  simp only [syms,aa,seval,bR]
  refine bt (fun hc=>?_) (fun hc=>?_)
  ·repeat' (first|simp only [syms,aa,seval,bR]|((with_reducible_and_instances apply b8);(· rfl))|((with_reducible refine ⟨z.cN.lay _ _,?_⟩);(intro _ h' zz x _);( simp only [el,List.append_nil] at x );( replace q:=q.over x );(replace z:=zz);(clear zz);rw [ao h']))
   (rw [mF];with_reducible refine cB (m:=_) ?_ ⟨i,y,_,rfl,z,⟨rfl,by omega,by omega,by omega,g4,.inr hc,q⟩,aE (by kernel_rfl)⟩;omega)
  ·repeat' (first|simp only [syms,aa,seval,bR]|((with_reducible_and_instances apply b8);(· rfl))|((with_reducible refine ⟨z.cN.lay _ _,?_⟩);(intro _ h' zz x _);( simp only [el,List.append_nil] at x );( replace q:=q.over x );(replace z:=zz);(clear zz);rw [ao h']))
   rw [xr]
   (rw [mF];with_reducible refine cB (m:=_) ?_ ⟨y+1,j,_,rfl,z,⟨rfl,by omega,by omega,by omega,.inr (by rw [Nat.add_sub_cancel];exact hc),g5,q⟩,aE (by kernel_rfl)⟩;omega)
 -- both parts longer
 obtain ⟨e1,e2,e3,e4⟩:=RM a b (by omega)
 repeat' (simp only [syms,aa,seval,bR,e1])
 rw [zg rfl rfl rfl (R9 _) rfl,e2]
 simp only [syms,aa,seval,bR,e1]
 rw [RY (by decide),e4]
 simp only [syms,aa,seval,bR,e1]
 rw [zg rfl rfl rfl (Sa _) rfl,e3]
 have iL:2*((a+b) / 2)≤a+b:=by omega
 have jX:a+b≤2*((a+b) / 2)+1:=by omega
 generalize (a+b) / 2=mid at iL jX ⊢
 have I0:IntKind.i64.wrap ((mid:Int)+(m:Int))=((mid+m:Nat):Int):=by rw [wrap_i64 (by omega) (by omega)];omega
 have YO:IntKind.i64.wrap (((mid+m:Nat):Int) - 1)=((mid+m - 1:Nat):Int):=by rw [wrap_i64 (by omega) (by omega)];omega
 have Az:mid < m→IntKind.i64.wrap (((mid+m:Nat):Int) - (b:Int))=((mid+m - b:Nat):Int):=fun _=>by rw [wrap_i64 (by omega) (by omega)];omega
 simp only [syms,aa,seval,bR,I0]
 refine bt (fun hgm=>?_) (fun hgm=>?_)
 focus
  have Az:=Az (by omega)
  simp only [syms,aa,seval,bR,I0,Az,YO]
  have qu:=zC8 (l:=l) (a:=a) Ai (show mid < m by omega)
 rotate_left
 focus
  simp only [syms,aa,seval,bR,I0,YO]
  have qu:=zC7 (l:=l) (b:=b) zT (show m≤mid by omega)
 all_goals
  obtain ⟨I5,Ta⟩:∃ I:Nat→Env→Heap→Prop,I=(fun n e h'=>∃ (s r:Nat) (h1:Heap),h'=h1.lay [] h1.low∧Ext h h1∧(n=r - s∧ig l a m b mid s r∧Holds h1 A (.row (aO l) 34 false))∧∃ J:Nat→Value,e=(.slice (some ⟨A,0,none⟩) l.length c::.int .i64 a::.int .i64 m::.int .i64 b::.func (.func 108) ⟨[]⟩ ⟨[]⟩::jr J 5 13 (.int .i64 mid::.int .i64 ((mid+m:Nat):Int)::.int .i64 s::.int .i64 r::.int .i64 ((mid+m - 1:Nat):Int)::jr J 23 197 ([])))):=⟨_,rfl⟩
  refine dj I5 _ (by rw [Ta];exact ⟨_,_,_,rfl,z,⟨rfl,qu,q⟩,aE (by kernel_rfl)⟩) ?_
  intro n e h' aL
  rw [Ta] at aL
  obtain ⟨s,r,bH,rfl,z,hinv,J,rfl⟩:=aL
  clear q qu
  obtain ⟨rfl,hinv,q⟩:=hinv
  simp only [syms,aa,seval,bR]
  refine bt (fun mR=>?_) (fun mR=>?_)
  rotate_left
  ·have xl:s=r:=by have:=hinv.sr;omega
   subst xl
   have sp:=zlz hinv zT Ai iL jX
   obtain ⟨p1,p2,p3,p4,p5,_,_⟩:=sp
   have sp:=zlz hinv zT Ai iL jX
   have Tq:IntKind.i64.wrap (((mid+m:Nat):Int) - (s:Int))=((mid+m - s:Nat):Int):=by rw [wrap_i64 (by omega) (by omega)];omega
   simp only [syms,aa,seval,Ph (qM (jq 107)) 3 rfl,OR (jq 108) (jq 109) (jq 110) rfl,Jo (jq 110) rfl]
   rw [Cv (jq 119) (jq 120) (jq 121) rfl]
   obtain ⟨R6,XY⟩:∃ R:Env→Heap→Prop,R=(fun e h'=>∃ (h1:Heap),h'=h1.lay [] h1.low∧Ext h h1∧(Holds h1 A (.row (aO l) 34 false))∧∃ J:Nat→Value,e=(.slice (some ⟨A,0,none⟩) l.length c::.int .i64 a::.int .i64 m::.int .i64 b::.func (.func 108) ⟨[]⟩ ⟨[]⟩::jr J 5 13 (.int .i64 mid::J 19::.int .i64 s::jr J 21 3 (.int .i64 ((mid+m - s:Nat):Int)::jr J 25 195 ([]))))∧True):=⟨_,rfl⟩
   refine Cc R6 ?cut ?rest
   case' rest =>
    intro e h' aL
    rw [XY] at aL
    obtain ⟨yi,rfl,z,hinv,J,rfl,_⟩:=aL
   case cut =>
    simp only [syms,aa,seval,bR,Tq]
    (rw [XY];exact ⟨_,rfl,z,q,SJ (by kernel_rfl) (trivial)⟩)
   case rest =>
   have q:=hinv
   simp only [syms,aa,seval]
   rw [Cv (jq 121) (jq 122) (jq 127) rfl]
   obtain ⟨R7,Bb⟩:∃ R:Env→Heap→Prop,R=(fun e h'=>∃ (l1:List ab) (h1:Heap),h'=h1.lay [] h1.low∧Ext h h1∧(Mv l l1 s (mid+m - s)∧EL l l1 s m (mid+m - s)∧Holds h1 A (.row (aO l1) 34 false))∧∃ J:Nat→Value,e=(.slice (some ⟨A,0,none⟩) l.length c::.int .i64 a::.int .i64 m::.int .i64 b::.func (.func 108) ⟨[]⟩ ⟨[]⟩::jr J 5 13 (.int .i64 mid::J 19::.int .i64 s::jr J 21 3 (.int .i64 ((mid+m - s:Nat):Int)::jr J 25 195 ([]))))∧True):=⟨_,rfl⟩
   refine Cc R7 ?cut ?rest
   case' rest =>
    intro e h' aL
    rw [Bb] at aL
    obtain ⟨l1,yj,rfl,z,hinv,J,rfl,_⟩:=aL
   case cut =>
    repeat' (first|simp only [syms,aa,seval,bR]|((with_reducible apply bt) <;> intro _))
    all_goals first
     |(rw [Bb];exact ⟨l,_,rfl,z,⟨Mv.refl _ _ _,zEg (by omega) (by omega) (by omega),q⟩,SJ (by kernel_rfl) (trivial)⟩)
     |(refine zv2 l A c s m (mid+m - s) _ h _ (z.aw _ _ (by omega)) hA (q.on _ _) (by omega) (by omega) (by omega) hn _ (fun h' x q1 DU=>?_)
       replace z:=x
       rw [ao h']
       simp only [syms,aa,seval,bR]
       (rw [Bb];exact ⟨zl l s m (mid+m - s),_,rfl,z,⟨zEf (fun k=>Xi (by omega) k) (by omega) (by omega) DU (ztK h1 h2 sp (fun k=>Xi (by omega) k) (by omega) DU.length_eq),fun k=>Xi (by omega) k,q1⟩,SJ (by kernel_rfl) (trivial)⟩))
   case rest =>
   obtain ⟨Tx,t1,q⟩:=hinv
   obtain ⟨B1,Pr,Y7,TK⟩:=zqR h1 h2 sp t1
   have Ya:=fun (i j:Nat) (g1:a≤i) (g2:i < mid) (g3:mid≤j) (g4:j < b)=>zqQ h1 h2 sp t1 g1 g2 g3 g4
   have fT:=Tx.perm.length_eq
   simp only [syms,aa,seval]
   rw [Cv (jq 127) (jq 128) (jq 133) rfl]
   obtain ⟨R8,Bc⟩:∃ R:Env→Heap→Prop,R=(fun e h'=>∃ (l2:List ab) (h1:Heap),h'=h1.lay [] h1.low∧Ext h h1∧(Mv l1 l2 a mid∧gY l2 a mid∧Holds h1 A (.row (aO l2) 34 false))∧∃ J:Nat→Value,e=(.slice (some ⟨A,0,none⟩) l.length c::.int .i64 a::.int .i64 m::.int .i64 b::.func (.func 108) ⟨[]⟩ ⟨[]⟩::jr J 5 13 (.int .i64 mid::J 19::.int .i64 s::jr J 21 3 (.int .i64 ((mid+m - s:Nat):Int)::jr J 25 195 ([]))))∧True):=⟨_,rfl⟩
   refine Cc R8 ?cut ?rest
   case' rest =>
    intro e h' aL
    rw [Bc] at aL
    obtain ⟨l2,S7,rfl,z,hinv,J,rfl,_⟩:=aL
   case cut =>
    repeat' (first|simp only [syms,aa,seval,bR]|((with_reducible apply bt) <;> intro _))
    all_goals first
     |(rw [Bc];exact ⟨l1,_,rfl,z,⟨Mv.refl _ _ _,(by first|(have e:s=mid:=by omega);rw [← e];exact B1|(have e:a=s:=by omega);rw [e];exact Pr),q⟩,SJ (by kernel_rfl) (trivial)⟩)
     |(have key:=ih l1 A c a s mid h (yj.lay [] yj.low) (z.aw _ _ (by omega)) hA (q.on _ _) (by omega) (by omega) (by omega) (by omega) (by omega) (Ej aR Tx.perm) B1 Pr
       simp only [fT] at key
       refine key _ (fun h' l2 x q1 AU TL=>?_)
       replace z:=x
       rw [ao h']
       simp only [syms,aa,seval,bR]
       (rw [Bc];exact ⟨l2,_,rfl,z,⟨AU,TL,q1⟩,SJ (by kernel_rfl) (trivial)⟩))
   case rest =>
   obtain ⟨AU,TL,q⟩:=hinv
   have hU:=AU.perm.length_eq
   have Y8:=WX Y7 (fun k g1 g2=>AU.out k (.inr g1))
   have Y9:=WX TK (fun k g1 g2=>AU.out k (.inr (by omega)))
   have Y1:=(Tx.xO p1 p5).trans (AU.xO (Nat.le_refl _) (show mid≤b by omega))
   repeat' (first|simp only [syms,aa,seval,bR]|((with_reducible apply bt) <;> intro _))
   all_goals first
    |exact hk _ l2 (z.aw _ _ (by omega)) (q.on _ _) Y1 (zoi Ya AU (Mv.refl l2 mid b) TL (by first|(have e:mid=mid+m - s:=by omega);rw [e];exact Y9|(have e:mid+m - s=b:=by omega);rw [← e];exact Y8))
    |(have key:=ih l2 A c mid (mid+m - s) b h (S7.lay [] S7.low) (z.aw _ _ (by omega)) hA (q.on _ _) (by omega) (by omega) (by omega) (by omega) (by omega) (Ej (Ej aR Tx.perm) AU.perm) Y8 Y9
      simp only [hU,fT] at key
      refine key _ (fun h' l3 x q1 Y0 so8=>?_)
      rw [ao h']
      repeat' (simp only [syms,aa,seval,bR])
      exact hk _ l3 (x.aw _ _ (by omega)) (q1.on _ _) (Y1.trans (Y0.xO (show a≤mid by omega) (Nat.le_refl _))) (zoi Ya AU Y0 TL so8))
  have kD:r≤l.length:=by
   rcases Nat.lt_or_ge mid m with g|g
   ·have:=hinv.Ja g;omega
   ·have:=hinv.I9 g;omega
  obtain ⟨e1,e2,e3,e4⟩:=RM s r (by omega)
  repeat' (simp only [syms,aa,seval,bR,e1])
  rw [zg rfl rfl rfl (R9 _) rfl,e2]
  simp only [syms,aa,seval,bR,e1]
  rw [RY (by decide),e4]
  simp only [syms,aa,seval,bR,e1]
  rw [zg rfl rfl rfl (Sa _) rfl,e3]
  repeat' (simp only [syms,aa,seval,bR,e1])
  have tR:s≤(s+r) / 2∧(s+r) / 2 < r:=by omega
  have xr:IntKind.i64.wrap ((((s+r) / 2:Nat):Int)+1)=(((s+r) / 2+1:Nat):Int):=by rw [wrap_i64 (by omega) (by omega)];omega
  generalize (s+r) / 2=y at tR xr ⊢
  have Ti:=zwF hinv tR.1 tR.2 zT Ai iL jX
  have adk:IntKind.i64.wrap (((mid+m - 1:Nat):Int) - (y:Int))=((mid+m - 1 - y:Nat):Int):=by rw [wrap_i64 (by omega) (by omega)];omega
  have aL:(0:Int)≤(y:Int)∧(y:Int) < (l.length:Int):=by omega
  have gu:(0:Int)≤((mid+m - 1 - y:Nat):Int)∧((mid+m - 1 - y:Nat):Int) < (l.length:Int):=by omega
  have kf:=fun (bs:List bh) (w:Nat)=>nR (bs:=bs) (w:=w) q (jn (l:=l) (i:=y) (by omega))
  have fD:=fun (bs:List bh) (w:Nat)=>nR (bs:=bs) (w:=w) q (jn (l:=l) (i:=mid+m - 1 - y) (by omega))
  refine (dH (by simp only [bR])) (z.aw _ _ (by omega)) ?_
  repeat' (simp only [syms,aa,seval,bR,adk,aL,gu,and_self,if_true,↓kf,↓fD,dC])
  refine EI _ _ (rm aR (by omega)) (rm aR (by omega)) _ _ (fun h' x=>?_)
  (((with_reducible refine dv ?_ ?_ ?_);(· exact (by (simp only [dx]);have:=z.size;omega));(· exact x));replace z:=z.an x (by omega);(replace q:=q.over x);rw [ao h'])
  simp only [syms,aa,seval,bR]
  refine bt (fun hc=>?_) (fun hc=>?_)
  ·repeat' (first|simp only [syms,aa,seval,bR]|((with_reducible_and_instances apply b8);(· rfl))|((with_reducible refine ⟨z.cN.lay _ _,?_⟩);(intro _ h' zz x _);( simp only [el,List.append_nil] at x );( replace q:=q.over x );(replace z:=zz);(clear zz);rw [ao h']))
   (rw [Ta];with_reducible refine cB (m:=_) ?_ ⟨s,y,_,rfl,z,⟨rfl,zqY hinv tR.1 tR.2 hc,q⟩,aE (by kernel_rfl)⟩;omega)
  ·repeat' (first|simp only [syms,aa,seval,bR]|((with_reducible_and_instances apply b8);(· rfl))|((with_reducible refine ⟨z.cN.lay _ _,?_⟩);(intro _ h' zz x _);( simp only [el,List.append_nil] at x );( replace q:=q.over x );(replace z:=zz);(clear zz);rw [ao h']))
   rw [xr]
   (rw [Ta];with_reducible refine cB (m:=_) ?_ ⟨y+1,r,_,rfl,z,⟨rfl,zwG hinv tR.1 tR.2 hc,q⟩,aE (by kernel_rfl)⟩;omega)
theorem Ck:∀ sz,Cb sz
 |0=>by intro l A c a m b h hs z hA q h1 h2 h3;omega
 |sz+1=>ztp sz (Ck sz)
theorem zv8 (l:List ab) (A c:Nat) (h hs:Heap) (z:Ext h hs) (hA:h.size≤A) (q:Holds hs A (.row (aO l) 34 false)) (hn:l.length≤100000) (aR:∀ x∈l,x.aT=true) (K:Value→Heap→Prop)
 (hk:∀ h' l',Ext h h'→Holds h' A (.row (aO l') 34 false)→l'.Perm l→eV l l'→gY l' 0 l.length→K undef h'):Ok Tryz.prog ae ov 156 [.slice (some ⟨A,0,none⟩) l.length c,.int .i64 l.length,.func (.func 108) ⟨[]⟩ ⟨[]⟩] hs K:=by
 rw [ao hs]
 refine Ok.aH rfl zo7 (br E1) rfl (m:=60) rfl ?_
 simp only [syms,aa,seval,gq]
 obtain ⟨I1,aS⟩:∃ I:Nat→Env→Heap→Prop,I=(fun n e h'=>∃ (a:Nat) (l1:List ab) (h1:Heap),h'=h1.lay [] h1.low∧Ext h h1∧(n=l.length - a∧a % 20=0∧a≤l.length∧l1.Perm l∧eV l l1∧Bl l1 20 l.length a∧Holds h1 A (.row (aO l1) 34 false))∧∃ J:Nat→Value,e=(.slice (some ⟨A,0,none⟩) l.length c::.int .i64 l.length::.func (.func 108) ⟨[]⟩ ⟨[]⟩::jr J 3 3 (.int .i64 20::.int .i64 a::.int .i64 (a+20:Nat)::jr J 9 54 ([])))):=⟨_,rfl⟩
 refine dj I1 _ (by rw [aS];exact ⟨0,l,_,rfl,z,⟨rfl,by omega,by omega,List.Perm.refl _,eV.refl _,fun k _ hk=>absurd hk (by omega),q⟩,aE (by kernel_rfl)⟩) ?_
 intro n e h' aL
 rw [aS] at aL
 obtain ⟨a,l1,bH,rfl,z,hinv,J,rfl⟩:=aL
 clear q
 obtain ⟨rfl,Ng,han,hp,ez,u9,q⟩:=hinv
 have fT:=hp.length_eq
 have i6:=Ej aR hp
 simp only [syms,aa,seval,gq]
 refine bt (fun hle=>?_) (fun hle=>?_)
 ·have uj:IntKind.i64.wrap (((a+20:Nat):Int)+20)=((a+20+20:Nat):Int):=by rw [wrap_i64 (by omega) (by omega)];omega
  repeat' (simp only [syms,aa,seval,gq])
  have key:=fun K hk=>zig l1 A c a (a+20) h (bH.lay [] bH.low) (z.aw _ _ (by omega)) hA (q.on _ _) (by omega) (by omega) (by omega) i6 K hk
  simp only [fT] at key
  refine key _ (fun h' l' x q' mP ue jH IX=>?_)
  replace z:=x
  rw [ao h']
  repeat' (simp only [syms,aa,seval,gq,uj])
  (rw [aS];with_reducible refine cB (m:=_) ?_ ⟨a+20,l',_,rfl,z,⟨rfl,by omega,by omega,mP.trans hp,ez.trans ue,UM u9 Ng (by rw [show min (a+20) l.length=a+20 by omega];exact jH) (by rw [show min (a+20) l.length=a+20 by omega];exact IX) _ (by omega),q'⟩,aE (by kernel_rfl)⟩;omega)
 repeat' (simp only [syms,aa,seval,gq])
 have key:=fun K hk=>zig l1 A c a l.length h (bH.lay [] bH.low) (z.aw _ _ (by omega)) hA (q.on _ _) (by omega) (by omega) (by omega) i6 K hk
 simp only [fT] at key
 refine key _ (fun h' l' x q' mP ue jH IX=>?_)
 replace z:=x
 replace hp:=mP.trans hp
 replace ez:=ez.trans ue
 replace u9:Bl l' 20 l.length l.length:=UM u9 Ng (by rw [show min (a+20) l.length=l.length by omega];exact jH) (by rw [show min (a+20) l.length=l.length by omega];exact IX) _ (by omega)
 clear key jH IX mP ue fT i6 q
 rw [ao h']
 repeat' (simp only [syms,aa,seval,gq])
 obtain ⟨I2,fM⟩:∃ I:Nat→Env→Heap→Prop,I=(fun n e h'=>∃ (w:Nat) (l1:List ab) (h1:Heap),h'=h1.lay [] h1.low∧Ext h h1∧(n=l.length - w∧20≤w∧w≤200000∧l1.Perm l∧eV l l1∧Bl l1 w l.length l.length∧Holds h1 A (.row (aO l1) 34 false))∧∃ J:Nat→Value,e=(.slice (some ⟨A,0,none⟩) l.length c::.int .i64 l.length::.func (.func 108) ⟨[]⟩ ⟨[]⟩::jr J 3 3 (.int .i64 w::jr J 7 56 ([])))):=⟨_,rfl⟩
 refine dj I2 _ (by rw [fM];exact ⟨20,l',_,rfl,z,⟨rfl,by omega,by omega,hp,ez,u9,q'⟩,aE (by kernel_rfl)⟩) ?_
 intro n e h' aL
 rw [fM] at aL
 obtain ⟨w,l1,yi,rfl,z,hinv,J,rfl⟩:=aL
 clear q' u9 hp ez
 obtain ⟨rfl,asH,asI,hp,ez,u9,q⟩:=hinv
 simp only [syms,aa,seval,gq]
 refine bt (fun i7=>?_) (fun i7=>?_)
 rotate_left
 ·repeat' ( simp only [syms,aa,seval,gq])
  exact hk _ _ (z.aw _ _ (by omega)) (q.on _ _) hp ez (zHr u9 (by omega))
 have jX:IntKind.i64.wrap ((2:Int)*(w:Int))=((2*w:Nat):Int):=by rw [wrap_i64 (by omega) (by omega)];omega
 repeat' (simp only [syms,aa,seval,gq,jX,Xv])
 obtain ⟨I3,mF⟩:∃ I:Nat→Env→Heap→Prop,I=(fun n e h'=>∃ (a b:Nat) (l2:List ab) (h1:Heap),h'=h1.lay [] h1.low∧Ext h h1∧(n=l.length - a∧b=a+2*w∧a % (2*w)=0∧a≤l.length∧l2.Perm l∧eV l l2∧EV l2 w l.length a∧Holds h1 A (.row (aO l2) 34 false))∧∃ J:Nat→Value,e=(.slice (some ⟨A,0,none⟩) l.length c::.int .i64 l.length::.func (.func 108) ⟨[]⟩ ⟨[]⟩::jr J 3 3 (.int .i64 w::.int .i64 a::.int .i64 b::jr J 9 54 ([])))):=⟨_,rfl⟩
 refine dj I3 _ (by rw [mF];exact ⟨0,2*w,l1,_,rfl,z,⟨rfl,by omega,Nat.zero_mod _,by omega,hp,ez,zuM u9,q⟩,aE (by kernel_rfl)⟩) ?_
 intro n e h' aL
 rw [mF] at aL
 obtain ⟨a,b,l2,yj,rfl,z,hinv,J,rfl⟩:=aL
 clear q u9 hp ez
 obtain ⟨rfl,hb,n9,han,hp,ez,Nz,q⟩:=hinv
 have hU:=hp.length_eq
 have N0:=Ej aR hp
 have X5:IntKind.i64.wrap ((a:Int)+(w:Int))=((a+w:Nat):Int):=by rw [wrap_i64 (by omega) (by omega)];omega
 simp only [syms,aa,seval,gq]
 refine bt (fun hle=>?_) (fun hle=>?_)
 ·have hbw:IntKind.i64.wrap ((b:Int)+((2*w:Nat):Int))=((b+2*w:Nat):Int):=by rw [wrap_i64 (by omega) (by omega)];omega
  have xd:=znu Nz (by omega) n9 (by omega)
  rw [show min (a+2*w) l.length=b by omega] at xd
  repeat' (simp only [syms,aa,seval,gq,X5])
  have key:=fun K hk=>Ck l.length l2 A c a (a+w) b h (yj.lay [] yj.low) (z.aw _ _ (by omega)) hA (q.on _ _) (by omega) (by omega) (by omega) (by omega) (by omega) N0 xd.1 xd.2 K hk
  simp only [hU] at key
  refine key _ (fun h' l' x q' wW jH=>?_)
  replace z:=x
  rw [ao h']
  repeat' (simp only [syms,aa,seval,gq,jX,Xv,hbw])
  have qx:=zrn (l':=l') Nz (by omega) n9 (by rw [show min (a+2*w) l.length=b by omega];exact jH) (by rw [show min (a+2*w) l.length=b by omega];exact wW)
  rw [show min (a+2*w) l.length=b by omega] at qx
  (rw [mF];with_reducible refine cB (m:=_) ?_ ⟨b,b+2*w,l',_,rfl,z,⟨rfl,by omega,by rw [hb,Nat.add_mod_right];exact n9,by omega,wW.perm.trans hp,ez.trans wW.xK,qx,q'⟩,aE (by kernel_rfl)⟩;omega)
 have re:IntKind.i64.wrap ((w:Int)*(2:Int))=((2*w:Nat):Int):=by rw [wrap_i64 (by omega) (by omega)];omega
 repeat' (first|simp only [syms,aa,seval,gq,X5]|((with_reducible apply bt) <;> intro _))
 ·have xd:=znu Nz (by omega) n9 (by omega)
  rw [show min (a+2*w) l.length=l.length by omega] at xd
  have key:=fun K hk=>Ck l.length l2 A c a (a+w) l.length h (yj.lay [] yj.low) (z.aw _ _ (by omega)) hA (q.on _ _) (by omega) (by omega) (by omega) (by omega) (by omega) N0 xd.1 xd.2 K hk
  simp only [hU] at key
  refine key _ (fun h' l' x q' wW jH=>?_)
  replace z:=x
  rw [ao h']
  repeat' (simp only [syms,aa,seval,gq,re,Xv])
  have qx:=zrn (l':=l') Nz (by omega) n9 (by rw [show min (a+2*w) l.length=l.length by omega];exact jH) (by rw [show min (a+2*w) l.length=l.length by omega];exact wW)
  rw [show min (a+2*w) l.length=l.length by omega] at qx
  (rw [fM];with_reducible refine cB (m:=_) ?_ ⟨2*w,l',_,rfl,z,⟨rfl,by omega,by omega,wW.perm.trans hp,ez.trans wW.xK,zFF qx (by omega),q'⟩,aE (by kernel_rfl)⟩;omega)
 ·repeat' ( simp only [syms,aa,seval,gq,re,Xv])
  (rw [fM];with_reducible refine cB (m:=_) ?_ ⟨2*w,l2,_,rfl,z,⟨rfl,by omega,by omega,hp,ez,zFG Nz (by omega) n9 (by omega),q⟩,aE (by kernel_rfl)⟩;omega)
theorem zmB (l:List ab) (A c:Nat) (h hs:Heap) (z:Ext h hs) (hA:h.size≤A) (q:Holds hs A (.row (aO l) 34 false)) (hn:l.length≤100000) (aR:∀ x∈l,x.aT=true) (K:Value→Heap→Prop)
 (hk:∀ h' l',Ext h h'→Holds h' A (.row (aO l') 34 false)→l'.Perm l→eV l l'→gY l' 0 l.length→K undef h'):Ok Tryz.prog ae ov 107 [.slice (some ⟨A,0,none⟩) l.length c,.func (.func 108) ⟨[]⟩ ⟨[]⟩] hs K:=by
 rw [ao hs]
 refine Ok.aH rfl zo4 (br EX) rfl (m:=7) rfl ?_
 repeat' (simp only [syms,aa,seval,oK])
 refine zv8 l A c h (hs.lay [] hs.low) (z.aw _ _ (by omega)) hA (q.on _ _) hn aR _ (fun h' l' x q' mP ue jH=>?_)
 rw [ao h']
 repeat' (simp only [syms,aa,seval,oK])
 exact hk _ _ (x.aw _ _ (by omega)) (q'.on _ _) mP ue jH
theorem zzl {h:Heap} {v:Value} {l:List ab} (f:Sl aJ.atom h v l):∃ b:Bool,cw Tryz.prog ae .eql 44 v (.slice none 0 0)=some (.bool b)∧(b=true→l=[]):=by
 rcases f with ⟨rfl,rfl⟩|⟨A,o,c,row,u,ro,rfl,_⟩
 ·exact ⟨true,by kernel_rfl,fun _=>rfl⟩
 ·exact ⟨false,by kernel_rfl,nofun⟩
theorem zon (l:List ab) (v:Value) (h:Heap) (hl:Sl aJ.atom h v l) (hs:l.length≤100000) (K:Value→Heap→Prop)
 (hk:∀ h' w,Ext h h'→km h h' 34 w l→K w h'):Ok Tryz.prog ae ov 65 [v] h K:=by
 rw [ao h]
 obtain ⟨b,hb,gL⟩:=zzl hl
 refine Ok.aH rfl zr5 (br Yr) rfl (m:=7) rfl ?_
 simp only [syms,aa,seval,Dq,hb]
 cases b
 ·simp only [syms,aa,seval,Dq,lG,vL]
  obtain ⟨news,hs,mR⟩:=tk (A:=h.size+1) (r:=aJ.atom) (by decide) (hl.lay [.row [] 34 false] h.low) (fun cs y hr=>hr)
  have f:Ow aJ.atom h (h.lay [.row [] 34 false] h.low) 34 (h.size+1) (.slice (some ⟨h.size+0,0,none⟩) 0 0) [] :=
   .inl ⟨by omega,rfl,.inr ⟨h.size+0,0,rfl,by omega,by rw [bm];simp,[],34,false,by rw [iR];rfl⟩⟩
  obtain ⟨w,h',A',e1,e2,e3,e4,e5⟩:=zb (t:=44) bL se rfl (by decide) (by rw [bm];omega) f hs mR (by simp only [List.length_nil];omega) (by simp only [List.length_nil];omega)
  rw [e1]
  simp only [syms,aa,seval,Dq]
  exact hk _ _ ((Ext.refl h).cM e3 (by omega) (by omega)) (Xe (by simpa using e2))
 ·simp only [syms,aa,seval,Dq]
  rw [gL rfl] at hk
  exact hk _ _ ((Ext.refl h).aw _ _ (by omega)) (.inl ⟨rfl,su.nil⟩)
theorem zv7 (a b:ab) (ha:a.aT=true) (hb:b.aT=true) (h:Heap) (K:Value→Heap→Prop) (hk:∀ h',Ext h h'→K (.bool (aQ a b == 0)) h'):Ok Tryz.prog ae ov 110 [a.val,b.val] h K:=by
 rw [ao h]
 have z:=Ext.refl h
 refine Ok.aH rfl zwQ (br KH) rfl (m:=7) rfl ?_
 repeat' (simp only [syms,aa,seval,zr,ec,↓eM,eh,dC])
 refine EI a b ha hb _ _ (fun h' x=>?_)
 (replace z:=z.an x (by omega);rw [ao h'])
 simp only [syms,aa,seval,zr]
 refine nX (fun hc=>?_) (fun hc=>?_)
 ·repeat' ( simp only [syms,aa,seval,zr])
  rw [show (aQ a b == 0)=true by rw [hc];rfl] at hk
  exact hk _ (z.aw _ _ (by omega))
 ·repeat' ( simp only [syms,aa,seval,zr])
  rw [show (aQ a b == 0)=false by simpa using hc] at hk
  exact hk _ (z.aw _ _ (by omega))
theorem ztb (l:List ab) (A:Nat) (h hs:Heap) (z:Ext h hs) (hA:h.size≤A) (q:Holds hs A (.row (aO l) 34 false)) (hn:l.length≤100000) (aR:∀ x∈l,x.aT=true) (K:Value→Heap→Prop)
 (hk:∀ h' v,Ext h h'→dw h h' 34 v (oE l l.length)→K v h'):Ok Tryz.prog ae ov 109 [.slice (some ⟨A,0,none⟩) l.length (G*11+l.length),.func (.func 110) ⟨[]⟩ ⟨[]⟩] hs K:=by
 rw [ao hs]
 have arn:∀ (x:Value) (hh:Heap) (K2:Value→Heap→Prop),aW (some (.slice (some ⟨A,0,none⟩) l.length (G*11+l.length))) hh K2=K2 (.slice (some ⟨A,0,none⟩) l.length (G*11+l.length)) hh:=fun _ _ _=>rfl
 obtain ⟨C,hC⟩:∃ C,C=G*11+l.length:=⟨_,rfl⟩
 rw [← hC]
 refine Ok.aH rfl zo5 (br EY) rfl (m:=64) rfl ?_
 repeat' (first|simp only [syms,aa,seval,eI]|((with_reducible apply bt) <;> intro _))
 ·have e:=zq6 (l:=l) (by omega)
  rw [e] at hk
  exact hk _ _ (z.aw _ _ (by omega)) (RV (q.on _ _) hA (by omega) hC)
 have hu1:oE l 1=l.take 1:=by
  rw [Ua (m:=0) (by omega)]
  rfl
 obtain ⟨I1,aS⟩:∃ I:Nat→Env→Heap→Prop,I=(fun n e h'=>∃ (k:Nat) (h1:Heap),h'=h1.lay [] h1.low∧Ext h h1∧(n=l.length - k∧1≤k∧k≤l.length∧oE l k=l.take k∧Holds h1 A (.row (aO l) 34 false))∧∃ J:Nat→Value,e=(.slice (some ⟨A,0,none⟩) l.length C::.func (.func 110) ⟨[]⟩ ⟨[]⟩::jr J 2 3 (.int .i64 k::jr J 6 60 ([])))):=⟨_,rfl⟩
 refine dj I1 _ (by rw [aS];exact ⟨1,_,rfl,z,⟨rfl,by omega,by omega,hu1,q⟩,aE (by kernel_rfl)⟩) ?_
 intro n e h' aL
 rw [aS] at aL
 obtain ⟨k,bH,rfl,z,hinv,J,rfl⟩:=aL
 clear q
 obtain ⟨rfl,wP,DK,hu,q⟩:=hinv
 have pP:=eb k (by omega)
 have adi:IntKind.i64.wrap ((k:Int) - 1)=((k - 1:Nat):Int):=by rw [wrap_i64 (by omega) (by omega)];omega
 simp only [syms,aa,seval,eI]
 refine bt (fun i6=>?_) (fun i6=>?_)
 rotate_left
 ·repeat' ( simp only [syms,aa,seval,eI])
  have kB:k=l.length:=by omega
  subst kB
  rw [hu,List.take_length] at hk
  exact hk _ _ (z.aw _ _ (by omega)) (RV (q.on _ _) hA (by omega) hC)
 have aL:(0:Int)≤(k:Int)∧(k:Int) < (l.length:Int):=by omega
 have gu:(0:Int)≤((k - 1:Nat):Int)∧((k - 1:Nat):Int) < (l.length:Int):=by omega
 have kf:=fun (bs:List bh) (w:Nat)=>nR (bs:=bs) (w:=w) q (jn (l:=l) (i:=k) (by omega))
 have fD:=fun (bs:List bh) (w:Nat)=>nR (bs:=bs) (w:=w) q (jn (l:=l) (i:=k - 1) (by omega))
 simp only [syms,aa,seval,eI]
 refine (dH (by simp only [eI])) (z.aw _ _ (by omega)) ?_
 repeat' (simp only [syms,aa,seval,eI,adi,aL,gu,and_self,if_true,↓kf,↓fD,dC])
 refine zv7 _ _ (rm aR (by omega)) (rm aR (by omega)) _ _ (fun h' x=>?_)
 (((with_reducible refine dv ?_ ?_ ?_);(· exact (by (simp only [dx]);have:=z.size;omega));(· exact x));replace z:=z.an x (by omega);(replace q:=q.over x);rw [ao h'])
 cases hc:(aQ (l.getD k aj) (l.getD (k - 1) aj) == 0)
 ·repeat' (first|simp only [syms,aa,seval,eI]|((with_reducible refine ⟨z.cN.lay _ _,?_⟩);(intro _ h' zz x _);( simp only [el,List.append_nil] at x );( replace q:=q.over x );(replace z:=zz);(clear zz);rw [ao h']))
  rw [pP]
  (rw [aS];with_reducible refine cB (m:=_) ?_ ⟨k+1,_,rfl,z,⟨rfl,by omega,by omega,zt6 (by omega) (by omega) hu (by simpa using hc),q⟩,aE (by kernel_rfl)⟩;omega)
 have hc:aQ (l.getD k aj) (l.getD (k - 1) aj)=0:=by simpa using hc
 repeat' (first|simp only [syms,aa,seval,eI]|((with_reducible refine ⟨z.cN.lay _ _,?_⟩);(intro _ h' zz x _);(simp only [el,List.append_nil] at x);(replace q:=q.over x);(replace z:=zz);(clear zz);rw [ao h']))
 rw [hC,TZ bL bO (by omega) (Nat.le_refl _) (by omega),← hC]
 repeat' (simp only [syms,aa,seval,eI])
 obtain ⟨C2,hC2⟩:∃ C2,C2=G*11+(l.length - k):=⟨_,rfl⟩
 rw [← hC2]
 obtain ⟨I2,fM⟩:∃ I:Nat→Env→Heap→Prop,I=(fun n e h'=>∃ (b i:Nat) (cur:List ab) (h1:Heap),h'=h1.lay [] h1.low∧Ext h h1∧(n=l.length - (k+b)∧1≤b∧k+b≤l.length∧cur.length=l.length∧i+1≤k+b∧cur.take i=oE l (k+b)∧(∀ p,k+b≤p+1→cur.getD p aj=l.getD p aj)∧Holds h1 A (.row (aO cur) 34 false))∧∃ J:Nat→Value,e=(.slice (some ⟨A,0,none⟩) l.length C::.func (.func 110) ⟨[]⟩ ⟨[]⟩::jr J 2 3 (.int .i64 i::.slice (some ⟨A,k*11,none⟩) (l.length - k) C2::.int .i64 b::jr J 8 58 ([])))):=⟨_,rfl⟩
 refine dj I2 _ (by rw [fM];exact ⟨1,k,l,_,rfl,z,⟨rfl,by omega,by omega,rfl,by omega,by rw [zr9 (by omega) hc];exact hu.symm,fun _ _=>rfl,q⟩,aE (by kernel_rfl)⟩) ?_
 intro n e h' aL
 rw [fM] at aL
 obtain ⟨b,i,cur,yi,rfl,z,hinv,J,rfl⟩:=aL
 clear q
 obtain ⟨rfl,DB,sG,ky,tS,Te,DD,q⟩:=hinv
 have Az:=eb b (by omega)
 have adf:IntKind.i64.wrap ((b:Int) - 1)=((b - 1:Nat):Int):=by rw [wrap_i64 (by omega) (by omega)];omega
 have gl:=eb i (by omega)
 simp only [syms,aa,seval,eI]
 refine bt (fun i7=>?_) (fun i7=>?_)
 rotate_left
 ·have Yx:k+b=l.length:=by omega
  have iK:i≤l.length:=by omega
  simp only [syms,aa,seval,eI]
  rw [hC,TZ bL bO iK (Nat.le_refl _) (by omega),← hC]
  obtain ⟨C3,hC3⟩:∃ C3,C3=G*11+(l.length - i):=⟨_,rfl⟩
  rw [← hC3]
  simp only [syms,aa,seval,eI,zyp]
  refine zsv q bL se (by omega) (by omega) (fun h3 q3 c3=>?_)
  replace z:=z.cM c3 hA (by omega)
  rw [ao h3]
  clear q
  simp only [syms,aa,seval,eI]
  rw [hC,zwb bL bO iK (Nat.le_refl _) (by omega),← hC]
  repeat' (simp only [syms,aa,seval,eI])
  rw [Te,Yx] at q3
  have hlen:i=(oE l l.length).length:=by rw [← Yx,← Te,List.length_take];omega
  have NV:(oE l l.length++List.replicate (cur.length - i) aj).length=l.length:=by rw [List.length_append,List.length_replicate];omega
  exact hk _ _ (z.aw _ _ (by omega)) (Ur (q3.on _ _) hA (by omega) hlen (by rw [NV];exact hC))
 have aL:(0:Int)≤(b:Int)∧(b:Int) < ((l.length - k:Nat):Int):=by omega
 have gu:(0:Int)≤((b - 1:Nat):Int)∧((b - 1:Nat):Int) < ((l.length - k:Nat):Int):=by omega
 have kf:=fun (bs:List bh) (w:Nat)=>nR (bs:=bs) (w:=w) q (jn (l:=cur) (i:=k+b) (by omega))
 have fD:=fun (bs:List bh) (w:Nat)=>nR (bs:=bs) (w:=w) q (jn (l:=cur) (i:=k+(b - 1)) (by omega))
 rw [Nat.add_mul] at kf fD
 rw [DD _ (by omega)] at kf fD
 simp only [syms,aa,seval,eI]
 refine (dH (by simp only [eI])) (z.aw _ _ (by omega)) ?_
 repeat' (simp only [syms,aa,seval,eI,adf,aL,gu,and_self,if_true,↓kf,↓fD,dC])
 refine zv7 _ _ (rm aR (by omega)) (rm aR (by omega)) _ _ (fun h' x=>?_)
 (((with_reducible refine dv ?_ ?_ ?_);(· exact (by (simp only [dx]);have:=z.size;omega));(· exact x));replace z:=z.an x (by omega);(replace q:=q.over x);rw [ao h'])
 cases pK:(aQ (l.getD (k+b) aj) (l.getD (k+(b - 1)) aj) == 0)
 rotate_left
 ·have pK:aQ (l.getD (k+b) aj) (l.getD (k+b - 1) aj)=0:=by rw [show k+b - 1=k+(b - 1) by omega];simpa using pK
  repeat' (first|simp only [syms,aa,seval,eI]|((with_reducible_and_instances apply b8);(· rfl))|((with_reducible refine ⟨z.cN.lay _ _,?_⟩);(intro _ h' zz x _);(simp only [el,List.append_nil] at x);(replace q:=q.over x);(replace z:=zz);(clear zz);rw [ao h']))
  rw [Az]
  (rw [fM];with_reducible refine cB (m:=_) ?_ ⟨b+1,i,cur,_,rfl,z,⟨rfl,by omega,by omega,ky,by omega,by rw [Te,show k+(b+1)=k+b+1 by omega,zr9 (by omega) pK],fun p hp=>DD p (by omega),q⟩,aE (by kernel_rfl)⟩;omega)
 have pK:aQ (l.getD (k+b) aj) (l.getD (k+b - 1) aj)≠0:=by rw [show k+b - 1=k+(b - 1) by omega];simpa using pK
 repeat' (first|simp only [syms,aa,seval,eI]|((with_reducible_and_instances apply b8);(· rfl))|((with_reducible refine ⟨z.cN.lay _ _,?_⟩);(intro _ h' zz x _);(simp only [el,List.append_nil] at x);(replace q:=q.over x);(replace z:=zz);(clear zz);rw [ao h']))
 have kf:=fun (bs:List bh) (w:Nat)=>nR (bs:=bs) (w:=w) q (jn (l:=cur) (i:=k+b) (by omega))
 rw [Nat.add_mul] at kf
 rw [DD _ (by omega)] at kf
 have acp:(0:Int)≤(i:Int)∧(i:Int) < (l.length:Int):=by omega
 repeat' (simp only [syms,aa,seval,eI,aL,acp,and_self,if_true,↓kf,dC])
 have hz:=z.size
 refine CE q bO (by omega) (fun h3 q3 c3=>?_)
 replace z:=z.cM c3 hA (by omega)
 rw [ao h3]
 clear q kf
 repeat' (simp only [syms,aa,seval,eI])
 rw [gl,Az]
 have abU:∀ p,k+(b+1)≤p+1→(cur.set i (l.getD (k+b) aj)).getD p aj=l.getD p aj:=by
  intro p hp
  have aP:i≠p:=by omega
  rw [zlM aP]
  exact DD p (by omega)
 (rw [fM];with_reducible refine cB (m:=_) ?_ ⟨b+1,i+1,cur.set i (l.getD (k+b) aj),_,rfl,z,⟨rfl,by omega,by omega,by rw [List.length_set];exact ky,by omega,by rw [zEa (by omega),Te,show k+(b+1)=k+b+1 by omega,zyh pK],abU,q3⟩,aE (by kernel_rfl)⟩;omega)
theorem zto (v:Value) (h:Heap) (hl:Sl aJ.atom h v []) (K:Value→Heap→Prop) (hk:∀ h',Ext h h'→K undef h'):Ok Tryz.prog ae ov 107 [v,.func (.func 108) ⟨[]⟩ ⟨[]⟩] h K:=by
 rw [ao h]
 have z:=Ext.refl h
 have iq:=fun (hh:Heap)=>hl.bc bL hh
 have bx:=bY v
 simp only [List.length_nil] at iq
 have pe:((0:Nat):Int)=0:=rfl
 refine Ok.aH rfl zo4 (br EX) rfl (m:=7) rfl ?_
 repeat' (simp only [syms,aa,seval,gq,oK,eI,fK,iq,bx,pe])
 refine Ok.aH rfl zo7 (br E1) rfl (m:=60) rfl ?_
 simp only [syms,aa,seval,gq,oK,eI,fK,iq,bx,pe]
 refine RN ?_
 simp only [syms,aa,seval,gq,oK,eI,fK,iq,bx,pe,decide_false,WJ]
 refine Ok.aH rfl zpa (br E4) rfl (m:=49) rfl ?_
 simp only [syms,aa,seval,gq,oK,eI,fK,iq,bx,pe]
 refine RN ?_
 simp only [syms,aa,seval,gq,oK,eI,fK,iq,bx,pe,decide_false,WJ]
 refine RN ?_
 simp only [syms,aa,seval,gq,oK,eI,fK,iq,bx,pe,decide_false,WJ]
 exact hk _ (z.aw _ _ (by omega))
theorem zmw (v:Value) (h:Heap) (hl:Sl aJ.atom h v []) (f:Value) (K:Value→Heap→Prop) (hk:∀ h',Ext h h'→K v h'):Ok Tryz.prog ae ov 109 [v,f] h K:=by
 rw [ao h]
 have z:=Ext.refl h
 have iq:=fun (hh:Heap)=>hl.bc bL hh
 have bx:=bY v
 simp only [List.length_nil] at iq
 have pe:((0:Nat):Int)=0:=rfl
 refine Ok.aH rfl zo5 (br EY) rfl (m:=64) rfl ?_
 simp only [syms,aa,seval,gq,oK,eI,fK,iq,bx,pe,decide_true,zlc]
 exact hk _ (z.aw _ _ (by omega))
theorem zow (l:List ab) (v:Value) (h:Heap) (hl:Sl aJ.atom h v l) (hn:l.length≤100000) (aR:∀ x∈l,x.aT=true) (K:Value→Heap→Prop)
 (hk:∀ h' w,Ext h h'→dw h h' 34 w (eg l)→K w h'):Ok Tryz.prog ae ov 66 [v] h K:=by
 rw [ao h]
 have z:=Ext.refl h
 refine Ok.aH rfl zDO (br VX) rfl (m:=9) rfl ?_
 repeat' (simp only [syms,aa,seval,Fx])
 refine zon l v _ (hl.lay _ _) (by omega) _ (fun h' w x ho=>?_)
 rcases ho with ⟨rfl,ho⟩|⟨A,rfl,q,hA,aP⟩
 ·have bx:=bY w
  (replace z:=z.an x (by omega);rw [ao h'])
  repeat' (simp only [syms,aa,seval,Fx,bx])
  refine zto w _ (ho.lay _ _).sl _ (fun h' x=>?_)
  replace ho:=ho.over x
  (replace z:=z.an x (by omega);rw [ao h'])
  repeat' (simp only [syms,aa,seval,Fx,bx])
  refine zmw w _ (ho.lay _ _).sl _ _ (fun h' x=>?_)
  replace ho:=ho.over x
  (replace z:=z.an x (by omega);rw [ao h'])
  repeat' (simp only [syms,aa,seval,Fx,bx])
  exact hk _ _ (z.aw _ _ (by omega)) (.inl ⟨rfl,ho.lay _ _⟩)
 ·(replace z:=z.an x (by omega);rw [ao h'])
  repeat' (simp only [syms,aa,seval,Fx])
  refine zmB l A (G*11+l.length) h _ (z.aw _ _ (by omega)) hA (q.on _ _) hn aR _ (fun h' l' x q' hp ez ud=>?_)
  replace z:=x
  rw [ao h']
  repeat' (simp only [syms,aa,seval,Fx])
  have key:=fun K hk=>ztb l' A h (h'.lay [] h'.low) (z.aw _ _ (by omega)) hA (q'.on _ _) (by rw [hp.length_eq];omega) (Ej aR hp) K hk
  rw [zt7 hp ez ud,hp.length_eq] at key
  refine key _ (fun h' w x ho=>?_)
  replace z:=x
  have bx:=bY w
  rw [ao h']
  repeat' (simp only [syms,aa,seval,Fx,bx])
  exact hk _ _ (z.aw _ _ (by omega)) (ho.lay _ _)
theorem zNA (l:List ab) (v:Value) (h:Heap) (hl:Sl aJ.atom h v l) (hn:l.length≤1000) (aR:∀ x∈l,x.aT=true) (K:Value→Heap→Prop)
 (hk:∀ h',Ext h h'→K (.bool (I7 l)) h'):Ok Tryz.prog ae ov 116 [v] h K:=by
 rw [ao h]
 have z:=Ext.refl h
 have iq:=fun (hh:Heap)=>hl.bc bL hh
 refine Ok.aH rfl zwW (br KN) rfl (m:=24) rfl ?_
 simp only [syms,aa,seval,lK,iq]
 obtain ⟨I1,aS⟩:∃ I:Nat→Env→Heap→Prop,I=(fun n e h'=>∃ (i:Nat) (h1:Heap),h'=h1.lay [] h1.low∧Ext h h1∧(n=l.length - i∧i≤l.length∧(∀ k,0 < k→k < i→aQ (l.getD (k - 1) aj) (l.getD k aj) < 0))∧∃ J:Nat→Value,e=(v::jr J 1 4 (.int .i64 l.length::.int .i64 i::jr J 7 18 ([])))):=⟨_,rfl⟩
 refine dj I1 _ (by rw [aS];exact ⟨0,_,rfl,z,⟨rfl,by omega,fun k _ g=>by omega⟩,aE (by kernel_rfl)⟩) ?_
 intro n e h' aL
 rw [aS] at aL
 obtain ⟨i,bH,rfl,z,hinv,J,rfl⟩:=aL
 obtain ⟨rfl,aL,mh⟩:=hinv
 have gl:=eb i (by omega)
 have AA:0 < i→IntKind.i64.wrap ((i:Int) - 1)=((i - 1:Nat):Int):=fun _=>by rw [wrap_i64 (by omega) (by omega)];omega
 simp only [syms,aa,seval,lK]
 refine bt (fun i6=>?_) (fun i6=>?_)
 rotate_left
 ·have hi:i=l.length:=by omega
  subst hi
  rw [pj.2 (ij.2 mh)] at hk
  repeat' (simp only [syms,aa,seval,lK])
  exact hk _ (z.aw _ _ (by omega))
 have hr:l[(i:Int).toNat]? = some (l.getD i aj):=jn (by omega)
 have As:l[((i - 1:Nat):Int).toNat]? = some (l.getD (i - 1) aj):=jn (by omega)
 simp only [syms,aa,seval,lK]
 refine (dH (by simp only [lK])) (z.aw _ _ (by omega)) ?_
 simp only [syms,aa,seval,lK]
 refine bt (fun kC=>?_) (fun kC=>?_)
 rotate_left
 ·have rP:i=0:=by omega
  subst rP
  repeat' (first|simp only [syms,aa,seval,lK]|((with_reducible refine ⟨z.cN.lay _ _,?_⟩);(intro _ h' zz x _);(simp only [el,List.append_nil] at x);(replace z:=zz);(clear zz);rw [ao h']))
  (rw [aS];with_reducible refine cB (m:=_) ?_ ⟨1,_,rfl,z,⟨rfl,by omega,fun k _ g=>by omega⟩,aE (by kernel_rfl)⟩;omega)
 have AA:=AA (by omega)
 simp only [syms,aa,seval,lK,AA]
 repeat' ((first|with_reducible_and_instances refine pT (hl.mono z.inc) bL bO (by omega) As (fun p hp=>?_)|with_reducible_and_instances refine pT (hl.mono z.inc) bL bO (by omega) hr (fun p hp=>?_)|with_reducible_and_instances refine mW hp fx bO ?_) <;> simp only [syms,aa,seval,lK,AA])
 refine EI _ _ (rm aR (by omega)) (rm aR (by omega)) _ _ (fun h' x=>?_)
 (((with_reducible refine dv ?_ ?_ ?_);(· exact (by (simp only [dx]);have:=z.size;omega));(· exact x));replace z:=z.an x (by omega);rw [ao h'])
 simp only [syms,aa,seval,lK]
 refine bt (fun hc=>?_) (fun hc=>?_)
 ·rw [zHP (fun g=>by have:=ij.1 g i (by omega) (by omega);omega)] at hk
  repeat' (first|simp only [syms,aa,seval,lK]|((with_reducible refine ⟨z.cN.lay _ _,?_⟩);(intro _ h' zz x _);(simp only [el,List.append_nil] at x);(replace z:=zz);(clear zz);rw [ao h']))
  exact hk _ (z.aw _ _ (by omega))
 ·repeat' (first|simp only [syms,aa,seval,lK]|((with_reducible refine ⟨z.cN.lay _ _,?_⟩);(intro _ h' zz x _);( simp only [el,List.append_nil] at x );(replace z:=zz);(clear zz);rw [ao h']))
  rw [gl]
  (rw [aS];with_reducible refine cB (m:=_) ?_ ⟨i+1,_,rfl,z,⟨rfl,by omega,fun k g1 g2=>by
   rcases Nat.lt_or_ge k i with e|e
   ·exact mh k g1 e
   ·have e:k=i:=by omega
    subst e
    omega⟩,aE (by kernel_rfl)⟩;omega)
theorem zvQ (l:List ab) (v:Value) (h:Heap) (hl:Sl aJ.atom h v l) (hn:l.length≤900) (aR:∀ x∈l,x.aT=true) (K:Value→Heap→Prop)
 (hk:∀ h' w,Ext h h'→dw h h' 34 w (eg l)→K w h'):Ok Tryz.prog ae ov 69 [v] h K:=by
 rw [ao h]
 have z:=Ext.refl h
 refine Ok.aH rfl zDR (br V0) rfl (m:=8) rfl ?_
 repeat' (simp only [syms,aa,seval,MH])
 refine zNA l v _ (hl.lay _ _) (by omega) aR _ (fun h' x=>?_)
 (replace z:=z.an x (by omega);rw [ao h'])
 cases hi:I7 l
 ·repeat' ( simp only [syms,aa,seval,MH])
  refine zow l v _ ((hl.mono z.inc).lay _ _) (by omega) aR _ (fun h' w x ho=>?_)
  have dz:=z.size
  replace ho:=ho.down (h0:=h) (by rw [bm];omega)
  (replace z:=z.an x (by omega);rw [ao h'])
  have bx:=bY w
  repeat' (simp only [syms,aa,seval,MH,bx])
  exact hk _ _ (z.aw _ _ (by omega)) (ho.lay _ _)
 ·repeat' ( simp only [syms,aa,seval,MH])
  refine zon l v _ ((hl.mono z.inc).lay _ _) (by omega) _ (fun h' w x ho=>?_)
  have dz:=z.size
  replace ho:=(ho.own (by omega)).down (h0:=h) (by rw [bm];omega)
  rw [← Xh (pj.1 hi)] at ho
  (replace z:=z.an x (by omega);rw [ao h'])
  have bx:=bY w
  repeat' (simp only [syms,aa,seval,MH,bx])
  exact hk _ _ (z.aw _ _ (by omega)) (ho.lay _ _)
end Go.Proofs.YtkgojconmeeegaaGreatDoor

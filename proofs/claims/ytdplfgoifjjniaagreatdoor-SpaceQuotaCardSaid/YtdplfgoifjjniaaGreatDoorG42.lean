/- Walks: sorting in place: Am.one block Written out by fill2.py. No condition. -/
import Derived.Test.YtdplfgoifjjniaaGreatDoorG34
import Derived.Test.YtdplfgoifjjniaaGreatDoorG25
set_option linter.unusedSimpArgs false
set_option linter.unusedVariables false
set_option maxRecDepth 100000
set_option maxHeartbeats 0
namespace Go.Proofs.YtdplfgoifjjniaaGreatDoor
open Go.Am
theorem zhv (l:List AtomD) (A c a b:Nat) (h hs:Heap) (z:Ext h hs) (hA:h.size≤A) (q:Holds hs A (.row (rowA l) 42 false)) (hab:a≤b) (hb:b≤l.length) (hn:l.length≤100000) (hlt:∀ x∈l,x.light=true) (K:Value→Heap→Prop)
 (hk:∀ h' l',Ext h h'→Holds h' A (.row (rowA l') 42 false)→l'.Perm l→Stab l l'→zaG l' a b→zfV l l' a b→K undef h'):Ok Tryz.prog tab ov 152 [.slice (some ⟨A,0,none⟩) l.length c,.int .i64 a,.int .i64 b,.func (.func 95) ⟨[]⟩ ⟨[]⟩] hs K:=by
 rw [zaa hs]
 have hw0:=zcl a (by omega)
 refine Ok.into rfl znf (zaw N152) rfl (m:=49) rfl ?_
 simp -implicitDefEqProofs only [syms,symx,seval,c152]
 rw [hw0]
 obtain ⟨I1,hI1⟩:∃ I:Nat→Env→Heap→Prop,I=(fun n e h'=>∃ (i:Nat) (l1:List AtomD) (h1:Heap),h'=h1.lay [] h1.low∧Ext h h1∧(n=b - i∧a < i∧(i≤b∨(i=a+1∧l1=l))∧l1.Perm l∧Stab l l1∧zaG l1 a i∧zfV l l1 a i∧Holds h1 A (.row (rowA l1) 42 false))∧∃ J:Nat→Value,e=(.slice (some ⟨A,0,none⟩) l.length c::.int .i64 a::.int .i64 b::.func (.func 95) ⟨[]⟩ ⟨[]⟩::jr J 4 4 (.int .i64 i::jr J 9 44 ([])))):=⟨_,rfl⟩
 refine zaE I1 _ (by rw [hI1];exact ⟨a+1,l,_,rfl,z,⟨rfl,by omega,.inr ⟨rfl,rfl⟩,List.Perm.refl _,Stab.refl _,fun k g1 g2=>by omega,fun k _=>rfl,q⟩,junk (by kernel_rfl)⟩) ?_
 intro n e h' hin
 rw [hI1] at hin
 obtain ⟨i,l1,h1',rfl,z,hinv,J,rfl⟩:=hin
 clear q
 obtain ⟨rfl,hai,hib,hp1,hst1,hso1,hsa1,q⟩:=hinv
 have hw:=zcl i (by omega)
 simp -implicitDefEqProofs only [syms,symx,seval,c152]
 refine zaD (fun hlt1=>?_) (fun hlt1=>?_)
 rotate_left
 ·simp -implicitDefEqProofs only [syms,symx,seval,c152,zAt]
  repeat' ((first|((with_reducible first|apply zaD|apply zeR|apply zdS|apply zhq|apply zg6) <;> intro _)|((with_reducible refine ⟨z.grw.lay _ _,?_⟩);(intro _ h' zz x _);(first|simp only [zan,List.append_nil] at x|skip);(replace z:=zz);(clear zz);rw [zaa h'])) <;> simp -implicitDefEqProofs only [syms,symx,seval,c152])
  refine hk _ _ (z.upW _ _ (by omega)) (q.on _ _) hp1 hst1 (fun k g1 g2=>hso1 k g1 (by omega)) (fun k g=>?_)
  rcases hib with hib|⟨_,rfl⟩
  ·exact hsa1 k (by omega)
  ·rfl
 have hl1:=hp1.length_eq
 have hlt1':=zcp hlt hp1
 repeat' (simp -implicitDefEqProofs only [syms,symx,seval,c152])
 obtain ⟨I2,hI2⟩:∃ I:Nat→Env→Heap→Prop,I=(fun n e h'=>∃ (j:Nat) (l2:List AtomD) (h1:Heap),h'=h1.lay [] h1.low∧Ext h h1∧(n=j - a∧a≤j∧j≤i∧l2.Perm l∧Stab l l2∧zrz l2 a i j∧zfV l l2 a (i+1)∧Holds h1 A (.row (rowA l2) 42 false))∧∃ J:Nat→Value,e=(.slice (some ⟨A,0,none⟩) l.length c::.int .i64 a::.int .i64 b::.func (.func 95) ⟨[]⟩ ⟨[]⟩::jr J 4 4 (.int .i64 i::.int .i64 j::jr J 10 43 ([])))):=⟨_,rfl⟩
 refine zaE I2 _ (by rw [hI2];exact ⟨i,l1,_,rfl,z,⟨rfl,by omega,by omega,hp1,hst1,zoC hso1,fun k g=>hsa1 k (by omega),q⟩,junk (by kernel_rfl)⟩) ?_
 intro n e h' hin
 rw [hI2] at hin
 obtain ⟨j,l2,h2',rfl,z,hinv,J,rfl⟩:=hin
 clear q hp1 hst1 hso1 hsa1 hl1 hlt1'
 obtain ⟨rfl,haj,hji,hp2,hst2,hsf,hsa2,q⟩:=hinv
 have hl2:=hp2.length_eq
 have hlt2:=zcp hlt hp2
 simp -implicitDefEqProofs only [syms,symx,seval,c152]
 refine (zb9 (by simp only [c152])) (z.upW _ _ (by omega)) ?_
 simp -implicitDefEqProofs only [syms,symx,seval,c152]
 refine zaD (fun hgt=>?_) (fun hgt=>?_)
 rotate_left
 ·repeat' (first|simp -implicitDefEqProofs only [syms,symx,seval,c152]|((with_reducible refine ⟨z.grw.lay _ _,?_⟩);(intro _ h' zz x _);( simp only [zan,List.append_nil] at x );( replace q:=q.over x );(replace z:=zz);(clear zz);rw [zaa h']))
  rw [hw]
  (rw [hI1];with_reducible refine zae (m:=_) ?_ ⟨i+1,l2,_,rfl,z,⟨rfl,by omega,.inl (by omega),hp2,hst2,zmX hsf hji (fun g=>absurd g (by omega)),hsa2,q⟩,junk (by kernel_rfl)⟩;omega)
 have hwj:IntKind.i64.wrap ((j:Int) - 1)=((j - 1:Nat):Int):=by rw [wrap_i64 (by omega) (by omega)];omega
 have hin:(0:Int)≤(j:Int)∧(j:Int) < (l.length:Int):=by omega
 have hin1:(0:Int)≤((j - 1:Nat):Int)∧((j - 1:Nat):Int) < (l.length:Int):=by omega
 have hld:=fun (bs:List Blk) (w:Nat)=>zaQ (bs:=bs) (w:=w) q (zaT (l:=l2) (i:=j) (by omega))
 have hld1:=fun (bs:List Blk) (w:Nat)=>zaQ (bs:=bs) (w:=w) q (zaT (l:=l2) (i:=j - 1) (by omega))
 repeat' (simp -implicitDefEqProofs only [syms,symx,seval,c152,hwj,hin,hin1,and_self,if_true,↓hld,↓hld1,zal])
 refine zhu _ _ (za2 hlt2 (by omega)) (za2 hlt2 (by omega)) _ _ (fun h' x=>?_)
 (((with_reducible refine zah ?_ ?_ ?_);(· exact (by (simp only [lsz]);have:=z.size;omega));(· exact x));replace z:=z.overW x (by omega);(replace q:=q.over x);rw [zaa h'])
 simp -implicitDefEqProofs only [syms,symx,seval,c152]
 refine zaD (fun hc=>?_) (fun hc=>?_)
 rotate_left
 ·repeat' (first|simp -implicitDefEqProofs only [syms,symx,seval,c152]|((with_reducible refine ⟨z.grw.lay _ _,?_⟩);(intro _ h' zz x _);( simp only [zan,List.append_nil] at x );( replace q:=q.over x );(replace z:=zz);(clear zz);rw [zaa h']))
  rw [hw]
  (rw [hI1];with_reducible refine zae (m:=_) ?_ ⟨i+1,l2,_,rfl,z,⟨rfl,by omega,.inl (by omega),hp2,hst2,zmX hsf hji (fun _=>zgV hc),hsa2,q⟩,junk (by kernel_rfl)⟩;omega)
 repeat' (first|simp -implicitDefEqProofs only [syms,symx,seval,c152]|((with_reducible refine ⟨z.grw.lay _ _,?_⟩);(intro _ h' zz x _);(simp only [zan,List.append_nil] at x);(replace q:=q.over x);(replace z:=zz);(clear zz);rw [zaa h']))
 have hld:=fun (bs:List Blk) (w:Nat)=>zaQ (bs:=bs) (w:=w) q (zaT (l:=l2) (i:=j) (by omega))
 have hld1:=fun (bs:List Blk) (w:Nat)=>zaQ (bs:=bs) (w:=w) q (zaT (l:=l2) (i:=j - 1) (by omega))
 refine (zb9 (by simp only [c152])) (z.upW _ _ (by omega)) ?_
 repeat' (simp -implicitDefEqProofs only [syms,symx,seval,c152,hwj,hin,hin1,and_self,if_true,↓hld,↓hld1,zal])
 refine zb7 q sz42 (by omega) (fun h3 q3 c3=>?_)
 have hz:=z.size
 refine zaU (A:=A) (by kernel_rfl) (by rw [zad];omega) (by omega) (by simpa only [zan,zad,List.append_nil,List.length_cons,List.length_nil,Nat.add_zero] using c3) ?_
 replace z:=(z.upW [] (h'.size+0) (by omega)).step c3 hA
 rw [zaa h3]
 clear q hld hld1
 repeat' (simp -implicitDefEqProofs only [syms,symx,seval,c152,hwj,hin,hin1,and_self,if_true])
 refine zb7 q3 sz42 (by rw [List.length_set];omega) (fun h4 q4 c4=>?_)
 have hz:=z.size
 refine zaU (A:=A) (by kernel_rfl) (by rw [zad];omega) (by omega) (by simpa only [zan,zad,List.append_nil,List.length_cons,List.length_nil,Nat.add_zero] using c4) ?_
 replace z:=(z.upW [] (h3.size+0) (by omega)).step c4 hA
 rw [zaa h4]
 clear q3
 repeat' (first|simp -implicitDefEqProofs only [syms,symx,seval,c152,hwj]|((with_reducible refine ⟨z.grw.lay _ _,?_⟩);(intro _ h' zz x _);(simp only [zan,List.append_nil] at x);(replace q4:=q4.over x);(replace z:=zz);(clear zz);rw [zaa h']))
 replace q4:Holds _ A (.row (rowA (zcG l2 j (j - 1))) 42 false):=q4
 (rw [hI2];with_reducible refine zae (m:=_) ?_ ⟨j - 1,zcG l2 j (j - 1),_,rfl,z,⟨rfl,by omega,by omega,(zhh (by omega) (by omega)).trans hp2,hst2.trans (zm5 (by omega) (by omega) hc),zq2 hsf (by omega) hji (by omega) hc,zmV hsa2 (by omega) hji (by omega),q4⟩,junk (by kernel_rfl)⟩;omega)
theorem zfd (l:List AtomD) (A c a b w:Nat) (fv:Value) (h hs:Heap) (z:Ext h hs) (hA:h.size≤A) (q:Holds hs A (.row (rowA l) 42 false)) (hab:a+w≤b) (hb:b+w≤l.length) (hn:l.length≤100000) (K:Value→Heap→Prop)
 (hk:∀ h' l',Ext h h'→Holds h' A (.row (rowA l') 42 false)→l'.Perm l→zhk l l' a b w→K undef h'):Ok Tryz.prog tab ov 168 [.slice (some ⟨A,0,none⟩) l.length c,.int .i64 a,.int .i64 b,.int .i64 w,fv] hs K:=by
 rw [zaa hs]
 refine Ok.into rfl zue (zaw N168) rfl (m:=33) rfl ?_
 simp -implicitDefEqProofs only [syms,symx,seval,c168]
 obtain ⟨I1,hI1⟩:∃ I:Nat→Env→Heap→Prop,I=(fun n e h'=>∃ (i:Nat) (l1:List AtomD) (h1:Heap),h'=h1.lay [] h1.low∧Ext h h1∧(n=w - i∧i≤w∧l1.Perm l∧zhk l l1 a b i∧Holds h1 A (.row (rowA l1) 42 false))∧∃ J:Nat→Value,e=(.slice (some ⟨A,0,none⟩) l.length c::.int .i64 a::.int .i64 b::.int .i64 w::jr J 4 6 (.int .i64 i::jr J 11 27 ([])))):=⟨_,rfl⟩
 refine zaE I1 _ (by rw [hI1];exact ⟨0,l,_,rfl,z,⟨rfl,by omega,List.Perm.refl _,zoO l a b,q⟩,junk (by kernel_rfl)⟩) ?_
 intro n e h' hin
 rw [hI1] at hin
 obtain ⟨i,l1,h1',rfl,z,hinv,J,rfl⟩:=hin
 clear q
 obtain ⟨rfl,hi,hp,hsw,q⟩:=hinv
 have hl1:=hp.length_eq
 have hw:=zcl i (by omega)
 simp -implicitDefEqProofs only [syms,symx,seval,c168]
 refine zaD (fun hlt=>?_) (fun hlt=>?_)
 rotate_left
 ·repeat' ( simp -implicitDefEqProofs only [syms,symx,seval,c168])
  have hiw:i=w:=by omega
  subst hiw
  exact hk _ _ (z.upW _ _ (by omega)) (q.on _ _) hp hsw
 have hwa:IntKind.i64.wrap ((a:Int)+(i:Int))=((a+i:Nat):Int):=by rw [wrap_i64 (by omega) (by omega)];omega
 have hwb:IntKind.i64.wrap ((b:Int)+(i:Int))=((b+i:Nat):Int):=by rw [wrap_i64 (by omega) (by omega)];omega
 have hin:(0:Int)≤((a+i:Nat):Int)∧((a+i:Nat):Int) < (l.length:Int):=by omega
 have hin1:(0:Int)≤((b+i:Nat):Int)∧((b+i:Nat):Int) < (l.length:Int):=by omega
 have hld:=fun (bs:List Blk) (w:Nat)=>zaQ (bs:=bs) (w:=w) q (zaT (l:=l1) (i:=a+i) (by omega))
 have hld1:=fun (bs:List Blk) (w:Nat)=>zaQ (bs:=bs) (w:=w) q (zaT (l:=l1) (i:=b+i) (by omega))
 simp -implicitDefEqProofs only [syms,symx,seval,c168]
 refine (zb9 (by simp only [c168])) (z.upW _ _ (by omega)) ?_
 repeat' (simp -implicitDefEqProofs only [syms,symx,seval,c168,hwa,hwb,hin,hin1,and_self,if_true,↓hld,↓hld1,zal])
 have hz:=z.size
 refine zb7 q sz42 (by omega) (fun h3 q3 c3=>?_)
 refine zaU (A:=A) (by kernel_rfl) (by rw [zad];omega) (by omega) (by simpa only [zan,zad,List.append_nil,List.length_cons,List.length_nil,Nat.add_zero] using c3) ?_
 replace z:=(z.upW [] (h1'.size+0) (by omega)).step c3 hA
 rw [zaa h3]
 clear q hld hld1
 repeat' (simp -implicitDefEqProofs only [syms,symx,seval,c168,hwa,hwb,hin,hin1,and_self,if_true])
 refine zb7 q3 sz42 (by rw [List.length_set];omega) (fun h4 q4 c4=>?_)
 have hz:=z.size
 refine zaU (A:=A) (by kernel_rfl) (by rw [zad];omega) (by omega) (by simpa only [zan,zad,List.append_nil,List.length_cons,List.length_nil,Nat.add_zero] using c4) ?_
 replace z:=(z.upW [] (h3.size+0) (by omega)).step c4 hA
 rw [zaa h4]
 clear q3
 repeat' (first|simp -implicitDefEqProofs only [syms,symx,seval,c168]|((with_reducible refine ⟨z.grw.lay _ _,?_⟩);(intro _ h' zz x _);(simp only [zan,List.append_nil] at x);(replace q4:=q4.over x);(replace z:=zz);(clear zz);rw [zaa h']))
 rw [hw]
 replace q4:Holds _ A (.row (rowA (zcG l1 (a+i) (b+i))) 42 false):=q4
 (rw [hI1];with_reducible refine zae (m:=_) ?_ ⟨i+1,zcG l1 (a+i) (b+i),_,rfl,z,⟨rfl,by omega,(zhh (by omega) (by omega)).trans hp,zoN hsw hab (by omega) (by omega),q4⟩,junk (by kernel_rfl)⟩;omega)
theorem zsY (l:List AtomD) (A c a m b:Nat) (fv:Value) (h hs:Heap) (z:Ext h hs) (hA:h.size≤A) (q:Holds hs A (.row (rowA l) 42 false)) (ham:a < m) (hmb:m < b) (hb:b≤l.length) (hn:l.length≤100000) (K:Value→Heap→Prop)
 (hk:∀ h',Ext h h'→Holds h' A (.row (rowA (zjK l a m b)) 42 false)→(zjK l a m b).Perm l→K undef h'):Ok Tryz.prog tab ov 164 [.slice (some ⟨A,0,none⟩) l.length c,.int .i64 a,.int .i64 m,.int .i64 b,fv] hs K:=by
 rw [zaa hs]
 have hw1:IntKind.i64.wrap ((m:Int) - (a:Int))=((m - a:Nat):Int):=by rw [wrap_i64 (by omega) (by omega)];omega
 have hw2:IntKind.i64.wrap ((b:Int) - (m:Int))=((b - m:Nat):Int):=by rw [wrap_i64 (by omega) (by omega)];omega
 refine Ok.into rfl zud (zaw N164) rfl (m:=53) rfl ?_
 simp -implicitDefEqProofs only [syms,symx,seval,c164,hw1,hw2]
 obtain ⟨I1,hI1⟩:∃ I:Nat→Env→Heap→Prop,I=(fun n e h'=>∃ (i j:Nat) (l1:List AtomD) (h1:Heap),h'=h1.lay [] h1.low∧Ext h h1∧(n=i+j∧0 < i∧0 < j∧i≤m∧m+j≤l.length∧l1.Perm l∧znr (zjK l a m b) l1 m i j∧Holds h1 A (.row (rowA l1) 42 false))∧∃ J:Nat→Value,e=(.slice (some ⟨A,0,none⟩) l.length c::J 1::.int .i64 m::J 3::fv::jr J 5 5 (.int .i64 i::.int .i64 j::jr J 12 46 ([])))):=⟨_,rfl⟩
 refine zaE I1 _ (by rw [hI1];exact ⟨m - a,b - m,l,_,rfl,z,⟨rfl,by omega,by omega,by omega,by omega,List.Perm.refl _,zoV (by omega) (by omega) hb,q⟩,junk (by kernel_rfl)⟩) ?_
 intro n e h' hin
 rw [hI1] at hin
 obtain ⟨i,j,l1,h1',rfl,z,hinv,J,rfl⟩:=hin
 clear q
 obtain ⟨rfl,hi0,hj0,him,hjm,hp,htu,q⟩:=hinv
 have hl1:=hp.length_eq
 simp -implicitDefEqProofs only [syms,symx,seval,c164]
 have hwmi:IntKind.i64.wrap ((m:Int) - (i:Int))=((m - i:Nat):Int):=by rw [wrap_i64 (by omega) (by omega)];omega
 refine zdS (fun hne=>?_) (fun heq=>?_)
 rotate_left
 ·have hij:i=j:=by omega
  subst hij
  repeat' (simp -implicitDefEqProofs only [syms,symx,seval,c164,hwmi])
  have key:=fun K hk=>zfd l1 A c (m - i) m i fv h (h1'.lay [] h1'.low) (z.upW _ _ (by omega)) hA (q.on _ _) (by omega) (by omega) (by omega) K hk
  simp only [hl1] at key
  refine key _ (fun h' l' x q' hp' hs'=>?_)
  have hfin:l'=zjK l a m b:=zkQ (by rw [zhE,hp'.length_eq,hl1]) (fun k=>(zuw htu him hs' k).symm)
  subst hfin
  rw [zaa h']
  repeat' (simp -implicitDefEqProofs only [syms,symx,seval,c164])
  exact hk _ (x.upW _ _ (by omega)) (q'.on _ _) (hp'.trans hp)
 simp -implicitDefEqProofs only [syms,symx,seval,c164]
 refine zaD (fun hgt=>?_) (fun hgt=>?_)
 ·repeat' ( simp -implicitDefEqProofs only [syms,symx,seval,c164,hwmi])
  have key:=fun K hk=>zfd l1 A c (m - i) m j fv h (h1'.lay [] h1'.low) (z.upW _ _ (by omega)) hA (q.on _ _) (by omega) (by omega) (by omega) K hk
  simp only [hl1] at key
  refine key _ (fun h' l' x q' hp' hs'=>?_)
  replace z:=x
  rw [zaa h']
  have hwij:IntKind.i64.wrap ((i:Int) - (j:Int))=((i - j:Nat):Int):=by rw [wrap_i64 (by omega) (by omega)];omega
  repeat' (simp -implicitDefEqProofs only [syms,symx,seval,c164,hwij])
  (rw [hI1];with_reducible refine zae (m:=_) ?_ ⟨i - j,j,l',_,rfl,z,⟨rfl,by omega,by omega,by omega,by omega,hp'.trans hp,zrn htu him (by omega) hs',q'⟩,junk (by kernel_rfl)⟩;omega)
 ·have hwmj:IntKind.i64.wrap ((m:Int)+(j:Int))=((m+j:Nat):Int):=by rw [wrap_i64 (by omega) (by omega)];omega
  have hwmji:IntKind.i64.wrap (((m+j:Nat):Int) - (i:Int))=((m+j - i:Nat):Int):=by rw [wrap_i64 (by omega) (by omega)];omega
  repeat' (simp -implicitDefEqProofs only [syms,symx,seval,c164,hwmi,hwmj,hwmji])
  have key:=fun K hk=>zfd l1 A c (m - i) (m+j - i) i fv h (h1'.lay [] h1'.low) (z.upW _ _ (by omega)) hA (q.on _ _) (by omega) (by omega) (by omega) K hk
  simp only [hl1] at key
  refine key _ (fun h' l' x q' hp' hs'=>?_)
  replace z:=x
  rw [zaa h']
  have hwji:IntKind.i64.wrap ((j:Int) - (i:Int))=((j - i:Nat):Int):=by rw [wrap_i64 (by omega) (by omega)];omega
  repeat' (simp -implicitDefEqProofs only [syms,symx,seval,c164,hwji])
  (rw [hI1];with_reducible refine zae (m:=_) ?_ ⟨i,j - i,l',_,rfl,z,⟨rfl,by omega,by omega,by omega,by omega,hp'.trans hp,zoU htu him (by omega) hs',q'⟩,junk (by kernel_rfl)⟩;omega)
def zxS (sz:Nat):Prop:=∀ (l:List AtomD) (A c a m b:Nat) (h hs:Heap),Ext h hs→h.size≤A→Holds hs A (.row (rowA l) 42 false)→a < m→m < b→b - a≤sz→b≤l.length→l.length≤100000→(∀ x∈l,x.light=true)→zaG l a m→zaG l m b→∀ (K:Value→Heap→Prop),
 (∀ h' l',Ext h h'→Holds h' A (.row (rowA l') 42 false)→Mv l l' a b→zaG l' a b→K undef h')→Ok Tryz.prog tab ov 153 [.slice (some ⟨A,0,none⟩) l.length c,.int .i64 a,.int .i64 m,.int .i64 b,.func (.func 95) ⟨[]⟩ ⟨[]⟩] hs K
theorem zgq (x y:Nat) (h:x+y≤1000000):IntKind.i64.wrap ((x:Int)+(y:Int))=((x+y:Nat):Int)∧IntKind.u64.wrap ((x+y:Nat):Int)=((x+y:Nat):Int)∧IntKind.i64.wrap (((x+y) / 2:Nat):Int)=(((x+y) / 2:Nat):Int)∧Int.fdiv ((x+y:Nat):Int) (2 ^ (min (1:Int).toNat (IntKind.bits .u64)))=(((x+y) / 2:Nat):Int):=by
 refine ⟨by rw [wrap_i64 (by omega) (by omega)];omega,by unfold IntKind.wrap;simp [IntKind.bits];omega,wrap_i64 (by omega) (by omega),?_⟩
 show Int.fdiv ((x+y:Nat):Int) 2=_
 rw [Int.fdiv_eq_ediv_of_nonneg _ (by omega)]
 omega
theorem zqM (sz:Nat) (ih:zxS sz):zxS (sz+1):=by
 intro l A c a m b h hs z hA q ham hmb hsz hb hn hlt h1 h2 K hk
 rw [zaa hs]
 have hw1:IntKind.i64.wrap ((m:Int) - (a:Int))=((m - a:Nat):Int):=by rw [wrap_i64 (by omega) (by omega)];omega
 have hw2:IntKind.i64.wrap ((b:Int) - (m:Int))=((b - m:Nat):Int):=by rw [wrap_i64 (by omega) (by omega)];omega
 have hla:l[a]? = some (l.getD a noAtomD):=zaT (by omega)
 have hlm:l[m]? = some (l.getD m noAtomD):=zaT (by omega)
 refine Ok.into rfl zt9 (zaw N153) rfl (m:=215) rfl ?_
 simp -implicitDefEqProofs only [syms,symx,seval,c153,hw1,hw2]
 refine zeR (fun hone=>?_) (fun hone=>?_)
 ·-- Am.one element in front
  simp -implicitDefEqProofs only [syms,symx,seval,c153]
  obtain ⟨I1,hI1⟩:∃ I:Nat→Env→Heap→Prop,I=(fun n e h'=>∃ (i j:Nat) (h1:Heap),h'=h1.lay [] h1.low∧Ext h h1∧(n=j - i∧m≤i∧i≤j∧j≤b∧(i=m∨cmpD (l.getD (i - 1) noAtomD) (l.getD a noAtomD) < 0)∧(j=b∨¬ cmpD (l.getD j noAtomD) (l.getD a noAtomD) < 0)∧Holds h1 A (.row (rowA l) 42 false))∧∃ J:Nat→Value,e=(.slice (some ⟨A,0,none⟩) l.length c::.int .i64 a::.int .i64 m::.int .i64 b::.func (.func 95) ⟨[]⟩ ⟨[]⟩::jr J 5 5 (.int .i64 i::.int .i64 j::jr J 12 208 ([])))):=⟨_,rfl⟩
  refine zaE I1 _ (by rw [hI1];exact ⟨m,b,_,rfl,z,⟨rfl,by omega,by omega,by omega,.inl rfl,.inl rfl,q⟩,junk (by kernel_rfl)⟩) ?_
  intro n e h' hin
  rw [hI1] at hin
  obtain ⟨i,j,h1',rfl,z,hinv,J,rfl⟩:=hin
  clear q
  obtain ⟨rfl,g1,g2,g3,g4,g5,q⟩:=hinv
  simp -implicitDefEqProofs only [syms,symx,seval,c153]
  refine zaD (fun hij=>?_) (fun hij=>?_)
  rotate_left
  ·have hij2:i=j:=by omega
   subst hij2
   have hl0:=g4
   have hr0:=g5
   have hwi:IntKind.i64.wrap ((i:Int) - 1)=((i - 1:Nat):Int):=by rw [wrap_i64 (by omega) (by omega)];omega
   have ham1:m=a+1:=by omega
   subst ham1
   simp -implicitDefEqProofs only [syms,symx,seval,c153]
   obtain ⟨I2,hI2⟩:∃ I:Nat→Env→Heap→Prop,I=(fun n e h'=>∃ (k:Nat) (l1:List AtomD) (h1:Heap),h'=h1.lay [] h1.low∧Ext h h1∧(n=i - 1 - k∧a≤k∧k≤i - 1∧Mv l l1 a b∧UpTo l l1 a k∧Holds h1 A (.row (rowA l1) 42 false))∧∃ J:Nat→Value,e=(.slice (some ⟨A,0,none⟩) l.length c::jr J 1 9 (.int .i64 i::jr J 11 2 (.int .i64 k::jr J 14 206 ([]))))):=⟨_,rfl⟩
   refine zaE I2 _ (by rw [hI2];exact ⟨a,l,_,rfl,z,⟨rfl,by omega,by omega,Mv.refl l a b,zrq l a,q⟩,junk (by kernel_rfl)⟩) ?_
   intro n e h' hin
   rw [hI2] at hin
   obtain ⟨k,l1,h2',rfl,z,hinv,J,rfl⟩:=hin
   clear q
   obtain ⟨rfl,f1,f2,f3,f4,q⟩:=hinv
   have hl1:=f3.perm.length_eq
   have hwk:=zcl k (by omega)
   simp -implicitDefEqProofs only [syms,symx,seval,c153,hwi]
   refine zaD (fun hki=>?_) (fun hki=>?_)
   rotate_left
   ·have hki2:k=i - 1:=by omega
    subst hki2
    repeat' (simp -implicitDefEqProofs only [syms,symx,seval,c153])
    exact hk _ _ (z.upW _ _ (by omega)) (q.on _ _) f3 (zyN h2 (by omega) (by omega) hl0 hr0 f4)
   have hin:(0:Int)≤(k:Int)∧(k:Int) < (l.length:Int):=by omega
   have hin1:(0:Int)≤((k+1:Nat):Int)∧((k+1:Nat):Int) < (l.length:Int):=by omega
   have hld:=fun (bs:List Blk) (w:Nat)=>zaQ (bs:=bs) (w:=w) q (zaT (l:=l1) (i:=k) (by omega))
   have hld1:=fun (bs:List Blk) (w:Nat)=>zaQ (bs:=bs) (w:=w) q (zaT (l:=l1) (i:=k+1) (by omega))
   simp -implicitDefEqProofs only [syms,symx,seval,c153]
   refine (zb9 (by simp only [c153])) (z.upW _ _ (by omega)) ?_
   repeat' (simp -implicitDefEqProofs only [syms,symx,seval,c153,hwk,hin,hin1,and_self,if_true,↓hld,↓hld1,zal])
   have hz:=z.size
   refine zb7 q sz42 (by omega) (fun h3 q3 c3=>?_)
   refine zaU (A:=A) (by kernel_rfl) (by rw [zad];omega) (by omega) (by simpa only [zan,zad,List.append_nil,List.length_cons,List.length_nil,Nat.add_zero] using c3) ?_
   replace z:=(z.upW [] (h2'.size+0) (by omega)).step c3 hA
   rw [zaa h3]
   clear q hld hld1
   repeat' (simp -implicitDefEqProofs only [syms,symx,seval,c153,hwk,hin,hin1,and_self,if_true])
   refine zb7 q3 sz42 (by rw [List.length_set];omega) (fun h4 q4 c4=>?_)
   have hz:=z.size
   refine zaU (A:=A) (by kernel_rfl) (by rw [zad];omega) (by omega) (by simpa only [zan,zad,List.append_nil,List.length_cons,List.length_nil,Nat.add_zero] using c4) ?_
   replace z:=(z.upW [] (h3.size+0) (by omega)).step c4 hA
   rw [zaa h4]
   clear q3
   repeat' (first|simp -implicitDefEqProofs only [syms,symx,seval,c153]|((with_reducible refine ⟨z.grw.lay _ _,?_⟩);(intro _ h' zz x _);(simp only [zan,List.append_nil] at x);(replace q4:=q4.over x);(replace z:=zz);(clear zz);rw [zaa h']))
   rw [hwk]
   replace q4:Holds _ A (.row (rowA (zcG l1 k (k+1))) 42 false):=q4
   (rw [hI2];with_reducible refine zae (m:=_) ?_ ⟨k+1,zcG l1 k (k+1),_,rfl,z,⟨rfl,by omega,by omega,f3.trans (Mv.swap (by omega) (by omega) (by omega) (zzp (by omega) (zuA h2 g3 hl0 f1 (by omega) f4))),zuz f4 f1 (by omega),q4⟩,junk (by kernel_rfl)⟩;omega)
  obtain ⟨e1,e2,e3,e4⟩:=zgq i j (by omega)
  repeat' (simp -implicitDefEqProofs only [syms,symx,seval,c153,e1])
  rw [zfU rfl rfl rfl (ziJ _) rfl,e2]
  simp -implicitDefEqProofs only [syms,symx,seval,c153,e1]
  rw [zh0 (by decide),e4]
  simp -implicitDefEqProofs only [syms,symx,seval,c153,e1]
  rw [zfU rfl rfl rfl (ziK _) rfl,e3]
  repeat' (simp -implicitDefEqProofs only [syms,symx,seval,c153,e1])
  have hhm:i≤(i+j) / 2∧(i+j) / 2 < j:=by omega
  have hwh:IntKind.i64.wrap ((((i+j) / 2:Nat):Int)+1)=(((i+j) / 2+1:Nat):Int):=by rw [wrap_i64 (by omega) (by omega)];omega
  generalize (i+j) / 2=y at hhm hwh ⊢
  have hin:(0:Int)≤(y:Int)∧(y:Int) < (l.length:Int):=by omega
  have hin1:(0:Int)≤(a:Int)∧(a:Int) < (l.length:Int):=by omega
  have hld:=fun (bs:List Blk) (w:Nat)=>zaQ (bs:=bs) (w:=w) q (zaT (l:=l) (i:=y) (by omega))
  have hld1:=fun (bs:List Blk) (w:Nat)=>zaQ (bs:=bs) (w:=w) q (zaT (l:=l) (i:=a) (by omega))
  refine (zb9 (by simp only [c153])) (z.upW _ _ (by omega)) ?_
  repeat' (simp -implicitDefEqProofs only [syms,symx,seval,c153,hin,hin1,and_self,if_true,↓hld,↓hld1,zal])
  refine zhu _ _ (za2 hlt (by omega)) (za2 hlt (by omega)) _ _ (fun h' x=>?_)
  (((with_reducible refine zah ?_ ?_ ?_);(· exact (by (simp only [lsz]);have:=z.size;omega));(· exact x));replace z:=z.overW x (by omega);(replace q:=q.over x);rw [zaa h'])
  simp -implicitDefEqProofs only [syms,symx,seval,c153]
  refine zaD (fun hc=>?_) (fun hc=>?_)
  ·repeat' (first|simp -implicitDefEqProofs only [syms,symx,seval,c153]|((with_reducible refine ⟨z.grw.lay _ _,?_⟩);(intro _ h' zz x _);( simp only [zan,List.append_nil] at x );( replace q:=q.over x );(replace z:=zz);(clear zz);rw [zaa h']))
   rw [hwh]
   (rw [hI1];with_reducible refine zae (m:=_) ?_ ⟨y+1,j,_,rfl,z,⟨rfl,by omega,by omega,by omega,.inr (by rw [Nat.add_sub_cancel];exact hc),g5,q⟩,junk (by kernel_rfl)⟩;omega)
  ·repeat' (first|simp -implicitDefEqProofs only [syms,symx,seval,c153]|((with_reducible refine ⟨z.grw.lay _ _,?_⟩);(intro _ h' zz x _);( simp only [zan,List.append_nil] at x );( replace q:=q.over x );(replace z:=zz);(clear zz);rw [zaa h']))
   (rw [hI1];with_reducible refine zae (m:=_) ?_ ⟨i,y,_,rfl,z,⟨rfl,by omega,by omega,by omega,g4,.inr hc,q⟩,junk (by kernel_rfl)⟩;omega)
 simp -implicitDefEqProofs only [syms,symx,seval,c153,hw2]
 refine zeR (fun hone2=>?_) (fun hone2=>?_)
 ·-- Am.one element behind
  simp -implicitDefEqProofs only [syms,symx,seval,c153]
  obtain ⟨I3,hI3⟩:∃ I:Nat→Env→Heap→Prop,I=(fun n e h'=>∃ (i j:Nat) (h1:Heap),h'=h1.lay [] h1.low∧Ext h h1∧(n=j - i∧a≤i∧i≤j∧j≤m∧(i=a∨¬ cmpD (l.getD m noAtomD) (l.getD (i - 1) noAtomD) < 0)∧(j=m∨cmpD (l.getD m noAtomD) (l.getD j noAtomD) < 0)∧Holds h1 A (.row (rowA l) 42 false))∧∃ J:Nat→Value,e=(.slice (some ⟨A,0,none⟩) l.length c::.int .i64 a::.int .i64 m::.int .i64 b::.func (.func 95) ⟨[]⟩ ⟨[]⟩::jr J 5 9 (.int .i64 i::.int .i64 j::jr J 16 204 ([])))):=⟨_,rfl⟩
  refine zaE I3 _ (by rw [hI3];exact ⟨a,m,_,rfl,z,⟨rfl,by omega,by omega,by omega,.inl rfl,.inl rfl,q⟩,junk (by kernel_rfl)⟩) ?_
  intro n e h' hin
  rw [hI3] at hin
  obtain ⟨i,j,h1',rfl,z,hinv,J,rfl⟩:=hin
  clear q
  obtain ⟨rfl,g1,g2,g3,g4,g5,q⟩:=hinv
  simp -implicitDefEqProofs only [syms,symx,seval,c153]
  refine zaD (fun hij=>?_) (fun hij=>?_)
  rotate_left
  ·have hij2:i=j:=by omega
   subst hij2
   have hl0:=g4
   have hr0:=g5
   have hbm1:b=m+1:=by omega
   subst hbm1
   simp -implicitDefEqProofs only [syms,symx,seval,c153]
   obtain ⟨I4,hI4⟩:∃ I:Nat→Env→Heap→Prop,I=(fun n e h'=>∃ (k:Nat) (l1:List AtomD) (h1:Heap),h'=h1.lay [] h1.low∧Ext h h1∧(n=k - i∧i≤k∧k≤m∧Mv l l1 a (m+1)∧zlw l l1 m k∧Holds h1 A (.row (rowA l1) 42 false))∧∃ J:Nat→Value,e=(.slice (some ⟨A,0,none⟩) l.length c::jr J 1 13 (.int .i64 i::jr J 15 2 (.int .i64 k::jr J 18 202 ([]))))):=⟨_,rfl⟩
   refine zaE I4 _ (by rw [hI4];exact ⟨m,l,_,rfl,z,⟨rfl,by omega,by omega,Mv.refl l a _,zlX l m,q⟩,junk (by kernel_rfl)⟩) ?_
   intro n e h' hin
   rw [hI4] at hin
   obtain ⟨k,l1,h2',rfl,z,hinv,J,rfl⟩:=hin
   clear q
   obtain ⟨rfl,f1,f2,f3,f4,q⟩:=hinv
   have hl1:=f3.perm.length_eq
   simp -implicitDefEqProofs only [syms,symx,seval,c153]
   refine zaD (fun hki=>?_) (fun hki=>?_)
   rotate_left
   ·have hki2:k=i:=by omega
    subst hki2
    repeat' (simp -implicitDefEqProofs only [syms,symx,seval,c153])
    exact hk _ _ (z.upW _ _ (by omega)) (q.on _ _) f3 (zvi h1 (by omega) (by omega) hl0 hr0 f4)
   have hwk:IntKind.i64.wrap ((k:Int) - 1)=((k - 1:Nat):Int):=by rw [wrap_i64 (by omega) (by omega)];omega
   have hin:(0:Int)≤(k:Int)∧(k:Int) < (l.length:Int):=by omega
   have hin1:(0:Int)≤((k - 1:Nat):Int)∧((k - 1:Nat):Int) < (l.length:Int):=by omega
   have hld:=fun (bs:List Blk) (w:Nat)=>zaQ (bs:=bs) (w:=w) q (zaT (l:=l1) (i:=k) (by omega))
   have hld1:=fun (bs:List Blk) (w:Nat)=>zaQ (bs:=bs) (w:=w) q (zaT (l:=l1) (i:=k - 1) (by omega))
   simp -implicitDefEqProofs only [syms,symx,seval,c153]
   refine (zb9 (by simp only [c153])) (z.upW _ _ (by omega)) ?_
   repeat' (simp -implicitDefEqProofs only [syms,symx,seval,c153,hwk,hin,hin1,and_self,if_true,↓hld,↓hld1,zal])
   have hz:=z.size
   refine zb7 q sz42 (by omega) (fun h3 q3 c3=>?_)
   refine zaU (A:=A) (by kernel_rfl) (by rw [zad];omega) (by omega) (by simpa only [zan,zad,List.append_nil,List.length_cons,List.length_nil,Nat.add_zero] using c3) ?_
   replace z:=(z.upW [] (h2'.size+0) (by omega)).step c3 hA
   rw [zaa h3]
   clear q hld hld1
   repeat' (simp -implicitDefEqProofs only [syms,symx,seval,c153,hwk,hin,hin1,and_self,if_true])
   refine zb7 q3 sz42 (by rw [List.length_set];omega) (fun h4 q4 c4=>?_)
   have hz:=z.size
   refine zaU (A:=A) (by kernel_rfl) (by rw [zad];omega) (by omega) (by simpa only [zan,zad,List.append_nil,List.length_cons,List.length_nil,Nat.add_zero] using c4) ?_
   replace z:=(z.upW [] (h3.size+0) (by omega)).step c4 hA
   rw [zaa h4]
   clear q3
   repeat' (first|simp -implicitDefEqProofs only [syms,symx,seval,c153]|((with_reducible refine ⟨z.grw.lay _ _,?_⟩);(intro _ h' zz x _);(simp only [zan,List.append_nil] at x);(replace q4:=q4.over x);(replace z:=zz);(clear zz);rw [zaa h']))
   rw [hwk]
   replace q4:Holds _ A (.row (rowA (zcG l1 k (k - 1))) 42 false):=q4
   (rw [hI4];with_reducible refine zae (m:=_) ?_ ⟨k - 1,zcG l1 k (k - 1),_,rfl,z,⟨rfl,by omega,by omega,f3.trans (Mv.swap (by omega) (by omega) (by omega) (zm5 (by omega) (by omega) (znN h1 g1 hr0 (by omega) f2 f4))),znM f4 (by omega) f2 (by omega),q4⟩,junk (by kernel_rfl)⟩;omega)
  obtain ⟨e1,e2,e3,e4⟩:=zgq i j (by omega)
  repeat' (simp -implicitDefEqProofs only [syms,symx,seval,c153,e1])
  rw [zfU rfl rfl rfl (ziJ _) rfl,e2]
  simp -implicitDefEqProofs only [syms,symx,seval,c153,e1]
  rw [zh0 (by decide),e4]
  simp -implicitDefEqProofs only [syms,symx,seval,c153,e1]
  rw [zfU rfl rfl rfl (ziK _) rfl,e3]
  repeat' (simp -implicitDefEqProofs only [syms,symx,seval,c153,e1])
  have hhm:i≤(i+j) / 2∧(i+j) / 2 < j:=by omega
  have hwh:IntKind.i64.wrap ((((i+j) / 2:Nat):Int)+1)=(((i+j) / 2+1:Nat):Int):=by rw [wrap_i64 (by omega) (by omega)];omega
  generalize (i+j) / 2=y at hhm hwh ⊢
  have hin:(0:Int)≤(y:Int)∧(y:Int) < (l.length:Int):=by omega
  have hin1:(0:Int)≤(m:Int)∧(m:Int) < (l.length:Int):=by omega
  have hld:=fun (bs:List Blk) (w:Nat)=>zaQ (bs:=bs) (w:=w) q (zaT (l:=l) (i:=y) (by omega))
  have hld1:=fun (bs:List Blk) (w:Nat)=>zaQ (bs:=bs) (w:=w) q (zaT (l:=l) (i:=m) (by omega))
  refine (zb9 (by simp only [c153])) (z.upW _ _ (by omega)) ?_
  repeat' (simp -implicitDefEqProofs only [syms,symx,seval,c153,hin,hin1,and_self,if_true,↓hld,↓hld1,zal])
  refine zhu _ _ (za2 hlt (by omega)) (za2 hlt (by omega)) _ _ (fun h' x=>?_)
  (((with_reducible refine zah ?_ ?_ ?_);(· exact (by (simp only [lsz]);have:=z.size;omega));(· exact x));replace z:=z.overW x (by omega);(replace q:=q.over x);rw [zaa h'])
  simp -implicitDefEqProofs only [syms,symx,seval,c153]
  refine zaD (fun hc=>?_) (fun hc=>?_)
  ·repeat' (first|simp -implicitDefEqProofs only [syms,symx,seval,c153]|((with_reducible_and_instances apply zar);(· rfl))|((with_reducible refine ⟨z.grw.lay _ _,?_⟩);(intro _ h' zz x _);( simp only [zan,List.append_nil] at x );( replace q:=q.over x );(replace z:=zz);(clear zz);rw [zaa h']))
   (rw [hI3];with_reducible refine zae (m:=_) ?_ ⟨i,y,_,rfl,z,⟨rfl,by omega,by omega,by omega,g4,.inr hc,q⟩,junk (by kernel_rfl)⟩;omega)
  ·repeat' (first|simp -implicitDefEqProofs only [syms,symx,seval,c153]|((with_reducible_and_instances apply zar);(· rfl))|((with_reducible refine ⟨z.grw.lay _ _,?_⟩);(intro _ h' zz x _);( simp only [zan,List.append_nil] at x );( replace q:=q.over x );(replace z:=zz);(clear zz);rw [zaa h']))
   rw [hwh]
   (rw [hI3];with_reducible refine zae (m:=_) ?_ ⟨y+1,j,_,rfl,z,⟨rfl,by omega,by omega,by omega,.inr (by rw [Nat.add_sub_cancel];exact hc),g5,q⟩,junk (by kernel_rfl)⟩;omega)
 -- both parts longer
 obtain ⟨e1,e2,e3,e4⟩:=zgq a b (by omega)
 repeat' (simp -implicitDefEqProofs only [syms,symx,seval,c153,e1])
 rw [zfU rfl rfl rfl (ziJ _) rfl,e2]
 simp -implicitDefEqProofs only [syms,symx,seval,c153,e1]
 rw [zh0 (by decide),e4]
 simp -implicitDefEqProofs only [syms,symx,seval,c153,e1]
 rw [zfU rfl rfl rfl (ziK _) rfl,e3]
 have hm1:2*((a+b) / 2)≤a+b:=by omega
 have hm2:a+b≤2*((a+b) / 2)+1:=by omega
 generalize (a+b) / 2=mid at hm1 hm2 ⊢
 have hwn:IntKind.i64.wrap ((mid:Int)+(m:Int))=((mid+m:Nat):Int):=by rw [wrap_i64 (by omega) (by omega)];omega
 have hwp:IntKind.i64.wrap (((mid+m:Nat):Int) - 1)=((mid+m - 1:Nat):Int):=by rw [wrap_i64 (by omega) (by omega)];omega
 have hwb:mid < m→IntKind.i64.wrap (((mid+m:Nat):Int) - (b:Int))=((mid+m - b:Nat):Int):=fun _=>by rw [wrap_i64 (by omega) (by omega)];omega
 simp -implicitDefEqProofs only [syms,symx,seval,c153,hwn]
 refine zaD (fun hgm=>?_) (fun hgm=>?_)
 focus
  have hwb:=hwb (by omega)
  simp -implicitDefEqProofs only [syms,symx,seval,c153,hwn,hwb,hwp]
  have hinit:=zv6 (l:=l) (a:=a) hmb (show mid < m by omega)
 rotate_left
 focus
  simp -implicitDefEqProofs only [syms,symx,seval,c153,hwn,hwp]
  have hinit:=zv5 (l:=l) (b:=b) ham (show m≤mid by omega)
 all_goals
  obtain ⟨I5,hI5⟩:∃ I:Nat→Env→Heap→Prop,I=(fun n e h'=>∃ (s r:Nat) (h1:Heap),h'=h1.lay [] h1.low∧Ext h h1∧(n=r - s∧SymInv l a m b mid s r∧Holds h1 A (.row (rowA l) 42 false))∧∃ J:Nat→Value,e=(.slice (some ⟨A,0,none⟩) l.length c::.int .i64 a::.int .i64 m::.int .i64 b::.func (.func 95) ⟨[]⟩ ⟨[]⟩::jr J 5 13 (.int .i64 mid::.int .i64 ((mid+m:Nat):Int)::.int .i64 s::.int .i64 r::.int .i64 ((mid+m - 1:Nat):Int)::jr J 23 197 ([])))):=⟨_,rfl⟩
  refine zaE I5 _ (by rw [hI5];exact ⟨_,_,_,rfl,z,⟨rfl,hinit,q⟩,junk (by kernel_rfl)⟩) ?_
  intro n e h' hin
  rw [hI5] at hin
  obtain ⟨s,r,h1',rfl,z,hinv,J,rfl⟩:=hin
  clear q hinit
  obtain ⟨rfl,hinv,q⟩:=hinv
  simp -implicitDefEqProofs only [syms,symx,seval,c153]
  refine zaD (fun hsr=>?_) (fun hsr=>?_)
  rotate_left
  ·have hsr2:s=r:=by have:=hinv.sr;omega
   subst hsr2
   have sp:=zkj hinv ham hmb hm1 hm2
   obtain ⟨p1,p2,p3,p4,p5,_,_⟩:=sp
   have sp:=zkj hinv ham hmb hm1 hm2
   have hwe:IntKind.i64.wrap (((mid+m:Nat):Int) - (s:Int))=((mid+m - s:Nat):Int):=by rw [wrap_i64 (by omega) (by omega)];omega
   simp -implicitDefEqProofs only [syms,symx,seval,nilK (rops (N153 107)) 3 rfl,zAa (N153 108) (N153 109) (N153 110) rfl,zAe (N153 110) rfl]
   rw [seqK (N153 119) (N153 120) (N153 121) rfl]
   obtain ⟨R6,hR6⟩:∃ R:Env→Heap→Prop,R=(fun e h'=>∃ (h1:Heap),h'=h1.lay [] h1.low∧Ext h h1∧(Holds h1 A (.row (rowA l) 42 false))∧∃ J:Nat→Value,e=(.slice (some ⟨A,0,none⟩) l.length c::.int .i64 a::.int .i64 m::.int .i64 b::.func (.func 95) ⟨[]⟩ ⟨[]⟩::jr J 5 13 (.int .i64 mid::J 19::.int .i64 s::jr J 21 3 (.int .i64 ((mid+m - s:Nat):Int)::jr J 25 195 ([]))))∧True):=⟨_,rfl⟩
   refine zxU R6 ?cut ?rest
   case' rest =>
    intro e h' hin
    rw [hR6] at hin
    obtain ⟨h2',rfl,z,hinv,J,rfl,_⟩:=hin
   case cut =>
    simp -implicitDefEqProofs only [syms,symx,seval,c153,hwe]
    (rw [hR6];exact ⟨_,rfl,z,q,zsy (by kernel_rfl) (trivial)⟩)
   case rest =>
   have q:=hinv
   simp -implicitDefEqProofs only [syms,symx,seval]
   rw [seqK (N153 121) (N153 122) (N153 127) rfl]
   obtain ⟨R7,hR7⟩:∃ R:Env→Heap→Prop,R=(fun e h'=>∃ (l1:List AtomD) (h1:Heap),h'=h1.lay [] h1.low∧Ext h h1∧(Mv l l1 s (mid+m - s)∧zlz l l1 s m (mid+m - s)∧Holds h1 A (.row (rowA l1) 42 false))∧∃ J:Nat→Value,e=(.slice (some ⟨A,0,none⟩) l.length c::.int .i64 a::.int .i64 m::.int .i64 b::.func (.func 95) ⟨[]⟩ ⟨[]⟩::jr J 5 13 (.int .i64 mid::J 19::.int .i64 s::jr J 21 3 (.int .i64 ((mid+m - s:Nat):Int)::jr J 25 195 ([]))))∧True):=⟨_,rfl⟩
   refine zxU R7 ?cut ?rest
   case' rest =>
    intro e h' hin
    rw [hR7] at hin
    obtain ⟨l1,h3',rfl,z,hinv,J,rfl,_⟩:=hin
   case cut =>
    repeat' (first|simp -implicitDefEqProofs only [syms,symx,seval,c153]|((with_reducible apply zaD) <;> intro _))
    all_goals first
     |(rw [hR7];exact ⟨l,_,rfl,z,⟨Mv.refl _ _ _,zw4 (by omega) (by omega) (by omega),q⟩,zsy (by kernel_rfl) (trivial)⟩)
     |(refine zsY l A c s m (mid+m - s) _ h _ (z.upW _ _ (by omega)) hA (q.on _ _) (by omega) (by omega) (by omega) hn _ (fun h' x q1 hp1=>?_)
       replace z:=x
       rw [zaa h']
       simp -implicitDefEqProofs only [syms,symx,seval,c153]
       (rw [hR7];exact ⟨zjK l s m (mid+m - s),_,rfl,z,⟨zw3 (fun k=>zgL (by omega) k) (by omega) (by omega) hp1 (zq6 h1 h2 sp (fun k=>zgL (by omega) k) (by omega) hp1.length_eq),fun k=>zgL (by omega) k,q1⟩,zsy (by kernel_rfl) (trivial)⟩))
   case rest =>
   obtain ⟨mv1,t1,q⟩:=hinv
   obtain ⟨so1,so2,so3,so4⟩:=zoH h1 h2 sp t1
   have hcr:=fun (i j:Nat) (g1:a≤i) (g2:i < mid) (g3:mid≤j) (g4:j < b)=>zoG h1 h2 sp t1 g1 g2 g3 g4
   have hl1:=mv1.perm.length_eq
   simp -implicitDefEqProofs only [syms,symx,seval]
   rw [seqK (N153 127) (N153 128) (N153 133) rfl]
   obtain ⟨R8,hR8⟩:∃ R:Env→Heap→Prop,R=(fun e h'=>∃ (l2:List AtomD) (h1:Heap),h'=h1.lay [] h1.low∧Ext h h1∧(Mv l1 l2 a mid∧zaG l2 a mid∧Holds h1 A (.row (rowA l2) 42 false))∧∃ J:Nat→Value,e=(.slice (some ⟨A,0,none⟩) l.length c::.int .i64 a::.int .i64 m::.int .i64 b::.func (.func 95) ⟨[]⟩ ⟨[]⟩::jr J 5 13 (.int .i64 mid::J 19::.int .i64 s::jr J 21 3 (.int .i64 ((mid+m - s:Nat):Int)::jr J 25 195 ([]))))∧True):=⟨_,rfl⟩
   refine zxU R8 ?cut ?rest
   case' rest =>
    intro e h' hin
    rw [hR8] at hin
    obtain ⟨l2,h4',rfl,z,hinv,J,rfl,_⟩:=hin
   case cut =>
    repeat' (first|simp -implicitDefEqProofs only [syms,symx,seval,c153]|((with_reducible apply zaD) <;> intro _))
    all_goals first
     |(rw [hR8];exact ⟨l1,_,rfl,z,⟨Mv.refl _ _ _,(by first|(have e:s=mid:=by omega);rw [← e];exact so1|(have e:a=s:=by omega);rw [e];exact so2),q⟩,zsy (by kernel_rfl) (trivial)⟩)
     |(have key:=ih l1 A c a s mid h (h3'.lay [] h3'.low) (z.upW _ _ (by omega)) hA (q.on _ _) (by omega) (by omega) (by omega) (by omega) (by omega) (zcp hlt mv1.perm) so1 so2
       simp only [hl1] at key
       refine key _ (fun h' l2 x q1 mv2 so5=>?_)
       replace z:=x
       rw [zaa h']
       simp -implicitDefEqProofs only [syms,symx,seval,c153]
       (rw [hR8];exact ⟨l2,_,rfl,z,⟨mv2,so5,q1⟩,zsy (by kernel_rfl) (trivial)⟩))
   case rest =>
   obtain ⟨mv2,so5,q⟩:=hinv
   have hl2:=mv2.perm.length_eq
   have so6:=zdO so3 (fun k g1 g2=>mv2.out k (.inr g1))
   have so7:=zdO so4 (fun k g1 g2=>mv2.out k (.inr (by omega)))
   have mvT:=(mv1.widen p1 p5).trans (mv2.widen (Nat.le_refl _) (show mid≤b by omega))
   repeat' (first|simp -implicitDefEqProofs only [syms,symx,seval,c153]|((with_reducible apply zaD) <;> intro _))
   all_goals first
    |exact hk _ l2 (z.upW _ _ (by omega)) (q.on _ _) mvT (zmu hcr mv2 (Mv.refl l2 mid b) so5 (by first|(have e:mid=mid+m - s:=by omega);rw [e];exact so7|(have e:mid+m - s=b:=by omega);rw [← e];exact so6))
    |(have key:=ih l2 A c mid (mid+m - s) b h (h4'.lay [] h4'.low) (z.upW _ _ (by omega)) hA (q.on _ _) (by omega) (by omega) (by omega) (by omega) (by omega) (zcp (zcp hlt mv1.perm) mv2.perm) so6 so7
      simp only [hl2,hl1] at key
      refine key _ (fun h' l3 x q1 mv3 so8=>?_)
      rw [zaa h']
      repeat' (simp -implicitDefEqProofs only [syms,symx,seval,c153])
      exact hk _ l3 (x.upW _ _ (by omega)) (q1.on _ _) (mvT.trans (mv3.widen (show a≤mid by omega) (Nat.le_refl _))) (zmu hcr mv2 mv3 so5 so8))
  have hrl:r≤l.length:=by
   rcases Nat.lt_or_ge mid m with g|g
   ·have:=hinv.le2 g;omega
   ·have:=hinv.le1 g;omega
  obtain ⟨e1,e2,e3,e4⟩:=zgq s r (by omega)
  repeat' (simp -implicitDefEqProofs only [syms,symx,seval,c153,e1])
  rw [zfU rfl rfl rfl (ziJ _) rfl,e2]
  simp -implicitDefEqProofs only [syms,symx,seval,c153,e1]
  rw [zh0 (by decide),e4]
  simp -implicitDefEqProofs only [syms,symx,seval,c153,e1]
  rw [zfU rfl rfl rfl (ziK _) rfl,e3]
  repeat' (simp -implicitDefEqProofs only [syms,symx,seval,c153,e1])
  have hhm:s≤(s+r) / 2∧(s+r) / 2 < r:=by omega
  have hwh:IntKind.i64.wrap ((((s+r) / 2:Nat):Int)+1)=(((s+r) / 2+1:Nat):Int):=by rw [wrap_i64 (by omega) (by omega)];omega
  generalize (s+r) / 2=y at hhm hwh ⊢
  have hix:=ztB hinv hhm.1 hhm.2 ham hmb hm1 hm2
  have hwpc:IntKind.i64.wrap (((mid+m - 1:Nat):Int) - (y:Int))=((mid+m - 1 - y:Nat):Int):=by rw [wrap_i64 (by omega) (by omega)];omega
  have hin:(0:Int)≤(y:Int)∧(y:Int) < (l.length:Int):=by omega
  have hin1:(0:Int)≤((mid+m - 1 - y:Nat):Int)∧((mid+m - 1 - y:Nat):Int) < (l.length:Int):=by omega
  have hld:=fun (bs:List Blk) (w:Nat)=>zaQ (bs:=bs) (w:=w) q (zaT (l:=l) (i:=y) (by omega))
  have hld1:=fun (bs:List Blk) (w:Nat)=>zaQ (bs:=bs) (w:=w) q (zaT (l:=l) (i:=mid+m - 1 - y) (by omega))
  refine (zb9 (by simp only [c153])) (z.upW _ _ (by omega)) ?_
  repeat' (simp -implicitDefEqProofs only [syms,symx,seval,c153,hwpc,hin,hin1,and_self,if_true,↓hld,↓hld1,zal])
  refine zhu _ _ (za2 hlt (by omega)) (za2 hlt (by omega)) _ _ (fun h' x=>?_)
  (((with_reducible refine zah ?_ ?_ ?_);(· exact (by (simp only [lsz]);have:=z.size;omega));(· exact x));replace z:=z.overW x (by omega);(replace q:=q.over x);rw [zaa h'])
  simp -implicitDefEqProofs only [syms,symx,seval,c153]
  refine zaD (fun hc=>?_) (fun hc=>?_)
  ·repeat' (first|simp -implicitDefEqProofs only [syms,symx,seval,c153]|((with_reducible_and_instances apply zar);(· rfl))|((with_reducible refine ⟨z.grw.lay _ _,?_⟩);(intro _ h' zz x _);( simp only [zan,List.append_nil] at x );( replace q:=q.over x );(replace z:=zz);(clear zz);rw [zaa h']))
   (rw [hI5];with_reducible refine zae (m:=_) ?_ ⟨s,y,_,rfl,z,⟨rfl,zoP hinv hhm.1 hhm.2 hc,q⟩,junk (by kernel_rfl)⟩;omega)
  ·repeat' (first|simp -implicitDefEqProofs only [syms,symx,seval,c153]|((with_reducible_and_instances apply zar);(· rfl))|((with_reducible refine ⟨z.grw.lay _ _,?_⟩);(intro _ h' zz x _);( simp only [zan,List.append_nil] at x );( replace q:=q.over x );(replace z:=zz);(clear zz);rw [zaa h']))
   rw [hwh]
   (rw [hI5];with_reducible refine zae (m:=_) ?_ ⟨y+1,r,_,rfl,z,⟨rfl,ztC hinv hhm.1 hhm.2 hc,q⟩,junk (by kernel_rfl)⟩;omega)
theorem zzu:∀ sz,zxS sz
 |0=>by intro l A c a m b h hs z hA q h1 h2 h3;omega
 |sz+1=>zqM sz (zzu sz)
theorem zs5 (l:List AtomD) (A c:Nat) (h hs:Heap) (z:Ext h hs) (hA:h.size≤A) (q:Holds hs A (.row (rowA l) 42 false)) (hn:l.length≤100000) (hlt:∀ x∈l,x.light=true) (K:Value→Heap→Prop)
 (hk:∀ h' l',Ext h h'→Holds h' A (.row (rowA l') 42 false)→l'.Perm l→Stab l l'→zaG l' 0 l.length→K undef h'):Ok Tryz.prog tab ov 142 [.slice (some ⟨A,0,none⟩) l.length c,.int .i64 l.length,.func (.func 95) ⟨[]⟩ ⟨[]⟩] hs K:=by
 rw [zaa hs]
 refine Ok.into rfl znc (zaw N142) rfl (m:=60) rfl ?_
 simp -implicitDefEqProofs only [syms,symx,seval,c142]
 obtain ⟨I1,hI1⟩:∃ I:Nat→Env→Heap→Prop,I=(fun n e h'=>∃ (a:Nat) (l1:List AtomD) (h1:Heap),h'=h1.lay [] h1.low∧Ext h h1∧(n=l.length - a∧a % 20=0∧a≤l.length∧l1.Perm l∧Stab l l1∧Bl l1 20 l.length a∧Holds h1 A (.row (rowA l1) 42 false))∧∃ J:Nat→Value,e=(.slice (some ⟨A,0,none⟩) l.length c::.int .i64 l.length::.func (.func 95) ⟨[]⟩ ⟨[]⟩::jr J 3 3 (.int .i64 20::.int .i64 a::.int .i64 (a+20:Nat)::jr J 9 54 ([])))):=⟨_,rfl⟩
 refine zaE I1 _ (by rw [hI1];exact ⟨0,l,_,rfl,z,⟨rfl,by omega,by omega,List.Perm.refl _,Stab.refl _,fun k _ hk=>absurd hk (by omega),q⟩,junk (by kernel_rfl)⟩) ?_
 intro n e h' hin
 rw [hI1] at hin
 obtain ⟨a,l1,h1',rfl,z,hinv,J,rfl⟩:=hin
 clear q
 obtain ⟨rfl,ha20,han,hp,hst,hbl,q⟩:=hinv
 have hl1:=hp.length_eq
 have hlt1:=zcp hlt hp
 simp -implicitDefEqProofs only [syms,symx,seval,c142]
 refine zaD (fun hle=>?_) (fun hle=>?_)
 ·have hw1:IntKind.i64.wrap (((a+20:Nat):Int)+20)=((a+20+20:Nat):Int):=by rw [wrap_i64 (by omega) (by omega)];omega
  repeat' (simp -implicitDefEqProofs only [syms,symx,seval,c142])
  have key:=fun K hk=>zhv l1 A c a (a+20) h (h1'.lay [] h1'.low) (z.upW _ _ (by omega)) hA (q.on _ _) (by omega) (by omega) (by omega) hlt1 K hk
  simp only [hl1] at key
  refine key _ (fun h' l' x q' hp' hst' hs' ho'=>?_)
  replace z:=x
  rw [zaa h']
  repeat' (simp -implicitDefEqProofs only [syms,symx,seval,c142,hw1])
  (rw [hI1];with_reducible refine zae (m:=_) ?_ ⟨a+20,l',_,rfl,z,⟨rfl,by omega,by omega,hp'.trans hp,hst.trans hst',zny hbl ha20 (by rw [show min (a+20) l.length=a+20 by omega];exact hs') (by rw [show min (a+20) l.length=a+20 by omega];exact ho') _ (by omega),q'⟩,junk (by kernel_rfl)⟩;omega)
 repeat' (simp -implicitDefEqProofs only [syms,symx,seval,c142])
 have key:=fun K hk=>zhv l1 A c a l.length h (h1'.lay [] h1'.low) (z.upW _ _ (by omega)) hA (q.on _ _) (by omega) (by omega) (by omega) hlt1 K hk
 simp only [hl1] at key
 refine key _ (fun h' l' x q' hp' hst' hs' ho'=>?_)
 replace z:=x
 replace hp:=hp'.trans hp
 replace hst:=hst.trans hst'
 replace hbl:Bl l' 20 l.length l.length:=zny hbl ha20 (by rw [show min (a+20) l.length=l.length by omega];exact hs') (by rw [show min (a+20) l.length=l.length by omega];exact ho') _ (by omega)
 clear key hs' ho' hp' hst' hl1 hlt1 q
 rw [zaa h']
 repeat' (simp -implicitDefEqProofs only [syms,symx,seval,c142])
 obtain ⟨I2,hI2⟩:∃ I:Nat→Env→Heap→Prop,I=(fun n e h'=>∃ (w:Nat) (l1:List AtomD) (h1:Heap),h'=h1.lay [] h1.low∧Ext h h1∧(n=l.length - w∧20≤w∧w≤200000∧l1.Perm l∧Stab l l1∧Bl l1 w l.length l.length∧Holds h1 A (.row (rowA l1) 42 false))∧∃ J:Nat→Value,e=(.slice (some ⟨A,0,none⟩) l.length c::.int .i64 l.length::.func (.func 95) ⟨[]⟩ ⟨[]⟩::jr J 3 3 (.int .i64 w::jr J 7 56 ([])))):=⟨_,rfl⟩
 refine zaE I2 _ (by rw [hI2];exact ⟨20,l',_,rfl,z,⟨rfl,by omega,by omega,hp,hst,hbl,q'⟩,junk (by kernel_rfl)⟩) ?_
 intro n e h' hin
 rw [hI2] at hin
 obtain ⟨w,l1,h2',rfl,z,hinv,J,rfl⟩:=hin
 clear q' hbl hp hst
 obtain ⟨rfl,hw20,hw2k,hp,hst,hbl,q⟩:=hinv
 simp -implicitDefEqProofs only [syms,symx,seval,c142]
 refine zaD (fun hlt2=>?_) (fun hlt2=>?_)
 rotate_left
 ·repeat' ( simp -implicitDefEqProofs only [syms,symx,seval,c142])
  exact hk _ _ (z.upW _ _ (by omega)) (q.on _ _) hp hst (zzX hbl (by omega))
 have hm2:IntKind.i64.wrap ((2:Int)*(w:Int))=((2*w:Nat):Int):=by rw [wrap_i64 (by omega) (by omega)];omega
 repeat' (simp -implicitDefEqProofs only [syms,symx,seval,c142,hm2,zkB])
 obtain ⟨I3,hI3⟩:∃ I:Nat→Env→Heap→Prop,I=(fun n e h'=>∃ (a b:Nat) (l2:List AtomD) (h1:Heap),h'=h1.lay [] h1.low∧Ext h h1∧(n=l.length - a∧b=a+2*w∧a % (2*w)=0∧a≤l.length∧l2.Perm l∧Stab l l2∧Dbl l2 w l.length a∧Holds h1 A (.row (rowA l2) 42 false))∧∃ J:Nat→Value,e=(.slice (some ⟨A,0,none⟩) l.length c::.int .i64 l.length::.func (.func 95) ⟨[]⟩ ⟨[]⟩::jr J 3 3 (.int .i64 w::.int .i64 a::.int .i64 b::jr J 9 54 ([])))):=⟨_,rfl⟩
 refine zaE I3 _ (by rw [hI3];exact ⟨0,2*w,l1,_,rfl,z,⟨rfl,by omega,Nat.zero_mod _,by omega,hp,hst,zrZ hbl,q⟩,junk (by kernel_rfl)⟩) ?_
 intro n e h' hin
 rw [hI3] at hin
 obtain ⟨a,b,l2,h3',rfl,z,hinv,J,rfl⟩:=hin
 clear q hbl hp hst
 obtain ⟨rfl,hb,hamod,han,hp,hst,hdb,q⟩:=hinv
 have hl2:=hp.length_eq
 have hlt3:=zcp hlt hp
 have haw:IntKind.i64.wrap ((a:Int)+(w:Int))=((a+w:Nat):Int):=by rw [wrap_i64 (by omega) (by omega)];omega
 simp -implicitDefEqProofs only [syms,symx,seval,c142]
 refine zaD (fun hle=>?_) (fun hle=>?_)
 ·have hbw:IntKind.i64.wrap ((b:Int)+((2*w:Nat):Int))=((b+2*w:Nat):Int):=by rw [wrap_i64 (by omega) (by omega)];omega
  have hpa:=zlT hdb (by omega) hamod (by omega)
  rw [show min (a+2*w) l.length=b by omega] at hpa
  repeat' (simp -implicitDefEqProofs only [syms,symx,seval,c142,haw])
  have key:=fun K hk=>zzu l.length l2 A c a (a+w) b h (h3'.lay [] h3'.low) (z.upW _ _ (by omega)) hA (q.on _ _) (by omega) (by omega) (by omega) (by omega) (by omega) hlt3 hpa.1 hpa.2 K hk
  simp only [hl2] at key
  refine key _ (fun h' l' x q' hm' hs'=>?_)
  replace z:=x
  rw [zaa h']
  repeat' (simp -implicitDefEqProofs only [syms,symx,seval,c142,hm2,zkB,hbw])
  have hstep:=zpb (l':=l') hdb (by omega) hamod (by rw [show min (a+2*w) l.length=b by omega];exact hs') (by rw [show min (a+2*w) l.length=b by omega];exact hm')
  rw [show min (a+2*w) l.length=b by omega] at hstep
  (rw [hI3];with_reducible refine zae (m:=_) ?_ ⟨b,b+2*w,l',_,rfl,z,⟨rfl,by omega,by rw [hb,Nat.add_mod_right];exact hamod,by omega,hm'.perm.trans hp,hst.trans hm'.stab,hstep,q'⟩,junk (by kernel_rfl)⟩;omega)
 have hw2:IntKind.i64.wrap ((w:Int)*(2:Int))=((2*w:Nat):Int):=by rw [wrap_i64 (by omega) (by omega)];omega
 repeat' (first|simp -implicitDefEqProofs only [syms,symx,seval,c142,haw]|((with_reducible apply zaD) <;> intro _))
 ·have hpa:=zlT hdb (by omega) hamod (by omega)
  rw [show min (a+2*w) l.length=l.length by omega] at hpa
  have key:=fun K hk=>zzu l.length l2 A c a (a+w) l.length h (h3'.lay [] h3'.low) (z.upW _ _ (by omega)) hA (q.on _ _) (by omega) (by omega) (by omega) (by omega) (by omega) hlt3 hpa.1 hpa.2 K hk
  simp only [hl2] at key
  refine key _ (fun h' l' x q' hm' hs'=>?_)
  replace z:=x
  rw [zaa h']
  repeat' (simp -implicitDefEqProofs only [syms,symx,seval,c142,hw2,zkB])
  have hstep:=zpb (l':=l') hdb (by omega) hamod (by rw [show min (a+2*w) l.length=l.length by omega];exact hs') (by rw [show min (a+2*w) l.length=l.length by omega];exact hm')
  rw [show min (a+2*w) l.length=l.length by omega] at hstep
  (rw [hI2];with_reducible refine zae (m:=_) ?_ ⟨2*w,l',_,rfl,z,⟨rfl,by omega,by omega,hm'.perm.trans hp,hst.trans hm'.stab,zyo hstep (by omega),q'⟩,junk (by kernel_rfl)⟩;omega)
 ·repeat' ( simp -implicitDefEqProofs only [syms,symx,seval,c142,hw2,zkB])
  (rw [hI2];with_reducible refine zae (m:=_) ?_ ⟨2*w,l2,_,rfl,z,⟨rfl,by omega,by omega,hp,hst,zyp hdb (by omega) hamod (by omega),q⟩,junk (by kernel_rfl)⟩;omega)
theorem zld (l:List AtomD) (A c:Nat) (h hs:Heap) (z:Ext h hs) (hA:h.size≤A) (q:Holds hs A (.row (rowA l) 42 false)) (hn:l.length≤100000) (hlt:∀ x∈l,x.light=true) (K:Value→Heap→Prop)
 (hk:∀ h' l',Ext h h'→Holds h' A (.row (rowA l') 42 false)→l'.Perm l→Stab l l'→zaG l' 0 l.length→K undef h'):Ok Tryz.prog tab ov 124 [.slice (some ⟨A,0,none⟩) l.length c,.func (.func 95) ⟨[]⟩ ⟨[]⟩] hs K:=by
 rw [zaa hs]
 refine Ok.into rfl zm8 (zaw N124) rfl (m:=7) rfl ?_
 repeat' (simp -implicitDefEqProofs only [syms,symx,seval,c124])
 refine zs5 l A c h (hs.lay [] hs.low) (z.upW _ _ (by omega)) hA (q.on _ _) hn hlt _ (fun h' l' x q' hp' hst' hs'=>?_)
 rw [zaa h']
 repeat' (simp -implicitDefEqProofs only [syms,symx,seval,c124])
 exact hk _ _ (x.upW _ _ (by omega)) (q'.on _ _) hp' hst' hs'
theorem zvs {h:Heap} {v:Value} {l:List AtomD} (f:Sl Rep.atom h v l):∃ b:Bool,binA Tryz.prog tab .eql 52 v (.slice none 0 0)=some (.bool b)∧(b=true→l=[]):=by
 rcases f with ⟨rfl,rfl⟩|⟨A,o,c,row,u,ro,rfl,_⟩
 ·exact ⟨true,by kernel_rfl,fun _=>rfl⟩
 ·exact ⟨false,by kernel_rfl,nofun⟩
theorem zmy (l:List AtomD) (v:Value) (h:Heap) (hl:Sl Rep.atom h v l) (hs:l.length≤100000) (K:Value→Heap→Prop)
 (hk:∀ h' w,Ext h h'→OwnX h h' 42 w l→K w h'):Ok Tryz.prog tab ov 41 [v] h K:=by
 rw [zaa h]
 obtain ⟨b,hb,hnil⟩:=zvs hl
 refine Ok.into rfl zwo (zaw N41) rfl (m:=7) rfl ?_
 simp -implicitDefEqProofs only [syms,symx,seval,c41,hb]
 cases b
 ·simp -implicitDefEqProofs only [syms,symx,seval,c41,zcU,zA0]
  obtain ⟨news,hs,hsr⟩:=zpC (A:=h.size+1) (r:=Rep.atom) (by decide) (hl.lay [.row [] 42 false] h.low) (fun cs y hr=>hr)
  have f:Ow Rep.atom h (h.lay [.row [] 42 false] h.low) 42 (h.size+1) (.slice (some ⟨h.size+0,0,none⟩) 0 0) [] :=
   .inl ⟨by omega,rfl,.inr ⟨h.size+0,0,rfl,by omega,by rw [zad];simp,[],42,false,by rw [zbd];rfl⟩⟩
  obtain ⟨w,h',A',e1,e2,e3,e4,e5⟩:=zlF (t:=52) ds52 zef rfl (by decide) (by rw [zad];omega) f hs hsr (by simp only [List.length_nil];omega) (by simp only [List.length_nil];omega)
  rw [e1]
  simp -implicitDefEqProofs only [syms,symx,seval,c41]
  exact hk _ _ ((Ext.refl h).stepW e3 (by omega) (by omega)) (zte (by simpa using e2))
 ·simp -implicitDefEqProofs only [syms,symx,seval,c41]
  rw [hnil rfl] at hk
  exact hk _ _ ((Ext.refl h).upW _ _ (by omega)) (.inl ⟨rfl,Emp.nil⟩)
theorem zs3 (a b:AtomD) (ha:a.light=true) (hb:b.light=true) (h:Heap) (K:Value→Heap→Prop) (hk:∀ h',Ext h h'→K (.bool (cmpD a b == 0)) h'):Ok Tryz.prog tab ov 126 [a.val,b.val] h K:=by
 rw [zaa h]
 have z:=Ext.refl h
 refine Ok.into rfl ztX (zaw N126) rfl (m:=7) rfl ?_
 repeat' (simp -implicitDefEqProofs only [syms,symx,seval,c126,zas,↓zaF,zaA,zal])
 refine zhu a b ha hb _ _ (fun h' x=>?_)
 (replace z:=z.overW x (by omega);rw [zaa h'])
 simp -implicitDefEqProofs only [syms,symx,seval,c126]
 refine zeR (fun hc=>?_) (fun hc=>?_)
 ·repeat' ( simp -implicitDefEqProofs only [syms,symx,seval,c126])
  rw [show (cmpD a b == 0)=true by rw [hc];rfl] at hk
  exact hk _ (z.upW _ _ (by omega))
 ·repeat' ( simp -implicitDefEqProofs only [syms,symx,seval,c126])
  rw [show (cmpD a b == 0)=false by simpa using hc] at hk
  exact hk _ (z.upW _ _ (by omega))
theorem zqB (l:List AtomD) (A:Nat) (h hs:Heap) (z:Ext h hs) (hA:h.size≤A) (q:Holds hs A (.row (rowA l) 42 false)) (hn:l.length≤100000) (hlt:∀ x∈l,x.light=true) (K:Value→Heap→Prop)
 (hk:∀ h' v,Ext h h'→OwnA h h' 42 v (zej l l.length)→K v h'):Ok Tryz.prog tab ov 125 [.slice (some ⟨A,0,none⟩) l.length (G*11+l.length),.func (.func 126) ⟨[]⟩ ⟨[]⟩] hs K:=by
 rw [zaa hs]
 have hbig:∀ (x:Value) (hh:Heap) (K2:Value→Heap→Prop),valE (some (.slice (some ⟨A,0,none⟩) l.length (G*11+l.length))) hh K2=K2 (.slice (some ⟨A,0,none⟩) l.length (G*11+l.length)) hh:=fun _ _ _=>rfl
 obtain ⟨C,hC⟩:∃ C,C=G*11+l.length:=⟨_,rfl⟩
 rw [← hC]
 refine Ok.into rfl zm9 (zaw N125) rfl (m:=64) rfl ?_
 repeat' (first|simp -implicitDefEqProofs only [syms,symx,seval,c125]|((with_reducible apply zaD) <;> intro _))
 ·have e:=zoW (l:=l) (by omega)
  rw [e] at hk
  exact hk _ _ (z.upW _ _ (by omega)) (zgA (q.on _ _) hA (by omega) hC)
 have hu1:zej l 1=l.take 1:=by
  rw [zjl (m:=0) (by omega)]
  rfl
 obtain ⟨I1,hI1⟩:∃ I:Nat→Env→Heap→Prop,I=(fun n e h'=>∃ (k:Nat) (h1:Heap),h'=h1.lay [] h1.low∧Ext h h1∧(n=l.length - k∧1≤k∧k≤l.length∧zej l k=l.take k∧Holds h1 A (.row (rowA l) 42 false))∧∃ J:Nat→Value,e=(.slice (some ⟨A,0,none⟩) l.length C::.func (.func 126) ⟨[]⟩ ⟨[]⟩::jr J 2 3 (.int .i64 k::jr J 6 60 ([])))):=⟨_,rfl⟩
 refine zaE I1 _ (by rw [hI1];exact ⟨1,_,rfl,z,⟨rfl,by omega,by omega,hu1,q⟩,junk (by kernel_rfl)⟩) ?_
 intro n e h' hin
 rw [hI1] at hin
 obtain ⟨k,h1',rfl,z,hinv,J,rfl⟩:=hin
 clear q
 obtain ⟨rfl,hk1,hkn,hu,q⟩:=hinv
 have hwk:=zcl k (by omega)
 have hwk1:IntKind.i64.wrap ((k:Int) - 1)=((k - 1:Nat):Int):=by rw [wrap_i64 (by omega) (by omega)];omega
 simp -implicitDefEqProofs only [syms,symx,seval,c125]
 refine zaD (fun hlt1=>?_) (fun hlt1=>?_)
 rotate_left
 ·repeat' ( simp -implicitDefEqProofs only [syms,symx,seval,c125])
  have hkl:k=l.length:=by omega
  subst hkl
  rw [hu,List.take_length] at hk
  exact hk _ _ (z.upW _ _ (by omega)) (zgA (q.on _ _) hA (by omega) hC)
 have hin:(0:Int)≤(k:Int)∧(k:Int) < (l.length:Int):=by omega
 have hin1:(0:Int)≤((k - 1:Nat):Int)∧((k - 1:Nat):Int) < (l.length:Int):=by omega
 have hld:=fun (bs:List Blk) (w:Nat)=>zaQ (bs:=bs) (w:=w) q (zaT (l:=l) (i:=k) (by omega))
 have hld1:=fun (bs:List Blk) (w:Nat)=>zaQ (bs:=bs) (w:=w) q (zaT (l:=l) (i:=k - 1) (by omega))
 simp -implicitDefEqProofs only [syms,symx,seval,c125]
 refine (zb9 (by simp only [c125])) (z.upW _ _ (by omega)) ?_
 repeat' (simp -implicitDefEqProofs only [syms,symx,seval,c125,hwk1,hin,hin1,and_self,if_true,↓hld,↓hld1,zal])
 refine zs3 _ _ (za2 hlt (by omega)) (za2 hlt (by omega)) _ _ (fun h' x=>?_)
 (((with_reducible refine zah ?_ ?_ ?_);(· exact (by (simp only [lsz]);have:=z.size;omega));(· exact x));replace z:=z.overW x (by omega);(replace q:=q.over x);rw [zaa h'])
 cases hc:(cmpD (l.getD k noAtomD) (l.getD (k - 1) noAtomD) == 0)
 ·repeat' (first|simp -implicitDefEqProofs only [syms,symx,seval,c125]|((with_reducible refine ⟨z.grw.lay _ _,?_⟩);(intro _ h' zz x _);( simp only [zan,List.append_nil] at x );( replace q:=q.over x );(replace z:=zz);(clear zz);rw [zaa h']))
  rw [hwk]
  (rw [hI1];with_reducible refine zae (m:=_) ?_ ⟨k+1,_,rfl,z,⟨rfl,by omega,by omega,zro (by omega) (by omega) hu (by simpa using hc),q⟩,junk (by kernel_rfl)⟩;omega)
 have hc:cmpD (l.getD k noAtomD) (l.getD (k - 1) noAtomD)=0:=by simpa using hc
 repeat' (first|simp -implicitDefEqProofs only [syms,symx,seval,c125]|((with_reducible refine ⟨z.grw.lay _ _,?_⟩);(intro _ h' zz x _);(simp only [zan,List.append_nil] at x);(replace q:=q.over x);(replace z:=zz);(clear zz);rw [zaa h']))
 rw [hC,ziA ds52 sz42 (by omega) (Nat.le_refl _) (by omega),← hC]
 repeat' (simp -implicitDefEqProofs only [syms,symx,seval,c125])
 obtain ⟨C2,hC2⟩:∃ C2,C2=G*11+(l.length - k):=⟨_,rfl⟩
 rw [← hC2]
 obtain ⟨I2,hI2⟩:∃ I:Nat→Env→Heap→Prop,I=(fun n e h'=>∃ (b i:Nat) (cur:List AtomD) (h1:Heap),h'=h1.lay [] h1.low∧Ext h h1∧(n=l.length - (k+b)∧1≤b∧k+b≤l.length∧cur.length=l.length∧i+1≤k+b∧cur.take i=zej l (k+b)∧(∀ p,k+b≤p+1→cur.getD p noAtomD=l.getD p noAtomD)∧Holds h1 A (.row (rowA cur) 42 false))∧∃ J:Nat→Value,e=(.slice (some ⟨A,0,none⟩) l.length C::.func (.func 126) ⟨[]⟩ ⟨[]⟩::jr J 2 3 (.int .i64 i::.slice (some ⟨A,k*11,none⟩) (l.length - k) C2::.int .i64 b::jr J 8 58 ([])))):=⟨_,rfl⟩
 refine zaE I2 _ (by rw [hI2];exact ⟨1,k,l,_,rfl,z,⟨rfl,by omega,by omega,rfl,by omega,by rw [zpH (by omega) hc];exact hu.symm,fun _ _=>rfl,q⟩,junk (by kernel_rfl)⟩) ?_
 intro n e h' hin
 rw [hI2] at hin
 obtain ⟨b,i,cur,h2',rfl,z,hinv,J,rfl⟩:=hin
 clear q
 obtain ⟨rfl,hb1,hbn,hcl,hik,hcu,hce,q⟩:=hinv
 have hwb:=zcl b (by omega)
 have hwb1:IntKind.i64.wrap ((b:Int) - 1)=((b - 1:Nat):Int):=by rw [wrap_i64 (by omega) (by omega)];omega
 have hwi:=zcl i (by omega)
 simp -implicitDefEqProofs only [syms,symx,seval,c125]
 refine zaD (fun hlt2=>?_) (fun hlt2=>?_)
 rotate_left
 ·have hkb:k+b=l.length:=by omega
  have hil:i≤l.length:=by omega
  simp -implicitDefEqProofs only [syms,symx,seval,c125]
  rw [hC,ziA ds52 sz42 hil (Nat.le_refl _) (by omega),← hC]
  obtain ⟨C3,hC3⟩:∃ C3,C3=G*11+(l.length - i):=⟨_,rfl⟩
  rw [← hC3]
  simp -implicitDefEqProofs only [syms,symx,seval,c125,zuD]
  refine zpZ q ds52 zef (by omega) (by omega) (fun h3 q3 c3=>?_)
  replace z:=z.stepW c3 hA (by omega)
  rw [zaa h3]
  clear q
  simp -implicitDefEqProofs only [syms,symx,seval,c125]
  rw [hC,zs9 ds52 sz42 hil (Nat.le_refl _) (by omega),← hC]
  repeat' (simp -implicitDefEqProofs only [syms,symx,seval,c125])
  rw [hcu,hkb] at q3
  have hlen:i=(zej l l.length).length:=by rw [← hkb,← hcu,List.length_take];omega
  have hlen2:(zej l l.length++List.replicate (cur.length - i) noAtomD).length=l.length:=by rw [List.length_append,List.length_replicate];omega
  exact hk _ _ (z.upW _ _ (by omega)) (zlg (q3.on _ _) hA (by omega) hlen (by rw [hlen2];exact hC))
 have hin:(0:Int)≤(b:Int)∧(b:Int) < ((l.length - k:Nat):Int):=by omega
 have hin1:(0:Int)≤((b - 1:Nat):Int)∧((b - 1:Nat):Int) < ((l.length - k:Nat):Int):=by omega
 have hld:=fun (bs:List Blk) (w:Nat)=>zaQ (bs:=bs) (w:=w) q (zaT (l:=cur) (i:=k+b) (by omega))
 have hld1:=fun (bs:List Blk) (w:Nat)=>zaQ (bs:=bs) (w:=w) q (zaT (l:=cur) (i:=k+(b - 1)) (by omega))
 rw [Nat.add_mul] at hld hld1
 rw [hce _ (by omega)] at hld hld1
 simp -implicitDefEqProofs only [syms,symx,seval,c125]
 refine (zb9 (by simp only [c125])) (z.upW _ _ (by omega)) ?_
 repeat' (simp -implicitDefEqProofs only [syms,symx,seval,c125,hwb1,hin,hin1,and_self,if_true,↓hld,↓hld1,zal])
 refine zs3 _ _ (za2 hlt (by omega)) (za2 hlt (by omega)) _ _ (fun h' x=>?_)
 (((with_reducible refine zah ?_ ?_ ?_);(· exact (by (simp only [lsz]);have:=z.size;omega));(· exact x));replace z:=z.overW x (by omega);(replace q:=q.over x);rw [zaa h'])
 cases hc2:(cmpD (l.getD (k+b) noAtomD) (l.getD (k+(b - 1)) noAtomD) == 0)
 rotate_left
 ·have hc2:cmpD (l.getD (k+b) noAtomD) (l.getD (k+b - 1) noAtomD)=0:=by rw [show k+b - 1=k+(b - 1) by omega];simpa using hc2
  repeat' (first|simp -implicitDefEqProofs only [syms,symx,seval,c125]|((with_reducible_and_instances apply zar);(· rfl))|((with_reducible refine ⟨z.grw.lay _ _,?_⟩);(intro _ h' zz x _);(simp only [zan,List.append_nil] at x);(replace q:=q.over x);(replace z:=zz);(clear zz);rw [zaa h']))
  rw [hwb]
  (rw [hI2];with_reducible refine zae (m:=_) ?_ ⟨b+1,i,cur,_,rfl,z,⟨rfl,by omega,by omega,hcl,by omega,by rw [hcu,show k+(b+1)=k+b+1 by omega,zpH (by omega) hc2],fun p hp=>hce p (by omega),q⟩,junk (by kernel_rfl)⟩;omega)
 have hc2:cmpD (l.getD (k+b) noAtomD) (l.getD (k+b - 1) noAtomD)≠0:=by rw [show k+b - 1=k+(b - 1) by omega];simpa using hc2
 repeat' (first|simp -implicitDefEqProofs only [syms,symx,seval,c125]|((with_reducible_and_instances apply zar);(· rfl))|((with_reducible refine ⟨z.grw.lay _ _,?_⟩);(intro _ h' zz x _);(simp only [zan,List.append_nil] at x);(replace q:=q.over x);(replace z:=zz);(clear zz);rw [zaa h']))
 have hld:=fun (bs:List Blk) (w:Nat)=>zaQ (bs:=bs) (w:=w) q (zaT (l:=cur) (i:=k+b) (by omega))
 rw [Nat.add_mul] at hld
 rw [hce _ (by omega)] at hld
 have hini:(0:Int)≤(i:Int)∧(i:Int) < (l.length:Int):=by omega
 repeat' (simp -implicitDefEqProofs only [syms,symx,seval,c125,hin,hini,and_self,if_true,↓hld,zal])
 have hz:=z.size
 refine zb7 q sz42 (by omega) (fun h3 q3 c3=>?_)
 replace z:=z.stepW c3 hA (by omega)
 rw [zaa h3]
 clear q hld
 repeat' (simp -implicitDefEqProofs only [syms,symx,seval,c125])
 rw [hwi,hwb]
 have hce3:∀ p,k+(b+1)≤p+1→(cur.set i (l.getD (k+b) noAtomD)).getD p noAtomD=l.getD p noAtomD:=by
  intro p hp
  have hne:i≠p:=by omega
  rw [zkw hne]
  exact hce p (by omega)
 (rw [hI2];with_reducible refine zae (m:=_) ?_ ⟨b+1,i+1,cur.set i (l.getD (k+b) noAtomD),_,rfl,z,⟨rfl,by omega,by omega,by rw [List.length_set];exact hcl,by omega,by rw [zw0 (by omega),hcu,show k+(b+1)=k+b+1 by omega,zux hc2],hce3,q3⟩,junk (by kernel_rfl)⟩;omega)
theorem zqL (v:Value) (h:Heap) (hl:Sl Rep.atom h v []) (K:Value→Heap→Prop) (hk:∀ h',Ext h h'→K undef h'):Ok Tryz.prog tab ov 124 [v,.func (.func 95) ⟨[]⟩ ⟨[]⟩] h K:=by
 rw [zaa h]
 have z:=Ext.refl h
 have hln:=fun (hh:Heap)=>hl.lenA ds52 hh
 have hva:=za3 v
 simp only [List.length_nil] at hln
 have hn0:((0:Nat):Int)=0:=rfl
 refine Ok.into rfl zm8 (zaw N124) rfl (m:=7) rfl ?_
 repeat' (simp -implicitDefEqProofs only [syms,symx,seval,c142,c124,c125,c152,hln,hva,hn0])
 refine Ok.into rfl znc (zaw N142) rfl (m:=60) rfl ?_
 simp -implicitDefEqProofs only [syms,symx,seval,c142,c124,c125,c152,hln,hva,hn0]
 refine zkv ?_
 simp -implicitDefEqProofs only [syms,symx,seval,c142,c124,c125,c152,hln,hva,hn0,decide_false,zer]
 refine Ok.into rfl znf (zaw N152) rfl (m:=49) rfl ?_
 simp -implicitDefEqProofs only [syms,symx,seval,c142,c124,c125,c152,hln,hva,hn0]
 refine zkv ?_
 simp -implicitDefEqProofs only [syms,symx,seval,c142,c124,c125,c152,hln,hva,hn0,decide_false,zer]
 refine zkv ?_
 simp -implicitDefEqProofs only [syms,symx,seval,c142,c124,c125,c152,hln,hva,hn0,decide_false,zer]
 exact hk _ (z.upW _ _ (by omega))
theorem zlb (v:Value) (h:Heap) (hl:Sl Rep.atom h v []) (f:Value) (K:Value→Heap→Prop) (hk:∀ h',Ext h h'→K v h'):Ok Tryz.prog tab ov 125 [v,f] h K:=by
 rw [zaa h]
 have z:=Ext.refl h
 have hln:=fun (hh:Heap)=>hl.lenA ds52 hh
 have hva:=za3 v
 simp only [List.length_nil] at hln
 have hn0:((0:Nat):Int)=0:=rfl
 refine Ok.into rfl zm9 (zaw N125) rfl (m:=64) rfl ?_
 simp -implicitDefEqProofs only [syms,symx,seval,c142,c124,c125,c152,hln,hva,hn0,decide_true,zjZ]
 exact hk _ (z.upW _ _ (by omega))
theorem zs4 (l:List AtomD) (v:Value) (h:Heap) (hl:Sl Rep.atom h v l) (hn:l.length≤100000) (hlt:∀ x∈l,x.light=true) (K:Value→Heap→Prop)
 (hk:∀ h' w,Ext h h'→OwnA h h' 42 w (zcF l)→K w h'):Ok Tryz.prog tab ov 93 [v] h K:=by
 rw [zaa h]
 have z:=Ext.refl h
 refine Ok.into rfl zwW (zaw N93) rfl (m:=9) rfl ?_
 repeat' (simp -implicitDefEqProofs only [syms,symx,seval,c93])
 refine zmy l v _ (hl.lay _ _) (by omega) _ (fun h' w x ho=>?_)
 rcases ho with ⟨rfl,ho⟩|⟨A,rfl,q,hA,hne⟩
 ·have hva:=za3 w
  (replace z:=z.overW x (by omega);rw [zaa h'])
  repeat' (simp -implicitDefEqProofs only [syms,symx,seval,c93,hva])
  refine zqL w _ (ho.lay _ _).sl _ (fun h' x=>?_)
  replace ho:=ho.over x
  (replace z:=z.overW x (by omega);rw [zaa h'])
  repeat' (simp -implicitDefEqProofs only [syms,symx,seval,c93,hva])
  refine zlb w _ (ho.lay _ _).sl _ _ (fun h' x=>?_)
  replace ho:=ho.over x
  (replace z:=z.overW x (by omega);rw [zaa h'])
  repeat' (simp -implicitDefEqProofs only [syms,symx,seval,c93,hva])
  exact hk _ _ (z.upW _ _ (by omega)) (.inl ⟨rfl,ho.lay _ _⟩)
 ·(replace z:=z.overW x (by omega);rw [zaa h'])
  repeat' (simp -implicitDefEqProofs only [syms,symx,seval,c93])
  refine zld l A (G*11+l.length) h _ (z.upW _ _ (by omega)) hA (q.on _ _) hn hlt _ (fun h' l' x q' hp hst hso=>?_)
  replace z:=x
  rw [zaa h']
  repeat' (simp -implicitDefEqProofs only [syms,symx,seval,c93])
  have key:=fun K hk=>zqB l' A h (h'.lay [] h'.low) (z.upW _ _ (by omega)) hA (q'.on _ _) (by rw [hp.length_eq];omega) (zcp hlt hp) K hk
  rw [zrp hp hst hso,hp.length_eq] at key
  refine key _ (fun h' w x ho=>?_)
  replace z:=x
  have hva:=za3 w
  rw [zaa h']
  repeat' (simp -implicitDefEqProofs only [syms,symx,seval,c93,hva])
  exact hk _ _ (z.upW _ _ (by omega)) (ho.lay _ _)
theorem zEg (l:List AtomD) (v:Value) (h:Heap) (hl:Sl Rep.atom h v l) (hn:l.length≤1000) (hlt:∀ x∈l,x.light=true) (K:Value→Heap→Prop)
 (hk:∀ h',Ext h h'→K (.bool (isA l)) h'):Ok Tryz.prog tab ov 92 [v] h K:=by
 rw [zaa h]
 have z:=Ext.refl h
 have hln:=fun (hh:Heap)=>hl.lenA ds52 hh
 refine Ok.into rfl zwV (zaw N92) rfl (m:=24) rfl ?_
 simp -implicitDefEqProofs only [syms,symx,seval,c92,hln]
 obtain ⟨I1,hI1⟩:∃ I:Nat→Env→Heap→Prop,I=(fun n e h'=>∃ (i:Nat) (h1:Heap),h'=h1.lay [] h1.low∧Ext h h1∧(n=l.length - i∧i≤l.length∧(∀ k,0 < k→k < i→cmpD (l.getD (k - 1) noAtomD) (l.getD k noAtomD) < 0))∧∃ J:Nat→Value,e=(v::jr J 1 4 (.int .i64 l.length::.int .i64 i::jr J 7 18 ([])))):=⟨_,rfl⟩
 refine zaE I1 _ (by rw [hI1];exact ⟨0,_,rfl,z,⟨rfl,by omega,fun k _ g=>by omega⟩,junk (by kernel_rfl)⟩) ?_
 intro n e h' hin
 rw [hI1] at hin
 obtain ⟨i,h1',rfl,z,hinv,J,rfl⟩:=hin
 obtain ⟨rfl,hin,hup⟩:=hinv
 have hwi:=zcl i (by omega)
 have hwi1:0 < i→IntKind.i64.wrap ((i:Int) - 1)=((i - 1:Nat):Int):=fun _=>by rw [wrap_i64 (by omega) (by omega)];omega
 simp -implicitDefEqProofs only [syms,symx,seval,c92]
 refine zaD (fun hlt1=>?_) (fun hlt1=>?_)
 rotate_left
 ·have hi:i=l.length:=by omega
  subst hi
  rw [isA_iff.2 (asc_iff.2 hup)] at hk
  repeat' (simp -implicitDefEqProofs only [syms,symx,seval,c92])
  exact hk _ (z.upW _ _ (by omega))
 have hr:l[(i:Int).toNat]? = some (l.getD i noAtomD):=zaT (by omega)
 have hr1:l[((i - 1:Nat):Int).toNat]? = some (l.getD (i - 1) noAtomD):=zaT (by omega)
 simp -implicitDefEqProofs only [syms,symx,seval,c92]
 refine (zb9 (by simp only [c92])) (z.upW _ _ (by omega)) ?_
 simp -implicitDefEqProofs only [syms,symx,seval,c92]
 refine zaD (fun hpos=>?_) (fun hpos=>?_)
 rotate_left
 ·have hi0:i=0:=by omega
  subst hi0
  repeat' (first|simp -implicitDefEqProofs only [syms,symx,seval,c92]|((with_reducible refine ⟨z.grw.lay _ _,?_⟩);(intro _ h' zz x _);(simp only [zan,List.append_nil] at x);(replace z:=zz);(clear zz);rw [zaa h']))
  (rw [hI1];with_reducible refine zae (m:=_) ?_ ⟨1,_,rfl,z,⟨rfl,by omega,fun k _ g=>by omega⟩,junk (by kernel_rfl)⟩;omega)
 have hwi1:=hwi1 (by omega)
 simp -implicitDefEqProofs only [syms,symx,seval,c92,hwi1]
 repeat' ((first|with_reducible_and_instances refine zj3 (hl.mono z.inc) ds52 sz42 (by omega) hr1 (fun p hp=>?_)|with_reducible_and_instances refine zj3 (hl.mono z.inc) ds52 sz42 (by omega) hr (fun p hp=>?_)|with_reducible_and_instances refine lda hp ag42 sz42 ?_) <;> simp -implicitDefEqProofs only [syms,symx,seval,c92,hwi1])
 refine zhu _ _ (za2 hlt (by omega)) (za2 hlt (by omega)) _ _ (fun h' x=>?_)
 (((with_reducible refine zah ?_ ?_ ?_);(· exact (by (simp only [lsz]);have:=z.size;omega));(· exact x));replace z:=z.overW x (by omega);rw [zaa h'])
 simp -implicitDefEqProofs only [syms,symx,seval,c92]
 refine zaD (fun hc=>?_) (fun hc=>?_)
 ·rw [zAx (fun g=>by have:=asc_iff.1 g i (by omega) (by omega);omega)] at hk
  repeat' (first|simp -implicitDefEqProofs only [syms,symx,seval,c92]|((with_reducible refine ⟨z.grw.lay _ _,?_⟩);(intro _ h' zz x _);(simp only [zan,List.append_nil] at x);(replace z:=zz);(clear zz);rw [zaa h']))
  exact hk _ (z.upW _ _ (by omega))
 ·repeat' (first|simp -implicitDefEqProofs only [syms,symx,seval,c92]|((with_reducible refine ⟨z.grw.lay _ _,?_⟩);(intro _ h' zz x _);( simp only [zan,List.append_nil] at x );(replace z:=zz);(clear zz);rw [zaa h']))
  rw [hwi]
  (rw [hI1];with_reducible refine zae (m:=_) ?_ ⟨i+1,_,rfl,z,⟨rfl,by omega,fun k g1 g2=>by
   rcases Nat.lt_or_ge k i with e|e
   ·exact hup k g1 e
   ·have e:k=i:=by omega
    subst e
    omega⟩,junk (by kernel_rfl)⟩;omega)
theorem zsQ (l:List AtomD) (v:Value) (h:Heap) (hl:Sl Rep.atom h v l) (hn:l.length≤900) (hlt:∀ x∈l,x.light=true) (K:Value→Heap→Prop)
 (hk:∀ h' w,Ext h h'→OwnA h h' 42 w (zcF l)→K w h'):Ok Tryz.prog tab ov 61 [v] h K:=by
 rw [zaa h]
 have z:=Ext.refl h
 refine Ok.into rfl zwy (zaw N61) rfl (m:=8) rfl ?_
 repeat' (simp -implicitDefEqProofs only [syms,symx,seval,c61])
 refine zEg l v _ (hl.lay _ _) (by omega) hlt _ (fun h' x=>?_)
 (replace z:=z.overW x (by omega);rw [zaa h'])
 cases hi:isA l
 ·repeat' ( simp -implicitDefEqProofs only [syms,symx,seval,c61])
  refine zs4 l v _ ((hl.mono z.inc).lay _ _) (by omega) hlt _ (fun h' w x ho=>?_)
  have hsz:=z.size
  replace ho:=ho.down (h0:=h) (by rw [zad];omega)
  (replace z:=z.overW x (by omega);rw [zaa h'])
  have hva:=za3 w
  repeat' (simp -implicitDefEqProofs only [syms,symx,seval,c61,hva])
  exact hk _ _ (z.upW _ _ (by omega)) (ho.lay _ _)
 ·repeat' ( simp -implicitDefEqProofs only [syms,symx,seval,c61])
  refine zmy l v _ ((hl.mono z.inc).lay _ _) (by omega) _ (fun h' w x ho=>?_)
  have hsz:=z.size
  replace ho:=(ho.own (by omega)).down (h0:=h) (by rw [zad];omega)
  rw [← zm2 (isA_iff.1 hi)] at ho
  (replace z:=z.overW x (by omega);rw [zaa h'])
  have hva:=za3 w
  repeat' (simp -implicitDefEqProofs only [syms,symx,seval,c61,hva])
  exact hk _ _ (z.upW _ _ (by omega)) (ho.lay _ _)
theorem zmx (l:List AtomD) (a:AtomD) (v:Value) (h:Heap) (hl:Sl Rep.atom h v l) (hs:AscD l) (hn:l.length≤1000) (hlt:∀ x∈l,x.light=true) (ha:a.light=true) (K:Value→Heap→Prop)
 (hk:∀ h' i,Ext h h'→AmPlace l a i→K (.tuple #[.int .i64 (i:Nat),.bool (hasA l a)]) h'):Ok Tryz.prog tab ov 94 [v,a.val,.func (.func 95) ⟨[]⟩ ⟨[]⟩] h K:=by
 rw [zaa h]
 have z:=Ext.refl h
 have hln:=fun (hh:Heap)=>hl.lenA ds52 hh
 refine Ok.into rfl zwX (zaw N94) rfl (m:=46) rfl ?_
 simp -implicitDefEqProofs only [syms,symx,seval,c94,hln,zas]
 refine zdW (fun h' x hq=>?_)
 have q0:=hq 0 _ rfl
 clear hq
 (replace z:=z.overW x (by omega);rw [zaa h'])
 obtain ⟨I1,hI1⟩:∃ I:Nat→Env→Heap→Prop,I=(fun n e h'=>∃ (i j:Nat) (h1:Heap),h'=h1.lay [] h1.low∧Ext h h1∧(n=j - i∧i≤j∧j≤l.length∧(∀ k,k < i→cmpD (l.getD k noAtomD) a < 0)∧(∀ k,j≤k→k < l.length→¬ cmpD (l.getD k noAtomD) a < 0)∧Holds h1 (h.size+0) (.row a.cells 42 false))∧∃ J:Nat→Value,e=(v::J 1::.func (.func 95) ⟨[]⟩ ⟨[]⟩::J 3::.pointer (some ⟨h.size+0,0,none⟩)::jr J 5 3 (.int .i64 l.length::.int .i64 i::.int .i64 j::jr J 11 38 ([])))):=⟨_,rfl⟩
 refine zaE I1 _ (by rw [hI1];exact ⟨0,l.length,_,rfl,z,⟨rfl,by omega,by omega,fun k g=>by omega,fun k g1 g2=>by omega,q0⟩,junk (by kernel_rfl)⟩) ?_
 intro n e h' hin
 rw [hI1] at hin
 obtain ⟨i,j,h1',rfl,z,hinv,J,rfl⟩:=hin
 clear q0
 obtain ⟨rfl,hij,hjl,hlo,hhi,q0⟩:=hinv
 simp -implicitDefEqProofs only [syms,symx,seval,c94]
 refine zaD (fun hlt1=>?_) (fun hlt1=>?_)
 rotate_left
 ·have e:i=j:=by omega
  subst e
  have hpl:AmPlace l a i:=⟨hjl,hlo,hhi⟩
  have hhas:=hpl.has hs
  simp -implicitDefEqProofs only [syms,symx,seval,c94]
  refine (zb9 (by simp only [c94])) (z.upW _ _ (by omega)) ?_
  simp -implicitDefEqProofs only [syms,symx,seval,c94]
  refine zaD (fun hin=>?_) (fun hin=>?_)
  rotate_left
  ·have e:hasA l a=false:=by
    cases e:hasA l a
    ·rfl
    ·exact absurd (hhas.1 e).1 (by omega)
   rw [e] at hk
   repeat' (first|simp -implicitDefEqProofs only [syms,symx,seval,c94]|((with_reducible refine ⟨z.grw.lay _ _,?_⟩);(intro _ h' zz x _);(simp only [zan,List.append_nil] at x);(replace q0:=q0.over x);(replace z:=zz);(clear zz);rw [zaa h']))
   exact hk _ _ (z.upW _ _ (by omega)) hpl
  have hr:l[(i:Int).toNat]? = some (l.getD i noAtomD):=zaT (by omega)
  simp -implicitDefEqProofs only [syms,symx,seval,c94]
  repeat' ((first|with_reducible_and_instances refine zj3 (hl.mono z.inc) ds52 sz42 (by omega) hr (fun p hp=>?_)|with_reducible_and_instances refine lda hp ag42 sz42 ?_) <;> simp -implicitDefEqProofs only [syms,symx,seval,c94,q0.lay,zas,↓zaF,zaA,zal])
  refine zhu _ _ (za2 hlt (by omega)) ha _ _ (fun h' x=>?_)
  (((with_reducible refine zah ?_ ?_ ?_);(· exact (by (simp only [lsz]);have:=z.size;omega));(· exact x));replace z:=z.overW x (by omega);(replace q0:=q0.over x);rw [zaa h'])
  simp -implicitDefEqProofs only [syms,symx,seval,c94]
  refine zeR (fun hc=>?_) (fun hc=>?_)
  ·rw [hhas.2 ⟨by omega,hc⟩] at hk
   repeat' (first|simp -implicitDefEqProofs only [syms,symx,seval,c94]|((with_reducible refine ⟨z.grw.lay _ _,?_⟩);(intro _ h' zz x _);(simp only [zan,List.append_nil] at x);(replace q0:=q0.over x);(replace z:=zz);(clear zz);rw [zaa h']))
   exact hk _ _ (z.upW _ _ (by omega)) hpl
  ·have e:hasA l a=false:=by
    cases e:hasA l a
    ·rfl
    ·exact absurd (hhas.1 e).2 hc
   rw [e] at hk
   repeat' (first|simp -implicitDefEqProofs only [syms,symx,seval,c94]|((with_reducible refine ⟨z.grw.lay _ _,?_⟩);(intro _ h' zz x _);(simp only [zan,List.append_nil] at x);(replace q0:=q0.over x);(replace z:=zz);(clear zz);rw [zaa h']))
   exact hk _ _ (z.upW _ _ (by omega)) hpl
 obtain ⟨e1,e2,e3,e4⟩:=zgq i j (by omega)
 repeat' (simp -implicitDefEqProofs only [syms,symx,seval,c94,e1])
 rw [zfU rfl rfl rfl (ziJ _) rfl,e2]
 simp -implicitDefEqProofs only [syms,symx,seval,c94,e1]
 rw [zh0 (by decide),e4]
 simp -implicitDefEqProofs only [syms,symx,seval,c94,e1]
 rw [zfU rfl rfl rfl (ziK _) rfl,e3]
 repeat' (simp -implicitDefEqProofs only [syms,symx,seval,c94,e1])
 have hhm:i≤(i+j) / 2∧(i+j) / 2 < j:=by omega
 have hwh:IntKind.i64.wrap ((((i+j) / 2:Nat):Int)+1)=(((i+j) / 2+1:Nat):Int):=by rw [wrap_i64 (by omega) (by omega)];omega
 generalize (i+j) / 2=y at hhm hwh ⊢
 have hr:l[(y:Int).toNat]? = some (l.getD y noAtomD):=zaT (by omega)
 refine (zb9 (by simp only [c94])) (z.upW _ _ (by omega)) ?_
 simp -implicitDefEqProofs only [syms,symx,seval,c94]
 repeat' ((first|with_reducible_and_instances refine zj3 (hl.mono z.inc) ds52 sz42 (by omega) hr (fun p hp=>?_)|with_reducible_and_instances refine lda hp ag42 sz42 ?_) <;> simp -implicitDefEqProofs only [syms,symx,seval,c94,q0.lay,zas,↓zaF,zaA,zal])
 refine zhu _ _ (za2 hlt (by omega)) ha _ _ (fun h' x=>?_)
 (((with_reducible refine zah ?_ ?_ ?_);(· exact (by (simp only [lsz]);have:=z.size;omega));(· exact x));replace z:=z.overW x (by omega);(replace q0:=q0.over x);rw [zaa h'])
 simp -implicitDefEqProofs only [syms,symx,seval,c94]
 refine zaD (fun hc=>?_) (fun hc=>?_)
 ·repeat' (first|simp -implicitDefEqProofs only [syms,symx,seval,c94]|((with_reducible refine ⟨z.grw.lay _ _,?_⟩);(intro _ h' zz x _);( simp only [zan,List.append_nil] at x );( replace q0:=q0.over x );(replace z:=zz);(clear zz);rw [zaa h']))
  rw [hwh]
  (rw [hI1];with_reducible refine zae (m:=_) ?_ ⟨y+1,j,_,rfl,z,⟨rfl,by omega,by omega,fun k g=>by
   rcases Nat.lt_or_ge k y with e|e
   ·exact zcu (zlG (asc_iff.1 hs) e (by omega)) hc
   ·have e:k=y:=by omega
    subst e
    exact hc,hhi,q0⟩,junk (by kernel_rfl)⟩;omega)
 ·have hhi2:∀ k,y≤k→k < l.length→¬ cmpD (l.getD k noAtomD) a < 0:=by
   intro k g1 g2
   rcases Nat.eq_or_lt_of_le g1 with e|e
   ·subst e
    exact hc
   ·intro g
    exact hc (zcu (zlG (asc_iff.1 hs) e g2) g)
  repeat' (first|simp -implicitDefEqProofs only [syms,symx,seval,c94]|((with_reducible refine ⟨z.grw.lay _ _,?_⟩);(intro _ h' zz x _);(simp only [zan,List.append_nil] at x);(replace q0:=q0.over x);(replace z:=zz);(clear zz);rw [zaa h']))
  (rw [hI1];with_reducible refine zae (m:=_) ?_ ⟨i,y,_,rfl,z,⟨rfl,by omega,by omega,hlo,hhi2,q0⟩,junk (by kernel_rfl)⟩;omega)
theorem zpo (l:List AtomD) (a:AtomD) (v:Value) (h:Heap) (hl:Sl Rep.atom h v l) (hs:AscD l) (hn:l.length≤1000) (hlt:∀ x∈l,x.light=true) (ha:a.light=true) (K:Value→Heap→Prop)
 (hk:∀ h' i,Ext h h'→AmPlace l a i→K (.tuple #[.int .i64 (i:Nat),.bool (hasA l a)]) h'):Ok Tryz.prog tab ov 62 [v,a.val] h K:=by
 rw [zaa h]
 have z:=Ext.refl h
 refine Ok.into rfl zwz (zaw N62) rfl (m:=9) rfl ?_
 repeat' (simp -implicitDefEqProofs only [syms,symx,seval,c62,zas,↓zaF,zaA,zal])
 refine zmx l a v _ (hl.lay _ _) hs hn hlt ha _ (fun h' i x hp=>?_)
 (replace z:=z.overW x (by omega);rw [zaa h'])
 generalize hasA l a=b at hk ⊢
 cases b
 all_goals
  repeat' (simp -implicitDefEqProofs only [syms,symx,seval,c62])
  exact hk _ _ (z.upW _ _ (by omega)) hp
end Go.Proofs.YtdplfgoifjjniaaGreatDoor

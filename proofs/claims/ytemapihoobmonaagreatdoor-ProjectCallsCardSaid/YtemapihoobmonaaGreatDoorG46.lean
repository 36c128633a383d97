/- Walks: placed requests: sorting in place: merging Written out by fill2.py. No condition. -/
import Derived.Test.YtemapihoobmonaaGreatDoorG44
import Derived.Test.YtemapihoobmonaaGreatDoorG27
import Derived.Test.YtemapihoobmonaaGreatDoorZN21
import Derived.Test.YtemapihoobmonaaGreatDoorG13
namespace Go.Proofs.YtemapihoobmonaaGreatDoor
open Go.Am
set_option linter.unusedSimpArgs false
set_option linter.unusedVariables false
set_option maxRecDepth 100000
set_option maxHeartbeats 0
def zup (sz:Nat):Prop:=∀ (l:List PlD) (A c a m b:Nat) (h hs:Heap),Ext h hs→h.size≤A→Holds hs A (.row (zbk l) 133 false)→a < m→m < b→b - a≤sz→b≤l.length→l.length≤100000→(∀ x∈l,x.light=true)→zaB l a m→zaB l m b→∀ (K:Value→Heap→Prop),
  (∀ h' l',Ext h h'→Holds h' A (.row (zbk l') 133 false)→MvP l l' a b→zaB l' a b→K undef h')→Ok Tryz.prog tab ov 154 [.slice (some ⟨A,0,none⟩) l.length c,.int .i64 a,.int .i64 m,.int .i64 b,.func (.func 85) ⟨[]⟩ ⟨[]⟩] hs K
theorem zgD (x y:Nat) (h:x+y≤1000000):IntKind.i64.wrap ((x:Int)+(y:Int))=((x+y:Nat):Int)∧IntKind.u64.wrap ((x+y:Nat):Int)=((x+y:Nat):Int)∧IntKind.i64.wrap (((x+y) / 2:Nat):Int)=(((x+y) / 2:Nat):Int)∧Int.fdiv ((x+y:Nat):Int) (2 ^ (min (1:Int).toNat (IntKind.bits .u64)))=(((x+y) / 2:Nat):Int):=by
  refine ⟨by rw [zad (by omega) (by omega)]; omega,by unfold IntKind.wrap; simp [IntKind.bits]; omega,zad (by omega) (by omega),?_⟩
  show Int.fdiv ((x+y:Nat):Int) 2=_
  rw [Int.fdiv_eq_ediv_of_nonneg _ (by omega)]
  omega
theorem zqi (sz:Nat) (ih:zup sz):zup (sz+1):=by
  intro l A c a m b h hs z hA q ham hmb hsz hb hn hlt h1 h2 K hk
  rw [zaa hs]
  have hw1:IntKind.i64.wrap ((m:Int) - (a:Int))=((m - a:Nat):Int):=by rw [zad (by omega) (by omega)]; omega
  have hw2:IntKind.i64.wrap ((b:Int) - (m:Int))=((b - m:Nat):Int):=by rw [zad (by omega) (by omega)]; omega
  have hla:l[a]? = some (l.getD a zaw):=zbq (by omega)
  have hlm:l[m]? = some (l.getD m zaw):=zbq (by omega)
  refine Ok.into rfl zvM (zaD N154) rfl (m:=215) rfl ?_
  simp -implicitDefEqProofs only [syms,symx,seval,c154,hw1,hw2]
  refine zd9 (fun hone=>?_) (fun hone=>?_)
  · -- Am.one element in front
    simp -implicitDefEqProofs only [syms,symx,seval,c154]
    obtain ⟨I1,hI1⟩:∃ I:Nat→Env→Heap→Prop,I=(fun n e h'=>∃ (i j:Nat) (h1:Heap),h'=h1.lay [] h1.low∧Ext h h1∧(n=j - i∧m≤i∧i≤j∧j≤b∧(i=m∨zbj (l.getD (i - 1) zaw) (l.getD a zaw) < 0)∧(j=b∨¬ zbj (l.getD j zaw) (l.getD a zaw) < 0)∧Holds h1 A (.row (zbk l) 133 false))∧∃ J:Nat→Value,e=(.slice (some ⟨A,0,none⟩) l.length c::.int .i64 a::.int .i64 m::.int .i64 b::.func (.func 85) ⟨[]⟩ ⟨[]⟩::jr J 5 5 (.int .i64 i::.int .i64 j::jr J 12 208 ([])))):=⟨_,rfl⟩
    refine zaC I1 _ (by rw [hI1]; exact ⟨m,b,_,rfl,z,⟨rfl,by omega,by omega,by omega,.inl rfl,.inl rfl,q⟩,junk (by kernel_rfl)⟩) ?_
    intro n e h' hin
    rw [hI1] at hin
    obtain ⟨i,j,h1',rfl,z,hinv,J,rfl⟩:=hin
    clear q
    obtain ⟨rfl,g1,g2,g3,g4,g5,q⟩:=hinv
    simp -implicitDefEqProofs only [syms,symx,seval,c154]
    refine zar (fun hij=>?_) (fun hij=>?_)
    rotate_left
    · have hij2:i=j:=by omega
      subst hij2
      have hl0:=g4
      have hr0:=g5
      have hwi:IntKind.i64.wrap ((i:Int) - 1)=((i - 1:Nat):Int):=by rw [zad (by omega) (by omega)]; omega
      have ham1:m=a+1:=by omega
      subst ham1
      simp -implicitDefEqProofs only [syms,symx,seval,c154]
      obtain ⟨I2,hI2⟩:∃ I:Nat→Env→Heap→Prop,I=(fun n e h'=>∃ (k:Nat) (l1:List PlD) (h1:Heap),h'=h1.lay [] h1.low∧Ext h h1∧(n=i - 1 - k∧a≤k∧k≤i - 1∧MvP l l1 a b∧zu4 l l1 a k∧Holds h1 A (.row (zbk l1) 133 false))∧∃ J:Nat→Value,e=(.slice (some ⟨A,0,none⟩) l.length c::jr J 1 9 (.int .i64 i::jr J 11 2 (.int .i64 k::jr J 14 206 ([]))))):=⟨_,rfl⟩
      refine zaC I2 _ (by rw [hI2]; exact ⟨a,l,_,rfl,z,⟨rfl,by omega,by omega,MvP.refl l a b,zp9 l a,q⟩,junk (by kernel_rfl)⟩) ?_
      intro n e h' hin
      rw [hI2] at hin
      obtain ⟨k,l1,h2',rfl,z,hinv,J,rfl⟩:=hin
      clear q
      obtain ⟨rfl,f1,f2,f3,f4,q⟩:=hinv
      have hl1:=f3.perm.length_eq
      have hwk:IntKind.i64.wrap ((k:Int)+1)=((k+1:Nat):Int):=by rw [zad (by omega) (by omega)]; omega
      simp -implicitDefEqProofs only [syms,symx,seval,c154,hwi]
      refine zar (fun hki=>?_) (fun hki=>?_)
      rotate_left
      · have hki2:k=i - 1:=by omega
        subst hki2
        repeat' ( simp -implicitDefEqProofs only [syms,symx,seval,c154])
        exact hk _ _ (z.upW _ _ (by omega)) (q.on _ _) f3 (zxf h2 (by omega) (by omega) hl0 hr0 f4)
      have hin:(0:Int)≤(k:Int)∧(k:Int) < (l.length:Int):=by omega
      have hin1:(0:Int)≤((k+1:Nat):Int)∧((k+1:Nat):Int) < (l.length:Int):=by omega
      have hld:=fun (bs:List Blk) (w:Nat)=>za4 (bs:=bs) (w:=w) q (zbq (l:=l1) (i:=k) (by omega))
      have hld1:=fun (bs:List Blk) (w:Nat)=>za4 (bs:=bs) (w:=w) q (zbq (l:=l1) (i:=k+1) (by omega))
      simp -implicitDefEqProofs only [syms,symx,seval,c154]
      refine (zcb (by simp only [c154])) (z.upW _ _ (by omega)) ?_
      repeat' ( simp -implicitDefEqProofs only [syms,symx,seval,c154,hwk,hin,hin1,and_self,if_true,↓hld,↓hld1,zbl])
      have hz:=z.size
      refine zb6 q ziU (by omega) (fun h3 q3 c3=>?_)
      refine zbi (A:=A) (by kernel_rfl) (by rw [zag]; omega) (by omega) (by simpa only [zat,zag,List.append_nil,List.length_cons,List.length_nil,Nat.add_zero] using c3) ?_
      replace z:=(z.upW [] (h2'.size+0) (by omega)).step c3 hA
      rw [zaa h3]
      clear q hld hld1
      repeat' ( simp -implicitDefEqProofs only [syms,symx,seval,c154,hwk,hin,hin1,and_self,if_true])
      refine zb6 q3 ziU (by rw [List.length_set]; omega) (fun h4 q4 c4=>?_)
      have hz:=z.size
      refine zbi (A:=A) (by kernel_rfl) (by rw [zag]; omega) (by omega) (by simpa only [zat,zag,List.append_nil,List.length_cons,List.length_nil,Nat.add_zero] using c4) ?_
      replace z:=(z.upW [] (h3.size+0) (by omega)).step c4 hA
      rw [zaa h4]
      clear q3
      repeat' (first | simp -implicitDefEqProofs only [syms,symx,seval,c154] | ((with_reducible refine ⟨z.grw.lay _ _,?_⟩); (intro _ h' zz x _); (try simp only [zat,List.append_nil] at x); (try replace q4:=q4.over x); (replace z:=zz); (clear zz); rw [zaa h']))
      rw [hwk]
      replace q4:Holds _ A (.row (zbk (zby l1 k (k+1))) 133 false):=q4
      (rw [hI2]; with_reducible refine zac (m:=_) ?_ ⟨k+1,zby l1 k (k+1),_,rfl,z,⟨rfl,by omega,by omega,f3.trans (MvP.swap (by omega) (by omega) (by omega) (zwK (by omega) (zrE h2 g3 hl0 f1 (by omega) f4))),zsF f4 f1 (by omega),q4⟩,junk (by kernel_rfl)⟩; omega)
    obtain ⟨e1,e2,e3,e4⟩:=zgD i j (by omega)
    repeat' ( simp -implicitDefEqProofs only [syms,symx,seval,c154,e1])
    rw [zbb rfl rfl rfl (zmm _) rfl,e2]
    simp -implicitDefEqProofs only [syms,symx,seval,c154,e1]
    rw [zlp (by decide),e4]
    simp -implicitDefEqProofs only [syms,symx,seval,c154,e1]
    rw [zbb rfl rfl rfl (zlq _) rfl,e3]
    repeat' ( simp -implicitDefEqProofs only [syms,symx,seval,c154,e1])
    have hhm:i≤(i+j) / 2∧(i+j) / 2 < j:=by omega
    have hwh:IntKind.i64.wrap ((((i+j) / 2:Nat):Int)+1)=(((i+j) / 2+1:Nat):Int):=by rw [zad (by omega) (by omega)]; omega
    generalize (i+j) / 2=y at hhm hwh ⊢
    have hin:(0:Int)≤(y:Int)∧(y:Int) < (l.length:Int):=by omega
    have hin1:(0:Int)≤(a:Int)∧(a:Int) < (l.length:Int):=by omega
    have hld:=fun (bs:List Blk) (w:Nat)=>za4 (bs:=bs) (w:=w) q (zbq (l:=l) (i:=y) (by omega))
    have hld1:=fun (bs:List Blk) (w:Nat)=>za4 (bs:=bs) (w:=w) q (zbq (l:=l) (i:=a) (by omega))
    refine (zcb (by simp only [c154])) (z.upW _ _ (by omega)) ?_
    repeat' ( simp -implicitDefEqProofs only [syms,symx,seval,c154,hin,hin1,and_self,if_true,↓hld,↓hld1,zbl])
    refine zlk _ _ (zb0 hlt (by omega)) (zb0 hlt (by omega)) _ _ (fun h' x=>?_)
    (( ((with_reducible refine zav ?_ ?_ ?_); (· exact (by (try simp only [lsz]); have:=z.size; omega)); (·  exact x )) ); replace z:=z.overW x (by (try simp only [lsz]); omega); (try replace q:=q.over x); rw [zaa h'])
    simp -implicitDefEqProofs only [syms,symx,seval,c154]
    refine zar (fun hc=>?_) (fun hc=>?_)
    · repeat' (first | simp -implicitDefEqProofs only [syms,symx,seval,c154] | ((with_reducible refine ⟨z.grw.lay _ _,?_⟩); (intro _ h' zz x _); (try simp only [zat,List.append_nil] at x); (try replace q:=q.over x); (replace z:=zz); (clear zz); rw [zaa h']))
      rw [hwh]
      (rw [hI1]; with_reducible refine zac (m:=_) ?_ ⟨y+1,j,_,rfl,z,⟨rfl,by omega,by omega,by omega,.inr (by rw [Nat.add_sub_cancel]; exact hc),g5,q⟩,junk (by kernel_rfl)⟩; omega)
    · repeat' (first | simp -implicitDefEqProofs only [syms,symx,seval,c154] | ((with_reducible refine ⟨z.grw.lay _ _,?_⟩); (intro _ h' zz x _); (try simp only [zat,List.append_nil] at x); (try replace q:=q.over x); (replace z:=zz); (clear zz); rw [zaa h']))
      (rw [hI1]; with_reducible refine zac (m:=_) ?_ ⟨i,y,_,rfl,z,⟨rfl,by omega,by omega,by omega,g4,.inr hc,q⟩,junk (by kernel_rfl)⟩; omega)
  simp -implicitDefEqProofs only [syms,symx,seval,c154,hw2]
  refine zd9 (fun hone2=>?_) (fun hone2=>?_)
  · -- Am.one element behind
    simp -implicitDefEqProofs only [syms,symx,seval,c154]
    obtain ⟨I3,hI3⟩:∃ I:Nat→Env→Heap→Prop,I=(fun n e h'=>∃ (i j:Nat) (h1:Heap),h'=h1.lay [] h1.low∧Ext h h1∧(n=j - i∧a≤i∧i≤j∧j≤m∧(i=a∨¬ zbj (l.getD m zaw) (l.getD (i - 1) zaw) < 0)∧(j=m∨zbj (l.getD m zaw) (l.getD j zaw) < 0)∧Holds h1 A (.row (zbk l) 133 false))∧∃ J:Nat→Value,e=(.slice (some ⟨A,0,none⟩) l.length c::.int .i64 a::.int .i64 m::.int .i64 b::.func (.func 85) ⟨[]⟩ ⟨[]⟩::jr J 5 9 (.int .i64 i::.int .i64 j::jr J 16 204 ([])))):=⟨_,rfl⟩
    refine zaC I3 _ (by rw [hI3]; exact ⟨a,m,_,rfl,z,⟨rfl,by omega,by omega,by omega,.inl rfl,.inl rfl,q⟩,junk (by kernel_rfl)⟩) ?_
    intro n e h' hin
    rw [hI3] at hin
    obtain ⟨i,j,h1',rfl,z,hinv,J,rfl⟩:=hin
    clear q
    obtain ⟨rfl,g1,g2,g3,g4,g5,q⟩:=hinv
    simp -implicitDefEqProofs only [syms,symx,seval,c154]
    refine zar (fun hij=>?_) (fun hij=>?_)
    rotate_left
    · have hij2:i=j:=by omega
      subst hij2
      have hl0:=g4
      have hr0:=g5
      have hbm1:b=m+1:=by omega
      subst hbm1
      simp -implicitDefEqProofs only [syms,symx,seval,c154]
      obtain ⟨I4,hI4⟩:∃ I:Nat→Env→Heap→Prop,I=(fun n e h'=>∃ (k:Nat) (l1:List PlD) (h1:Heap),h'=h1.lay [] h1.low∧Ext h h1∧(n=k - i∧i≤k∧k≤m∧MvP l l1 a (m+1)∧zjh l l1 m k∧Holds h1 A (.row (zbk l1) 133 false))∧∃ J:Nat→Value,e=(.slice (some ⟨A,0,none⟩) l.length c::jr J 1 13 (.int .i64 i::jr J 15 2 (.int .i64 k::jr J 18 202 ([]))))):=⟨_,rfl⟩
      refine zaC I4 _ (by rw [hI4]; exact ⟨m,l,_,rfl,z,⟨rfl,by omega,by omega,MvP.refl l a _,zl8 l m,q⟩,junk (by kernel_rfl)⟩) ?_
      intro n e h' hin
      rw [hI4] at hin
      obtain ⟨k,l1,h2',rfl,z,hinv,J,rfl⟩:=hin
      clear q
      obtain ⟨rfl,f1,f2,f3,f4,q⟩:=hinv
      have hl1:=f3.perm.length_eq
      simp -implicitDefEqProofs only [syms,symx,seval,c154]
      refine zar (fun hki=>?_) (fun hki=>?_)
      rotate_left
      · have hki2:k=i:=by omega
        subst hki2
        repeat' ( simp -implicitDefEqProofs only [syms,symx,seval,c154])
        exact hk _ _ (z.upW _ _ (by omega)) (q.on _ _) f3 (zvB h1 (by omega) (by omega) hl0 hr0 f4)
      have hwk:IntKind.i64.wrap ((k:Int) - 1)=((k - 1:Nat):Int):=by rw [zad (by omega) (by omega)]; omega
      have hin:(0:Int)≤(k:Int)∧(k:Int) < (l.length:Int):=by omega
      have hin1:(0:Int)≤((k - 1:Nat):Int)∧((k - 1:Nat):Int) < (l.length:Int):=by omega
      have hld:=fun (bs:List Blk) (w:Nat)=>za4 (bs:=bs) (w:=w) q (zbq (l:=l1) (i:=k) (by omega))
      have hld1:=fun (bs:List Blk) (w:Nat)=>za4 (bs:=bs) (w:=w) q (zbq (l:=l1) (i:=k - 1) (by omega))
      simp -implicitDefEqProofs only [syms,symx,seval,c154]
      refine (zcb (by simp only [c154])) (z.upW _ _ (by omega)) ?_
      repeat' ( simp -implicitDefEqProofs only [syms,symx,seval,c154,hwk,hin,hin1,and_self,if_true,↓hld,↓hld1,zbl])
      have hz:=z.size
      refine zb6 q ziU (by omega) (fun h3 q3 c3=>?_)
      refine zbi (A:=A) (by kernel_rfl) (by rw [zag]; omega) (by omega) (by simpa only [zat,zag,List.append_nil,List.length_cons,List.length_nil,Nat.add_zero] using c3) ?_
      replace z:=(z.upW [] (h2'.size+0) (by omega)).step c3 hA
      rw [zaa h3]
      clear q hld hld1
      repeat' ( simp -implicitDefEqProofs only [syms,symx,seval,c154,hwk,hin,hin1,and_self,if_true])
      refine zb6 q3 ziU (by rw [List.length_set]; omega) (fun h4 q4 c4=>?_)
      have hz:=z.size
      refine zbi (A:=A) (by kernel_rfl) (by rw [zag]; omega) (by omega) (by simpa only [zat,zag,List.append_nil,List.length_cons,List.length_nil,Nat.add_zero] using c4) ?_
      replace z:=(z.upW [] (h3.size+0) (by omega)).step c4 hA
      rw [zaa h4]
      clear q3
      repeat' (first | simp -implicitDefEqProofs only [syms,symx,seval,c154] | ((with_reducible refine ⟨z.grw.lay _ _,?_⟩); (intro _ h' zz x _); (try simp only [zat,List.append_nil] at x); (try replace q4:=q4.over x); (replace z:=zz); (clear zz); rw [zaa h']))
      rw [hwk]
      replace q4:Holds _ A (.row (zbk (zby l1 k (k - 1))) 133 false):=q4
      (rw [hI4]; with_reducible refine zac (m:=_) ?_ ⟨k - 1,zby l1 k (k - 1),_,rfl,z,⟨rfl,by omega,by omega,f3.trans (MvP.swap (by omega) (by omega) (by omega) (zkw (by omega) (by omega) (zm7 h1 g1 hr0 (by omega) f2 f4))),zng f4 (by omega) f2 (by omega),q4⟩,junk (by kernel_rfl)⟩; omega)
    obtain ⟨e1,e2,e3,e4⟩:=zgD i j (by omega)
    repeat' ( simp -implicitDefEqProofs only [syms,symx,seval,c154,e1])
    rw [zbb rfl rfl rfl (zmm _) rfl,e2]
    simp -implicitDefEqProofs only [syms,symx,seval,c154,e1]
    rw [zlp (by decide),e4]
    simp -implicitDefEqProofs only [syms,symx,seval,c154,e1]
    rw [zbb rfl rfl rfl (zlq _) rfl,e3]
    repeat' ( simp -implicitDefEqProofs only [syms,symx,seval,c154,e1])
    have hhm:i≤(i+j) / 2∧(i+j) / 2 < j:=by omega
    have hwh:IntKind.i64.wrap ((((i+j) / 2:Nat):Int)+1)=(((i+j) / 2+1:Nat):Int):=by rw [zad (by omega) (by omega)]; omega
    generalize (i+j) / 2=y at hhm hwh ⊢
    have hin:(0:Int)≤(y:Int)∧(y:Int) < (l.length:Int):=by omega
    have hin1:(0:Int)≤(m:Int)∧(m:Int) < (l.length:Int):=by omega
    have hld:=fun (bs:List Blk) (w:Nat)=>za4 (bs:=bs) (w:=w) q (zbq (l:=l) (i:=y) (by omega))
    have hld1:=fun (bs:List Blk) (w:Nat)=>za4 (bs:=bs) (w:=w) q (zbq (l:=l) (i:=m) (by omega))
    refine (zcb (by simp only [c154])) (z.upW _ _ (by omega)) ?_
    repeat' ( simp -implicitDefEqProofs only [syms,symx,seval,c154,hin,hin1,and_self,if_true,↓hld,↓hld1,zbl])
    refine zlk _ _ (zb0 hlt (by omega)) (zb0 hlt (by omega)) _ _ (fun h' x=>?_)
    (( ((with_reducible refine zav ?_ ?_ ?_); (· exact (by (try simp only [lsz]); have:=z.size; omega)); (·  exact x )) ); replace z:=z.overW x (by (try simp only [lsz]); omega); (try replace q:=q.over x); rw [zaa h'])
    simp -implicitDefEqProofs only [syms,symx,seval,c154]
    refine zar (fun hc=>?_) (fun hc=>?_)
    · repeat' (first | simp -implicitDefEqProofs only [syms,symx,seval,c154] | ((with_reducible_and_instances apply zap); (· rfl)) | ((with_reducible refine ⟨z.grw.lay _ _,?_⟩); (intro _ h' zz x _); (try simp only [zat,List.append_nil] at x); (try replace q:=q.over x); (replace z:=zz); (clear zz); rw [zaa h']))
      (rw [hI3]; with_reducible refine zac (m:=_) ?_ ⟨i,y,_,rfl,z,⟨rfl,by omega,by omega,by omega,g4,.inr hc,q⟩,junk (by kernel_rfl)⟩; omega)
    · repeat' (first | simp -implicitDefEqProofs only [syms,symx,seval,c154] | ((with_reducible_and_instances apply zap); (· rfl)) | ((with_reducible refine ⟨z.grw.lay _ _,?_⟩); (intro _ h' zz x _); (try simp only [zat,List.append_nil] at x); (try replace q:=q.over x); (replace z:=zz); (clear zz); rw [zaa h']))
      rw [hwh]
      (rw [hI3]; with_reducible refine zac (m:=_) ?_ ⟨y+1,j,_,rfl,z,⟨rfl,by omega,by omega,by omega,.inr (by rw [Nat.add_sub_cancel]; exact hc),g5,q⟩,junk (by kernel_rfl)⟩; omega)
  -- both parts longer
  obtain ⟨e1,e2,e3,e4⟩:=zgD a b (by omega)
  repeat' ( simp -implicitDefEqProofs only [syms,symx,seval,c154,e1])
  rw [zbb rfl rfl rfl (zmm _) rfl,e2]
  simp -implicitDefEqProofs only [syms,symx,seval,c154,e1]
  rw [zlp (by decide),e4]
  simp -implicitDefEqProofs only [syms,symx,seval,c154,e1]
  rw [zbb rfl rfl rfl (zlq _) rfl,e3]
  have hm1:2*((a+b) / 2)≤a+b:=by omega
  have hm2:a+b≤2*((a+b) / 2)+1:=by omega
  generalize (a+b) / 2=mid at hm1 hm2 ⊢
  have hwn:IntKind.i64.wrap ((mid:Int)+(m:Int))=((mid+m:Nat):Int):=by rw [zad (by omega) (by omega)]; omega
  have hwp:IntKind.i64.wrap (((mid+m:Nat):Int) - 1)=((mid+m - 1:Nat):Int):=by rw [zad (by omega) (by omega)]; omega
  have hwb:mid < m→IntKind.i64.wrap (((mid+m:Nat):Int) - (b:Int))=((mid+m - b:Nat):Int):=fun _=>by rw [zad (by omega) (by omega)]; omega
  simp -implicitDefEqProofs only [syms,symx,seval,c154,hwn]
  refine zar (fun hgm=>?_) (fun hgm=>?_)
  focus
    have hwb:=hwb (by omega)
    simp -implicitDefEqProofs only [syms,symx,seval,c154,hwn,hwb,hwp]
    have hinit:=zvo (l:=l) (a:=a) hmb (show mid < m by omega)
  rotate_left
  focus
    simp -implicitDefEqProofs only [syms,symx,seval,c154,hwn,hwp]
    have hinit:=zuI (l:=l) (b:=b) ham (show m≤mid by omega)
  all_goals
    obtain ⟨I5,hI5⟩:∃ I:Nat→Env→Heap→Prop,I=(fun n e h'=>∃ (s r:Nat) (h1:Heap),h'=h1.lay [] h1.low∧Ext h h1∧(n=r - s∧SymInvP l a m b mid s r∧Holds h1 A (.row (zbk l) 133 false))∧∃ J:Nat→Value,e=(.slice (some ⟨A,0,none⟩) l.length c::.int .i64 a::.int .i64 m::.int .i64 b::.func (.func 85) ⟨[]⟩ ⟨[]⟩::jr J 5 13 (.int .i64 mid::.int .i64 ((mid+m:Nat):Int)::.int .i64 s::.int .i64 r::.int .i64 ((mid+m - 1:Nat):Int)::jr J 23 197 ([])))):=⟨_,rfl⟩
    refine zaC I5 _ (by rw [hI5]; exact ⟨_,_,_,rfl,z,⟨rfl,hinit,q⟩,junk (by kernel_rfl)⟩) ?_
    intro n e h' hin
    rw [hI5] at hin
    obtain ⟨s,r,h1',rfl,z,hinv,J,rfl⟩:=hin
    clear q hinit
    obtain ⟨rfl,hinv,q⟩:=hinv
    simp -implicitDefEqProofs only [syms,symx,seval,c154]
    refine zar (fun hsr=>?_) (fun hsr=>?_)
    rotate_left
    · have hsr2:s=r:=by have:=hinv.sr; omega
      subst hsr2
      have sp:=zje hinv ham hmb hm1 hm2
      obtain ⟨p1,p2,p3,p4,p5,_,_⟩:=sp
      have sp:=zje hinv ham hmb hm1 hm2
      have hwe:IntKind.i64.wrap (((mid+m:Nat):Int) - (s:Int))=((mid+m - s:Nat):Int):=by rw [zad (by omega) (by omega)]; omega
      simp -implicitDefEqProofs only [syms,symx,seval,nilK (rops (N154 107)) 3 rfl,zBv (N154 108) (N154 109) (N154 110) rfl,zBd (N154 110) rfl]
      rw [seqK (N154 119) (N154 120) (N154 121) rfl]
      obtain ⟨R6,hR6⟩:∃ R:Env→Heap→Prop,R=(fun e h'=>∃ (h1:Heap),h'=h1.lay [] h1.low∧Ext h h1∧(Holds h1 A (.row (zbk l) 133 false))∧∃ J:Nat→Value,e=(.slice (some ⟨A,0,none⟩) l.length c::.int .i64 a::.int .i64 m::.int .i64 b::.func (.func 85) ⟨[]⟩ ⟨[]⟩::jr J 5 13 (.int .i64 mid::J 19::.int .i64 s::jr J 21 3 (.int .i64 ((mid+m - s:Nat):Int)::jr J 25 195 ([]))))∧True):=⟨_,rfl⟩
      refine zAf R6 ?cut ?rest
      case' rest =>
        intro e h' hin
        rw [hR6] at hin
        obtain ⟨h2',rfl,z,hinv,J,rfl,_⟩:=hin
      case cut =>
        simp -implicitDefEqProofs only [syms,symx,seval,c154,hwe]
        (( skip); rw [hR6]; exact ⟨_,rfl,z,q,ztG (by kernel_rfl) (trivial)⟩)
      case rest =>
      have q:=hinv
      simp -implicitDefEqProofs only [syms,symx,seval]
      rw [seqK (N154 121) (N154 122) (N154 127) rfl]
      obtain ⟨R7,hR7⟩:∃ R:Env→Heap→Prop,R=(fun e h'=>∃ (l1:List PlD) (h1:Heap),h'=h1.lay [] h1.low∧Ext h h1∧(MvP l l1 s (mid+m - s)∧zh0 l l1 s m (mid+m - s)∧Holds h1 A (.row (zbk l1) 133 false))∧∃ J:Nat→Value,e=(.slice (some ⟨A,0,none⟩) l.length c::.int .i64 a::.int .i64 m::.int .i64 b::.func (.func 85) ⟨[]⟩ ⟨[]⟩::jr J 5 13 (.int .i64 mid::J 19::.int .i64 s::jr J 21 3 (.int .i64 ((mid+m - s:Nat):Int)::jr J 25 195 ([]))))∧True):=⟨_,rfl⟩
      refine zAf R7 ?cut ?rest
      case' rest =>
        intro e h' hin
        rw [hR7] at hin
        obtain ⟨l1,h3',rfl,z,hinv,J,rfl,_⟩:=hin
      case cut =>
        repeat' (first | simp -implicitDefEqProofs only [syms,symx,seval,c154] | ((with_reducible  apply zar ) <;> intro _))
        all_goals first
          | (( skip); rw [hR7]; exact ⟨l,_,rfl,z,⟨MvP.refl _ _ _,zu9 (by omega) (by omega) (by omega),q⟩,ztG (by kernel_rfl) (trivial)⟩)
          | (refine zs0 l A c s m (mid+m - s) _ h _ (z.upW _ _ (by omega)) hA (q.on _ _) (by omega) (by omega) (by omega) hn _ (fun h' x q1 hp1=>?_)
             replace z:=x
             rw [zaa h']
             simp -implicitDefEqProofs only [syms,symx,seval,c154]
             (( skip); rw [hR7]; exact ⟨zfA l s m (mid+m - s),_,rfl,z,⟨zvj (fun k=>zfk (by omega) k) (by omega) (by omega) hp1 (zpj h1 h2 sp (fun k=>zfk (by omega) k) (by omega) hp1.length_eq),fun k=>zfk (by omega) k,q1⟩,ztG (by kernel_rfl) (trivial)⟩))
      case rest =>
      obtain ⟨mv1,t1,q⟩:=hinv
      obtain ⟨so1,so2,so3,so4⟩:=zn6 h1 h2 sp t1
      have hcr:=fun (i j:Nat) (g1:a≤i) (g2:i < mid) (g3:mid≤j) (g4:j < b)=>zoa h1 h2 sp t1 g1 g2 g3 g4
      have hl1:=mv1.perm.length_eq
      simp -implicitDefEqProofs only [syms,symx,seval]
      rw [seqK (N154 127) (N154 128) (N154 133) rfl]
      obtain ⟨R8,hR8⟩:∃ R:Env→Heap→Prop,R=(fun e h'=>∃ (l2:List PlD) (h1:Heap),h'=h1.lay [] h1.low∧Ext h h1∧(MvP l1 l2 a mid∧zaB l2 a mid∧Holds h1 A (.row (zbk l2) 133 false))∧∃ J:Nat→Value,e=(.slice (some ⟨A,0,none⟩) l.length c::.int .i64 a::.int .i64 m::.int .i64 b::.func (.func 85) ⟨[]⟩ ⟨[]⟩::jr J 5 13 (.int .i64 mid::J 19::.int .i64 s::jr J 21 3 (.int .i64 ((mid+m - s:Nat):Int)::jr J 25 195 ([]))))∧True):=⟨_,rfl⟩
      refine zAf R8 ?cut ?rest
      case' rest =>
        intro e h' hin
        rw [hR8] at hin
        obtain ⟨l2,h4',rfl,z,hinv,J,rfl,_⟩:=hin
      case cut =>
        repeat' (first | simp -implicitDefEqProofs only [syms,symx,seval,c154] | ((with_reducible  apply zar ) <;> intro _))
        all_goals first
          | (( skip); rw [hR8]; exact ⟨l1,_,rfl,z,⟨MvP.refl _ _ _,(by first | (have e:s=mid:=by omega); rw [← e]; exact so1 | (have e:a=s:=by omega); rw [e]; exact so2),q⟩,ztG (by kernel_rfl) (trivial)⟩)
          | (have key:=ih l1 A c a s mid h (h3'.lay [] h3'.low) (z.upW _ _ (by omega)) hA (q.on _ _) (by omega) (by omega) (by omega) (by omega) (by omega) (zck hlt mv1.perm) so1 so2
             simp only [hl1] at key
             refine key _ (fun h' l2 x q1 mv2 so5=>?_)
             replace z:=x
             rw [zaa h']
             simp -implicitDefEqProofs only [syms,symx,seval,c154]
             (( skip); rw [hR8]; exact ⟨l2,_,rfl,z,⟨mv2,so5,q1⟩,ztG (by kernel_rfl) (trivial)⟩))
      case rest =>
      obtain ⟨mv2,so5,q⟩:=hinv
      have hl2:=mv2.perm.length_eq
      have so6:=zdg so3 (fun k g1 g2=>mv2.out k (.inr g1))
      have so7:=zdg so4 (fun k g1 g2=>mv2.out k (.inr (by omega)))
      have mvT:=(mv1.widen p1 p5).trans (mv2.widen (Nat.le_refl _) (show mid≤b by omega))
      repeat' (first | simp -implicitDefEqProofs only [syms,symx,seval,c154] | ((with_reducible  apply zar ) <;> intro _))
      all_goals first
        | exact hk _ l2 (z.upW _ _ (by omega)) (q.on _ _) mvT (zk8 hcr mv2 (MvP.refl l2 mid b) so5 (by first | (have e:mid=mid+m - s:=by omega); rw [e]; exact so7 | (have e:mid+m - s=b:=by omega); rw [← e]; exact so6))
        | (have key:=ih l2 A c mid (mid+m - s) b h (h4'.lay [] h4'.low) (z.upW _ _ (by omega)) hA (q.on _ _) (by omega) (by omega) (by omega) (by omega) (by omega) (zck (zck hlt mv1.perm) mv2.perm) so6 so7
           simp only [hl2,hl1] at key
           refine key _ (fun h' l3 x q1 mv3 so8=>?_)
           rw [zaa h']
           repeat' ( simp -implicitDefEqProofs only [syms,symx,seval,c154])
           exact hk _ l3 (x.upW _ _ (by omega)) (q1.on _ _) (mvT.trans (mv3.widen (show a≤mid by omega) (Nat.le_refl _))) (zk8 hcr mv2 mv3 so5 so8))
    have hrl:r≤l.length:=by
      rcases Nat.lt_or_ge mid m with g | g
      · have:=hinv.le2 g; omega
      · have:=hinv.le1 g; omega
    obtain ⟨e1,e2,e3,e4⟩:=zgD s r (by omega)
    repeat' ( simp -implicitDefEqProofs only [syms,symx,seval,c154,e1])
    rw [zbb rfl rfl rfl (zmm _) rfl,e2]
    simp -implicitDefEqProofs only [syms,symx,seval,c154,e1]
    rw [zlp (by decide),e4]
    simp -implicitDefEqProofs only [syms,symx,seval,c154,e1]
    rw [zbb rfl rfl rfl (zlq _) rfl,e3]
    repeat' ( simp -implicitDefEqProofs only [syms,symx,seval,c154,e1])
    have hhm:s≤(s+r) / 2∧(s+r) / 2 < r:=by omega
    have hwh:IntKind.i64.wrap ((((s+r) / 2:Nat):Int)+1)=(((s+r) / 2+1:Nat):Int):=by rw [zad (by omega) (by omega)]; omega
    generalize (s+r) / 2=y at hhm hwh ⊢
    have hix:=zs1 hinv hhm.1 hhm.2 ham hmb hm1 hm2
    have hwpc:IntKind.i64.wrap (((mid+m - 1:Nat):Int) - (y:Int))=((mid+m - 1 - y:Nat):Int):=by rw [zad (by omega) (by omega)]; omega
    have hin:(0:Int)≤(y:Int)∧(y:Int) < (l.length:Int):=by omega
    have hin1:(0:Int)≤((mid+m - 1 - y:Nat):Int)∧((mid+m - 1 - y:Nat):Int) < (l.length:Int):=by omega
    have hld:=fun (bs:List Blk) (w:Nat)=>za4 (bs:=bs) (w:=w) q (zbq (l:=l) (i:=y) (by omega))
    have hld1:=fun (bs:List Blk) (w:Nat)=>za4 (bs:=bs) (w:=w) q (zbq (l:=l) (i:=mid+m - 1 - y) (by omega))
    refine (zcb (by simp only [c154])) (z.upW _ _ (by omega)) ?_
    repeat' ( simp -implicitDefEqProofs only [syms,symx,seval,c154,hwpc,hin,hin1,and_self,if_true,↓hld,↓hld1,zbl])
    refine zlk _ _ (zb0 hlt (by omega)) (zb0 hlt (by omega)) _ _ (fun h' x=>?_)
    (( ((with_reducible refine zav ?_ ?_ ?_); (· exact (by (try simp only [lsz]); have:=z.size; omega)); (·  exact x )) ); replace z:=z.overW x (by (try simp only [lsz]); omega); (try replace q:=q.over x); rw [zaa h'])
    simp -implicitDefEqProofs only [syms,symx,seval,c154]
    refine zar (fun hc=>?_) (fun hc=>?_)
    · repeat' (first | simp -implicitDefEqProofs only [syms,symx,seval,c154] | ((with_reducible_and_instances apply zap); (· rfl)) | ((with_reducible refine ⟨z.grw.lay _ _,?_⟩); (intro _ h' zz x _); (try simp only [zat,List.append_nil] at x); (try replace q:=q.over x); (replace z:=zz); (clear zz); rw [zaa h']))
      (rw [hI5]; with_reducible refine zac (m:=_) ?_ ⟨s,y,_,rfl,z,⟨rfl,zm5 hinv hhm.1 hhm.2 hc,q⟩,junk (by kernel_rfl)⟩; omega)
    · repeat' (first | simp -implicitDefEqProofs only [syms,symx,seval,c154] | ((with_reducible_and_instances apply zap); (· rfl)) | ((with_reducible refine ⟨z.grw.lay _ _,?_⟩); (intro _ h' zz x _); (try simp only [zat,List.append_nil] at x); (try replace q:=q.over x); (replace z:=zz); (clear zz); rw [zaa h']))
      rw [hwh]
      (rw [hI5]; with_reducible refine zac (m:=_) ?_ ⟨y+1,r,_,rfl,z,⟨rfl,zsR hinv hhm.1 hhm.2 hc,q⟩,junk (by kernel_rfl)⟩; omega)
theorem zwb:∀ sz,zup sz
  | 0=>by intro l A c a m b h hs z hA q h1 h2 h3; omega
  | sz+1=>zqi sz (zwb sz)
theorem zrS (l:List PlD) (A c:Nat) (h hs:Heap) (z:Ext h hs) (hA:h.size≤A) (q:Holds hs A (.row (zbk l) 133 false)) (hn:l.length≤100000) (hlt:∀ x∈l,x.light=true) (K:Value→Heap→Prop)
    (hk:∀ h' l',Ext h h'→Holds h' A (.row (zbk l') 133 false)→l'.Perm l→StabP l l'→zaB l' 0 l.length→K undef h'):Ok Tryz.prog tab ov 119 [.slice (some ⟨A,0,none⟩) l.length c,.int .i64 l.length,.func (.func 85) ⟨[]⟩ ⟨[]⟩] hs K:=by
  rw [zaa hs]
  refine Ok.into rfl znI (zaD N119) rfl (m:=60) rfl ?_
  simp -implicitDefEqProofs only [syms,symx,seval,c119]
  obtain ⟨I1,hI1⟩:∃ I:Nat→Env→Heap→Prop,I=(fun n e h'=>∃ (a:Nat) (l1:List PlD) (h1:Heap),h'=h1.lay [] h1.low∧Ext h h1∧(n=l.length - a∧a % 20=0∧a≤l.length∧l1.Perm l∧StabP l l1∧BlP l1 20 l.length a∧Holds h1 A (.row (zbk l1) 133 false))∧∃ J:Nat→Value,e=(.slice (some ⟨A,0,none⟩) l.length c::.int .i64 l.length::.func (.func 85) ⟨[]⟩ ⟨[]⟩::jr J 3 3 (.int .i64 20::.int .i64 a::.int .i64 (a+20:Nat)::jr J 9 54 ([])))):=⟨_,rfl⟩
  refine zaC I1 _ (by rw [hI1]; exact ⟨0,l,_,rfl,z,⟨rfl,by omega,by omega,List.Perm.refl _,StabP.refl _,fun k _ hk=>absurd hk (by omega),q⟩,junk (by kernel_rfl)⟩) ?_
  intro n e h' hin
  rw [hI1] at hin
  obtain ⟨a,l1,h1',rfl,z,hinv,J,rfl⟩:=hin
  clear q
  obtain ⟨rfl,ha20,han,hp,hst,hbl,q⟩:=hinv
  have hl1:=hp.length_eq
  have hlt1:=zck hlt hp
  simp -implicitDefEqProofs only [syms,symx,seval,c119]
  refine zar (fun hle=>?_) (fun hle=>?_)
  · have hw1:IntKind.i64.wrap (((a+20:Nat):Int)+20)=((a+20+20:Nat):Int):=by rw [zad (by omega) (by omega)]; omega
    repeat' ( simp -implicitDefEqProofs only [syms,symx,seval,c119])
    have key:=fun K hk=>zgA l1 A c a (a+20) h (h1'.lay [] h1'.low) (z.upW _ _ (by omega)) hA (q.on _ _) (by omega) (by omega) (by omega) hlt1 K hk
    simp only [hl1] at key
    refine key _ (fun h' l' x q' hp' hst' hs' ho'=>?_)
    replace z:=x
    rw [zaa h']
    repeat' ( simp -implicitDefEqProofs only [syms,symx,seval,c119,hw1])
    (rw [hI1]; with_reducible refine zac (m:=_) ?_ ⟨a+20,l',_,rfl,z,⟨rfl,by omega,by omega,hp'.trans hp,hst.trans hst',zlB hbl ha20 (by rw [show min (a+20) l.length=a+20 by omega]; exact hs') (by rw [show min (a+20) l.length=a+20 by omega]; exact ho') _ (by omega),q'⟩,junk (by kernel_rfl)⟩; omega)
  repeat' ( simp -implicitDefEqProofs only [syms,symx,seval,c119])
  have key:=fun K hk=>zgA l1 A c a l.length h (h1'.lay [] h1'.low) (z.upW _ _ (by omega)) hA (q.on _ _) (by omega) (by omega) (by omega) hlt1 K hk
  simp only [hl1] at key
  refine key _ (fun h' l' x q' hp' hst' hs' ho'=>?_)
  replace z:=x
  replace hp:=hp'.trans hp
  replace hst:=hst.trans hst'
  replace hbl:BlP l' 20 l.length l.length:=zlB hbl ha20 (by rw [show min (a+20) l.length=l.length by omega]; exact hs') (by rw [show min (a+20) l.length=l.length by omega]; exact ho') _ (by omega)
  clear key hs' ho' hp' hst' hl1 hlt1 q
  rw [zaa h']
  repeat' ( simp -implicitDefEqProofs only [syms,symx,seval,c119])
  obtain ⟨I2,hI2⟩:∃ I:Nat→Env→Heap→Prop,I=(fun n e h'=>∃ (w:Nat) (l1:List PlD) (h1:Heap),h'=h1.lay [] h1.low∧Ext h h1∧(n=l.length - w∧20≤w∧w≤200000∧l1.Perm l∧StabP l l1∧BlP l1 w l.length l.length∧Holds h1 A (.row (zbk l1) 133 false))∧∃ J:Nat→Value,e=(.slice (some ⟨A,0,none⟩) l.length c::.int .i64 l.length::.func (.func 85) ⟨[]⟩ ⟨[]⟩::jr J 3 3 (.int .i64 w::jr J 7 56 ([])))):=⟨_,rfl⟩
  refine zaC I2 _ (by rw [hI2]; exact ⟨20,l',_,rfl,z,⟨rfl,by omega,by omega,hp,hst,hbl,q'⟩,junk (by kernel_rfl)⟩) ?_
  intro n e h' hin
  rw [hI2] at hin
  obtain ⟨w,l1,h2',rfl,z,hinv,J,rfl⟩:=hin
  clear q' hbl hp hst
  obtain ⟨rfl,hw20,hw2k,hp,hst,hbl,q⟩:=hinv
  simp -implicitDefEqProofs only [syms,symx,seval,c119]
  refine zar (fun hlt2=>?_) (fun hlt2=>?_)
  rotate_left
  · repeat' ( simp -implicitDefEqProofs only [syms,symx,seval,c119])
    exact hk _ _ (z.upW _ _ (by omega)) (q.on _ _) hp hst (zAr hbl (by omega))
  have hm2:IntKind.i64.wrap ((2:Int)*(w:Int))=((2*w:Nat):Int):=by rw [zad (by omega) (by omega)]; omega
  repeat' ( simp -implicitDefEqProofs only [syms,symx,seval,c119,hm2,zgX])
  obtain ⟨I3,hI3⟩:∃ I:Nat→Env→Heap→Prop,I=(fun n e h'=>∃ (a b:Nat) (l2:List PlD) (h1:Heap),h'=h1.lay [] h1.low∧Ext h h1∧(n=l.length - a∧b=a+2*w∧a % (2*w)=0∧a≤l.length∧l2.Perm l∧StabP l l2∧DblP l2 w l.length a∧Holds h1 A (.row (zbk l2) 133 false))∧∃ J:Nat→Value,e=(.slice (some ⟨A,0,none⟩) l.length c::.int .i64 l.length::.func (.func 85) ⟨[]⟩ ⟨[]⟩::jr J 3 3 (.int .i64 w::.int .i64 a::.int .i64 b::jr J 9 54 ([])))):=⟨_,rfl⟩
  refine zaC I3 _ (by rw [hI3]; exact ⟨0,2*w,l1,_,rfl,z,⟨rfl,by omega,Nat.zero_mod _,by omega,hp,hst,zs2 hbl,q⟩,junk (by kernel_rfl)⟩) ?_
  intro n e h' hin
  rw [hI3] at hin
  obtain ⟨a,b,l2,h3',rfl,z,hinv,J,rfl⟩:=hin
  clear q hbl hp hst
  obtain ⟨rfl,hb,hamod,han,hp,hst,hdb,q⟩:=hinv
  have hl2:=hp.length_eq
  have hlt3:=zck hlt hp
  have haw:IntKind.i64.wrap ((a:Int)+(w:Int))=((a+w:Nat):Int):=by rw [zad (by omega) (by omega)]; omega
  simp -implicitDefEqProofs only [syms,symx,seval,c119]
  refine zar (fun hle=>?_) (fun hle=>?_)
  · have hbw:IntKind.i64.wrap ((b:Int)+((2*w:Nat):Int))=((b+2*w:Nat):Int):=by rw [zad (by omega) (by omega)]; omega
    have hpa:=zkX hdb (by omega) hamod (by omega)
    rw [show min (a+2*w) l.length=b by omega] at hpa
    repeat' ( simp -implicitDefEqProofs only [syms,symx,seval,c119,haw])
    have key:=fun K hk=>zwb l.length l2 A c a (a+w) b h (h3'.lay [] h3'.low) (z.upW _ _ (by omega)) hA (q.on _ _) (by omega) (by omega) (by omega) (by omega) (by omega) hlt3 hpa.1 hpa.2 K hk
    simp only [hl2] at key
    refine key _ (fun h' l' x q' hm' hs'=>?_)
    replace z:=x
    rw [zaa h']
    repeat' ( simp -implicitDefEqProofs only [syms,symx,seval,c119,hm2,zgX,hbw])
    have hstep:=znj (l':=l') hdb (by omega) hamod (by rw [show min (a+2*w) l.length=b by omega]; exact hs') (by rw [show min (a+2*w) l.length=b by omega]; exact hm')
    rw [show min (a+2*w) l.length=b by omega] at hstep
    (rw [hI3]; with_reducible refine zac (m:=_) ?_ ⟨b,b+2*w,l',_,rfl,z,⟨rfl,by omega,by rw [hb,Nat.add_mod_right]; exact hamod,by omega,hm'.perm.trans hp,hst.trans hm'.stab,hstep,q'⟩,junk (by kernel_rfl)⟩; omega)
  have hw2:IntKind.i64.wrap ((w:Int)*(2:Int))=((2*w:Nat):Int):=by rw [zad (by omega) (by omega)]; omega
  repeat' (first | simp -implicitDefEqProofs only [syms,symx,seval,c119,haw] | ((with_reducible  apply zar ) <;> intro _))
  · have hpa:=zkX hdb (by omega) hamod (by omega)
    rw [show min (a+2*w) l.length=l.length by omega] at hpa
    have key:=fun K hk=>zwb l.length l2 A c a (a+w) l.length h (h3'.lay [] h3'.low) (z.upW _ _ (by omega)) hA (q.on _ _) (by omega) (by omega) (by omega) (by omega) (by omega) hlt3 hpa.1 hpa.2 K hk
    simp only [hl2] at key
    refine key _ (fun h' l' x q' hm' hs'=>?_)
    replace z:=x
    rw [zaa h']
    repeat' ( simp -implicitDefEqProofs only [syms,symx,seval,c119,hw2,zgX])
    have hstep:=znj (l':=l') hdb (by omega) hamod (by rw [show min (a+2*w) l.length=l.length by omega]; exact hs') (by rw [show min (a+2*w) l.length=l.length by omega]; exact hm')
    rw [show min (a+2*w) l.length=l.length by omega] at hstep
    (rw [hI2]; with_reducible refine zac (m:=_) ?_ ⟨2*w,l',_,rfl,z,⟨rfl,by omega,by omega,hm'.perm.trans hp,hst.trans hm'.stab,zws hstep (by omega),q'⟩,junk (by kernel_rfl)⟩; omega)
  · repeat' ( simp -implicitDefEqProofs only [syms,symx,seval,c119,hw2,zgX])
    (rw [hI2]; with_reducible refine zac (m:=_) ?_ ⟨2*w,l2,_,rfl,z,⟨rfl,by omega,by omega,hp,hst,zxg hdb (by omega) hamod (by omega),q⟩,junk (by kernel_rfl)⟩; omega)
theorem zko (l:List PlD) (A c:Nat) (h hs:Heap) (z:Ext h hs) (hA:h.size≤A) (q:Holds hs A (.row (zbk l) 133 false)) (hn:l.length≤100000) (hlt:∀ x∈l,x.light=true) (K:Value→Heap→Prop)
    (hk:∀ h' l',Ext h h'→Holds h' A (.row (zbk l') 133 false)→l'.Perm l→StabP l l'→zaB l' 0 l.length→K undef h'):Ok Tryz.prog tab ov 84 [.slice (some ⟨A,0,none⟩) l.length c,.func (.func 85) ⟨[]⟩ ⟨[]⟩] hs K:=by
  rw [zaa hs]
  refine Ok.into rfl zqM (zaD N84) rfl (m:=7) rfl ?_
  repeat' ( simp -implicitDefEqProofs only [syms,symx,seval,c84])
  refine zrS l A c h (hs.lay [] hs.low) (z.upW _ _ (by omega)) hA (q.on _ _) hn hlt _ (fun h' l' x q' hp' hst' hs'=>?_)
  rw [zaa h']
  repeat' ( simp -implicitDefEqProofs only [syms,symx,seval,c84])
  exact hk _ _ (x.upW _ _ (by omega)) (q'.on _ _) hp' hst' hs'
theorem zo4 (v:Value) (h:Heap) (hl:Sl Rep.placed h v []) (K:Value→Heap→Prop) (hk:∀ h',Ext h h'→K undef h'):Ok Tryz.prog tab ov 84 [v,.func (.func 85) ⟨[]⟩ ⟨[]⟩] h K:=by
  rw [zaa h]
  have z:=Ext.refl h
  have hln:=fun (hh:Heap)=>hl.lenA zlZ hh
  have hva:=zaR v
  simp only [List.length_nil] at hln
  have hn0:((0:Nat):Int)=0:=rfl
  refine Ok.into rfl zqM (zaD N84) rfl (m:=7) rfl ?_
  repeat' ( simp -implicitDefEqProofs only [syms,symx,seval,c119,c84,c153,hln,hva,hn0])
  refine Ok.into rfl znI (zaD N119) rfl (m:=60) rfl ?_
  simp -implicitDefEqProofs only [syms,symx,seval,c119,c84,c153,hln,hva,hn0]
  refine zde ?_
  simp -implicitDefEqProofs only [syms,symx,seval,c119,c84,c153,hln,hva,hn0,decide_false,zeD]
  refine Ok.into rfl znK (zaD N153) rfl (m:=49) rfl ?_
  simp -implicitDefEqProofs only [syms,symx,seval,c119,c84,c153,hln,hva,hn0]
  refine zde ?_
  simp -implicitDefEqProofs only [syms,symx,seval,c119,c84,c153,hln,hva,hn0,decide_false,zeD]
  refine zde ?_
  simp -implicitDefEqProofs only [syms,symx,seval,c119,c84,c153,hln,hva,hn0,decide_false,zeD]
  exact hk _ (z.upW _ _ (by omega))
theorem zeg {T:Tab} {t u:TypeId} {hh:Heap} {bs:List Blk} {n w i o:Nat} {cs vs:List Value} {v:Value} (hb:bs[i]? = some (.row cs u false)) (hs:zaM T t=some n) (hv:v.cells.toList=vs) (hl:vs.length=n) (hc:o+n≤cs.length) (h1':vs.all Am.one=true) :
    zbd T t (.pointer (some ⟨hh.size+i,o,none⟩)) v (hh.lay bs w)=some (hh.lay (bs.set i (.row (splice cs o vs) u false)) (min w (hh.size+i))):=by
  have hg:(hh.lay bs w).get (hh.size+i)=some (.row cs u false):=by rw [zbc]; exact hb
  have hsz:v.cells.size=n:=by rw [← hl,← hv]; simp
  unfold zbd
  simp only [hs,Option.bind_some]
  rw [if_pos hsz,hv]
  unfold zbW
  rw [hg]
  simp only
  rw [if_pos (by simp only [Bool.and_eq_true,decide_eq_true_eq]; exact ⟨by omega,h1'⟩),zbw _ _ _ _ _ (List.getElem?_eq_some_iff.1 hb).1]
theorem zqa:zeL tab 131 131=true:=by kernel_rfl
theorem zAo (s:SentD):zcv tab 133 [(1,s.val)]=some (⟨0,s⟩:PlD).val:=by kernel_rfl
theorem zzg (i:Int) (s:SentD):zcv tab 133 [(0,.int .i64 i),(1,s.val)]=some (⟨i,s⟩:PlD).val:=by kernel_rfl
theorem zpN (b:PlD) (z0 z1 z2:Value):zdV (fun i=>some (i*3,3)) [z0,z1,z2] [(0,b.val)]=some b.cells:=rfl
theorem zzE (b:PlD):cut b.cells 1 2=some b.s.cells:=rfl
theorem zBn (k m:Int) (s:SentD):splice (⟨k,s⟩:PlD).cells 0 [.int .i64 m]=(⟨m,s⟩:PlD).cells:=rfl
theorem zqW (a b:Value) (t:SentD):splice [a,b] 0 t.cells=t.cells:=rfl
theorem zrd (a b c:Value) (t:PlD):splice [a,b,c] 0 t.cells=t.cells:=rfl
theorem zzX {T:Tab} {t e:TypeId} {kd:IntKind} {i:Int} {v:Value} {h1:Heap} {bs:List Blk} {w:Nat} {K:Value→Heap→Prop} {l:List PlD} {x:PlD} (f:Sl Rep.placed h1 v l) (hd:T.desc t=some (.slice e)) (hs:zaM T e=some 3) (h0:0≤i) (hx:l[i.toNat]? = some x) (hk:∀ p,AtP h1 p x.cells→K p (h1.lay bs w)):valE (zau T t v (.int kd i)) (h1.lay bs w) K:=by
  have hi:=(List.getElem?_eq_some_iff.1 hx).1
  refine zdZ f hd hs h0 (by omega) (fun x' p cs hx' hr hp=>?_)
  rw [hx] at hx'
  cases hx'
  exact hk p (hr ▸ hp)
theorem ldPl {T:Tab} {t:TypeId} {p:Value} {h1:Heap} {bs:List Blk} {w:Nat} {K:Value→Heap→Prop} {x:PlD} (f:AtP h1 p x.cells) (hg:aggA T t=some true) (hs:zaM T t=some 3) (hk:K x.val (h1.lay bs w)):valE (zaX T t p (h1.lay bs w)) (h1.lay bs w) K:=znb f hg hs rfl hk
theorem zvT (l:List PlD) (A:Nat) (v:Value) (h hs:Heap) (z:Ext h hs) (f:Ow Rep.placed h hs 133 A v l) (hn:l.length≤100000) (hlt:∀ x∈l,x.light=true) (K:Value→Heap→Prop)
    (hk:∀ h' s,Ext h h'→s.Perm l→StabP l s→zaB s 0 l.length→Sl Rep.placed h' v s→K undef h'):Ok Tryz.prog tab ov 84 [v,.func (.func 85) ⟨[]⟩ ⟨[]⟩] hs K:=by
  rcases zsU f with ⟨rfl,he⟩ | ⟨A2,rfl,q,hA2,hne⟩
  · exact zo4 v hs he.sl _ (fun h' x=>hk h' [] (z.trans x) (List.Perm.refl _) (StabP.refl _) (fun k h1 h2=>absurd h2 (by simp)) (he.sl.mono x.inc))
  · refine zko l A2 _ h hs z hA2 q hn hlt _ (fun h' s x q' hp hst hsr=>hk h' s x hp hst hsr ?_)
    have hG:100000 < G:=by unfold G; omega
    have hl2:=hp.length_eq
    obtain ⟨d1,d2,d3⟩:=zdQ (k:=3) (q:=l.length) (by decide) (by omega)
    have:=zzd (o:=0) (s:=s) (c:=G*3+l.length) q' (.inr ⟨d1,d2,by rw [d3]; omega⟩) (by omega) (fun i x hx=>by rw [Nat.zero_add]; exact hx)
    rw [hl2] at this
    simpa using this
def hidP (m:Int) (ps:List Int) (l:List SentD):List PlD:=l.mapIdx (fun i s=>⟨match ps[i]? with | some p=>modD p m | none=>0,s⟩)
def lisP (l:List SentD):List PlD:=l.mapIdx (fun i s=>⟨(i:Int),s⟩)
def allP (m:Int) (ps:List Int) (H l:List SentD):List PlD:=hidP m ps H++lisP l
theorem zof {m:Int} {ps:List Int} {l:List SentD} {i:Nat} {r:SentD} {k:Int} (hr:l[i]? = some r) (hk:(match ps[i]? with | some p=>modD p m | none=>0)=k):(hidP m ps l).take (i+1)=(hidP m ps l).take i++[⟨k,r⟩]:=by
  subst hk
  rw [List.take_add_one]
  unfold hidP
  rw [List.getElem?_mapIdx,hr]
  rfl
theorem zto {l:List SentD} {i:Nat} {r:SentD} (hr:l[i]? = some r):(lisP l).take (i+1)=(lisP l).take i++[⟨(i:Int),r⟩]:=by
  rw [List.take_add_one]
  unfold lisP
  rw [List.getElem?_mapIdx,hr]
  rfl
theorem zdM (m:Int) (ps:List Int) (l:List SentD):(hidP m ps l).length=l.length:=by unfold hidP; rw [List.length_mapIdx]
theorem zmp (l:List SentD):(lisP l).length=l.length:=by unfold lisP; rw [List.length_mapIdx]
theorem zsB {m:Int} {ps:List Int} {l:List SentD} (h1:1≤m) (h2:m≤1000):∀ x∈hidP m ps l,x.light=true:=by
  intro x hx
  obtain ⟨i,hi⟩:=List.getElem?_of_mem hx
  unfold hidP at hi
  rw [List.getElem?_mapIdx] at hi
  cases hl:l[i]? with
  | none=>rw [hl] at hi; cases hi
  | some s =>
    rw [hl] at hi
    cases hi
    refine decide_eq_true ?_
    cases hp:ps[i]? with
    | none=>exact ⟨by simp [hp],by simp [hp]⟩
    | some p =>
      have:=zfX p m h1
      exact ⟨by simp only [hp]; omega,by simp only [hp]; omega⟩
theorem zs9 {l:List SentD} (h2:l.length≤1000):∀ x∈lisP l,x.light=true:=by
  intro x hx
  obtain ⟨i,hi⟩:=List.getElem?_of_mem hx
  unfold lisP at hi
  rw [List.getElem?_mapIdx] at hi
  cases hl:l[i]? with
  | none=>rw [hl] at hi; cases hi
  | some s =>
    have hil:=(List.getElem?_eq_some_iff.1 hl).1
    rw [hl] at hi
    cases hi
    exact decide_eq_true ⟨by simp,by simp only; omega⟩
theorem zzI (d:PolicyD) (who:ByteArray) (l more:List SentD) (places:List Int) (v u pv:Value) (p0 p1 p2 p5 p6:Value) (q b:Int) (h:Heap) (hsp:SpaceAt 1 h) (hone:(zaE p0 p1 p2 p5 p6 q b).all Am.one=true) (hd:PolK h p0 p1 p2 p5 p6 d) (hps:d.principals.length≤1000) (hcl:d.clears.length≤1000) (hrl:∀ c∈d.clears,c.reads.length≤40) (hl:Sl Rep.sent h v l) (hln:l.length≤100) (hm:Sl Rep.sent h u more) (hmn:more.length≤100) (hpm:∀ s∈more,s.payload.size≤100000) (hp:Sl Rep.int h pv places) (hpn:places.length≤1000) (K:Value→Heap→Prop)
    (hk:∀ h' w s,Ext h h'→s.Perm (allP (l.length+1:Nat) places (more.filter (fun s => !zaK d who s)) l)→StabP (allP (l.length+1:Nat) places (more.filter (fun s => !zaK d who s)) l) s→zaB s 0 (allP (l.length+1:Nat) places (more.filter (fun s => !zaK d who s)) l).length→Sl Rep.sent h' w (s.map PlD.s)→K w h'):Ok Tryz.prog tab ov 38 [zbZ p0 p1 p2 p5 p6 q b,.string who,v,u,pv] h K:=by
  rw [zaa h]
  have z:=Ext.refl h
  have hva:∀ (s:ByteArray) (h:Heap) (K:Value→Heap→Prop),valE (some (.string s)) h K=K (.string s) h:=fun _ _ _=>rfl
  have hvv:=zaR v
  have hvu:=zaR u
  have hvp:=zaR pv
  have hlv:=fun (hh:Heap)=>hl.lenA ds69 hh
  have hlp:=fun (hh:Heap)=>hp.lenA ds30 hh
  obtain ⟨H,hH⟩:∃ H,H=more.filter (fun s => !zaK d who s):=⟨_,rfl⟩
  obtain ⟨m,hmm⟩:∃ m:Nat,m=l.length+1:=⟨_,rfl⟩
  have hHn:H.length≤100:=by rw [hH]; exact Nat.le_trans (List.length_filter_le _ _) hmn
  rw [← hH,← hmm] at hk
  refine Ok.into rfl zxA (zaD N38) rfl (m:=74) rfl ?_
  repeat' ( simp -implicitDefEqProofs only [syms,symx,seval,c38,zaq,↓zaJ,zaI,zaz,hvu,hva])
  refine zk3 d who more _ _ _ _ _ _ _ _ _ (hsp.lay _ _) hone (hd.lay _ _) hps hcl hrl (hm.lay _ _) (by omega) hpm _ (fun h' wh x sh=>?_)
  rw [← hH] at sh
  ((skip); replace z:=z.overW x (by (try simp only [lsz]); omega); rw [zaa h'])
  have z1:=z
  replace hl:=hl.mono z.inc
  replace hp:=hp.mono z.inc
  clear z x
  obtain ⟨h,rfl⟩:∃ a,a=h':=⟨_,rfl⟩
  have z:=Ext.refl h
  have hvh:=zaR wh
  have hlh:=fun (hh:Heap)=>sh.lenA ds69 hh
  simp -implicitDefEqProofs only [syms,symx,seval,c38,hvh,hlh]
  obtain ⟨I1,hI1⟩:∃ I:Nat→Env→Heap→Prop,I=(fun n e h'=>∃ (i:Nat) (wa:Value) (A:Nat) (h1:Heap),h'=h1.lay [] h1.low∧Ext h h1∧(n=H.length - i∧i≤H.length∧Ow Rep.placed h h1 133 A wa ((hidP m places H).take i))∧∃ J:Nat→Value,e=(jr J 0 2 (v::J 3::pv::jr J 5 6 (wa::jr J 12 11 (wh::.int .i64 H.length::.int .i64 i::jr J 26 53 ([])))))):=⟨_,rfl⟩
  refine zaC I1 _ (by rw [hI1]; exact ⟨0,.slice none 0 0,h.size,_,rfl,z,⟨rfl,by omega,Ow.nil (Nat.le_refl _)⟩,junk (by kernel_rfl)⟩) ?_
  intro n e h' hin
  rw [hI1] at hin
  obtain ⟨i,wa,A,h1',rfl,z,hinv,J,rfl⟩:=hin
  obtain ⟨rfl,hi,oz⟩:=hinv
  have hwi:IntKind.i64.wrap ((i:Int)+1)=((i+1:Nat):Int):=by rw [zad (by omega) (by omega)]; omega
  have hwm:IntKind.i64.wrap ((l.length:Int)+1)=((m:Nat):Int):=by rw [zad (by omega) (by omega)]; omega
  have hvw:=zaR wa
  simp -implicitDefEqProofs only [syms,symx,seval,c38]
  refine zar (fun hlt=>?_) (fun hlt=>?_)
  · obtain ⟨r,hr,hr'⟩:=zaY (l:=H) (i:=i) (by omega)
    simp -implicitDefEqProofs only [syms,symx,seval,c38,hvh]
    repeat' ((first | with_reducible_and_instances refine zcI (sh.mono z.inc) ds69 sz62 (by omega) hr (fun p hp=>?_) | with_reducible_and_instances refine ldS hp ag62 sz62 ?_) <;> simp -implicitDefEqProofs only [syms,symx,seval,c38,hvh])
    rw [zeg (i:=0) (n:=2) (vs:=r.cells) rfl (by kernel_rfl) rfl rfl (by decide) rfl,zqW,List.set_cons_zero]
    simp -implicitDefEqProofs only [syms,symx,seval,c38,↓zfq,zez,zcV,zAo,zbl]
    rw [zeg (i:=1) (n:=3) (vs:=(⟨0,r⟩:PlD).cells) rfl (by kernel_rfl) rfl rfl (by decide) rfl,zrd,List.set_cons_succ,List.set_cons_zero]
    clear hp
    simp -implicitDefEqProofs only [syms,symx,seval,c38,hvp,hlp]
    have htk:=fun k=>zof (m:=(m:Int)) (ps:=places) (k:=k) hr'
    have hHl:(hidP m places H).length=H.length:=zdM _ _ _
    have htl:((hidP m places H).take i).length≤100:=by rw [List.length_take]; omega
    refine zar (fun hip=>?_) (fun hip=>?_)
    · obtain ⟨pk,hpk,hpk'⟩:=zaY (l:=places) (i:=i) (by omega)
      have hbm:=zfX pk m (by omega)
      have htk:=htk (modD pk m) (by rw [hpk'])
      simp -implicitDefEqProofs only [syms,symx,seval,c38,hvp,hvv,hlv,hwm]
      repeat' ((first | with_reducible_and_instances refine zyF (hp.mono z.inc) ds30 sz3 (by omega) hpk (fun p hp=>?_) | with_reducible_and_instances refine zbF hp ag3 ?_) <;> simp -implicitDefEqProofs only [syms,symx,seval,c38,hvp,hvv,hlv,hwm])
      refine ztm _ _ _ _ (by omega) (by omega) ?_
      simp -implicitDefEqProofs only [syms,symx,seval,c38]
      rw [zeg (i:=1) (n:=1) (vs:=[.int .i64 (modD pk m)]) rfl (by kernel_rfl) rfl rfl (show 0+1≤3 by decide) rfl,zBn,List.set_cons_succ,List.set_cons_zero]
      simp -implicitDefEqProofs only [syms,symx,seval,c38,hvw,↓zkK,zkr,zbl,zpN]
      simp -implicitDefEqProofs only [syms,symx,seval,c38,za3,zqa]
      refine zdD (i:=2) (cs:=(⟨modD pk m,r⟩:PlD).cells) (x:=⟨modD pk m,r⟩) zlZ zdt rfl (by decide) (by rfl) z.size oz rfl (by omega) (by omega) (fun w3 h3 A3 ow3 cg3 hA3=>?_)
      have hfA:=oz.fresh
      rw [← htk] at ow3
      replace z:=z.stepW cg3 hfA (by omega)
      clear oz
      rw [zaa h3]
      repeat' ( simp -implicitDefEqProofs only [syms,symx,seval,c38])
      rw [hwi]
      (rw [hI1]; with_reducible refine zac (m:=_) ?_ ⟨i+1,w3,A3,_,rfl,z,⟨rfl,by omega,ow3⟩,junk (by kernel_rfl)⟩; omega)
    · have htk:=htk 0 (by rw [List.getElem?_eq_none (by omega)])
      simp -implicitDefEqProofs only [syms,symx,seval,c38,hvw,↓zkK,zkr,zbl,zpN]
      simp -implicitDefEqProofs only [syms,symx,seval,c38,za3,zqa]
      refine zdD (i:=2) (cs:=(⟨0,r⟩:PlD).cells) (x:=⟨0,r⟩) zlZ zdt rfl (by decide) (by rfl) z.size oz rfl (by omega) (by omega) (fun w3 h3 A3 ow3 cg3 hA3=>?_)
      have hfA:=oz.fresh
      rw [← htk] at ow3
      replace z:=z.stepW cg3 hfA (by omega)
      clear oz
      rw [zaa h3]
      repeat' ( simp -implicitDefEqProofs only [syms,symx,seval,c38])
      rw [hwi]
      (rw [hI1]; with_reducible refine zac (m:=_) ?_ ⟨i+1,w3,A3,_,rfl,z,⟨rfl,by omega,ow3⟩,junk (by kernel_rfl)⟩; omega)
  rw [List.take_of_length_le (by rw [zdM]; omega)] at oz
  clear hi hlt hwi hvw
  repeat' ( simp -implicitDefEqProofs only [syms,symx,seval,c38,hvv,hlv])
  obtain ⟨I2,hI2⟩:∃ I:Nat→Env→Heap→Prop,I=(fun n e h'=>∃ (i:Nat) (wa:Value) (A:Nat) (h1:Heap),h'=h1.lay [] h1.low∧Ext h h1∧(n=l.length - i∧i≤l.length∧Ow Rep.placed h h1 133 A wa (hidP m places H++(lisP l).take i))∧∃ J:Nat→Value,e=(jr J 0 11 (wa::jr J 12 38 (v::.int .i64 l.length::.int .i64 i::jr J 53 26 ([]))))):=⟨_,rfl⟩
  refine zaC I2 _ (by rw [hI2]; exact ⟨0,wa,A,_,rfl,z,⟨rfl,by omega,by simpa using oz⟩,junk (by kernel_rfl)⟩) ?_
  intro n e h' hin
  rw [hI2] at hin
  obtain ⟨i,wa,A,h1',rfl,z,hinv,J,rfl⟩:=hin
  clear oz
  obtain ⟨rfl,hi,oz⟩:=hinv
  have hwi:IntKind.i64.wrap ((i:Int)+1)=((i+1:Nat):Int):=by rw [zad (by omega) (by omega)]; omega
  have hvw:=zaR wa
  have htl:(hidP m places H++(lisP l).take i).length≤200:=by rw [List.length_append,zdM,List.length_take,zmp]; omega
  simp -implicitDefEqProofs only [syms,symx,seval,c38]
  refine zar (fun hlt=>?_) (fun hlt=>?_)
  · obtain ⟨r,hr,hr'⟩:=zaY (l:=l) (i:=i) (by omega)
    have htk:=zto hr'
    simp -implicitDefEqProofs only [syms,symx,seval,c38,hvv]
    repeat' ((first | with_reducible_and_instances refine zcI (hl.mono z.inc) ds69 sz62 (by omega) hr (fun p hp=>?_) | with_reducible_and_instances refine ldS hp ag62 sz62 ?_) <;> simp -implicitDefEqProofs only [syms,symx,seval,c38,hvv])
    rw [zeg (i:=0) (n:=2) (vs:=r.cells) rfl (by kernel_rfl) rfl rfl (by decide) rfl,zqW,List.set_cons_zero]
    simp -implicitDefEqProofs only [syms,symx,seval,c38,↓zfq,zez,zcV,zzg,zbl,hvw,zpN]
    simp -implicitDefEqProofs only [syms,symx,seval,c38,za3,zqa]
    refine zdD (i:=1) (cs:=(⟨(i:Int),r⟩:PlD).cells) (x:=⟨(i:Int),r⟩) zlZ zdt rfl (by decide) (by rfl) z.size oz rfl (by omega) (by omega) (fun w3 h3 A3 ow3 cg3 hA3=>?_)
    have hfA:=oz.fresh
    rw [List.append_assoc,← htk] at ow3
    replace z:=z.stepW cg3 hfA (by omega)
    clear oz
    rw [zaa h3]
    repeat' ( simp -implicitDefEqProofs only [syms,symx,seval,c38])
    rw [hwi]
    (rw [hI2]; with_reducible refine zac (m:=_) ?_ ⟨i+1,w3,A3,_,rfl,z,⟨rfl,by omega,ow3⟩,junk (by kernel_rfl)⟩; omega)
  rw [List.take_of_length_le (by rw [zmp]; omega)] at oz
  have htl:(hidP m places H++lisP l).length≤200:=by rw [List.length_append,zdM,zmp]; omega
  have hltA:∀ x∈hidP m places H++lisP l,x.light=true:=by
    intro x hx
    rcases List.mem_append.1 hx with hx | hx
    · exact zsB (by omega) (by omega) x hx
    · exact zs9 (by omega) x hx
  clear hi hlt hwi
  repeat' ( simp -implicitDefEqProofs only [syms,symx,seval,c38,hvw])
  refine zvT _ A wa h _ (z.upW _ _ (by omega)) (oz.mono (Inc.lay _ _ _)) (by omega) hltA _ (fun h' s x hperm hstab hsort ss=>?_)
  have z2:=z1.trans x
  have hsn:=hperm.length_eq
  clear z x oz z1 hl hp sh
  obtain ⟨h,rfl⟩:∃ a,a=h':=⟨_,rfl⟩
  have z:=Ext.refl h
  rw [zaa h]
  have hls:=fun (hh:Heap)=>ss.lenA zlZ hh
  repeat' ( simp -implicitDefEqProofs only [syms,symx,seval,c38,hvw,hls])
  obtain ⟨I3,hI3⟩:∃ I:Nat→Env→Heap→Prop,I=(fun n e h'=>∃ (i:Nat) (wo:Value) (A:Nat) (h1:Heap),h'=h1.lay [] h1.low∧Ext h h1∧(n=s.length - i∧i≤s.length∧Ow Rep.sent h h1 62 A wo ((s.take i).map PlD.s))∧∃ J:Nat→Value,e=(jr J 0 17 (wo::jr J 18 48 (wa::.int .i64 s.length::.int .i64 i::jr J 69 10 ([]))))):=⟨_,rfl⟩
  refine zaC I3 _ (by rw [hI3]; exact ⟨0,.slice none 0 0,h.size,_,rfl,z,⟨rfl,by omega,Ow.nil (Nat.le_refl _)⟩,junk (by kernel_rfl)⟩) ?_
  intro n e h' hin
  rw [hI3] at hin
  obtain ⟨i,wo,A,h1',rfl,z,hinv,J,rfl⟩:=hin
  obtain ⟨rfl,hi,oz⟩:=hinv
  have hwi:IntKind.i64.wrap ((i:Int)+1)=((i+1:Nat):Int):=by rw [zad (by omega) (by omega)]; omega
  have hvo:=zaR wo
  have htl2:((s.take i).map PlD.s).length≤200:=by rw [List.length_map,List.length_take]; omega
  simp -implicitDefEqProofs only [syms,symx,seval,c38]
  refine zar (fun hlt=>?_) (fun hlt=>?_)
  · obtain ⟨r,hr,hr'⟩:=zaY (l:=s) (i:=i) (by omega)
    have htk:(s.take (i+1)).map PlD.s=(s.take i).map PlD.s++[r.s]:=by rw [List.take_add_one,hr']; simp
    simp -implicitDefEqProofs only [syms,symx,seval,c38,hvw]
    repeat' ((first | with_reducible_and_instances refine zzX (ss.mono z.inc) zlZ ziU (by omega) hr (fun p hp=>?_) | with_reducible_and_instances refine ldPl hp zBw ziU ?_) <;> simp -implicitDefEqProofs only [syms,symx,seval,c38,hvw])
    rw [zeg (i:=0) (n:=3) (vs:=r.cells) rfl (by kernel_rfl) rfl rfl (by decide) rfl,zrd,List.set_cons_zero]
    simp -implicitDefEqProofs only [syms,symx,seval,c38,↓zzE,zez,zcV,hvo,zea]
    simp -implicitDefEqProofs only [syms,symx,seval,c38,za3,znP]
    refine zdD (i:=1) (cs:=r.s.cells) (x:=r.s) ds69 zbH rfl (by decide) (by rfl) z.size oz rfl (by omega) (by omega) (fun w3 h3 A3 ow3 cg3 hA3=>?_)
    have hfA:=oz.fresh
    rw [← htk] at ow3
    replace z:=z.stepW cg3 hfA (by omega)
    clear oz
    rw [zaa h3]
    repeat' ( simp -implicitDefEqProofs only [syms,symx,seval,c38])
    rw [hwi]
    (rw [hI3]; with_reducible refine zac (m:=_) ?_ ⟨i+1,w3,A3,_,rfl,z,⟨rfl,by omega,ow3⟩,junk (by kernel_rfl)⟩; omega)
  rw [List.take_of_length_le (by omega)] at oz
  repeat' ( simp -implicitDefEqProofs only [syms,symx,seval,c38,hvo])
  exact hk _ _ s ((z2.trans z).upW _ _ (by have:=(z2.trans z).low; omega)) hperm hstab hsort ((oz.sl (by decide)).lay _ _)
end Go.Proofs.YtemapihoobmonaaGreatDoor
namespace Go.Proofs.YtemapihoobmonaaGreatDoor
open Go.Am
set_option linter.unusedVariables false
theorem ztN {s:List PlD} (h:zaB s 0 s.length):s.Pairwise (fun a b=>a.at_≤b.at_):=by
  rw [List.pairwise_iff_getElem]
  intro i j hi hj hij
  have:=zbv h (i:=i) (j:=j) (Nat.zero_le _) (Nat.le_of_lt hij) hj
  have e1:s.getD i zaw=s[i]:=by rw [List.getD_eq_getElem?_getD,List.getElem?_eq_getElem hi]; rfl
  have e2:s.getD j zaw=s[j]:=by rw [List.getD_eq_getElem?_getD,List.getElem?_eq_getElem hj]; rfl
  rw [e1,e2] at this
  unfold zbj at this
  omega
theorem zpL {s:List PlD} (h:s.Pairwise (fun a b=>a.at_≤b.at_)) (t:Int):s.filter (fun x=>decide (x.at_ < t+1))=s.filter (fun x=>decide (x.at_ < t))++s.filter (fun x=>x.at_ == t):=by
  induction h with
  | nil=>rfl
  | @cons a l ha hl ih =>
    by_cases h1:a.at_ < t
    · rw [List.filter_cons_of_pos (by simp; omega),List.filter_cons_of_pos (by simpa using h1),List.filter_cons_of_neg (by simp; omega),ih,List.cons_append]
    · have hn:l.filter (fun x=>decide (x.at_ < t))=[]:=by
        rw [List.filter_eq_nil_iff]
        intro x hx
        have:=ha x hx
        simp; omega
      rw [hn,List.nil_append] at ih
      rw [List.filter_cons_of_neg (p:=fun x:PlD=>decide (x.at_ < t)) (by simpa using h1),hn,List.nil_append]
      by_cases h2:a.at_=t
      · rw [List.filter_cons_of_pos (by simp; omega),List.filter_cons_of_pos (by simpa using h2),ih]
      · rw [List.filter_cons_of_neg (by simp; omega),List.filter_cons_of_neg (by simpa using h2),ih]
theorem zAZ (l:List SentD):(lisP l).map PlD.s=l:=by
  apply List.ext_getElem?
  intro i
  unfold lisP
  rw [List.getElem?_map,List.getElem?_mapIdx]
  cases l[i]? <;> rfl
theorem zAP (m:Int) (ps:List Int) (l:List SentD):(hidP m ps l).map PlD.s=l:=by
  apply List.ext_getElem?
  intro i
  unfold hidP
  rw [List.getElem?_map,List.getElem?_mapIdx]
  cases l[i]? <;> rfl
theorem zrN {m:Int} {ps:List Int} {H l:List SentD} {s:List PlD} (hp:s.Perm (allP m ps H l)):(s.map PlD.s).Perm (H++l):=by
  have:=hp.map PlD.s
  unfold allP at this
  rwa [List.map_append,zAP,zAZ] at this
theorem zv4 {m:Int} {ps:List Int} {H l:List SentD} {s:List PlD} (hp:s.Perm (allP m ps H l)):(s.map PlD.s).length=l.length+H.length:=by
  rw [(zrN hp).length_eq,List.length_append]
  omega
end Go.Proofs.YtemapihoobmonaaGreatDoor
namespace Go.Proofs.YtemapihoobmonaaGreatDoor
open Go.Am
set_option linter.unusedVariables false
set_option linter.unusedSimpArgs false
def znS (m:Int) (ps:List Int) (H l:List SentD) (t:Nat):List SentD:=((hidP m ps H).filter (fun x=>x.at_ == (t:Int))).map PlD.s++l[t]?.toList
def mixR (m:Int) (ps:List Int) (H l:List SentD):Nat→List SentD
  | 0=>[]
  | t+1=>mixR m ps H l t++znS m ps H l t
theorem zA7 (l:List SentD) (t:Nat):((lisP l).filter (fun x=>x.at_ == (t:Int))).map PlD.s=l[t]?.toList:=by
  have key:∀ (l:List SentD) (k:Nat),((l.mapIdx (fun i s=>(⟨((k+i:Nat):Int),s⟩:PlD))).filter (fun x=>x.at_ == (t:Int))).map PlD.s=(if k≤t then l[t - k]?.toList else []):=by
    intro l
    induction l with
    | nil=>intro k; split <;> rfl
    | cons a l ih =>
      intro k
      rw [List.mapIdx_cons]
      have e:(fun (i:Nat) (s:SentD)=>(⟨((k+(i+1):Nat):Int),s⟩:PlD))=(fun i s=>⟨((k+1+i:Nat):Int),s⟩):=by
        funext i s
        rw [show k+(i+1)=k+1+i by omega]
      rw [e]
      have ih2:=ih (k+1)
      by_cases hk:k=t
      · subst hk
        rw [List.filter_cons_of_pos (by simp),List.map_cons,ih2,if_neg (by omega),if_pos (Nat.le_refl _),Nat.sub_self]
        rfl
      · rw [List.filter_cons_of_neg (by simp only [Nat.add_zero]; intro hh; exact hk (by have:=of_decide_eq_true hh; omega)),ih2]
        by_cases hlt:k+1≤t
        · rw [if_pos hlt,if_pos (by omega),show t - k=(t - (k+1))+1 by omega,List.getElem?_cons_succ]
        · rw [if_neg hlt,if_neg (by omega)]
  have:=key l 0
  rw [if_pos (Nat.zero_le _),Nat.sub_zero] at this
  rw [← this]
  unfold lisP
  simp only [Nat.zero_add]
theorem zjd {m:Int} {ps:List Int} {H l:List SentD} {s:List PlD} (hst:StabP (allP m ps H l) s) (hso:zaB s 0 s.length) (h0:∀ x∈s,0≤x.at_):∀ t:Nat,mixR m ps H l t=(s.filter (fun x=>decide (x.at_ < (t:Int)))).map PlD.s
  | 0=>by
    rw [List.filter_eq_nil_iff.2 (fun x hx=>by have:=h0 x hx; simp; omega)]
    rfl
  | t+1=>by
    have e:s.filter (fun x=>x.at_ == (t:Int))=(allP m ps H l).filter (fun x=>x.at_ == (t:Int)):=hst (t:Int)
    rw [show ((t+1:Nat):Int)=(t:Int)+1 by omega,zpL (ztN hso),List.map_append,← zjd hst hso h0 t,e]
    show mixR m ps H l t++znS m ps H l t=_
    unfold znS allP
    rw [List.filter_append,List.map_append,zA7]
theorem zrY {m:Int} {ps:List Int} {l:List SentD} (h1:1≤m):∀ x∈hidP m ps l,0≤x.at_∧x.at_ < m:=by
  intro x hx
  obtain ⟨i,hi⟩:=List.getElem?_of_mem hx
  unfold hidP at hi
  rw [List.getElem?_mapIdx] at hi
  cases hl:l[i]? with
  | none=>rw [hl] at hi; cases hi
  | some s =>
    rw [hl] at hi
    cases hi
    cases hp:ps[i]? with
    | none=>exact ⟨by simp [hp],by simp [hp]; omega⟩
    | some p=>exact ⟨by simp only [hp]; exact (zfX p m h1).1,by simp only [hp]; exact (zfX p m h1).2⟩
theorem zrZ {l:List SentD}:∀ x∈lisP l,0≤x.at_∧x.at_ < l.length:=by
  intro x hx
  obtain ⟨i,hi⟩:=List.getElem?_of_mem hx
  unfold lisP at hi
  rw [List.getElem?_mapIdx] at hi
  cases hl:l[i]? with
  | none=>rw [hl] at hi; cases hi
  | some s =>
    have hil:=(List.getElem?_eq_some_iff.1 hl).1
    rw [hl] at hi
    cases hi
    exact ⟨by simp,by simp only; omega⟩
theorem zxC {ps:List Int} {H l:List SentD} {s:List PlD} (hp:s.Perm (allP (l.length+1:Nat) ps H l)) (hst:StabP (allP (l.length+1:Nat) ps H l) s) (hso:zaB s 0 s.length):mixR (l.length+1:Nat) ps H l (l.length+1)=s.map PlD.s:=by
  have hb:∀ x∈s,0≤x.at_∧x.at_ < ((l.length+1:Nat):Int):=by
    intro x hx
    rcases List.mem_append.1 (hp.mem_iff.1 hx) with g | g
    · exact zrY (by omega) x g
    · have:=zrZ x g
      omega
  rw [zjd hst hso (fun x hx=>(hb x hx).1),List.filter_eq_self.2 (fun x hx=>by have:=hb x hx; simp; omega)]
theorem ztD {m:Int} {ps:List Int} {H:List SentD} {t i:Nat} {r:SentD} {k:Int} (hr:H[i]? = some r) (hk:(match ps[i]? with | some p=>modD p m | none=>0)=k):(((hidP m ps H).take (i+1)).filter (fun x=>x.at_ == (t:Int))).map PlD.s=(((hidP m ps H).take i).filter (fun x=>x.at_ == (t:Int))).map PlD.s++(if k=(t:Int) then [r] else []):=by
  rw [zof hr hk,List.filter_append,List.map_append]
  by_cases h:k=(t:Int)
  · rw [if_pos h,List.filter_cons_of_pos (by simpa using h)]
    rfl
  · rw [if_neg h,List.filter_cons_of_neg (by simpa using h)]
    rfl
def zc3 (who:ByteArray):List SentD→List ByteArray→List ByteArray
  | s::l,a::aw=>if s.sender=who then a::zc3 who l aw else zc3 who l aw
  | _,_=>[]
theorem zd2 (who:ByteArray) (s:SentD) (l:List SentD) (a:ByteArray) (aw:List ByteArray):zc3 who (s::l) (a::aw)=if s.sender=who then a::zc3 who l aw else zc3 who l aw:=rfl
theorem zjz (who:ByteArray) (aw:List ByteArray):zc3 who [] aw=[]:=by cases aw <;> rfl
theorem zkL (who:ByteArray) (l:List SentD):zc3 who l []=[]:=by cases l <;> rfl
theorem zhl {who:ByteArray}:∀ {l:List SentD} {aw:List ByteArray} {i:Nat} {s:SentD} {a:ByteArray},l[i]? = some s→aw[i]? = some a→zc3 who (l.take (i+1)) (aw.take (i+1))=zc3 who (l.take i) (aw.take i)++(if s.sender=who then [a] else [])
  | [],_,i,s,a,h,_=>by simp at h
  | _::_,[],i,s,a,_,h=>by simp at h
  | x::l,y::aw,0,s,a,h1,h2=>by
    simp at h1 h2
    subst h1 h2
    rw [List.take_succ_cons,List.take_succ_cons,zd2]
    simp [zjz]
  | x::l,y::aw,i+1,s,a,h1,h2=>by
    rw [List.getElem?_cons_succ] at h1 h2
    have ih:=zhl (who:=who) h1 h2
    rw [List.take_succ_cons,List.take_succ_cons,zd2,ih,List.take_succ_cons,List.take_succ_cons,zd2]
    split
    · rw [List.cons_append]
    · rfl
theorem zf8 (who:ByteArray):∀ (l:List SentD) (aw:List ByteArray) (k:Nat),l.length≤k∨aw.length≤k→zc3 who (l.take k) (aw.take k)=zc3 who l aw
  | [],aw,k,_=>by rw [List.take_nil,zjz,zjz]
  | _::_,[],k,_=>by rw [List.take_nil,zkL,zkL]
  | x::l,y::aw,0,h=>by simp at h
  | x::l,y::aw,k+1,h=>by
    rw [List.take_succ_cons,List.take_succ_cons,zd2,zd2,zf8 who l aw k (by simpa using h)]
end Go.Proofs.YtemapihoobmonaaGreatDoor

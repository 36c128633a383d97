/- Walks: what calls make of a space, by plain data. Written out by fill2.py. No condition. -/
import Derived.Test.YtdplfgoifjjniaaGreatDoorG44
import Derived.Test.YtdplfgoifjjniaaGreatDoorG45
set_option linter.unusedSimpArgs false
set_option linter.unusedVariables false
set_option maxRecDepth 100000
set_option maxHeartbeats 0
namespace Go.Proofs.YtdplfgoifjjniaaGreatDoor
open Go.Am
section
variable {X:List Nat} {N b b2 k:Nat} {h h2:Heap} {S0:Nat} {E:List Nat} {d:PolicyD} {q:Int} {facts:ByteArray→List AtomD} {vers us:ByteArray→Nat} {s:ByteArray} {a:AtomD} {l:List AtomD} {cs:List ByteArray}
theorem SpX.more (s:SpX X N b h S0 E d q facts vers us) (hb:b≤b2):SpX X N b2 h S0 E d q facts vers us:=by
 obtain ⟨⟨T0,D,NM,v0,v1,nv,e,g1,g2,g3⟩,s2⟩:=s
 exact ⟨⟨T0,D,NM,v0,v1,nv,e,g1,g2.le hb,g3⟩,s2⟩
theorem TabD.down {N2 b T0:Nat} {D:List Nat} (t:TabD N b h D T0 us) (hN:N2≤N):TabD N2 b h D T0 us:=by
 obtain ⟨FI,FE,FM,free,ents,kv,e,⟨a1,a2,a3,lo,hi⟩,p⟩:=t
 exact ⟨FI,FE,FM,free,ents,kv,e,⟨a1,a2,a3,⟨by omega,by omega,by omega,by omega⟩,hi⟩,p⟩
theorem SpX.down {N2:Nat} (s:SpX X N b h S0 E d q facts vers us) (hN:N2≤N):SpX X N2 b h S0 E d q facts vers us:=by
 obtain ⟨⟨T0,D,NM,v0,v1,nv,e,g1,g2,g3,g4,g5,g6,g7,g8,g9,g10,g11⟩,s2⟩:=s
 exact ⟨⟨T0,D,NM,v0,v1,nv,e,g1,g2.down hN,g3,g4,g5,g6,g7,g8,g9,by omega,by omega⟩,s2⟩
theorem SpX.fresh (s:SpX [] N b h S0 E d q facts vers us) (f:Frs [] h h2) (hX:∀ B∈X,h.size≤B∧B < h2.size):SpX X N b h2 S0 E d q facts vers us:=by
 have hl:=s.lt
 obtain ⟨⟨T0,D,NM,v0,v1,nv,rfl,g1,g2,g3,g4,g5,g6,g7,g8⟩,_⟩:=s
 have hEX:∀ B∈NM::D,B ∉ X:=fun B hB hx=>by
  have h1:=(hl.2 B hB).2
  have h2:=(hX B hx).1
  omega
 have u:Frs X h (killL X h2):=(f.mono (D':=X) (fun _ h=>nomatch h)).trans (Frs.dead X h2) (fun B hB=>.inl hB)
 have hi:Inc (killL (NM::D) h) (killL (NM::D) (killL X h2)):=by
  refine ⟨by rw [zaz,zaz,zaz];exact f.size,fun B hB hd=>?_⟩
  rw [zaz] at hB
  have hE:B ∉ NM::D:=fun hh=>hd (zco hh hB)
  have hx:B ∉ X:=fun hh=>by have:=(hX B hh).1;omega
  rw [zbh hE,zbh hE]
  exact u.get B hB hx
 exact ⟨⟨T0,D,NM,v0,v1,nv,rfl,g1.frs u (fun hx=>by have:=(hX _ hx).1;have:=hl.1;omega),g2.frs u (fun B hB=>hEX B (List.mem_cons_of_mem _ hB)),g3.hold (fun b q=>q.frs u (hEX _ (by simp))),g4.mono hi,g5.mono hi,g6,fun who x hx=>(g7 who x hx).imp fun s hs=>⟨hs.1,hs.2.mono hi⟩,g8⟩,hEX,fun B hB=>(hX B hB).2⟩
theorem zkr:zeS facts s (some l)=updF facts s l:=rfl
theorem zks:zgM vers s (some l)=updU vers s (vers s+1):=rfl
theorem zzR (h:∀ x,x∈cs↔zds a x) (t:ByteArray):addU us cs t=us t+(if inB a t then 1 else 0):=by
 unfold addU
 by_cases ht:inB a t=true
 ·rw [if_pos ht,if_pos ((h t).2 (inB_iff.1 ht))]
 ·rw [if_neg ht,if_neg (fun hm=>ht (inB_iff.2 ((h t).1 hm)))]
  rfl
theorem zA1 (h:∀ x,x∈cs↔zds a x) (t:ByteArray):subU us cs t=us t - (if inB a t then 1 else 0):=by
 unfold subU
 by_cases ht:inB a t=true
 ·rw [if_pos ht,if_pos ((h t).2 (inB_iff.1 ht))]
 ·rw [if_neg ht,if_neg (fun hm=>ht (inB_iff.2 ((h t).1 hm)))]
  rfl
end
theorem zj5 (d:PolicyD) (q:Int) (s:ByteArray) (a:AtomD) (facts:ByteArray→List AtomD) (vers us:ByteArray→Nat) (h hc:Heap) (z:Ext h hc) (N b k:Nat) (S0:Nat) (E:List Nat) (hN:N=h.size) (X:List Nat) (sps:SpX X N b hc S0 E d q facts vers us) (inv:InvS d k facts vers us) (hnd:d.principals.Nodup) (hpl:d.principals.length≤16) (hsp:SpaceAt 1 hc) (ha:a.light=true) (hk:k≤700) (hb:b < 50000) (K:Value→Heap→Prop)
 (hK:∀ h' E2 us2,Ext h h'→Frs E hc h'→(∀ B∈E2,B∈E∨hc.size≤B)→SpX X N (b+4) h' S0 E2 d q (zeS facts s (locA d q s a (facts s))) (zgM vers s (locA d q s a (facts s))) us2→InvS d (k+1) (zeS facts s (locA d q s a (facts s))) (zgM vers s (locA d q s a (facts s))) us2→K (.tuple #[.bool (locA d q s a (facts s)).isSome,.int .i64 (errA d q s a (facts s))]) h'):Ok Tryz.prog tab ov 11 [.pointer (some ⟨S0,0,none⟩),.string s,a.val] hc K:=by
 have hus:∀ x,us x < 1000000000:=fun x=>by
  have h1:=inv.us_le x
  have h2:d.principals.length*k≤16*700:=Nat.mul_le_mul hpl hk
  omega
 have hl:=inv.len s
 have hv:=inv.ver s
 have stay:locA d q s a (facts s)=none→∀ h',Ext h h'→Frs [] hc h'→K (.tuple #[.bool (locA d q s a (facts s)).isSome,.int .i64 (errA d q s a (facts s))]) h':=fun e h' z f=>by
  refine hK h' E us z (f.mono (fun _ h=>nomatch h)) (fun B hB=>.inl hB) ?_ ?_
  ·rw [e,zeh,zei]
   exact (sps.frs f).more (by omega)
  ·rw [e,zeh,zei]
   exact inv.more (by omega)
 refine zqt d q s a facts vers us h hc z N b S0 E hN X sps hsp (by omega) (by omega) (fun x hx=>inv.light hx) ha (by omega) (inv.sort s) hb hus (fun he=>zn3 he) (by have:=zot a (facts s);omega) K (fun he h' z f=>?_) (fun he hh h' z f=>?_) (fun he hh hq h' z f=>?_) (fun he hh hq h' cs E2 z f hE hl4 hnd2 hmem sp2=>?_)
 ·have e1:locA d q s a (facts s)=none:=if_neg he
  have e2:errA d q s a (facts s)=zbF d s a:=if_neg he
  have:=stay e1 h' z f
  rw [e1,e2] at this
  exact this
 ·have e1:locA d q s a (facts s)=none:=by unfold locA;rw [if_pos he,if_pos hh]
  have e2:errA d q s a (facts s)=0:=by unfold errA;rw [if_pos he,if_pos hh]
  have:=stay e1 h' z f
  rw [e1,e2] at this
  exact this
 ·have e1:locA d q s a (facts s)=none:=by unfold locA;rw [if_pos he,if_neg (by rw [hh];decide),if_neg (by omega)]
  have e2:errA d q s a (facts s)=12:=by unfold errA;rw [if_pos he,if_neg (by rw [hh];decide),if_neg (by omega)]
  have:=stay e1 h' z f
  rw [e1,e2] at this
  exact this
 ·have e1:locA d q s a (facts s)=some (putA a (facts s)):=by unfold locA;rw [if_pos he,if_neg (by rw [hh];decide),if_pos hq]
  have e2:errA d q s a (facts s)=0:=by unfold errA;rw [if_pos he,if_neg (by rw [hh];decide),if_pos hq]
  have hk2:=hK h' E2 (addU us cs) z f hE
  rw [e1,e2,zkr,zks] at hk2
  exact hk2 sp2 (inv.putT hnd he hh (zzR hmem))
theorem zoq (d:PolicyD) (q:Int) (s:ByteArray) (a:AtomD) (facts:ByteArray→List AtomD) (vers us:ByteArray→Nat) (h hc:Heap) (z:Ext h hc) (N b k:Nat) (S0:Nat) (E:List Nat) (hN:N=h.size) (X:List Nat) (sps:SpX X N b hc S0 E d q facts vers us) (inv:InvS d k facts vers us) (hnd:d.principals.Nodup) (hpl:d.principals.length≤16) (hsp:SpaceAt 1 hc) (ha:a.light=true) (hk:k≤700) (hb:b < 50000) (K:Value→Heap→Prop)
 (hK:∀ h' E2 us2,Ext h h'→Frs E hc h'→(∀ B∈E2,B∈E∨hc.size≤B)→SpX X N (b+4) h' S0 E2 d q (zeS facts s (locR d s a (facts s))) (zgM vers s (locR d s a (facts s))) us2→InvS d (k+1) (zeS facts s (locR d s a (facts s))) (zgM vers s (locR d s a (facts s))) us2→K (.tuple #[.bool (locR d s a (facts s)).isSome,.int .i64 (zbF d s a)]) h'):Ok Tryz.prog tab ov 16 [.pointer (some ⟨S0,0,none⟩),.string s,a.val] hc K:=by
 have hus:∀ x,us x < 1000000000:=fun x=>by
  have h1:=inv.us_le x
  have h2:d.principals.length*k≤16*700:=Nat.mul_le_mul hpl hk
  omega
 have hl:=inv.len s
 have hv:=inv.ver s
 have stay:locR d s a (facts s)=none→∀ h',Ext h h'→Frs [] hc h'→K (.tuple #[.bool (locR d s a (facts s)).isSome,.int .i64 (zbF d s a)]) h':=fun e h' z f=>by
  refine hK h' E us z (f.mono (fun _ h=>nomatch h)) (fun B hB=>.inl hB) ?_ ?_
  ·rw [e,zeh,zei]
   exact (sps.frs f).more (by omega)
  ·rw [e,zeh,zei]
   exact inv.more (by omega)
 refine zop d q s a facts vers us h hc z N b S0 E hN X sps hsp (by omega) (by omega) (fun x hx=>inv.light hx) ha (by omega) (inv.sort s) hb hus (fun he hh x hx=>inv.pos he hh (inB_iff.2 hx)) K (fun he h' z f=>?_) (fun he hh h' z f=>?_) (fun he hh h' cs E2 z f hE hl4 hnd2 hmem sp2=>?_)
 ·have e1:locR d s a (facts s)=none:=if_neg he
  have:=stay e1 h' z f
  rw [e1] at this
  exact this
 ·have e1:locR d s a (facts s)=none:=by unfold locR;rw [if_pos he,if_neg (by rw [hh];decide)]
  have:=stay e1 h' z f
  rw [e1,he] at this
  exact this
 ·have e1:locR d s a (facts s)=some (delA a (facts s)):=by unfold locR;rw [if_pos he,if_pos hh]
  have hk2:=hK h' E2 (subU us cs) z f hE
  rw [e1,he,zkr,zks] at hk2
  exact hk2 (sp2.more (by omega)) (inv.delT hnd he hh (zA1 hmem))
def zjt (n m:Int):Int:=if m < 1 then 0 else if n.tmod m < 0 then n.tmod m+m else n.tmod m
theorem zpv (n m:Int) (hm:1≤m):0≤zjt n m∧zjt n m < m:=by
 unfold zjt
 rw [if_neg (by omega)]
 have h1:=Int.tmod_lt_of_pos n (show 0 < m by omega)
 have h2:=Int.lt_tmod_of_pos n (show 0 < m by omega)
 split <;> omega
theorem zsU (n m:Int) (h:Heap) (K:Value→Heap→Prop) (hm:m≤4611686018427387904) (hk:K (.int .i64 (zjt n m)) h):Ok Tryz.prog tab ov 9 [.int .i64 n,.int .i64 m] h K:=by
 refine Ok.into rfl zzy (zaw N9) rfl (m:=15) rfl ?_
 simp -implicitDefEqProofs only [syms,symx,seval,c9]
 refine zaD (fun c=>?_) (fun c=>?_)
 ·simp -implicitDefEqProofs only [syms,symx,seval,c9]
  have:zjt n m=0:=by unfold zjt;rw [if_pos c]
  rw [this] at hk
  exact hk
 have hb:=zpv n m (by omega)
 have hd:zjt n m=if n.tmod m < 0 then n.tmod m+m else n.tmod m:=by unfold zjt;rw [if_neg c]
 simp -implicitDefEqProofs only [syms,symx,seval,c9]
 rw [zrN (by omega)]
 simp -implicitDefEqProofs only [syms,symx,seval,c9]
 refine zaD (fun c2=>?_) (fun c2=>?_)
 ·rw [if_pos c2] at hd
  rw [hd] at hk hb
  simp -implicitDefEqProofs only [syms,symx,seval,c9]
  rw [wrap_i64 (by omega) (by omega)]
  exact hk
 ·rw [if_neg c2] at hd
  rw [hd] at hk
  simp -implicitDefEqProofs only [syms,symx,seval,c9]
  exact hk
noncomputable def N5:=zax Tryz.f5
noncomputable def x5:=PLift.up (by have c:=zag N5 Tryz.f5;simp only [nEqs,Tryz.f5,seval] at c;exact nd c <| nd @zmd <| nd @zsj <| nd @ix23 <| nd @ix48 <| nd @ld23 <| nd @ld29 <| nd @ld57 <| nd @ld9 <| nd @ln23 <| nd @ln48 <| @fi5)
theorem c5:type_of% x5.down:=x5.down
noncomputable def N4:=zax Tryz.f4
noncomputable def x4:=PLift.up (by have c:=zag N4 Tryz.f4;simp only [nEqs,Tryz.f4,seval] at c;exact nd c <| nd @zif <| nd @zxs <| nd @zsj <| nd @zxt <| nd @ix48 <| nd @ld29 <| nd @ld3 <| nd @ld42 <| nd @ld9 <| nd @ln48 <| nd @ln9 <| @fi4)
theorem c4:type_of% x4.down:=x4.down
noncomputable def N3:=zax Tryz.f3
noncomputable def x3:=PLift.up (by have c:=zag N3 Tryz.f3;simp only [nEqs,Tryz.f3,seval] at c;exact nd c <| nd @al29 <| nd @bs23 <| nd @zme <| nd @ld29 <| nd @ld3 <| @fi3)
theorem c3:type_of% x3.down:=x3.down
noncomputable def N6:=zax Tryz.f6
noncomputable def x6:=PLift.up (by have c:=zag N6 Tryz.f6;simp only [nEqs,Tryz.f6,seval] at c;exact nd c <| nd @zmd <| nd @zme <| nd @zif <| nd @zxs <| nd @zsj <| nd @zxt <| nd @ix23 <| nd @ix48 <| nd @ix52 <| nd @ld23 <| nd @ld29 <| nd @ld3 <| nd @ld42 <| nd @ld9 <| nd @ln23 <| nd @ln48 <| nd @ln52 <| @fi6)
theorem c6:type_of% x6.down:=x6.down
noncomputable def N13:=zax Tryz.f13
noncomputable def x13:=PLift.up (by have c:=zag N13 Tryz.f13;simp only [nEqs,Tryz.f13,seval] at c;exact nd c <| @fi13)
theorem c13:type_of% x13.down:=x13.down
noncomputable def N12:=zax Tryz.f12
noncomputable def x12:=PLift.up (by have c:=zag N12 Tryz.f12;simp only [nEqs,Tryz.f12,seval] at c;exact nd c <| nd @al42 <| nd @zpg <| nd @zsi <| nd @ix23 <| nd @ix40 <| nd @ld42 <| nd @ld9 <| nd @ln23 <| @fi12)
theorem c12:type_of% x12.down:=x12.down
noncomputable def N35:=zax Tryz.f35
noncomputable def x35:=PLift.up (by have c:=zag N35 Tryz.f35;simp only [nEqs,Tryz.f35,seval] at c;exact nd c <| nd @al39 <| nd @fi35 <| @ld39)
theorem c35:type_of% x35.down:=x35.down
noncomputable def N8:=zax Tryz.f8
noncomputable def x8:=PLift.up (by have c:=zag N8 Tryz.f8;simp only [nEqs,Tryz.f8,seval] at c;exact nd c <| nd @al29 <| nd @bs23 <| nd @bs24 <| nd @bs25 <| nd @bs26 <| nd @bs27 <| nd @bs52 <| nd @fi8 <| @ld29)
theorem c8:type_of% x8.down:=x8.down
end Go.Proofs.YtdplfgoifjjniaaGreatDoor

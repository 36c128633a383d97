/- The code of some functions, node by node, for simp. Written by a program (mkcode.py). No condition. -/
import Derived.Test.YtdplfgoifjjniaaGreatDoorG31
import Derived.Test.YtdplfgoifjjniaaGreatDoorZQ1
set_option linter.unusedSimpArgs false
set_option linter.unusedVariables false
set_option maxRecDepth 100000
set_option maxHeartbeats 0
namespace Go.Proofs.YtdplfgoifjjniaaGreatDoor
open Go.Am
noncomputable def N34:=zax Tryz.f34
noncomputable def x34:=PLift.up (by have c:=zag N34 Tryz.f34;simp only [nEqs,Tryz.f34,seval] at c;exact nd c <| nd @zsk <| nd @ix23 <| nd @ld42 <| nd @ld76 <| nd @ld9 <| nd @ln23 <| nd @fi34 <| @fj34)
theorem c34:type_of% x34.down:=x34.down
noncomputable def N38:=zax Tryz.f38
noncomputable def x38:=PLift.up (by have c:=zag N38 Tryz.f38;simp only [nEqs,Tryz.f38,seval] at c;exact nd c <| nd @zsk <| nd @ix23 <| nd @ld42 <| nd @ld76 <| nd @ld9 <| nd @ln23 <| nd @fi38 <| @fj38)
theorem c38:type_of% x38.down:=x38.down
noncomputable def N31:=zax Tryz.f31
noncomputable def x31:=PLift.up (by have c:=zag N31 Tryz.f31;simp only [nEqs,Tryz.f31,seval] at c;exact nd c <| nd @al29 <| nd @zmd <| nd @zse <| nd @zme <| nd @ld23 <| nd @ld24 <| nd @ld3 <| nd @fi31 <| @ld29)
theorem c31:type_of% x31.down:=x31.down
noncomputable def N30:=zax Tryz.f30
noncomputable def x30:=PLift.up (by have c:=zag N30 Tryz.f30;simp only [nEqs,Tryz.f30,seval] at c;exact nd c <| nd @ld29 <| @fi30)
theorem c30:type_of% x30.down:=x30.down
noncomputable def N10:=zax Tryz.f10
noncomputable def x10:=PLift.up (by have c:=zag N10 Tryz.f10;simp only [nEqs,Tryz.f10,seval] at c;exact nd c <| nd @ld29 <| @fi10)
theorem c10:type_of% x10.down:=x10.down
noncomputable def N32:=zax Tryz.f32
noncomputable def x32:=PLift.up (by have c:=zag N32 Tryz.f32;simp only [nEqs,Tryz.f32,seval] at c;exact nd c <| nd @al87 <| nd @zxA <| nd @zxB <| nd @zAq <| nd @zAr <| nd @ld29 <| nd @ld42 <| nd @ld52 <| nd @ld54 <| nd @ld79 <| nd @ln52 <| @fi32)
theorem c32:type_of% x32.down:=x32.down
noncomputable def N11:=zax Tryz.f11
noncomputable def x11:=PLift.up (by have c:=zag N11 Tryz.f11;simp only [nEqs,Tryz.f11,seval] at c;exact nd c <| nd @zme <| nd @zsl <| nd @zxA <| nd @ld3 <| nd @ld42 <| nd @ld78 <| @fi11)
theorem c11:type_of% x11.down:=x11.down
noncomputable def N16:=zax Tryz.f16
noncomputable def x16:=PLift.up (by have c:=zag N16 Tryz.f16;simp only [nEqs,Tryz.f16,seval] at c;exact nd c <| nd @zsl <| nd @ld42 <| nd @ld78 <| @fi16)
theorem c16:type_of% x16.down:=x16.down
noncomputable def N14:=zax Tryz.f14
noncomputable def x14:=PLift.up (by have c:=zag N14 Tryz.f14;simp only [nEqs,Tryz.f14,seval] at c;exact nd c <| nd @zxB <| nd @zAs <| nd @ld79 <| nd @ln52 <| nd @pt1 <| nd @pt10 <| nd @zEl <| nd @zEm <| nd @zEn <| nd @zEo <| nd @zEp <| nd @zEq <| nd @zEr <| nd @pt11 <| nd @zEs <| nd @zEt <| nd @zEu <| nd @zEv <| nd @zEw <| nd @zEx <| nd @zEy <| nd @zEz <| nd @zEA <| nd @zEB <| nd @pt12 <| nd @zEC <| nd @zED <| nd @zEE <| nd @zEF <| nd @zEG <| nd @zEH <| nd @zEI <| nd @zEJ <| nd @zEK <| nd @pt13 <| nd @zEL <| nd @zEM <| nd @zEN <| nd @zEO <| nd @zEP <| nd @zEQ <| nd @zER <| nd @zES <| nd @zET <| nd @zEU <| nd @pt14 <| nd @zEV <| nd @zEW <| nd @zEX <| nd @zEY <| nd @zEZ <| nd @zE0 <| nd @zE1 <| nd @zE2 <| nd @zE3 <| nd @zE4 <| nd @pt15 <| nd @zE5 <| nd @zE6 <| nd @zE7 <| nd @zE8 <| nd @zE9 <| nd @zFa <| nd @zFb <| nd @zFc <| nd @zFd <| nd @zFe <| nd @pt16 <| nd @zFf <| nd @zFg <| nd @zFh <| nd @zFi <| nd @zFj <| nd @zFk <| nd @zFl <| nd @zFm <| nd @zFn <| nd @zFo <| nd @pt17 <| nd @zFp <| nd @zFq <| nd @zFr <| nd @zFs <| nd @zFt <| nd @zFu <| nd @zFv <| nd @zFw <| nd @zFx <| nd @zFy <| nd @pt18 <| nd @zFz <| nd @zFA <| nd @zFB <| nd @zFC <| nd @zFD <| nd @zFE <| nd @zFF <| nd @zFG <| nd @zFH <| nd @pt19 <| nd @zFI <| nd @zFJ <| nd @zFK <| nd @zFL <| nd @zFM <| nd @zFN <| nd @zFO <| nd @zFP <| nd @zFQ <| nd @zFR <| nd @pt2 <| nd @pt20 <| nd @zFS <| nd @zFT <| nd @zFU <| nd @zFV <| nd @zFW <| nd @zFX <| nd @zFY <| nd @zFZ <| nd @zF0 <| nd @zF1 <| nd @pt21 <| nd @zF2 <| nd @zF3 <| nd @zF4 <| nd @zF5 <| nd @zF6 <| nd @zF7 <| nd @zF8 <| nd @zF9 <| nd @zGa <| nd @zGb <| nd @pt22 <| nd @zGc <| nd @pt23 <| nd @pt24 <| nd @pt25 <| nd @pt26 <| nd @pt27 <| nd @pt28 <| nd @pt29 <| nd @pt3 <| nd @pt30 <| nd @pt31 <| nd @pt32 <| nd @pt33 <| nd @pt35 <| nd @pt37 <| nd @pt38 <| nd @pt39 <| nd @pt4 <| nd @pt40 <| nd @pt41 <| nd @pt42 <| nd @pt43 <| nd @pt44 <| nd @pt45 <| nd @pt46 <| nd @pt47 <| nd @pt48 <| nd @pt49 <| nd @pt5 <| nd @pt50 <| nd @pt51 <| nd @pt52 <| nd @pt53 <| nd @pt54 <| nd @pt55 <| nd @pt56 <| nd @pt57 <| nd @pt58 <| nd @pt59 <| nd @pt6 <| nd @pt60 <| nd @pt61 <| nd @pt62 <| nd @pt63 <| nd @pt64 <| nd @pt65 <| nd @pt66 <| nd @pt67 <| nd @pt68 <| nd @pt69 <| nd @pt7 <| nd @pt70 <| nd @pt71 <| nd @pt72 <| nd @pt73 <| nd @pt74 <| nd @pt75 <| nd @pt76 <| nd @pt77 <| nd @pt78 <| nd @pt79 <| nd @pt8 <| nd @pt80 <| nd @pt81 <| nd @pt82 <| nd @pt83 <| nd @pt84 <| nd @pt85 <| nd @pt86 <| nd @pt87 <| nd @pt88 <| nd @pt89 <| nd @pt9 <| nd @pt90 <| nd @pt91 <| nd @pt92 <| nd @pt93 <| nd @pt94 <| nd @pt95 <| nd @pt96 <| nd @pt97 <| nd @pt98 <| nd @pt99 <| @fi14)
theorem c14:type_of% x14.down:=x14.down
noncomputable def N15:=zax Tryz.f15
noncomputable def x15:=PLift.up (by have c:=zag N15 Tryz.f15;simp only [nEqs,Tryz.f15,seval] at c;exact nd c <| nd @zsk <| nd @zsl <| nd @ld76 <| @fi15)
theorem c15:type_of% x15.down:=x15.down
noncomputable def N59:=zax Tryz.f59
noncomputable def x59:=PLift.up (by have c:=zag N59 Tryz.f59;simp only [nEqs,Tryz.f59,seval] at c;exact nd c <| nd @bs24 <| @fi59)
theorem c59:type_of% x59.down:=x59.down
noncomputable def N58:=zax Tryz.f58
noncomputable def x58:=PLift.up (by have c:=zag N58 Tryz.f58;simp only [nEqs,Tryz.f58,seval] at c;exact nd c <| nd @bs23 <| @fi58)
theorem c58:type_of% x58.down:=x58.down
theorem bldT (M:Nat):zbZ tab 115 [(2,.map (some M))]=some (.agg #[.slice none 0 0,.slice none 0 0,.map (some M)]):=by kernel_rfl
theorem zza (N:Nat) (h:Heap) (FI FE:Nat) (hI:N≤FI∧FI < h.size) (hE:N≤FE∧FE < h.size) (hne:FI≠FE) (K:Value→Heap→Prop) (hk:∀ h' T0 FM,Ext h h'→TabU N h' T0 FI FE FM [] [] []→h.size≤T0→h.size≤FM→K (.pointer (some ⟨T0,0,none⟩)) h'):Ok Tryz.prog tab ov 57 [] h K:=by
 have z:=Ext.refl h
 rw [zaa h]
 refine Ok.into rfl zwu (zaw N57) rfl (m:=4) rfl ?_
 simp -implicitDefEqProofs only [syms,symx,seval,c57,valM,bldT,valA,zfn]
 refine hk _ (h.size+1) (h.size+0) (z.upW _ _ (by omega)) ?_ (by omega) (by omega)
 have hs:(h.lay [Blk.map [] 0,Blk.row [Value.slice none 0 0,Value.slice none 0 0,Value.map (some (h.size+0))] 115 false] h.low).size=h.size+2:=by rw [zad];rfl
 refine ⟨⟨_,_,⟨by omega,by rw [zbd];rfl⟩,.nil,.nil⟩,MapV.new ⟨by omega,by rw [zbd];rfl⟩,⟨by omega,by omega,by omega,by omega,by omega,by omega⟩,⟨by omega,by omega,by omega,by omega⟩,⟨by omega,by omega,by omega,by omega⟩⟩
theorem zyW {f f2:List Int} {e e2:List EntD} {kv kw:List (ByteArray × Value)} {us vs:ByteArray→Nat} (p:TabP f e kv us) (q:TabP f2 e2 kw vs) (h:∀ x,0 < us x↔0 < vs x):kv.length=kw.length:=zsA p.kn q.kn fun t=>by rw [p.has,q.has];exact h t
theorem zEc {f f2:List Int} {e e2:List EntD} {kv kw:List (ByteArray × Value)} {us:ByteArray→Nat} {t:ByteArray} (p:TabP f e kv us) (q:TabP f2 e2 kw (updU us t (us t+1))):kw.length≤kv.length+1:=by
 have h1:kw.length=(setV kv t undef).length:=zsA q.kn (zfB p.kn t _) fun x=>by
  rw [q.has,ze6]
  by_cases hx:x=t
  ·rw [if_pos hx,hx,zb3];simp
  ·rw [if_neg hx,zcS hx,p.has]
 have h2:=congrArg List.length (zmW kv t undef)
 rw [List.length_map] at h2
 rw [h1,h2]
 split
 ·rw [List.length_map];omega
 ·rw [List.length_append,List.length_map];simp
theorem zyV {f f2:List Int} {e e2:List EntD} {kv kw:List (ByteArray × Value)} {us:ByteArray→Nat} {t:ByteArray} {n:Nat} (p:TabP f e kv us) (q:TabP f2 e2 kw (updU us t n)) (ht:0 < us t):kw.length≤kv.length:=by
 by_cases hn:n=0
 ·have h1:kw.length=(delV kv t).length:=zsA q.kn (zgY p.kn t) fun x=>by
   rw [q.has,ziu]
   by_cases hx:x=t
   ·rw [if_pos hx,hx,zb3,hn];simp
   ·rw [if_neg hx,zcS hx,p.has]
  rw [h1]
  exact List.length_filter_le _ _
 ·refine Nat.le_of_eq (zyW q p fun x=>?_)
  by_cases hx:x=t
  ·rw [hx,zb3];omega
  ·rw [zcS hx]
def TabD (N b:Nat) (h:Heap) (D:List Nat) (T0:Nat) (us:ByteArray→Nat):Prop:=∃ FI FE FM free ents kv,D=[T0,FI,FE,FM]∧TabU N h T0 FI FE FM free ents kv∧TabP free ents kv us∧ents.length≤b∧kv.length≤b
theorem TabD.lay {N b:Nat} {h:Heap} {D:List Nat} {T0:Nat} {us:ByteArray→Nat} (t:TabD N b h D T0 us) (bs:List Blk) (w:Nat):TabD N b (h.lay bs w) D T0 us:=by
 obtain ⟨FI,FE,FM,free,ents,kv,rfl,st,p⟩:=t
 exact ⟨FI,FE,FM,free,ents,kv,rfl,st.lay _ _,p⟩
theorem TabD.over {N b w:Nat} {h h2:Heap} {bs:List Blk} {D:List Nat} {T0:Nat} {us:ByteArray→Nat} (t:TabD N b h D T0 us) (x:Ext (h.lay bs w) h2):TabD N b h2 D T0 us:=by
 obtain ⟨FI,FE,FM,free,ents,kv,rfl,st,p⟩:=t
 exact ⟨FI,FE,FM,free,ents,kv,rfl,st.over x,p⟩
theorem TabD.frs {N b:Nat} {h h2:Heap} {D D2:List Nat} {T0:Nat} {us:ByteArray→Nat} (t:TabD N b h D T0 us) (f:Frs D2 h h2) (hd:∀ B∈D,B ∉ D2):TabD N b h2 D T0 us:=by
 obtain ⟨FI,FE,FM,free,ents,kv,rfl,st,p⟩:=t
 exact ⟨FI,FE,FM,free,ents,kv,rfl,st.frs f ⟨hd _ (by simp),hd _ (by simp),hd _ (by simp),hd _ (by simp)⟩,p⟩
theorem TabD.lo {N b:Nat} {h:Heap} {D:List Nat} {T0:Nat} {us:ByteArray→Nat} (t:TabD N b h D T0 us):∀ B∈D,N≤B∧B < h.size:=by
 obtain ⟨FI,FE,FM,free,ents,kv,rfl,st,p⟩:=t
 obtain ⟨_,_,_,lo,hi⟩:=st
 intro B hB
 simp only [List.mem_cons,List.not_mem_nil,or_false] at hB
 rcases hB with rfl|rfl|rfl|rfl
 ·exact ⟨lo.1,hi.1⟩
 ·exact ⟨lo.2.1,hi.2.1⟩
 ·exact ⟨lo.2.2.1,hi.2.2.1⟩
 ·exact ⟨lo.2.2.2,hi.2.2.2⟩
theorem TabD.le {N b b2:Nat} {h:Heap} {D:List Nat} {T0:Nat} {us:ByteArray→Nat} (t:TabD N b h D T0 us) (hb:b≤b2):TabD N b2 h D T0 us:=by
 obtain ⟨FI,FE,FM,free,ents,kv,rfl,st,p,he,hv⟩:=t
 exact ⟨FI,FE,FM,free,ents,kv,rfl,st,p,by omega,by omega⟩
theorem TabD.mem {N b:Nat} {h:Heap} {D:List Nat} {T0:Nat} {us:ByteArray→Nat} (t:TabD N b h D T0 us):T0∈D:=by
 obtain ⟨FI,FE,FM,free,ents,kv,rfl,st,p⟩:=t
 simp
theorem zvH (h hc:Heap) (z:Ext h hc) (D:List Nat) (T0 b:Nat) (us:ByteArray→Nat) (t:ByteArray) (st:TabD h.size b hc D T0 us) (hb:b < 65536) (ht:t.size≠0) (ht2:t.size≤255) (hus:us t < 1000000000000) (K:Value→Heap→Prop)
 (hk:∀ h' n D2,Ext h h'→Frs D hc h'→TabD h.size (b+1) h' D2 T0 (updU us t (us t+1))→(∀ B∈D2,B∈D∨hc.size≤B)→K (.tuple #[.int .i64 n,.int .i64 0]) h'):Ok Tryz.prog tab ov 65 [.pointer (some ⟨T0,0,none⟩),.string t] hc K:=by
 obtain ⟨FI,FE,FM,free,ents,kv,rfl,s,p,he,hv⟩:=st
 refine zvI h hc z T0 FI FE FM free ents kv us t s p ht ht2 (by omega) (by omega) hus K (fun h' n I2 E2 f2 e2 kv2 z' fr' s' p' hI hE hel=>hk h' n [T0,I2,E2,FM] z' fr' ⟨I2,E2,FM,f2,e2,kv2,rfl,s',p',by omega,by have:=zEc p p';omega⟩ (fun B hB=>?_))
 simp only [List.mem_cons,List.not_mem_nil,or_false] at hB
 rcases hB with rfl|rfl|rfl|rfl
 ·exact .inl (by simp)
 ·exact hI.imp (fun e=>by rw [e];simp) id
 ·exact hE.imp (fun e=>by rw [e];simp) id
 ·exact .inl (by simp)
theorem TabD.num {N b:Nat} {h:Heap} {D:List Nat} {T0:Nat} {us:ByteArray→Nat} {t:ByteArray} (d:TabD N b h D T0 us) (ht:0 < us t):∃ FI FE FM free ents kv,∃ i:Nat,D=[T0,FI,FE,FM]∧TabU N h T0 FI FE FM free ents kv∧TabP free ents kv us∧ents.length≤b∧kv.length≤b∧zaK kv t=some (.int .i64 (i:Int)):=by
 obtain ⟨FI,FE,FM,free,ents,kv,rfl,s,p,he,hv⟩:=d
 have h1:=(p.has t).2 ht
 cases hl:zaK kv t with
 |none=>rw [hl] at h1;cases h1
 |some v =>
  obtain ⟨i,rfl,_⟩:=p.val t v hl
  exact ⟨FI,FE,FM,free,ents,kv,i,rfl,s,p,he,hv,hl⟩
theorem zzz (a:Value):([a]:List Value)[0]? = some a:=rfl
theorem valP (a) (h:Heap) (K:Value→Heap→Prop):valE (some (.pointer (some a))) h K=K (.pointer (some a)) h:=rfl
theorem zko {l:List ByteArray} {i:Nat} {c:ByteArray} (hn:l.Nodup) (hc:l[i]? = some c):c ∉ l.take i:=fun hm=>by
 have h1:=List.take_append_drop i l
 rw [← h1,List.nodup_append] at hn
 obtain ⟨hi,hc2⟩:=List.getElem?_eq_some_iff.1 hc
 exact hn.2.2 c hm c (by rw [List.drop_eq_getElem_cons hi,hc2];exact List.mem_cons_self) rfl
open Classical in
noncomputable def addU (us:ByteArray→Nat) (l:List ByteArray):ByteArray→Nat:=fun x=>if x∈l then us x+1 else us x
open Classical in
noncomputable def subU (us:ByteArray→Nat) (l:List ByteArray):ByteArray→Nat:=fun x=>if x∈l then us x - 1 else us x
theorem zuO {us:ByteArray→Nat} {l:List ByteArray} {i:Nat} {c:ByteArray} (hn:l.Nodup) (hc:l[i]? = some c):updU (addU us (l.take i)) c (addU us (l.take i) c+1)=addU us (l.take (i+1))∧addU us (l.take i) c=us c:=by
 have h0:addU us (l.take i) c=us c:=if_neg (zko hn hc)
 refine ⟨funext fun x=>?_,h0⟩
 have ht:l.take (i+1)=l.take i++[c]:=by rw [List.take_add_one,hc];rfl
 rw [ht]
 by_cases hx:x=c
 ·subst hx
  rw [zb3,h0]
  unfold addU
  rw [if_pos (by simp)]
 ·rw [zcS hx]
  unfold addU
  by_cases hm:x∈l.take i
  ·rw [if_pos hm,if_pos (by simp [hm])]
  ·rw [if_neg hm,if_neg (by simp [hm,hx])]
theorem zv3 {us:ByteArray→Nat} {l:List ByteArray} {i:Nat} {c:ByteArray} (hn:l.Nodup) (hc:l[i]? = some c):updU (subU us (l.take i)) c (subU us (l.take i) c - 1)=subU us (l.take (i+1))∧subU us (l.take i) c=us c:=by
 have h0:subU us (l.take i) c=us c:=if_neg (zko hn hc)
 refine ⟨funext fun x=>?_,h0⟩
 have ht:l.take (i+1)=l.take i++[c]:=by rw [List.take_add_one,hc];rfl
 rw [ht]
 by_cases hx:x=c
 ·subst hx
  rw [zb3,h0]
  unfold subU
  rw [if_pos (by simp)]
 ·rw [zcS hx]
  unfold subU
  by_cases hm:x∈l.take i
  ·rw [if_pos hm,if_pos (by simp [hm])]
  ·rw [if_neg hm,if_neg (by simp [hm,hx])]
theorem zxY (us:ByteArray→Nat):addU us []=us:=funext fun x=>if_neg (by simp)
theorem zzt (us:ByteArray→Nat):subU us []=us:=funext fun x=>if_neg (by simp)
theorem zvG (a:AtomD) (h hc:Heap) (z:Ext h hc) (D:List Nat) (T0 b:Nat) (us:ByteArray→Nat) (st:TabD h.size b hc D T0 us) (hb:b < 60000) (hsz:∀ x,zds a x→x.size≠0∧x.size≤255) (hus:∀ x,us x < 1000000000) (K:Value→Heap→Prop)
 (hk:∀ h' cs D2,Ext h h'→Frs D hc h'→cs.length≤4→cs.Nodup→(∀ x,x∈cs↔zds a x)→TabD h.size (b+4) h' D2 T0 (addU us cs)→(∀ B∈D2,B∈D∨hc.size≤B)→K undef h'):Ok Tryz.prog tab ov 34 [.agg #[.pointer (some ⟨T0,0,none⟩)],a.val] hc K:=by
 rw [zaa hc]
 refine Ok.into rfl zwj (zaw N34) rfl (m:=16) rfl ?_
 simp -implicitDefEqProofs only [syms,symx,seval,c34,zas,↓zaF,zaA,zal]
 have hDl:∀ B∈D,B < hc.size:=fun B hB=>(st.lo B hB).2
 refine zj8 a _ _ (fun w cs h' x s hl4 hnd hmem=>?_)
 have q0:=Holds.top (i:=0) x rfl
 have fr:Frs D hc h':=(Frs.refl D hc).over x
 (replace z:=z.overW x (by omega);(replace st:=st.over x);rw [zaa h'])
 replace s:=s D (fun B hB=>by rw [zad];have:=hDl B hB;omega)
 obtain ⟨A0,hA0⟩:∃ A0,A0=hc.size+0:=⟨_,rfl⟩
 rw [← hA0] at q0
 rw [← hA0]
 have hAD:A0 ∉ D:=fun hm=>by have:=hDl _ hm;omega
 rw [← zxY us] at st
 have hvw:=za3 w
 have hlw:=fun (hh:Heap)=>s.lenA ds23 hh
 simp -implicitDefEqProofs only [syms,symx,seval,c34,hvw,hlw]
 obtain ⟨I1,hI1⟩:∃ I:Nat→Env→Heap→Prop,I=(fun n e h'=>∃ (i:Nat) (D1:List Nat) (h1:Heap),h'=h1.lay [] h1.low∧Ext h h1∧(n=cs.length - i∧i≤cs.length∧TabD h.size (b+i) h1 D1 T0 (addU us (cs.take i))∧Holds h1 A0 (.row [.pointer (some ⟨T0,0,none⟩)] 78 false)∧A0 ∉ D1∧Sl Rep.str (killL D1 h1) w cs∧Frs D hc h1∧(∀ B∈D1,B∈D∨hc.size≤B))∧∃ J:Nat→Value,e=(jr J 0 2 (.pointer (some ⟨A0,0,none⟩)::jr J 3 4 (w::.int .i64 cs.length::.int .i64 i::jr J 10 8 ([]))))):=⟨_,rfl⟩
 refine zaE I1 _ (by rw [hI1];exact ⟨0,D,_,rfl,z,⟨rfl,by omega,st,q0,hAD,s,fr,fun B hB=>.inl hB⟩,junk (by kernel_rfl)⟩) ?_
 intro n e h' hin
 rw [hI1] at hin
 obtain ⟨i,D1,h1',rfl,z,hinv,J,rfl⟩:=hin
 clear st q0 s fr hAD
 obtain ⟨rfl,hi,st,q0,hAD,s,fr,hD1⟩:=hinv
 have hs:=s.mono (zd4 D1 h1')
 have hwi:=zcl i (by omega)
 have hsz1:=fr.size
 simp -implicitDefEqProofs only [syms,symx,seval,c34]
 refine zaD (fun hlt=>?_) (fun hge=>?_)
 rotate_left
 ·have he:i=cs.length:=by omega
  rw [he,List.take_of_length_le (Nat.le_refl _)] at st
  simp -implicitDefEqProofs only [syms,symx,seval,c34]
  exact hk _ cs D1 (z.upW _ _ (by omega)) (fr.trans (Frs.lay _ _ _ []) (fun _ h=>nomatch h)) hl4 hnd hmem ((st.lay _ _).le (by omega)) hD1
 obtain ⟨c,hr,hr'⟩:=zbs (l:=cs) (i:=i) (by omega)
 have hcs:=hsz c ((hmem c).1 (List.mem_of_getElem? hr'))
 obtain ⟨hup,hus0⟩:=zuO (us:=us) hnd hr'
 have hus1:=hus c
 repeat' (first|simp -implicitDefEqProofs only [syms,symx,seval,c34,valS,q0.lay,zzz,valP]|with_reducible_and_instances refine zhs hs ds23 sz9 (by omega) hr (fun p hp=>?_)|with_reducible_and_instances refine zfO hp ag9 ?_)
 refine zvH h _ (z.upW _ _ (by omega)) D1 T0 (b+i) _ c (st.lay _ _) (by omega) hcs.1 hcs.2 (by rw [hus0];omega) _ (fun h3 nn D2 z3 fr3 st3 hD2=>?_)
 rw [hup] at st3
 have fr4:Frs D1 h1' h3:=(Frs.lay h1' [] h1'.low D1).trans fr3 (fun B hB=>.inl hB)
 have s3:=s.mono (fr4.inc (D':=D2) (fun B hB=>(hD2 B hB).imp id (fun e=>by rw [zad] at e;omega)))
 have q3:=q0.frs fr4 hAD
 have hAD3:A0 ∉ D2:=fun hm=>by
  rcases hD2 _ hm with e|e
  ·exact hAD e
  ·have:=q0.lt;rw [zad] at e;omega
 have fr5:Frs D hc h3:=fr.trans fr4 (fun B hB=>hD1 B hB)
 have hD3:∀ B∈D2,B∈D∨hc.size≤B:=fun B hB=>(hD2 B hB).elim (hD1 B) (fun e=>.inr (by rw [zad] at e;omega))
 clear z
 have z:=z3
 rw [zaa h3]
 simp -implicitDefEqProofs only [syms,symx,seval,c34]
 rw [hwi]
 (rw [hI1];with_reducible refine zae (m:=_) ?_ ⟨i+1,D2,_,rfl,z,⟨rfl,by omega,st3.le (by omega),q3,hAD3,s3,fr5,hD3⟩,junk (by kernel_rfl)⟩;omega)
theorem zvx (a:AtomD) (h hc:Heap) (z:Ext h hc) (D:List Nat) (T0 b:Nat) (us:ByteArray→Nat) (st:TabD h.size b hc D T0 us) (hb:b < 60000) (hpos:∀ x,zds a x→0 < us x) (hus:∀ x,us x < 1000000000) (K:Value→Heap→Prop)
 (hk:∀ h' cs D2,Ext h h'→Frs D hc h'→cs.length≤4→cs.Nodup→(∀ x,x∈cs↔zds a x)→TabD h.size b h' D2 T0 (subU us cs)→(∀ B∈D2,B∈D∨hc.size≤B)→K undef h'):Ok Tryz.prog tab ov 38 [.agg #[.pointer (some ⟨T0,0,none⟩)],a.val] hc K:=by
 rw [zaa hc]
 refine Ok.into rfl zwn (zaw N38) rfl (m:=26) rfl ?_
 simp -implicitDefEqProofs only [syms,symx,seval,c38,zas,↓zaF,zaA,zal]
 have hDl:∀ B∈D,B < hc.size:=fun B hB=>(st.lo B hB).2
 refine zj8 a _ _ (fun w cs h' x s hl4 hnd hmem=>?_)
 have q0:=Holds.top (i:=0) x rfl
 have fr:Frs D hc h':=(Frs.refl D hc).over x
 (replace z:=z.overW x (by omega);(replace st:=st.over x);rw [zaa h'])
 replace s:=s D (fun B hB=>by rw [zad];have:=hDl B hB;omega)
 obtain ⟨A0,hA0⟩:∃ A0,A0=hc.size+0:=⟨_,rfl⟩
 rw [← hA0] at q0
 rw [← hA0]
 have hAD:A0 ∉ D:=fun hm=>by have:=hDl _ hm;omega
 rw [← zzt us] at st
 have hvw:=za3 w
 have hlw:=fun (hh:Heap)=>s.lenA ds23 hh
 simp -implicitDefEqProofs only [syms,symx,seval,c38,hvw,hlw]
 obtain ⟨I1,hI1⟩:∃ I:Nat→Env→Heap→Prop,I=(fun n e h'=>∃ (i:Nat) (D1:List Nat) (h1:Heap),h'=h1.lay [] h1.low∧Ext h h1∧(n=cs.length - i∧i≤cs.length∧TabD h.size b h1 D1 T0 (subU us (cs.take i))∧Holds h1 A0 (.row [.pointer (some ⟨T0,0,none⟩)] 78 false)∧A0 ∉ D1∧Sl Rep.str (killL D1 h1) w cs∧Frs D hc h1∧(∀ B∈D1,B∈D∨hc.size≤B))∧∃ J:Nat→Value,e=(jr J 0 2 (.pointer (some ⟨A0,0,none⟩)::jr J 3 6 (w::.int .i64 cs.length::.int .i64 i::jr J 12 16 ([]))))):=⟨_,rfl⟩
 refine zaE I1 _ (by rw [hI1];exact ⟨0,D,_,rfl,z,⟨rfl,by omega,st,q0,hAD,s,fr,fun B hB=>.inl hB⟩,junk (by kernel_rfl)⟩) ?_
 intro n e h' hin
 rw [hI1] at hin
 obtain ⟨i,D1,h1',rfl,z,hinv,J,rfl⟩:=hin
 clear st q0 s fr hAD
 obtain ⟨rfl,hi,st,q0,hAD,s,fr,hD1⟩:=hinv
 have hs:=s.mono (zd4 D1 h1')
 have hwi:=zcl i (by omega)
 have hsz1:=fr.size
 simp -implicitDefEqProofs only [syms,symx,seval,c38]
 refine zaD (fun hlt=>?_) (fun hge=>?_)
 rotate_left
 ·have he:i=cs.length:=by omega
  rw [he,List.take_of_length_le (Nat.le_refl _)] at st
  simp -implicitDefEqProofs only [syms,symx,seval,c38]
  exact hk _ cs D1 (z.upW _ _ (by omega)) (fr.trans (Frs.lay _ _ _ []) (fun _ h=>nomatch h)) hl4 hnd hmem ((st.lay _ _).le (by omega)) hD1
 obtain ⟨c,hr,hr'⟩:=zbs (l:=cs) (i:=i) (by omega)
 have hcs:=hpos c ((hmem c).1 (List.mem_of_getElem? hr'))
 obtain ⟨hup,hus0⟩:=zv3 (us:=us) hnd hr'
 have hus1:=hus c
 repeat' (first|simp -implicitDefEqProofs only [syms,symx,seval,c38,valS,q0.lay,zzz,valP]|with_reducible_and_instances refine zhs hs ds23 sz9 (by omega) hr (fun p hp=>?_)|with_reducible_and_instances refine zfO hp ag9 ?_)
 obtain ⟨FI,FE,FM,free,ents,kv,m,hDe,ts,tp,he1,he2,hlk⟩:=st.num (t:=c) (by rw [hus0];exact hcs)
 refine zvB c (some m) _ T0 FI FE FM h.size free ents kv (ts.lay _ _) hlk _ (fun h' x=>?_)
 replace ts:=ts.over x
 have fr1:Frs D1 h1' h':=(Frs.refl D1 h1').over x
 (replace z:=z.overW x (by omega);(replace st:=st.over x);(replace q0:=q0.over x);rw [zaa h'])
 simp only [Option.getD_some,Option.isSome_some]
 repeat' (simp -implicitDefEqProofs only [syms,symx,seval,c38,valN,valT,q0.lay,zzz,valP])
 refine zvy h _ (z.upW _ _ (by omega)) T0 FI FE FM free ents kv _ c m (ts.lay _ _) tp hlk (by omega) (by rw [hus0];omega) _ (fun h3 I2 f2 e2 kv2 z3 fr3 st3 tp3 hI hel=>?_)
 obtain ⟨D2,hDD2⟩:∃ D2,D2=[T0,I2,FE,FM]:=⟨_,rfl⟩
 replace st3:TabD h.size b h3 D2 T0 (updU (subU us (cs.take i)) c (subU us (cs.take i) c - 1)):=⟨I2,FE,FM,f2,e2,kv2,hDD2,st3,tp3,by omega,by have:=zyV tp tp3 (by rw [hus0];exact hcs);omega⟩
 rw [← hDe] at fr3
 have hD2:∀ B∈D2,B∈D1∨(h'.lay [] h'.low).size≤B:=fun B hB=>by
  rw [hDD2] at hB
  rw [hDe]
  simp only [List.mem_cons,List.not_mem_nil,or_false] at hB
  rcases hB with rfl|rfl|rfl|rfl
  ·exact .inl (by simp)
  ·exact hI.imp (fun e=>by rw [e];simp) id
  ·exact .inl (by simp)
  ·exact .inl (by simp)
 rw [hup] at st3
 have fr4:Frs D1 h1' h3:=(fr1.trans (Frs.lay h' [] h'.low D1) (fun B hB=>.inl hB)).trans fr3 (fun B hB=>.inl hB)
 have hs1:=fr1.size
 have s3:=s.mono (fr4.inc (D':=D2) (fun B hB=>(hD2 B hB).imp id (fun e=>by rw [zad] at e;omega)))
 have q3:=q0.frs ((Frs.lay h' [] h'.low D1).trans fr3 (fun B hB=>.inl hB)) hAD
 have hAD3:A0 ∉ D2:=fun hm=>by
  rcases hD2 _ hm with e|e
  ·exact hAD e
  ·have:=q0.lt;rw [zad] at e;omega
 have fr5:Frs D hc h3:=fr.trans fr4 (fun B hB=>hD1 B hB)
 have hD3:∀ B∈D2,B∈D∨hc.size≤B:=fun B hB=>(hD2 B hB).elim (hD1 B) (fun e=>.inr (by rw [zad] at e;omega))
 clear z
 have z:=z3
 rw [zaa h3]
 simp -implicitDefEqProofs only [syms,symx,seval,c38]
 rw [hwi]
 (rw [hI1];with_reducible refine zae (m:=_) ?_ ⟨i+1,D2,_,rfl,z,⟨rfl,by omega,st3.le (by omega),q3,hAD3,s3,fr5,hD3⟩,junk (by kernel_rfl)⟩;omega)
end Go.Proofs.YtdplfgoifjjniaaGreatDoor

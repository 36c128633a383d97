/- No function of this group is here. No condition. -/
import Derived.Test.YtdplfgoifjjniaaGreatDoorG42
import Derived.Test.YtdplfgoifjjniaaGreatDoorG30
set_option linter.unusedSimpArgs false
set_option linter.unusedVariables false
set_option maxRecDepth 100000
set_option maxHeartbeats 0

namespace Go.Proofs.YtdplfgoifjjniaaGreatDoor
open Go.Am
noncomputable def N33:=zax Tryz.f33
noncomputable def x33:=PLift.up (by have c:=zag N33 Tryz.f33;simp only [nEqs,Tryz.f33,seval] at c;exact nd c <| nd @bs52 <| nd @ld42 <| @fi33)
theorem c33:type_of% x33.down:=x33.down
noncomputable def N37:=zax Tryz.f37
noncomputable def x37:=PLift.up (by have c:=zag N37 Tryz.f37;simp only [nEqs,Tryz.f37,seval] at c;exact nd c <| nd @ld42 <| @fi37)
theorem c37:type_of% x37.down:=x37.down
noncomputable def N66:=zax Tryz.f66
noncomputable def x66:=PLift.up (by have c:=zag N66 Tryz.f66;simp only [nEqs,Tryz.f66,seval] at c;exact nd c <| nd @ln52 <| @fi66)
theorem c66:type_of% x66.down:=x66.down
theorem zAL (s:List AtomD) (a:AtomD) (i:Nat) (w:Value) (h h1:Heap) (z:Ext h h1) (ho:OwnA h h1 42 w s) (hn:s.length≤10000) (hin:i≤s.length) (lw:Nat) (hlw:min h1.low h1.size≤lw) (K:Value→Heap→Prop)
 (hk:∀ h' w',Ext h h'→OwnA h h' 42 w' (s.take i++a::s.drop i)→K w' h'):Ok Tryz.prog tab ov 63 [w,.int .i64 i,.slice (some ⟨h1.size+0,0,none⟩) 1 1] (h1.lay [.row a.cells 42 false] lw) K:=by
 obtain ⟨w',H',e,ho',A,hA,c⟩:=zyO (i:=i) (a:=a) (lw:=lw) zpk zkY (by decide) (by decide) z.size ho hn hin
 exact Ok.over rfl e (hk _ _ (z.stepW c hA hlw) ho')
theorem zAK (l:List AtomD) (a:AtomD) (v:Value) (h:Heap) (hl:Sl Rep.atom h v l) (hn:l.length≤900) (hlt:∀ x∈l,x.light=true) (ha:a.light=true) (K:Value→Heap→Prop)
 (hk:∀ h' w,Ext h h'→OwnA h h' 42 w (putA a (zcF l))→K (.tuple #[w,.bool (!hasA l a)]) h'):Ok Tryz.prog tab ov 33 [v,a.val] h K:=by
 rw [zaa h]
 have z:=Ext.refl h
 refine Ok.into rfl zwi (zaw N33) rfl (m:=22) rfl ?_
 simp -implicitDefEqProofs only [syms,symx,seval,c33,zas]
 refine zsQ l v _ (hl.lay _ _) hn hlt _ (fun h' w x ho=>?_)
 replace ho:=ho.down (h0:=h) (by rw [zad];omega)
 have q0:=Holds.top (i:=0) x rfl
 (replace z:=z.overW x (by omega);rw [zaa h'])
 have hva:=za3 w
 repeat' (simp -implicitDefEqProofs only [syms,symx,seval,c33,hva,q0.lay,zas,↓zaF,zaA,zal])
 have hll:=zfj l
 refine zpo (zcF l) a w _ (ho.sl.lay _ _) (zch l).asc (by omega) (ziV hlt) ha _ (fun h' i x hp=>?_)
 replace ho:=(ho.lay _ _).mono x.inc
 (replace z:=z.overW x (by omega);(replace q0:=q0.over x);rw [zaa h'])
 cases hb:hasA (zcF l) a
 ·have hpp:=zmL hp hb
  rw [zgr] at hb
  repeat' (simp -implicitDefEqProofs only [syms,symx,seval,c33,hva,q0.lay,zas,↓zaF,zaA,zal])
  repeat' (simp -implicitDefEqProofs only [syms,symx,seval,c33,zsp])
  rw [hb] at hk
  have hz:=z.size
  refine zAL (zcF l) a i w h h' z ho (by omega) hp.le _ (by omega) _ (fun h' w' x ho=>?_)
  replace z:=x
  rw [hpp] at ho
  have hva:∀ (h:Heap) (K:Value→Heap→Prop),valE (some w') h K=K w' h:=fun _ _=>rfl
  rw [zaa h']
  repeat' (simp -implicitDefEqProofs only [syms,symx,seval,c33,hva])
  exact hk _ _ (z.upW _ _ (by omega)) (ho.lay _ _)
 ·have hpp:=ztm (zch l).asc hb
  rw [zgr] at hb
  rw [hb,hpp] at hk
  repeat' (simp -implicitDefEqProofs only [syms,symx,seval,c33,hva])
  exact hk _ _ (z.upW _ _ (by omega)) (ho.lay _ _)
theorem zAU {T:Tab} {t u:TypeId} {A n q i j:Nat} {k1 k2 k3:IntKind} (hd:T.desc t=some (.slice u)) (hs:zau T u=some 11) (hij:i≤j) (hj:j≤n) (hn:n≤q) (hq:q≤100000) :
 zbl T t (.slice (some ⟨A,0,none⟩) n (G*11+q)) (some (.int k1 i)) (some (.int k2 j)) (some (.int k3 n))=some (.slice (some ⟨A,if n=i then 0 else 0+i*11,none⟩) (j - i) (n - i)):=by
 have hG:=zjo
 obtain ⟨d1,d2,d3⟩:=zcA (k:=11) (q:=q) (by decide) (by omega)
 unfold zbl
 simp only [hd,hs,Option.bind_some]
 rw [if_neg (by omega),d2,if_pos rfl,d3]
 unfold zbH
 simp only [zcW hn,zcW hj,zcW hij,Option.bind_some,Option.map_some]
theorem zvN {T:Tab} {t u:TypeId} {A n q i j:Nat} {k1 k2:IntKind} (hd:T.desc t=some (.slice u)) (hs:zau T u=some 11) (hij:i≤j) (hj:j≤q) (hq:q≤100000) :
 zbl T t (.slice (some ⟨A,0,none⟩) n (G*11+q)) (some (.int k1 i)) (some (.int k2 j)) none=some (.slice (some ⟨A,0+i*11,none⟩) (j - i) (G*11+(q - i))):=by
 have hG:=zjo
 obtain ⟨d1,d2,d3⟩:=zcA (k:=11) (q:=q) (by decide) (by omega)
 unfold zbl
 simp only [hd,hs,Option.bind_some]
 rw [if_neg (by omega),d2,if_pos rfl,d3]
 unfold zbH
 simp only [zcW hj,zcW hij,Option.bind_some,Option.map_some]
def OwnB (h0 h:Heap) (u:TypeId) (v:Value) (s:List AtomD):Prop:=∃ A t,v=.slice (some ⟨A,0,none⟩) s.length (G*11+(s++t).length)∧Holds h A (.row (rowA (s++t)) u false)∧h0.size≤A∧(s++t).length≤100000
theorem OwnA.b {h0 h:Heap} {u:TypeId} {v:Value} {s:List AtomD} (f:OwnA h0 h u v s) (hs:s≠[]):OwnB h0 h u v s:=by
 rcases f with ⟨e,_⟩|f
 ·exact absurd e hs
 ·exact f
theorem OwnB.a {h0 h:Heap} {u:TypeId} {v:Value} {s:List AtomD} (f:OwnB h0 h u v s):OwnA h0 h u v s:=.inr f
theorem OwnB.lay {h0 h:Heap} {u:TypeId} {v:Value} {s:List AtomD} (f:OwnB h0 h u v s) (bs:List Blk) (w:Nat):OwnB h0 (h.lay bs w) u v s:=by
 obtain ⟨A,t,e1,e2,e3⟩:=f
 exact ⟨A,t,e1,e2.on _ _,e3⟩
theorem OwnB.down {h0 h1 h:Heap} {u:TypeId} {v:Value} {s:List AtomD} (f:OwnB h1 h u v s) (i:h0.size≤h1.size):OwnB h0 h u v s:=by
 obtain ⟨A,t,e1,e2,e3,e4⟩:=f
 exact ⟨A,t,e1,e2,by omega,e4⟩
theorem OwnB.over {h0 h h2:Heap} {bs:List Blk} {w:Nat} {u:TypeId} {v:Value} {s:List AtomD} (f:OwnB h0 h u v s) (x:Ext (h.lay bs w) h2):OwnB h0 h2 u v s:=by
 obtain ⟨A,t,e1,e2,e3⟩:=f
 exact ⟨A,t,e1,e2.over x,e3⟩
theorem OwnB.kill {h0 h:Heap} {u:TypeId} {v:Value} {s:List AtomD} {D:List Nat} (f:OwnB h0 h u v s) (hD:∀ B∈D,B < h0.size):Sl Rep.atom (killL D h) v s:=by
 obtain ⟨A,t,e1,e2,e3,e4⟩:=f
 have hA:A ∉ D:=fun hm=>by have:=hD A hm;omega
 exact OwnA.sl (h0:=h0) (u:=u) (.inr ⟨A,t,e1,⟨by rw [zaz];exact e2.lt,by rw [zbh hA];exact e2.get⟩,e3,e4⟩)
theorem ztf {h0 h:Heap} {u:TypeId} {A n c:Nat} {s t:List AtomD} (q:Holds h A (.row (rowA (s++t)) u false)) (hA:h0.size≤A) (hn:(s++t).length≤100000) (hl:n=s.length) (hc:c=G*11+(s++t).length):OwnB h0 h u (.slice (some ⟨A,0,none⟩) n c) s:=by
 subst hl hc
 exact ⟨A,t,rfl,q,hA,hn⟩
theorem ztv {α:Type} {r:Rep α} {h:Heap} {v:Value} {l:List α} (f:Sl r h v l):∃ a n c,v=.slice a n c:=by
 rcases f with ⟨rfl,_⟩|⟨A,o,c,row,u,ro,rfl,_⟩ <;> exact ⟨_,_,_,rfl⟩
theorem zqD (s:List AtomD) (i:Nat) (w:Value) (h hs:Heap) (z:Ext h hs) (ho:OwnA h hs 42 w s) (hn:s.length≤10000) (hin:i < s.length) (K:Value→Heap→Prop)
 (hk:∀ h' w',Ext h h'→OwnB h h' 42 w' (s.take i++s.drop (i+1))→K w' h'):Ok Tryz.prog tab ov 66 [w,.int .i64 i,.int .i64 ((i+1:Nat):Int)] hs K:=by
 rcases ho with ⟨rfl,_⟩|⟨A,t,rfl,q,hA,hle⟩
 ·simp at hin
 have hsl:s.length≤(s++t).length:=by rw [List.length_append];omega
 rw [zaa hs]
 refine Ok.into rfl zwD (zaw N66) rfl (m:=30) rfl ?_
 simp -implicitDefEqProofs only [syms,symx,seval,c66,zAU ds52 sz42 (show i≤i+1 by omega) hin hsl hle]
 refine zeR (fun hh=>absurd hh (by omega)) (fun _=>?_)
 repeat' (simp -implicitDefEqProofs only [syms,symx,seval,c66])
 refine (zb9 (by simp only [c66])) (z.upW _ _ (by omega)) ?_
 simp -implicitDefEqProofs only [syms,symx,seval,c66,zs9 ds52 sz42 (show i≤s.length by omega) hsl hle,ziA ds52 sz42 (show i+1≤s.length by omega) hsl hle,zcU,zA0]
 obtain ⟨h2,e2,q2,c2⟩:=zp6 (i:=i) (C2:=G*11+((s++t).length - (i+1))) ds52 zkY (by decide) (q.on _ _) hin hn hle
 rw [e2]
 simp -implicitDefEqProofs only [syms,symx,seval,c66]
 have hzz:=z.size
 refine zaU (A:=A) (by kernel_rfl) (by rw [zad];omega) (by omega) (by simpa only [zan,zad,List.append_nil,List.length_cons,List.length_nil,Nat.zero_add,Nat.add_zero] using c2) ?_
 replace z:=z.stepW c2 hA (by omega)
 rw [zaa h2]
 clear q
 repeat' (first|simp -implicitDefEqProofs only [syms,symx,seval,c66]|((with_reducible refine ⟨z.grw.lay _ _,?_⟩);(intro _ h' zz x _);(simp only [zan,List.append_nil] at x);(replace q2:=q2.over x);(replace z:=zz);(clear zz);rw [zaa h']))
 have hl1:(s.take i++s.drop (i+1)).length=s.length - 1:=by simp only [List.length_append,List.length_take,List.length_drop];omega
 have hl2:(s.take i++s.drop (i+1)++(s.drop (s.length - 1)++t)).length=(s++t).length:=by
  rw [List.length_append,hl1,List.length_append,List.length_append,List.length_drop]
  omega
 simp -implicitDefEqProofs only [syms,symx,seval,c66,zvN ds52 sz42 (show s.length - 1≤s.length by omega) hsl hle,zuD]
 refine zrV (i:=s.length - 1) (n:=s.length - (s.length - 1)) q2 ds52 zef (by rw [hl2];omega) (fun h3 q3 c3=>?_)
 replace z:=z.stepW c3 hA (by omega)
 rw [zaa h3]
 clear q2
 repeat' (simp -implicitDefEqProofs only [syms,symx,seval,c66])
 rw [List.take_left' hl1] at q3
 have hl3:(s.take i++s.drop (i+1)++(List.replicate (s.length - (s.length - 1)) noAtomD++(s.take i++s.drop (i+1)++(s.drop (s.length - 1)++t)).drop (s.length - 1+(s.length - (s.length - 1))))).length=(s++t).length:=by
  rw [List.length_append,hl1,List.length_append,List.length_replicate,List.length_drop,hl2,List.length_append]
  omega
 exact hk _ _ (z.upW _ _ (by omega)) (ztf (q3.on _ _) hA (by rw [hl3];exact hle) hl1.symm (by rw [hl3]))
theorem zqK (l:List AtomD) (a:AtomD) (v:Value) (h:Heap) (hl:Sl Rep.atom h v l) (hn:l.length≤900) (hlt:∀ x∈l,x.light=true) (ha:a.light=true) (K:Value→Heap→Prop)
 (hk:∀ h' w,Ext h h'→(∃ a n c,w=.slice a n c)→(hasA l a=true→OwnB h h' 42 w (delA a (zcF l)))→K (.tuple #[w,.bool (hasA l a)]) h'):Ok Tryz.prog tab ov 37 [v,a.val] h K:=by
 rw [zaa h]
 have z:=Ext.refl h
 refine Ok.into rfl zwm (zaw N37) rfl (m:=23) rfl ?_
 simp -implicitDefEqProofs only [syms,symx,seval,c37,zas]
 refine zsQ l v _ (hl.lay _ _) hn hlt _ (fun h' w x ho=>?_)
 replace ho:=ho.down (h0:=h) (by rw [zad];omega)
 have q0:=Holds.top (i:=0) x rfl
 (replace z:=z.overW x (by omega);rw [zaa h'])
 have hva:=za3 w
 repeat' (simp -implicitDefEqProofs only [syms,symx,seval,c37,hva,q0.lay,zas,↓zaF,zaA,zal])
 have hll:=zfj l
 refine zpo (zcF l) a w _ (ho.sl.lay _ _) (zch l).asc (by omega) (ziV hlt) ha _ (fun h' i x hp=>?_)
 replace ho:=(ho.lay _ _).mono x.inc
 (replace z:=z.overW x (by omega);(replace q0:=q0.over x);rw [zaa h'])
 cases hb:hasA (zcF l) a
 ·have hpp:=zxm hb
  rw [zgr] at hb
  rw [hb,hpp] at hk
  repeat' (first|simp -implicitDefEqProofs only [syms,symx,seval,c37,hva]|((with_reducible_and_instances apply zar);(· rfl)))
  exact hk _ _ (z.upW _ _ (by omega)) (ztv ho.sl) (fun e=>absurd e (by decide))
 ·obtain ⟨hil,hpp⟩:=zr1 (zch l).asc hp hb
  rw [zgr] at hb
  have hwi:=zcl i (by omega)
  repeat' (first|simp -implicitDefEqProofs only [syms,symx,seval,c37,hva,hwi]|((with_reducible_and_instances apply zar);(· rfl)))
  rw [hb] at hk
  refine zqD (zcF l) i w h _ (z.upW _ _ (by omega)) (ho.lay _ _) (by omega) hil _ (fun h' w' x ho=>?_)
  replace z:=x
  rw [hpp] at ho
  have hva:∀ (h:Heap) (K:Value→Heap→Prop),valE (some w') h K=K w' h:=fun _ _=>rfl
  rw [zaa h']
  repeat' (simp -implicitDefEqProofs only [syms,symx,seval,c37,hva])
  exact hk _ _ (z.upW _ _ (by omega)) (ztv ho.a.sl) (fun _=>ho.lay _ _)
end Go.Proofs.YtdplfgoifjjniaaGreatDoor

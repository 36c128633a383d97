/- No function of this group is here. No condition. -/
import Derived.Test.YtdplfgoifjjniaaGreatDoorG25
import Derived.Test.YtdplfgoifjjniaaGreatDoorG27
import Derived.KernelRfl
import Derived.Test.YtdplfgoifjjniaaGreatDoorG43
import Derived.Test.YtdplfgoifjjniaaGreatDoorG21
import Derived.Test.YtdplfgoifjjniaaGreatDoorG31

namespace Go.Proofs.YtdplfgoifjjniaaGreatDoor
open Go.Am
set_option linter.unusedVariables false
set_option linter.unusedSimpArgs false
set_option maxRecDepth 100000
set_option maxHeartbeats 0
noncomputable def N33:=zaz Tryz.f33
noncomputable def x33:=PLift.up (by have c:=zah N33 Tryz.f33;simp only [zan,Tryz.f33,Option.getD_some,zaj,opsF,opsX,zag,zaA,dstL,zak,List.append_eq,List.cons_append,List.nil_append,seval] at c;exact nd c <| nd @bs52 <| nd @ld42 <| @fi33)
theorem c33:type_of% x33.down:=x33.down
noncomputable def N37:=zaz Tryz.f37
noncomputable def x37:=PLift.up (by have c:=zah N37 Tryz.f37;simp only [zan,Tryz.f37,Option.getD_some,zaj,opsF,opsX,zag,zaA,dstL,zak,List.append_eq,List.cons_append,List.nil_append,seval] at c;exact nd c <| nd @ld42 <| @fi37)
theorem c37:type_of% x37.down:=x37.down
noncomputable def N66:=zaz Tryz.f66
noncomputable def x66:=PLift.up (by have c:=zah N66 Tryz.f66;simp only [zan,Tryz.f66,Option.getD_some,zaj,opsF,opsX,zag,zaA,dstL,zak,List.append_eq,List.cons_append,List.nil_append,seval] at c;exact nd c <| nd @ln52 <| @fi66)
theorem c66:type_of% x66.down:=x66.down
end Go.Proofs.YtdplfgoifjjniaaGreatDoor
namespace Go.Proofs.YtdplfgoifjjniaaGreatDoor
open Go.Am
set_option linter.unusedSimpArgs false
set_option linter.unusedVariables false
set_option maxRecDepth 100000
set_option maxHeartbeats 0
theorem zBV (s:List AtomD) (a:AtomD) (i:Nat) (w:Value) (h h1:Heap) (z:Ext h h1) (ho:OwnA h h1 42 w s) (hn:s.length≤10000) (hin:i≤s.length) (lw:Nat) (hlw:min h1.low h1.size≤lw) (K:Value→Heap→Prop)
 (hk:∀ h' w',Ext h h'→OwnA h h' 42 w' (s.take i++a::s.drop i)→K w' h'):Ok Tryz.prog tab ov 63 [w,.int .i64 i,.slice (some ⟨h1.size+0,0,none⟩) 1 1] (h1.lay [.row a.cells 42 false] lw) K:=by
 obtain ⟨w',H',e,ho',A,hA,c⟩:=zBl (i:=i) (a:=a) (lw:=lw) zpC zlp (by decide) (by decide) z.size ho hn hin
 exact Ok.over rfl e (hk _ _ (z.stepW c hA hlw) ho')
theorem zCW (l:List AtomD) (a:AtomD) (v:Value) (h:Heap) (hl:Sl Rep.atom h v l) (hn:l.length≤900) (hlt:∀ x∈l,x.light=true) (ha:a.light=true) (K:Value→Heap→Prop)
 (hk:∀ h' w,Ext h h'→OwnA h h' 42 w (putA a (zcD l))→K (.tuple #[w,.bool (!hasA l a)]) h'):Ok Tryz.prog tab ov 33 [v,a.val] h K:=by
 rw [zaa h]
 have z:=Ext.refl h
 refine Ok.into rfl zxV (zaB N33) rfl (m:=22) rfl ?_
 simp -implicitDefEqProofs only [syms,symx,seval,c33,zas]
 refine ztC l v _ (hl.lay _ _) hn hlt _ (fun h' w x ho=>?_)
 replace ho:=ho.down (h0:=h) (by rw [zad];omega)
 have q0:=Holds.top (i:=0) x rfl
 ((skip);replace z:=z.overW x (by (try simp only [lsz]);omega);rw [zaa h'])
 have hva:=zaQ w
 repeat' ( simp -implicitDefEqProofs only [syms,symx,seval,c33,hva,q0.lay,zas,↓zaG,zaD,zar])
 have hll:=zeU l
 refine zo8 (zcD l) a w _ (ho.sl.lay _ _) (zci l).asc (by omega) (zii hlt) ha _ (fun h' i x hp=>?_)
 replace ho:=(ho.lay _ _).mono x.inc
 ((skip);replace z:=z.overW x (by (try simp only [lsz]);omega);(try replace q0:=q0.over x);rw [zaa h'])
 cases hb:hasA (zcD l) a
 ·have hpp:=zlZ hp hb
  rw [zgp] at hb
  repeat' ( simp -implicitDefEqProofs only [syms,symx,seval,c33,hva,q0.lay,zas,↓zaG,zaD,zar])
  repeat' ( simp -implicitDefEqProofs only [syms,symx,seval,c33,zsY])
  rw [hb] at hk
  have hz:=z.size
  refine zBV (zcD l) a i w h h' z ho (by omega) hp.le _ (by omega) _ (fun h' w' x ho=>?_)
  replace z:=x
  rw [hpp] at ho
  have hva:∀ (h:Heap) (K:Value→Heap→Prop),valE (some w') h K=K w' h:=fun _ _=>rfl
  rw [zaa h']
  repeat' ( simp -implicitDefEqProofs only [syms,symx,seval,c33,hva])
  exact hk _ _ (z.upW _ _ (by omega)) (ho.lay _ _)
 ·have hpp:=ztU (zci l).asc hb
  rw [zgp] at hb
  rw [hb,hpp] at hk
  repeat' ( simp -implicitDefEqProofs only [syms,symx,seval,c33,hva])
  exact hk _ _ (z.upW _ _ (by omega)) (ho.lay _ _)
theorem zCh {T:Tab} {t u:TypeId} {A n q i j:Nat} {k1 k2 k3:IntKind} (hd:T.desc t=some (.slice u)) (hs:zay T u=some 11) (hij:i≤j) (hj:j≤n) (hn:n≤q) (hq:q≤100000) :
 zbn T t (.slice (some ⟨A,0,none⟩) n (G*11+q)) (some (.int k1 i)) (some (.int k2 j)) (some (.int k3 n))=some (.slice (some ⟨A,if n=i then 0 else 0+i*11,none⟩) (j - i) (n - i)):=by
 have hG:=zjF
 obtain ⟨d1,d2,d3⟩:=zcA (k:=11) (q:=q) (by decide) (by omega)
 unfold zbn
 simp only [hd,hs,Option.bind_some]
 rw [if_neg (by omega),d2,if_pos rfl,d3]
 unfold zbJ
 simp only [zc3 hn,zc3 hj,zc3 hij,Option.bind_some,Option.map_some]
theorem zvh {T:Tab} {t u:TypeId} {A n q i j:Nat} {k1 k2:IntKind} (hd:T.desc t=some (.slice u)) (hs:zay T u=some 11) (hij:i≤j) (hj:j≤q) (hq:q≤100000) :
 zbn T t (.slice (some ⟨A,0,none⟩) n (G*11+q)) (some (.int k1 i)) (some (.int k2 j)) none=some (.slice (some ⟨A,0+i*11,none⟩) (j - i) (G*11+(q - i))):=by
 have hG:=zjF
 obtain ⟨d1,d2,d3⟩:=zcA (k:=11) (q:=q) (by decide) (by omega)
 unfold zbn
 simp only [hd,hs,Option.bind_some]
 rw [if_neg (by omega),d2,if_pos rfl,d3]
 unfold zbJ
 simp only [zc3 hj,zc3 hij,Option.bind_some,Option.map_some]
def OwnB (h0 h:Heap) (u:TypeId) (v:Value) (s:List AtomD):Prop:=∃ A t,v=.slice (some ⟨A,0,none⟩) s.length (G*11+(s++t).length)∧Holds h A (.row (rowA (s++t)) u false)∧h0.size≤A∧(s++t).length≤100000
theorem OwnA.b {h0 h:Heap} {u:TypeId} {v:Value} {s:List AtomD} (f:OwnA h0 h u v s) (hs:s≠[]):OwnB h0 h u v s:=by
 rcases f with ⟨e,_⟩|f
 ·exact absurd e hs
 ·exact f
theorem OwnB.a {h0 h:Heap} {u:TypeId} {v:Value} {s:List AtomD} (f:OwnB h0 h u v s):OwnA h0 h u v s:=.inr f
theorem OwnB.lay {h0 h:Heap} {u:TypeId} {v:Value} {s:List AtomD} (f:OwnB h0 h u v s) (bs:List Blk) (w:Nat):OwnB h0 (h.lay bs w) u v s:=by
 obtain ⟨A,t,e1,e2,e3⟩:=f
 exact ⟨A,t,e1,e2.on _ _,e3⟩
theorem OwnB.down {h0 h1 h:Heap} {u:TypeId} {v:Value} {s:List AtomD} (f:OwnB h1 h u v s) (i:h0.size≤h1.size):OwnB h0 h u v s:=by
 obtain ⟨A,t,e1,e2,e3,e4⟩:=f
 exact ⟨A,t,e1,e2,by omega,e4⟩
theorem OwnB.over {h0 h h2:Heap} {bs:List Blk} {w:Nat} {u:TypeId} {v:Value} {s:List AtomD} (f:OwnB h0 h u v s) (x:Ext (h.lay bs w) h2):OwnB h0 h2 u v s:=by
 obtain ⟨A,t,e1,e2,e3⟩:=f
 exact ⟨A,t,e1,e2.over x,e3⟩
theorem OwnB.kill {h0 h:Heap} {u:TypeId} {v:Value} {s:List AtomD} {D:List Nat} (f:OwnB h0 h u v s) (hD:∀ B∈D,B < h0.size):Sl Rep.atom (killL D h) v s:=by
 obtain ⟨A,t,e1,e2,e3,e4⟩:=f
 have hA:A ∉ D:=fun hm=>by have:=hD A hm;omega
 exact OwnA.sl (h0:=h0) (u:=u) (.inr ⟨A,t,e1,⟨by rw [zaH];exact e2.lt,by rw [zbk hA];exact e2.get⟩,e3,e4⟩)
theorem zs9 {h0 h:Heap} {u:TypeId} {A n c:Nat} {s t:List AtomD} (q:Holds h A (.row (rowA (s++t)) u false)) (hA:h0.size≤A) (hn:(s++t).length≤100000) (hl:n=s.length) (hc:c=G*11+(s++t).length):OwnB h0 h u (.slice (some ⟨A,0,none⟩) n c) s:=by
 subst hl hc
 exact ⟨A,t,rfl,q,hA,hn⟩
theorem zsf {α:Type} {r:Rep α} {h:Heap} {v:Value} {l:List α} (f:Sl r h v l):∃ a n c,v=.slice a n c:=by
 rcases f with ⟨rfl,_⟩|⟨A,o,c,row,u,ro,rfl,_⟩ <;> exact ⟨_,_,_,rfl⟩
theorem zqK (s:List AtomD) (i:Nat) (w:Value) (h hs:Heap) (z:Ext h hs) (ho:OwnA h hs 42 w s) (hn:s.length≤10000) (hin:i < s.length) (K:Value→Heap→Prop)
 (hk:∀ h' w',Ext h h'→OwnB h h' 42 w' (s.take i++s.drop (i+1))→K w' h'):Ok Tryz.prog tab ov 66 [w,.int .i64 i,.int .i64 ((i+1:Nat):Int)] hs K:=by
 rcases ho with ⟨rfl,_⟩|⟨A,t,rfl,q,hA,hle⟩
 ·simp at hin
 have hsl:s.length≤(s++t).length:=by rw [List.length_append];omega
 rw [zaa hs]
 refine Ok.into rfl zwK (zaB N66) rfl (m:=30) rfl ?_
 simp -implicitDefEqProofs only [syms,symx,seval,c66,zCh ds52 sz42 (show i≤i+1 by omega) hin hsl hle]
 refine zjE (fun hh=>absurd hh (by omega)) (fun _=>?_)
 repeat' ( simp -implicitDefEqProofs only [syms,symx,seval,c66])
 refine (zbT (by simp only [c66])) (z.upW _ _ (by omega)) ?_
 simp -implicitDefEqProofs only [syms,symx,seval,c66,zuR ds52 sz42 (show i≤s.length by omega) hsl hle,zjj ds52 sz42 (show i+1≤s.length by omega) hsl hle,zcG,zCX]
 obtain ⟨h2,e2,q2,c2⟩:=zrl (i:=i) (C2:=G*11+((s++t).length - (i+1))) ds52 zlp (by decide) (q.on _ _) hin hn hle
 rw [e2]
 simp -implicitDefEqProofs only [syms,symx,seval,c66]
 have hzz:=z.size
 refine zaZ (A:=A) (by kernel_rfl) (by rw [zad];omega) (by omega) (by simpa only [zat,zad,List.append_nil,List.length_cons,List.length_nil,Nat.zero_add,Nat.add_zero] using c2) ?_
 replace z:=z.stepW c2 hA (by omega)
 rw [zaa h2]
 clear q
 repeat' (first|simp -implicitDefEqProofs only [syms,symx,seval,c66]|((with_reducible refine ⟨z.grw.lay _ _,?_⟩);(intro _ h' zz x _);(try simp only [zat,List.append_nil] at x);(try replace q2:=q2.over x);(replace z:=zz);(clear zz);rw [zaa h']))
 have hl1:(s.take i++s.drop (i+1)).length=s.length - 1:=by simp only [List.length_append,List.length_take,List.length_drop];omega
 have hl2:(s.take i++s.drop (i+1)++(s.drop (s.length - 1)++t)).length=(s++t).length:=by
  rw [List.length_append,hl1,List.length_append,List.length_append,List.length_drop]
  omega
 simp -implicitDefEqProofs only [syms,symx,seval,c66,zvh ds52 sz42 (show s.length - 1≤s.length by omega) hsl hle,zsm]
 refine ztw (i:=s.length - 1) (n:=s.length - (s.length - 1)) q2 ds52 zdr (by rw [hl2];omega) (fun h3 q3 c3=>?_)
 replace z:=z.stepW c3 hA (by omega)
 rw [zaa h3]
 clear q2
 repeat' ( simp -implicitDefEqProofs only [syms,symx,seval,c66])
 rw [List.take_left' hl1] at q3
 have hl3:(s.take i++s.drop (i+1)++(List.replicate (s.length - (s.length - 1)) noAtomD++(s.take i++s.drop (i+1)++(s.drop (s.length - 1)++t)).drop (s.length - 1+(s.length - (s.length - 1))))).length=(s++t).length:=by
  rw [List.length_append,hl1,List.length_append,List.length_replicate,List.length_drop,hl2,List.length_append]
  omega
 exact hk _ _ (z.upW _ _ (by omega)) (zs9 (q3.on _ _) hA (by rw [hl3];exact hle) hl1.symm (by rw [hl3]))
theorem zrs (l:List AtomD) (a:AtomD) (v:Value) (h:Heap) (hl:Sl Rep.atom h v l) (hn:l.length≤900) (hlt:∀ x∈l,x.light=true) (ha:a.light=true) (K:Value→Heap→Prop)
 (hk:∀ h' w,Ext h h'→(∃ a n c,w=.slice a n c)→(hasA l a=true→OwnB h h' 42 w (delA a (zcD l)))→K (.tuple #[w,.bool (hasA l a)]) h'):Ok Tryz.prog tab ov 37 [v,a.val] h K:=by
 rw [zaa h]
 have z:=Ext.refl h
 refine Ok.into rfl zyM (zaB N37) rfl (m:=23) rfl ?_
 simp -implicitDefEqProofs only [syms,symx,seval,c37,zas]
 refine ztC l v _ (hl.lay _ _) hn hlt _ (fun h' w x ho=>?_)
 replace ho:=ho.down (h0:=h) (by rw [zad];omega)
 have q0:=Holds.top (i:=0) x rfl
 ((skip);replace z:=z.overW x (by (try simp only [lsz]);omega);rw [zaa h'])
 have hva:=zaQ w
 repeat' ( simp -implicitDefEqProofs only [syms,symx,seval,c37,hva,q0.lay,zas,↓zaG,zaD,zar])
 have hll:=zeU l
 refine zo8 (zcD l) a w _ (ho.sl.lay _ _) (zci l).asc (by omega) (zii hlt) ha _ (fun h' i x hp=>?_)
 replace ho:=(ho.lay _ _).mono x.inc
 ((skip);replace z:=z.overW x (by (try simp only [lsz]);omega);(try replace q0:=q0.over x);rw [zaa h'])
 cases hb:hasA (zcD l) a
 ·have hpp:=zzQ hb
  rw [zgp] at hb
  rw [hb,hpp] at hk
  repeat' (first|simp -implicitDefEqProofs only [syms,symx,seval,c37,hva]|((with_reducible_and_instances apply zal);(· rfl)))
  exact hk _ _ (z.upW _ _ (by omega)) (zsf ho.sl) (fun e=>absurd e (by decide))
 ·obtain ⟨hil,hpp⟩:=zuO (zci l).asc hp hb
  rw [zgp] at hb
  have hwi:IntKind.i64.wrap ((i:Int)+1)=((i+1:Nat):Int):=by rw [wrap_i64 (by omega) (by omega)];omega
  repeat' (first|simp -implicitDefEqProofs only [syms,symx,seval,c37,hva,hwi]|((with_reducible_and_instances apply zal);(· rfl)))
  rw [hb] at hk
  refine zqK (zcD l) i w h _ (z.upW _ _ (by omega)) (ho.lay _ _) (by omega) hil _ (fun h' w' x ho=>?_)
  replace z:=x
  rw [hpp] at ho
  have hva:∀ (h:Heap) (K:Value→Heap→Prop),valE (some w') h K=K w' h:=fun _ _=>rfl
  rw [zaa h']
  repeat' ( simp -implicitDefEqProofs only [syms,symx,seval,c37,hva])
  exact hk _ _ (z.upW _ _ (by omega)) (zsf ho.a.sl) (fun _=>ho.lay _ _)
end Go.Proofs.YtdplfgoifjjniaaGreatDoor

/- Walks: the place of an atom; is it there? Written out by fill2.py. No condition. -/
import Derived.Test.YtkgojconmeeegaaGreatDoorG36
import Derived.Test.YtkgojconmeeegaaGreatDoorG35
set_option linter.unusedSimpArgs false
set_option linter.unusedVariables false
set_option maxRecDepth 100000
set_option maxHeartbeats 0
namespace Go.Proofs.YtkgojconmeeegaaGreatDoor
open Go.Am
theorem zom (l:List ab) (a:ab) (v:Value) (h:Heap) (hl:Sl aJ.atom h v l) (hs:dR l) (hn:l.length≤1000) (aR:∀ x∈l,x.aT=true) (ha:a.aT=true) (K:Value→Heap→Prop)
 (hk:∀ h' i,Ext h h'→eY l a i→K (.tuple #[.int .i64 (i:Nat),.bool (bC l a)]) h'):Ok Tryz.prog ae ov 117 [v,a.val,.func (.func 108) ⟨[]⟩ ⟨[]⟩] h K:=by
 rw [ao h]
 have z:=Ext.refl h
 have iq:=fun (hh:Heap)=>hl.bc bL hh
 refine Ok.aH rfl zwX (br KO) rfl (m:=46) rfl ?_
 simp only [syms,aa,seval,gI,iq,ec]
 refine ml (fun h' x hq=>?_)
 have q0:=hq 0 _ rfl
 clear hq
 (replace z:=z.an x (by omega);rw [ao h'])
 obtain ⟨I1,aS⟩:∃ I:Nat→Env→Heap→Prop,I=(fun n e h'=>∃ (i j:Nat) (h1:Heap),h'=h1.lay [] h1.low∧Ext h h1∧(n=j - i∧i≤j∧j≤l.length∧(∀ k,k < i→aQ (l.getD k aj) a < 0)∧(∀ k,j≤k→k < l.length→¬ aQ (l.getD k aj) a < 0)∧Holds h1 (h.size+0) (.row a.cells 34 false))∧∃ J:Nat→Value,e=(v::J 1::.func (.func 108) ⟨[]⟩ ⟨[]⟩::J 3::.pointer (some ⟨h.size+0,0,none⟩)::jr J 5 3 (.int .i64 l.length::.int .i64 i::.int .i64 j::jr J 11 38 ([])))):=⟨_,rfl⟩
 refine dj I1 _ (by rw [aS];exact ⟨0,l.length,_,rfl,z,⟨rfl,by omega,by omega,fun k g=>by omega,fun k g1 g2=>by omega,q0⟩,aE (by kernel_rfl)⟩) ?_
 intro n e h' aL
 rw [aS] at aL
 obtain ⟨i,j,bH,rfl,z,hinv,J,rfl⟩:=aL
 clear q0
 obtain ⟨rfl,di,Ag,cV,lP,q0⟩:=hinv
 simp only [syms,aa,seval,gI]
 refine bt (fun i6=>?_) (fun i6=>?_)
 rotate_left
 ·have e:i=j:=by omega
  subst e
  have kR:eY l a i:=⟨Ag,cV,lP⟩
  have wM:=kR.has hs
  simp only [syms,aa,seval,gI]
  refine (dH (by simp only [gI])) (z.aw _ _ (by omega)) ?_
  simp only [syms,aa,seval,gI]
  refine bt (fun aL=>?_) (fun aL=>?_)
  rotate_left
  ·have e:bC l a=false:=by
    cases e:bC l a
    ·rfl
    ·exact absurd (wM.1 e).1 (by omega)
   rw [e] at hk
   repeat' (first|simp only [syms,aa,seval,gI]|((with_reducible refine ⟨z.cN.lay _ _,?_⟩);(intro _ h' zz x _);(simp only [el,List.append_nil] at x);(replace q0:=q0.over x);(replace z:=zz);(clear zz);rw [ao h']))
   exact hk _ _ (z.aw _ _ (by omega)) kR
  have hr:l[(i:Int).toNat]? = some (l.getD i aj):=jn (by omega)
  simp only [syms,aa,seval,gI]
  repeat' ((first|with_reducible_and_instances refine pT (hl.mono z.inc) bL bO (by omega) hr (fun p hp=>?_)|with_reducible_and_instances refine mW hp fx bO ?_) <;> simp only [syms,aa,seval,gI,q0.lay,ec,↓eM,eh,dC])
  refine EI _ _ (rm aR (by omega)) ha _ _ (fun h' x=>?_)
  (((with_reducible refine dv ?_ ?_ ?_);(· exact (by (simp only [dx]);have:=z.size;omega));(· exact x));replace z:=z.an x (by omega);(replace q0:=q0.over x);rw [ao h'])
  simp only [syms,aa,seval,gI]
  refine nX (fun hc=>?_) (fun hc=>?_)
  ·rw [wM.2 ⟨by omega,hc⟩] at hk
   repeat' (first|simp only [syms,aa,seval,gI]|((with_reducible refine ⟨z.cN.lay _ _,?_⟩);(intro _ h' zz x _);(simp only [el,List.append_nil] at x);(replace q0:=q0.over x);(replace z:=zz);(clear zz);rw [ao h']))
   exact hk _ _ (z.aw _ _ (by omega)) kR
  ·have e:bC l a=false:=by
    cases e:bC l a
    ·rfl
    ·exact absurd (wM.1 e).2 hc
   rw [e] at hk
   repeat' (first|simp only [syms,aa,seval,gI]|((with_reducible refine ⟨z.cN.lay _ _,?_⟩);(intro _ h' zz x _);(simp only [el,List.append_nil] at x);(replace q0:=q0.over x);(replace z:=zz);(clear zz);rw [ao h']))
   exact hk _ _ (z.aw _ _ (by omega)) kR
 obtain ⟨e1,e2,e3,e4⟩:=RM i j (by omega)
 repeat' (simp only [syms,aa,seval,gI,e1])
 rw [zg rfl rfl rfl (R9 _) rfl,e2]
 simp only [syms,aa,seval,gI,e1]
 rw [RY (by decide),e4]
 simp only [syms,aa,seval,gI,e1]
 rw [zg rfl rfl rfl (Sa _) rfl,e3]
 repeat' (simp only [syms,aa,seval,gI,e1])
 have tR:i≤(i+j) / 2∧(i+j) / 2 < j:=by omega
 have xr:IntKind.i64.wrap ((((i+j) / 2:Nat):Int)+1)=(((i+j) / 2+1:Nat):Int):=by rw [wrap_i64 (by omega) (by omega)];omega
 generalize (i+j) / 2=y at tR xr ⊢
 have hr:l[(y:Int).toNat]? = some (l.getD y aj):=jn (by omega)
 refine (dH (by simp only [gI])) (z.aw _ _ (by omega)) ?_
 simp only [syms,aa,seval,gI]
 repeat' ((first|with_reducible_and_instances refine pT (hl.mono z.inc) bL bO (by omega) hr (fun p hp=>?_)|with_reducible_and_instances refine mW hp fx bO ?_) <;> simp only [syms,aa,seval,gI,q0.lay,ec,↓eM,eh,dC])
 refine EI _ _ (rm aR (by omega)) ha _ _ (fun h' x=>?_)
 (((with_reducible refine dv ?_ ?_ ?_);(· exact (by (simp only [dx]);have:=z.size;omega));(· exact x));replace z:=z.an x (by omega);(replace q0:=q0.over x);rw [ao h'])
 simp only [syms,aa,seval,gI]
 refine bt (fun hc=>?_) (fun hc=>?_)
 ·repeat' (first|simp only [syms,aa,seval,gI]|((with_reducible refine ⟨z.cN.lay _ _,?_⟩);(intro _ h' zz x _);( simp only [el,List.append_nil] at x );( replace q0:=q0.over x );(replace z:=zz);(clear zz);rw [ao h']))
  rw [xr]
  (rw [aS];with_reducible refine cB (m:=_) ?_ ⟨y+1,j,_,rfl,z,⟨rfl,by omega,by omega,fun k g=>by
   rcases Nat.lt_or_ge k y with e|e
   ·exact CB (Sg (ij.1 hs) e (by omega)) hc
   ·have e:k=y:=by omega
    subst e
    exact hc,lP,q0⟩,aE (by kernel_rfl)⟩;omega)
 ·have acj:∀ k,y≤k→k < l.length→¬ aQ (l.getD k aj) a < 0:=by
   intro k g1 g2
   rcases Nat.eq_or_lt_of_le g1 with e|e
   ·subst e
    exact hc
   ·intro g
    exact hc (CB (Sg (ij.1 hs) e g2) g)
  repeat' (first|simp only [syms,aa,seval,gI]|((with_reducible refine ⟨z.cN.lay _ _,?_⟩);(intro _ h' zz x _);(simp only [el,List.append_nil] at x);(replace q0:=q0.over x);(replace z:=zz);(clear zz);rw [ao h']))
  (rw [aS];with_reducible refine cB (m:=_) ?_ ⟨i,y,_,rfl,z,⟨rfl,by omega,by omega,cV,acj,q0⟩,aE (by kernel_rfl)⟩;omega)
theorem zrI (l:List ab) (a:ab) (v:Value) (h:Heap) (hl:Sl aJ.atom h v l) (hs:dR l) (hn:l.length≤1000) (aR:∀ x∈l,x.aT=true) (ha:a.aT=true) (K:Value→Heap→Prop)
 (hk:∀ h' i,Ext h h'→eY l a i→K (.tuple #[.int .i64 (i:Nat),.bool (bC l a)]) h'):Ok Tryz.prog ae ov 70 [v,a.val] h K:=by
 rw [ao h]
 have z:=Ext.refl h
 refine Ok.aH rfl zDS (br V1) rfl (m:=9) rfl ?_
 repeat' (simp only [syms,aa,seval,Wl,ec,↓eM,eh,dC])
 refine zom l a v _ (hl.lay _ _) hs hn aR ha _ (fun h' i x hp=>?_)
 (replace z:=z.an x (by omega);rw [ao h'])
 generalize bC l a=b at hk ⊢
 cases b
 all_goals
  repeat' (simp only [syms,aa,seval,Wl])
  exact hk _ _ (z.aw _ _ (by omega)) hp
end Go.Proofs.YtkgojconmeeegaaGreatDoor

namespace Go.Proofs.YtkgojconmeeegaaGreatDoor
open Go.Am
noncomputable def VC:=bA Tryz.f40
noncomputable def Zs:=PLift.up (by have c:=bB VC Tryz.f40;simp only [aK,Tryz.f40,seval] at c;exact nd c <| nd @tB <| nd @ct <| @aaA)
theorem Iq:type_of% Zs.down:=Zs.down
noncomputable def VE:=bA Tryz.f42
noncomputable def Zu:=PLift.up (by have c:=bB VE Tryz.f42;simp only [aK,Tryz.f42,seval] at c;exact nd c <| nd @ct <| @aaC)
theorem MF:type_of% Zu.down:=Zu.down
noncomputable def V4:=bA Tryz.f74
noncomputable def yD:=PLift.up (by have c:=bB V4 Tryz.f74;simp only [aK,Tryz.f74,seval] at c;exact nd c <| nd @iu <| @aa1)
theorem Dr:type_of% yD.down:=yD.down
theorem zH0 (s:List ab) (a:ab) (i:Nat) (w:Value) (h h1:Heap) (z:Ext h h1) (ho:dw h h1 34 w s) (hn:s.length≤10000) (aL:i≤s.length) (lw:Nat) (qv:min h1.low h1.size≤lw) (K:Value→Heap→Prop)
 (hk:∀ h' w',Ext h h'→dw h h' 34 w' (s.take i++a::s.drop i)→K w' h'):Ok Tryz.prog ae ov 71 [w,.int .i64 i,.slice (some ⟨h1.size+0,0,none⟩) 1 1] (h1.lay [.row a.cells 34 false] lw) K:=by
 obtain ⟨w',H',e,IX,A,hA,c⟩:=zvn (i:=i) (a:=a) (lw:=lw) zry Xn (by decide) (by decide) z.size ho hn aL
 exact Ok.over rfl e (hk _ _ (z.cM c hA qv) IX)
theorem zHZ (l:List ab) (a:ab) (v:Value) (h:Heap) (hl:Sl aJ.atom h v l) (hn:l.length≤900) (aR:∀ x∈l,x.aT=true) (ha:a.aT=true) (K:Value→Heap→Prop)
 (hk:∀ h' w,Ext h h'→dw h h' 34 w (cA a (eg l))→K (.tuple #[w,.bool (!bC l a)]) h'):Ok Tryz.prog ae ov 40 [v,a.val] h K:=by
 rw [ao h]
 have z:=Ext.refl h
 refine Ok.aH rfl zDv (br VC) rfl (m:=22) rfl ?_
 simp only [syms,aa,seval,Iq,ec]
 refine zvQ l v _ (hl.lay _ _) hn aR _ (fun h' w x ho=>?_)
 replace ho:=ho.down (h0:=h) (by rw [bm];omega)
 have q0:=Holds.top (i:=0) x rfl
 (replace z:=z.an x (by omega);rw [ao h'])
 have bx:=bY w
 repeat' (simp only [syms,aa,seval,Iq,bx,q0.lay,ec,↓eM,eh,dC])
 have DM:=CC l
 refine zrI (eg l) a w _ (ho.sl.lay _ _) (ri l).iI (by omega) (JI aR) ha _ (fun h' i x hp=>?_)
 replace ho:=(ho.lay _ _).mono x.inc
 (replace z:=z.an x (by omega);(replace q0:=q0.over x);rw [ao h'])
 cases hb:bC (eg l) a
 ·have Ar:=zoG hp hb
  rw [JP] at hb
  repeat' (simp only [syms,aa,seval,Iq,bx,q0.lay,ec,↓eM,eh,dC])
  repeat' (simp only [syms,aa,seval,Iq,JO])
  rw [hb] at hk
  have hz:=z.size
  refine zH0 (eg l) a i w h h' z ho (by omega) hp.le _ (by omega) _ (fun h' w' x ho=>?_)
  replace z:=x
  rw [Ar] at ho
  have bx:∀ (h:Heap) (K:Value→Heap→Prop),aW (some w') h K=K w' h:=fun _ _=>rfl
  rw [ao h']
  repeat' (simp only [syms,aa,seval,Iq,bx])
  exact hk _ _ (z.aw _ _ (by omega)) (ho.lay _ _)
 ·have Ar:=UP (ri l).iI hb
  rw [JP] at hb
  rw [hb,Ar] at hk
  repeat' (simp only [syms,aa,seval,Iq,bx])
  exact hk _ _ (z.aw _ _ (by omega)) (ho.lay _ _)
theorem zIa {T:bK} {t u:TypeId} {A n q i j:Nat} {k1 k2 k3:IntKind} (hd:T.desc t=some (.slice u)) (hs:bJ T u=some 11) (di:i≤j) (hj:j≤n) (hn:n≤q) (hq:q≤100000) :
 ki T t (.slice (some ⟨A,0,none⟩) n (G*11+q)) (some (.int k1 i)) (some (.int k2 j)) (some (.int k3 n))=some (.slice (some ⟨A,if n=i then 0 else 0+i*11,none⟩) (j - i) (n - i)):=by
 have hG:=zh
 obtain ⟨d1,d2,d3⟩:=CK (k:=11) (q:=q) (by decide) (by omega)
 unfold ki
 simp only [hd,hs,Option.bind_some]
 rw [if_neg (by omega),d2,if_pos rfl,d3]
 unfold rq
 simp only [JM hn,JM hj,JM di,Option.bind_some,Option.map_some]
theorem zzI {T:bK} {t u:TypeId} {A n q i j:Nat} {k1 k2:IntKind} (hd:T.desc t=some (.slice u)) (hs:bJ T u=some 11) (di:i≤j) (hj:j≤q) (hq:q≤100000) :
 ki T t (.slice (some ⟨A,0,none⟩) n (G*11+q)) (some (.int k1 i)) (some (.int k2 j)) none=some (.slice (some ⟨A,0+i*11,none⟩) (j - i) (G*11+(q - i))):=by
 have hG:=zh
 obtain ⟨d1,d2,d3⟩:=CK (k:=11) (q:=q) (by decide) (by omega)
 unfold ki
 simp only [hd,hs,Option.bind_some]
 rw [if_neg (by omega),d2,if_pos rfl,d3]
 unfold rq
 simp only [JM hj,JM di,Option.bind_some,Option.map_some]
def lI (h0 h:Heap) (u:TypeId) (v:Value) (s:List ab):Prop:=∃ A t,v=.slice (some ⟨A,0,none⟩) s.length (G*11+(s++t).length)∧Holds h A (.row (aO (s++t)) u false)∧h0.size≤A∧(s++t).length≤100000
theorem dw.b {h0 h:Heap} {u:TypeId} {v:Value} {s:List ab} (f:dw h0 h u v s) (hs:s≠[]):lI h0 h u v s:=by
 rcases f with ⟨e,_⟩|f
 ·exact absurd e hs
 ·exact f
theorem lI.a {h0 h:Heap} {u:TypeId} {v:Value} {s:List ab} (f:lI h0 h u v s):dw h0 h u v s:=.inr f
theorem lI.lay {h0 h:Heap} {u:TypeId} {v:Value} {s:List ab} (f:lI h0 h u v s) (bs:List bh) (w:Nat):lI h0 (h.lay bs w) u v s:=by
 obtain ⟨A,t,e1,e2,e3⟩:=f
 exact ⟨A,t,e1,e2.on _ _,e3⟩
theorem lI.kill {h0 h:Heap} {u:TypeId} {v:Value} {s:List ab} {D:List Nat} (f:lI h0 h u v s) (hD:∀ B∈D,B < h0.size):Sl aJ.atom (aI D h) v s:=by
 obtain ⟨A,t,e1,e2,e3,e4⟩:=f
 have hA:A ∉ D:=fun hm=>by have:=hD A hm;omega
 exact dw.sl (h0:=h0) (u:=u) (.inr ⟨A,t,e1,⟨by rw [iG];exact e2.lt,by rw [oz hA];exact e2.get⟩,e3,e4⟩)
theorem zwh {h0 h:Heap} {u:TypeId} {A n c:Nat} {s t:List ab} (q:Holds h A (.row (aO (s++t)) u false)) (hA:h0.size≤A) (hn:(s++t).length≤100000) (hl:n=s.length) (hc:c=G*11+(s++t).length):lI h0 h u (.slice (some ⟨A,0,none⟩) n c) s:=by
 subst hl hc
 exact ⟨A,t,rfl,q,hA,hn⟩
theorem zwt {α:Type} {r:aJ α} {h:Heap} {v:Value} {l:List α} (f:Sl r h v l):∃ a n c,v=.slice a n c:=by
 rcases f with ⟨rfl,_⟩|⟨A,o,c,row,u,ro,rfl,_⟩ <;> exact ⟨_,_,_,rfl⟩
theorem ztd (s:List ab) (i:Nat) (w:Value) (h hs:Heap) (z:Ext h hs) (ho:dw h hs 34 w s) (hn:s.length≤10000) (aL:i < s.length) (K:Value→Heap→Prop)
 (hk:∀ h' w',Ext h h'→lI h h' 34 w' (s.take i++s.drop (i+1))→K w' h'):Ok Tryz.prog ae ov 74 [w,.int .i64 i,.int .i64 ((i+1:Nat):Int)] hs K:=by
 rcases ho with ⟨rfl,_⟩|⟨A,t,rfl,q,hA,hle⟩
 ·simp at aL
 have rW:s.length≤(s++t).length:=by rw [List.length_append];omega
 rw [ao hs]
 refine Ok.aH rfl zDW (br V4) rfl (m:=30) rfl ?_
 simp only [syms,aa,seval,Dr,zIa bL bO (show i≤i+1 by omega) aL rW hle]
 refine nX (fun hh=>absurd hh (by omega)) (fun _=>?_)
 repeat' (simp only [syms,aa,seval,Dr])
 refine (dH (by simp only [Dr])) (z.aw _ _ (by omega)) ?_
 simp only [syms,aa,seval,Dr,zwb bL bO (show i≤s.length by omega) rW hle,TZ bL bO (show i+1≤s.length by omega) rW hle,lG,vL]
 obtain ⟨h2,e2,q2,c2⟩:=zsA (i:=i) (C2:=G*11+((s++t).length - (i+1))) bL Xn (by decide) (q.on _ _) aL hn hle
 rw [e2]
 simp only [syms,aa,seval,Dr]
 have hzz:=z.size
 refine nQ (A:=A) (by kernel_rfl) (by rw [bm];omega) (by omega) (by simpa only [el,bm,List.append_nil,List.length_cons,List.length_nil,Nat.zero_add,Nat.add_zero] using c2) ?_
 replace z:=z.cM c2 hA (by omega)
 rw [ao h2]
 clear q
 repeat' (first|simp only [syms,aa,seval,Dr]|((with_reducible refine ⟨z.cN.lay _ _,?_⟩);(intro _ h' zz x _);(simp only [el,List.append_nil] at x);(replace q2:=q2.over x);(replace z:=zz);(clear zz);rw [ao h']))
 have fT:(s.take i++s.drop (i+1)).length=s.length - 1:=by simp only [List.length_append,List.length_take,List.length_drop];omega
 have hU:(s.take i++s.drop (i+1)++(s.drop (s.length - 1)++t)).length=(s++t).length:=by
  rw [List.length_append,fT,List.length_append,List.length_append,List.length_drop]
  omega
 simp only [syms,aa,seval,Dr,zzI bL bO (show s.length - 1≤s.length by omega) rW hle,zyp]
 refine zuH (i:=s.length - 1) (n:=s.length - (s.length - 1)) q2 bL se (by rw [hU];omega) (fun h3 q3 c3=>?_)
 replace z:=z.cM c3 hA (by omega)
 rw [ao h3]
 clear q2
 repeat' (simp only [syms,aa,seval,Dr])
 rw [List.take_left' fT] at q3
 have NS:(s.take i++s.drop (i+1)++(List.replicate (s.length - (s.length - 1)) aj++(s.take i++s.drop (i+1)++(s.drop (s.length - 1)++t)).drop (s.length - 1+(s.length - (s.length - 1))))).length=(s++t).length:=by
  rw [List.length_append,fT,List.length_append,List.length_replicate,List.length_drop,hU,List.length_append]
  omega
 exact hk _ _ (z.aw _ _ (by omega)) (zwh (q3.on _ _) hA (by rw [NS];exact hle) fT.symm (by rw [NS]))
theorem ztm (l:List ab) (a:ab) (v:Value) (h:Heap) (hl:Sl aJ.atom h v l) (hn:l.length≤900) (aR:∀ x∈l,x.aT=true) (ha:a.aT=true) (K:Value→Heap→Prop)
 (hk:∀ h' w,Ext h h'→(∃ a n c,w=.slice a n c)→(bC l a=true→lI h h' 34 w (eW a (eg l)))→K (.tuple #[w,.bool (bC l a)]) h'):Ok Tryz.prog ae ov 42 [v,a.val] h K:=by
 rw [ao h]
 have z:=Ext.refl h
 refine Ok.aH rfl zDx (br VE) rfl (m:=23) rfl ?_
 simp only [syms,aa,seval,MF,ec]
 refine zvQ l v _ (hl.lay _ _) hn aR _ (fun h' w x ho=>?_)
 replace ho:=ho.down (h0:=h) (by rw [bm];omega)
 have q0:=Holds.top (i:=0) x rfl
 (replace z:=z.an x (by omega);rw [ao h'])
 have bx:=bY w
 repeat' (simp only [syms,aa,seval,MF,bx,q0.lay,ec,↓eM,eh,dC])
 have DM:=CC l
 refine zrI (eg l) a w _ (ho.sl.lay _ _) (ri l).iI (by omega) (JI aR) ha _ (fun h' i x hp=>?_)
 replace ho:=(ho.lay _ _).mono x.inc
 (replace z:=z.an x (by omega);(replace q0:=q0.over x);rw [ao h'])
 cases hb:bC (eg l) a
 ·have Ar:=Jg hb
  rw [JP] at hb
  rw [hb,Ar] at hk
  repeat' (first|simp only [syms,aa,seval,MF,bx]|((with_reducible_and_instances apply b8);(· rfl)))
  exact hk _ _ (z.aw _ _ (by omega)) (zwt ho.sl) (fun e=>absurd e (by decide))
 ·obtain ⟨iK,Ar⟩:=zuP (ri l).iI hp hb
  rw [JP] at hb
  have gl:=eb i (by omega)
  repeat' (first|simp only [syms,aa,seval,MF,bx,gl]|((with_reducible_and_instances apply b8);(· rfl)))
  rw [hb] at hk
  refine ztd (eg l) i w h _ (z.aw _ _ (by omega)) (ho.lay _ _) (by omega) iK _ (fun h' w' x ho=>?_)
  replace z:=x
  rw [Ar] at ho
  have bx:∀ (h:Heap) (K:Value→Heap→Prop),aW (some w') h K=K w' h:=fun _ _=>rfl
  rw [ao h']
  repeat' (simp only [syms,aa,seval,MF,bx])
  exact hk _ _ (z.aw _ _ (by omega)) (zwt ho.a.sl) (fun _=>ho.lay _ _)
def HK (T0:Nat) (v0 v1:Value) (q:Int) (NM:Nat):List Value:=[.pointer (some ⟨T0,0,none⟩),v0,v1,.slice none 0 0,.int .i64 q,.int .i64 0,.slice none 0 0,.slice none 0 0,.map (some NM)]
def sA (N b:Nat) (h:Heap) (S0:Nat) (E:List Nat) (d:au) (q:Int) (facts:ByteArray→List ab) (aA:ByteArray→Nat) (us:ByteArray→Nat):Prop :=
 ∃ T0 D NM v0 v1 nv,E=NM::D∧Holds h S0 (.row (HK T0 v0 v1 q NM) 100 false)∧ef N b h D T0 us∧dp h NM nv∧Sl aJ.str (aI E h) v0 d.ah∧Sl aJ.pred (aI E h) v1 d.bG ∧
   (∀ who,dG nv who=none→facts who=[]∧aA who=0)∧(∀ who x,dG nv who=some x→∃ s,x=.agg #[s,.int .u64 (aA who:Int)]∧Sl aJ.atom (aI E h) s (facts who))∧S0 ∉ E∧NM ∉ D∧N≤S0∧N≤NM
def gE (X:List Nat) (N b:Nat) (h:Heap) (S0:Nat) (E:List Nat) (d:au) (q:Int) (facts:ByteArray→List ab) (aA:ByteArray→Nat) (us:ByteArray→Nat):Prop:=sA N b (aI X h) S0 E d q facts aA us∧(∀ B∈E,B ∉ X)∧∀ B∈X,B < h.size
theorem zLw (A:Nat):nV ae 97 [(0,.pointer (some ⟨A,0,none⟩))]=some (.agg #[.pointer (some ⟨A,0,none⟩)]):=by kernel_rfl
theorem zLv (A M:Nat) (a0 a1) (n0 n1 c0 c1:Nat) (q:Int):nV ae 100 [(0,.agg #[.pointer (some ⟨A,0,none⟩)]),(1,gi (.slice a0 n0 c0) (.slice a1 n1 c1) (.slice none 0 0) (.slice none 0 0) (.slice none 0 0) q 0),(2,.map (some M))]=some (.agg ⟨HK A (.slice a0 n0 c0) (.slice a1 n1 c1) q M⟩):=by kernel_rfl
theorem uI {α:Type} {r:aJ α} {h:Heap} {v:Value} {l:List α} (f:Sl r h v l):∃ a n c,v=.slice a n c:=by
 rcases f with ⟨rfl,_⟩|⟨A,o,c,row,u,ro,rfl,_⟩ <;> exact ⟨_,_,_,rfl⟩
theorem zzw (N:Nat) (d:au) (v0 v1:Value) (q:Int) (h:Heap) (G0:Nat) (hN:N≤h.size) (hG:N≤G0∧G0 < h.size) (X:List Nat) (hX:∀ B∈X,B < N) (s0:Sl aJ.str (aI [G0] (aI X h)) v0 d.ah) (s1:Sl aJ.pred (aI [G0] (aI X h)) v1 d.bG) (K:Value→Heap→Prop)
 (hk:∀ h' S0 E,Ext h h'→gE X N 0 h' S0 E d q (fun _=>[]) (fun _=>0) (fun _=>0)→K (.pointer (some ⟨S0,0,none⟩)) h'):Ok Tryz.prog ae ov 56 [gi v0 v1 (.slice none 0 0) (.slice none 0 0) (.slice none 0 0) q 0] h K:=by
 have DF:=uI s0
 have tN:=uI s1
 obtain ⟨a0,n0,c0,rfl⟩:=DF
 obtain ⟨a1,n1,c1,rfl⟩:=tN
 rw [ao h]
 have z:=Ext.refl h
 refine Ok.aH rfl zDF (br VK) rfl (m:=8) rfl ?_
 simp only [syms,aa,seval,Fu,ek]
 with_reducible first|refine dH (by simp only [Fu]) (z.aw _ _ (by omega)) ?_
 simp only [syms,aa,seval,Fu,ek]
 refine zGy N _ h.size G0 ⟨hN,by rw [bm];simp⟩ ⟨hG.1,by rw [bm];omega⟩ (by omega) _ (fun h' T0 FM x st hT hF=>?_)
 have q0:=Holds.top (i:=0) x rfl
 rw [bm] at hT hF
 simp only [List.length_cons,List.length_nil] at hT hF
 (((with_reducible refine dv ?_ ?_ ?_);(· exact (by (simp only [dx]);have:=z.size;omega));(· exact x));replace z:=z.an x (by omega);rw [ao h'])
 simp only [syms,aa,seval,Fu,q0.lay,ek,↓fm,eX,eG,zLw,j9,Rw]
 have hz:=z.size
 refine xQ (by omega) (by omega) ?_
 simp only [syms,aa,seval,Fu,zLv,j9]
 refine zm2 (by simp) (by omega) (by simp) ?_
 simp only [syms,aa,seval,Fu]
 ((with_reducible refine ⟨z.cN.lay _ _,?_⟩);(intro _ h4 zz x _);(simp only [el,List.append_nil] at x))
 have fr:aM [] h' h4:=(aM.refl [] h').over x
 have qm:=Holds.top (i:=0) x rfl
 have qs:=Holds.top (i:=1) x rfl
 have lP:=st.hi
 replace st:=st.over x
 clear z
 have z:=zz
 rw [ao h4]
 simp only [syms,aa,seval,Fu,cy]
 have Ye:=fr.size
 have df:aM [G0] h h4:=z.bX [G0]
 have hE:∀ B∈[h'.size+0,T0,h.size,G0,FM],B∈[G0]∨h.size≤B:=by
  intro B hB
  simp only [List.mem_cons,List.not_mem_nil,or_false] at hB ⊢
  omega
 have hS:h'.size+1 ∉ [h'.size+0,T0,h.size,G0,FM]:=by
  simp only [List.mem_cons,List.not_mem_nil,or_false]
  omega
 have AZ:h'.size+0 ∉ [T0,h.size,G0,FM]:=by
  simp only [List.mem_cons,List.not_mem_nil,or_false]
  omega
 have hI:=((df.trans (aM.lay h4 [] h4.low []) (fun _ h=>nomatch h)).kill X).inc (D':=[h'.size+0,T0,h.size,G0,FM]) (fun B hB=>by rw [iG];exact hE B hB)
 have cV:∀ B∈[h'.size+0,T0,h.size,G0,FM],N≤B:=by
  intro B hB
  simp only [List.mem_cons,List.not_mem_nil,or_false] at hB
  omega
 have mE:∀ B∈[h'.size+0,T0,h.size,G0,FM],B ∉ X:=fun B hB hx=>by
  have h1:=cV B hB
  have h2:=hX B hx
  omega
 have Nc:h'.size+1 ∉ X:=fun hx=>by
  have h2:=hX _ hx
  omega
 have oo:=z.size
 exact hk _ (h'.size+1) [h'.size+0,T0,h.size,G0,FM] (z.aw _ _ (by omega)) ⟨⟨T0,[T0,h.size,G0,FM],h'.size+0,_,_,[],rfl,(qs.on _ _).mU Nc,ef.bX (D:=[T0,h.size,G0,FM]) ⟨h.size,G0,FM,[],[],[],rfl,st.lay _ _,cS.empty,Nat.le_refl 0,Nat.le_refl 0⟩ (aM.dead X _) (fun B hB=>mE B (List.mem_cons_of_mem _ hB)),(dp.new (qm.on _ _)).hold (fun _ q=>q.mU (mE _ (by simp))),s0.mono hI,s1.mono hI,fun _ _=>⟨rfl,rfl⟩,fun who x hx=>by simp [dG] at hx,hS,AZ,by omega,by omega⟩,mE,fun B hB=>by have:=hX B hB;rw [bm];omega⟩
end Go.Proofs.YtkgojconmeeegaaGreatDoor

/- Walks: a cursor over bytes: numbers, texts, flags. Written out by fill2.py. No condition. -/
import Derived.Test.YtjildadoepadeaaGreatDoorG36
set_option linter.unusedSimpArgs false
set_option linter.unusedVariables false
namespace Go.Proofs.YtjildadoepadeaaGreatDoor
open Go.Am Tryz
set_option maxRecDepth 100000
set_option maxHeartbeats 0
theorem Ua (s:aA) (o:Nat) (ho:o<=s.size):kn az 9 (.string s) (some (.int .i64 o)) none none=some (.string (s.extract o s.size)):=by
 unfold kn
 rw [zI]
 simp only [A8,fb,if_false,mQ,pH,cM]
 rw [aC (by omega)]
 simp
theorem zwy (s:aA) (o p:Nat) (ho:o<=p) (hp:p<=s.size):kn az 9 (.string s) (some (.int .i64 o)) (some (.int .i64 p)) none=some (.string (s.extract o p)):=by
 unfold kn
 rw [zI]
 simp only [A8,fb,if_false,mQ,pH,cM]
 rw [aC (by omega)]
 simp only [cM]
 rw [aC (by omega)]
 simp
theorem Sh (a:Int):dX prog (Next.value <$> convert 144 2 (.int .u32 a))=some (Next.value (.int .i64 (IntKind.i64.wrap a))):=by rfl
theorem SS (s:aA) (hs:s.size<=100000) (st:Option Nat) (C:Nat) (h hc:Heap) (z:Ext h hc) (hC:h.size<=C) (q:ck 279 hc C s st) (K:aF)
 (ea:∀ n o2:Nat,st.bind (c7 s)=some (n,o2)->∀ h',Ext h h'->Sm C hc h'->ck 279 h' C s (some o2)->K (.int .u32 n) h')
 (dZ:st.bind (c7 s)=none->∀ h',Ext h h'->Sm C hc h'->ck 279 h' C s none->K (.int .u32 0) h'):Ok prog az ov 246 [.pointer (some ⟨C,0,none⟩)] hc K:=by
 obtain ⟨o,ho,dI,q0⟩:=q
 have cg:=Sm.refl C hc
 rw [ak hc]
 have b9:∀ (s:aA) (h:Heap) (K:aF),aE (some (.string s)) h K=K (.string s) h:=λ_ _ _=>rfl
 have DW:=Ua s o ho
 refine Ok.au 43 (br Ci) ?_
 simp only [aa,seval,j2]
 with_reducible first|refine hH (by simp only [j2]) z.ao ?_
 repeat' (simp only [aa,seval,j2,q0.lay,b9,DW])
 refine ZS (s.extract o s.size) _ (by rw [ByteArray.size_extract];omega) _ (λhd h' x=>?_) (λn k hd h' x=>?_)
 .have iy:c7 s o=none:=by unfold c7;rw [hd];rfl
  have nk:st.bind (c7 s)=none:=by
   cases st with
   |none=>rfl
   |some p=>rw [dI p rfl];exact iy
  (((with_reducible refine eu ?_ ?_ ?_);(· exact (by (simp only [ep]);have:=z.size;omega));(· exact x));replace z:=z.aj x;replace q0:=q0.over x;replace cg:=cg.over x;rw [ak h'])
  cases DY:st.isNone
  all_goals
   rw [DY] at q0
   repeat' (first|simp only [aa,seval,j2,q0.lay,show ((15:Int) != 0)=true from rfl]|((with_reducible refine ⟨z.eD.lay _ _,?_⟩);(intro _ h' zz x _);(simp only [dy,cU] at x);replace q0:=q0.over x;replace cg:=cg.over x;(replace z:=zz);(clear zz);rw [ak h']))
   refine dD (o:=2) q0 lM rfl rfl (by simp) rfl (λfU cx c=>?_)
   replace cx:Holds fU C (.row [.string s,.int .i64 o,.bool true] 279 false):=cx
   replace cg:=cg.cj c
   replace z:=z.ao.step c hC
   rw [ak fU]
   repeat' (simp only [aa,seval,j2,cx.lay])
   exact dZ nk _ z.ao (cg.lay _ _) ⟨o,ho,nofun,cx.on _ _⟩
 .have iy:c7 s o=some (n,o+k):=by unfold c7;rw [hd];rfl
  have hle:=Gg ho iy
  (((with_reducible refine eu ?_ ?_ ?_);(· exact (by (simp only [ep]);have:=z.size;omega));(· exact x));replace z:=z.aj x;replace q0:=q0.over x;replace cg:=cg.over x;rw [ak h'])
  cases st with
  |none =>
   replace q0:Holds h' C (.row [.string s,.int .i64 o,.bool true] 279 false):=q0
   repeat' (first|simp only [aa,seval,j2,q0.lay]|((with_reducible refine ⟨z.eD.lay _ _,?_⟩);(intro _ h' zz x _);(simp only [dy,cU] at x);replace q0:=q0.over x;replace cg:=cg.over x;(replace z:=zz);(clear zz);rw [ak h']))
   refine dD (o:=2) q0 lM rfl rfl (by simp) rfl (λfU cx c=>?_)
   replace cx:Holds fU C (.row [.string s,.int .i64 o,.bool true] 279 false):=cx
   replace cg:=cg.cj c
   replace z:=z.ao.step c hC
   rw [ak fU]
   repeat' (simp only [aa,seval,j2,cx.lay])
   exact dZ rfl _ z.ao (cg.lay _ _) ⟨o,ho,nofun,cx.on _ _⟩
  |some p =>
   obtain rfl:=dI p rfl
   replace q0:Holds h' C (.row [.string s,.int .i64 p,.bool false] 279 false):=q0
   have hw:IntKind.i64.wrap ((p:Int)+(k:Int))=((p+k:Nat):Int):=by rw [wrap_i64 (by omega) (by omega)];omega
   repeat' (first|simp only [aa,seval,j2,q0.lay,bne_self_eq_false]|((with_reducible refine ⟨z.eD.lay _ _,?_⟩);(intro _ h' zz x _);(simp only [dy,cU] at x);replace q0:=q0.over x;replace cg:=cg.over x;(replace z:=zz);(clear zz);rw [ak h']))
   refine dD (o:=2) q0 lM rfl rfl (by simp) rfl (λfU cx c=>?_)
   replace cx:Holds fU C (.row [.string s,.int .i64 p,.bool false] 279 false):=cx
   replace cg:=cg.cj c
   replace z:=z.ao.step c hC
   rw [ak fU]
   repeat' (simp only [aa,seval,j2,cx.lay,hw])
   refine dD (o:=1) cx ur rfl rfl (by simp) rfl (λqF du c=>?_)
   replace du:Holds qF C (.row [.string s,.int .i64 (p+k:Nat),.bool false] 279 false):=du
   replace cg:=cg.cj c
   replace z:=z.ao.step c hC
   rw [ak qF]
   repeat' (simp only [aa,seval,j2])
   exact ea n (p+k) iy _ z.ao (cg.lay _ _) ⟨p+k,hle.1,λ_ e=>(Option.some.inj e).symm,du.on _ _⟩
theorem zuj (s:aA) (hs:s.size<=100000) (st:Option Nat) (C:Nat) (h hc:Heap) (z:Ext h hc) (hC:h.size<=C) (q:ck 279 hc C s st) (K:aF)
 (ea:∀ (x:aA) (o2:Nat),st.bind (eJ s)=some (x,o2)->∀ h',Ext h h'->Sm C hc h'->ck 279 h' C s (some o2)->K (.string x) h')
 (dZ:st.bind (eJ s)=none->∀ h',Ext h h'->Sm C hc h'->ck 279 h' C s none->K (.string ⟨#[]⟩) h'):Ok prog az ov 245 [.pointer (some ⟨C,0,none⟩)] hc K:=by
 have dI:∀ p,st=some p->p<=s.size:=λp hp=>q.elim λo x=>by rw [x.2.1 p hp];exact x.1
 have cg:=Sm.refl C hc
 rw [ak hc]
 have b9:∀ (s:aA) (h:Heap) (K:aF),aE (some (.string s)) h K=K (.string s) h:=λ_ _ _=>rfl
 refine Ok.au 54 (br Ch) ?_
 repeat' (simp only [aa,seval,fe])
 refine SS s hs st C h _ z.ao hC (q.lay _ _) _ (λn o2 iy h' z2 s2 q2=>?_) (λiy h' z2 s2 q2=>?_)
 .obtain ⟨ho,hn⟩:=zsr dI iy
  have D3:=zq4 iy
  obtain ⟨o',Qk,he,q0⟩:=q2
  obtain rfl:=he o2 rfl
  replace q0:Holds h' C (.row [.string s,.int .i64 o2,.bool false] 279 false):=q0
  replace z:=z2
  replace cg:=cg.iV s2
  rw [ak h']
  simp only [aa,seval,fe]
  rw [lB rfl rfl rfl (Sh _) rfl,wrap_i64 (by omega) (by omega)]
  simp only [aa,seval,fe]
  have L3:IntKind.i64.wrap ((s.size:Int) - (o2:Int))=((s.size - o2:Nat):Int):=by rw [wrap_i64 (by omega) (by omega)];omega
  have xq:IntKind.i64.wrap ((o2:Int)+(n:Int))=((o2+n:Nat):Int):=by rw [wrap_i64 (by omega) (by omega)];omega
  with_reducible first|refine hH (by simp only [fe]) z.ao ?_
  repeat' (first|simp only [aa,seval,fe,q0.lay,b9,L3]|((with_reducible apply bp) <;> intro _))
  .rename_i nz
   refine dD (o:=2) q0 lM rfl rfl (by simp) rfl (λfU cx c=>?_)
   replace cx:Holds fU C (.row [.string s,.int .i64 o2,.bool true] 279 false):=cx
   refine rY (A:=C) (by kernel_rfl) (by rw [cF];have:=z.size;omega) (by omega) (by simpa only [dy,cF,cU,jb,iN] using c) ?_
   replace cg:=cg.cj c
   replace z:=(z.mO [] (h'.size+0) (by have:=z.size;omega)).step c hC
   clear q0
   rw [ak fU]
   simp only [gf,seval,fe]
   ((with_reducible refine ⟨z.eD.lay _ _,?_⟩);(intro _ h' zz x _);(simp only [dy,cU] at x);replace cx:=cx.over x;replace cg:=cg.over x;(replace z:=zz);(clear zz);rw [ak h'])
   repeat' (simp only [aa,seval,fe,cx.lay])
   exact dZ (by rw [D3,ay (by omega)]) _ z.ao (cg.lay _ _) ⟨o2,ho,nofun,cx.on _ _⟩
  .rename_i nz
   have hle:n<=s.size - o2:=by omega
   rw [aC hle] at D3
   refine dD (o:=2) q0 lM rfl rfl (by simp) rfl (λfU cx c=>?_)
   replace cx:Holds fU C (.row [.string s,.int .i64 o2,.bool false] 279 false):=cx
   refine rY (A:=C) (by kernel_rfl) (by rw [cF];have:=z.size;omega) (by omega) (by simpa only [dy,cF,cU,jb,iN] using c) ?_
   replace cg:=cg.cj c
   replace z:=(z.mO [] (h'.size+0) (by have:=z.size;omega)).step c hC
   clear q0
   rw [ak fU]
   simp only [gf,seval,fe]
   ((with_reducible refine ⟨z.eD.lay _ _,?_⟩);(intro _ h' zz x _);(simp only [dy,cU] at x);replace cx:=cx.over x;replace cg:=cg.over x;(replace z:=zz);(clear zz);rw [ak h'])
   repeat' (simp only [aa,seval,fe,cx.lay,xq])
   have iv:=zwy s o2 (o2+n) (by omega) (by omega)
   refine dD (o:=1) cx ur rfl rfl (by simp) rfl (λqF du c=>?_)
   replace du:Holds qF C (.row [.string s,.int .i64 (o2+n:Nat),.bool false] 279 false):=du
   replace cg:=cg.cj c
   replace z:=z.ao.step c hC
   clear cx
   rw [ak qF]
   simp only [aa,seval,fe]
   with_reducible first|refine hH (by simp only [fe]) z.ao ?_
   repeat' (first|simp only [aa,seval,fe,du.lay,b9,iv]|((with_reducible refine ⟨z.eD.lay _ _,?_⟩);(intro _ h' zz x _);(simp only [dy,cU] at x);replace du:=du.over x;replace cg:=cg.over x;(replace z:=zz);(clear zz);rw [ak h']))
   exact ea _ _ D3 _ z.ao (cg.lay _ _) ⟨o2+n,by omega,λ_ e=>(Option.some.inj e).symm,du.on _ _⟩
 .have D3:=zq3 iy
  obtain ⟨o',Qk,he,q0⟩:=q2
  replace q0:Holds h' C (.row [.string s,.int .i64 o',.bool true] 279 false):=q0
  replace z:=z2
  replace cg:=cg.iV s2
  rw [ak h']
  simp only [aa,seval,fe]
  rw [lB rfl rfl rfl (Sh _) rfl,wrap_i64 (by omega) (by omega)]
  simp only [aa,seval,fe]
  with_reducible first|refine hH (by simp only [fe]) z.ao ?_
  repeat' (simp only [aa,seval,fe,q0.lay])
  refine dD (o:=2) q0 lM rfl rfl (by simp) rfl (λfU cx c=>?_)
  replace cx:Holds fU C (.row [.string s,.int .i64 o',.bool true] 279 false):=cx
  refine rY (A:=C) (by kernel_rfl) (by rw [cF];have:=z.size;omega) (by omega) (by simpa only [dy,cF,cU,jb,iN] using c) ?_
  replace cg:=cg.cj c
  replace z:=(z.mO [] (h'.size+0) (by have:=z.size;omega)).step c hC
  clear q0
  rw [ak fU]
  simp only [gf,seval,fe]
  ((with_reducible refine ⟨z.eD.lay _ _,?_⟩);(intro _ h' zz x _);(simp only [dy,cU] at x);replace cx:=cx.over x;replace cg:=cg.over x;(replace z:=zz);(clear zz);rw [ak h'])
  repeat' (simp only [aa,seval,fe,cx.lay])
  exact dZ D3 _ z.ao (cg.lay _ _) ⟨o',Qk,nofun,cx.on _ _⟩
theorem zt7 (s:aA) (hs:s.size<=100000) (st:Option Nat) (C:Nat) (h hc:Heap) (z:Ext h hc) (hC:h.size<=C) (q:ck 279 hc C s st) (K:aF)
 (ea:∀ (b:Bool) (o2:Nat),st.bind (gH s)=some (b,o2)->∀ h',Ext h h'->Sm C hc h'->ck 279 h' C s (some o2)->K (.bool b) h')
 (dZ:st.bind (gH s)=none->∀ h',Ext h h'->Sm C hc h'->ck 279 h' C s none->K (.bool false) h'):Ok prog az ov 247 [.pointer (some ⟨C,0,none⟩)] hc K:=by
 obtain ⟨o,ho,dI,q0⟩:=q
 have cg:=Sm.refl C hc
 rw [ak hc]
 have b9:∀ (s:aA) (h:Heap) (K:aF),aE (some (.string s)) h K=K (.string s) h:=λ_ _ _=>rfl
 refine Ok.au 55 (br Cj) ?_
 simp only [aa,seval,gu]
 with_reducible first|refine hH (by simp only [gu]) z.ao ?_
 cases st with
 |none =>
  replace q0:Holds hc C (.row [.string s,.int .i64 o,.bool true] 279 false):=q0
  repeat' (simp only [aa,seval,gu,q0.lay])
  refine dD (o:=2) q0 lM rfl rfl (by simp) rfl (λfU cx c=>?_)
  replace cx:Holds fU C (.row [.string s,.int .i64 o,.bool true] 279 false):=cx
  refine rY (A:=C) (by kernel_rfl) (by rw [cF];have:=z.size;omega) (by omega) (by simpa only [dy,cF,cU,jb,iN] using c) ?_
  replace cg:=cg.cj c
  replace z:=(z.mO [] (hc.size+0) (by have:=z.size;omega)).step c hC
  clear q0
  rw [ak fU]
  simp only [gf,seval,gu]
  ((with_reducible refine ⟨z.eD.lay _ _,?_⟩);(intro _ h' zz x _);(simp only [dy,cU] at x);replace cx:=cx.over x;replace cg:=cg.over x;(replace z:=zz);(clear zz);rw [ak h'])
  repeat' (simp only [aa,seval,gu,cx.lay])
  exact dZ rfl _ z.ao (cg.lay _ _) ⟨o,ho,nofun,cx.on _ _⟩
 |some p =>
  obtain rfl:=dI p rfl
  replace q0:Holds hc C (.row [.string s,.int .i64 p,.bool false] 279 false):=q0
  have j6:=Nw s p
  repeat' (first|simp only [aa,seval,gu,q0.lay,b9]|((with_reducible first|apply bp|apply sj) <;> intro _)|((with_reducible apply pE);(· exact underlying9);(· rfl);(· rfl);(· omega);(· omega)))
  .rename_i he
   refine dD (o:=2) q0 lM rfl rfl (by simp) rfl (λfU cx c=>?_)
   replace cx:Holds fU C (.row [.string s,.int .i64 p,.bool true] 279 false):=cx
   refine rY (A:=C) (by kernel_rfl) (by rw [cF];have:=z.size;omega) (by omega) (by simpa only [dy,cF,cU,jb,iN] using c) ?_
   replace cg:=cg.cj c
   replace z:=(z.mO [] (hc.size+0) (by have:=z.size;omega)).step c hC
   clear q0
   rw [ak fU]
   simp only [gf,seval,gu]
   ((with_reducible refine ⟨z.eD.lay _ _,?_⟩);(intro _ h' zz x _);(simp only [dy,cU] at x);replace cx:=cx.over x;replace cg:=cg.over x;(replace z:=zz);(clear zz);rw [ak h'])
   repeat' (simp only [aa,seval,gu,cx.lay])
   exact dZ (by show gH s p=none;unfold gH;exact ay (by omega)) _ z.ao (cg.lay _ _) ⟨p,ho,nofun,cx.on _ _⟩
  .rename_i he hg
   rw [F3] at hg
   refine dD (o:=2) q0 lM rfl rfl (by simp) rfl (λfU cx c=>?_)
   replace cx:Holds fU C (.row [.string s,.int .i64 p,.bool true] 279 false):=cx
   refine rY (A:=C) (by kernel_rfl) (by rw [cF];have:=z.size;omega) (by omega) (by simpa only [dy,cF,cU,jb,iN] using c) ?_
   replace cg:=cg.cj c
   replace z:=(z.mO [] (hc.size+0) (by have:=z.size;omega)).step c hC
   clear q0
   rw [ak fU]
   simp only [gf,seval,gu]
   ((with_reducible refine ⟨z.eD.lay _ _,?_⟩);(intro _ h' zz x _);(simp only [dy,cU] at x);replace cx:=cx.over x;replace cg:=cg.over x;(replace z:=zz);(clear zz);rw [ak h'])
   repeat' (simp only [aa,seval,gu,cx.lay])
   exact dZ (by show gH s p=none;unfold gH;exact ay (by omega)) _ z.ao (cg.lay _ _) ⟨p,ho,nofun,cx.on _ _⟩
  .rename_i he hg
   rw [F3] at hg
   have rH:=ec p (by omega)
   have Ad:IntKind.i64.wrap (((p+1:Nat):Int) - 1)=((p:Nat):Int):=by rw [wrap_i64 (by omega) (by omega)];omega
   refine dD (o:=2) q0 lM rfl rfl (by simp) rfl (λfU cx c=>?_)
   replace cx:Holds fU C (.row [.string s,.int .i64 p,.bool false] 279 false):=cx
   refine rY (A:=C) (by kernel_rfl) (by rw [cF];have:=z.size;omega) (by omega) (by simpa only [dy,cF,cU,jb,iN] using c) ?_
   replace cg:=cg.cj c
   replace z:=(z.mO [] (hc.size+0) (by have:=z.size;omega)).step c hC
   clear q0
   rw [ak fU]
   simp only [gf,seval,gu]
   ((with_reducible refine ⟨z.eD.lay _ _,?_⟩);(intro _ h' zz x _);(simp only [dy,cU] at x);replace cx:=cx.over x;replace cg:=cg.over x;(replace z:=zz);(clear zz);rw [ak h'])
   repeat' (simp only [aa,seval,gu,cx.lay,rH])
   refine dD (o:=1) cx ur rfl rfl (by simp) rfl (λqF du c=>?_)
   replace du:Holds qF C (.row [.string s,.int .i64 (p+1:Nat),.bool false] 279 false):=du
   replace cg:=cg.cj c
   replace z:=z.ao.step c hC
   clear cx
   rw [ak qF]
   simp only [aa,seval,gu]
   with_reducible first|refine hH (by simp only [gu]) z.ao ?_
   repeat' (first|simp only [aa,seval,gu,du.lay,b9,Ad]|((with_reducible apply sj) <;> intro _)|((with_reducible apply pE);(· exact underlying9);(· rfl);(· rfl);(· omega);(· omega))|((with_reducible refine ⟨z.eD.lay _ _,?_⟩);(intro _ h' zz x _);(simp only [dy,cU] at x);replace du:=du.over x;replace cg:=cg.over x;(replace z:=zz);(clear zz);rw [ak h']))
   all_goals first
    |(have hq:gG s p=1:=by assumption
      rw [F3] at hq
      exact ea true (p+1) (by show gH s p=_;unfold gH;rw [aC (by omega),wE (show dm s p=1 by omega)]) _ z.ao (cg.lay _ _) ⟨p+1,by omega,λ_ e=>(Option.some.inj e).symm,du.on _ _⟩)
    |(have hq:¬ gG s p=1:=by assumption
      rw [F3] at hq
      exact ea false (p+1) (by show gH s p=_;unfold gH;rw [aC (by omega),pK (show ¬ dm s p=1 by omega)]) _ z.ao (cg.lay _ _) ⟨p+1,by omega,λ_ e=>(Option.some.inj e).symm,du.on _ _⟩)
end Go.Proofs.YtjildadoepadeaaGreatDoor

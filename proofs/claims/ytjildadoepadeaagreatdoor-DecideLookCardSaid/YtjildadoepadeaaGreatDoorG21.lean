/- Founded reasons and their ranks: prefixes, and more facts and clauses. No condition. -/
import Derived.Test.YtjildadoepadeaaGreatDoorG17
set_option linter.unusedSimpArgs false
set_option linter.unusedVariables false
namespace Go.Am
def atR (l:List el) (a:ae):Int:=ka (λx=>decide (x.atom=a)) l
end Go.Am
namespace Go.Am
variable {a:ae}
structure Good (l:List fE):Prop where
 up:zwO l l.length
 ok:∀ b∈l,b.term.v=false/\b.term.s≠⟨#[]⟩
theorem zzr (x:fE) (l:List fE) (s:aA):zzf (x::l) s=if x.var=s then (x.term,true) else zzf l s:=by
 unfold zzf
 rw [List.find?_cons]
 by_cases h:x.var=s <;> simp [h]
theorem zzv {l:List fE} {s:aA} {t:aH} (h:zzf l s=(t,true)):⟨s,t⟩∈l:=by
 induction l with
 |nil=>cases h
 |cons x l ih =>
  rw [zzr] at h
  split at h
  .rename_i hx
   cases h
   subst hx
   exact qj
  .exact sq _ (ih h)
theorem Good.get {l:List fE} (h:Good l) {s:aA} {t:aH} (e:zzf l s=(t,true)):t.v=false/\t.s≠⟨#[]⟩:=h.ok _ (zzv e)
def LeB (l m:List fE):Prop:=∀ s t,zzf l s=(t,true)->zzf m s=(t,true)
theorem LeB.refl (l:List fE):LeB l l:=λ_ _ h=>h
theorem LeB.trans {a b c:List fE} (h:LeB a b) (g:LeB b c):LeB a c:=λs t e=>g s t (h s t e)
theorem UE (h0:0<=a.n) (h4:a.n<=4):a.bR=a.n.toNat:=by unfold ae.bR;omega
theorem Nz (a:ae):a.bR<=4:=by unfold ae.bR;omega
theorem bu.var (h:bu a) {i:Nat} (hi:i < a.bR) (hv:(a.arg i).v=true):(a.arg i).s≠⟨#[]⟩:=by
 have:=h.gY i (eT.1 hi).2
 unfold cC at this
 rw [aC hv] at this
 intro e
 have hp:=this.pos
 rw [e] at hp
 exact absurd hp (by decide)
theorem lU.term (h:lU a) {i:Nat} (hi:i < a.bR):(a.arg i).v=false/\(a.arg i).s≠⟨#[]⟩/\eU (a.arg i).s:=by
 have hv:=jj.1 h.ground i hi
 have:=h.valid.gY i (eT.1 hi).2
 unfold cC at this
 rw [ay (by rw [hv];decide)] at this
 refine ⟨hv,λe=>?_,this⟩
 have hp:=this.1.pos
 rw [e] at hp
 exact absurd hp (by decide)
theorem lU.plain {a:ae} (h:lU a):gp a:=h.valid.valid.plain
section
variable {cl:List bA} {facts:cR}
end
end Go.Am
namespace Go.Am
variable {cs:List ai} {ro:Bool} {u:TypeId}
section
variable {Z:Type} {r:aQ Z} {h0 h1:Heap} {v:ai} {l:List Z} {t e:TypeId} {A k bytes:Nat} {z:List ai} {T:bm} {bs:List bd} {w:Nat} {K:aF}
theorem Ou (hd:T.desc t=some (.slice e)) (hi:T.info e=some (k,bytes,z)) (Ab:r.k=k) (hk:0 < k) {i c:Nat} {x:Z} (hg:bs[i]? = some (.row cs u ro)) (hz:h0.size<=h1.size) (f:Ow r h0 h1 e A v l) (hr:r.R (kill A (h1.lay bs w)) cs x)
 (hb:(l.length+1)*bytes<=140737488355328) (hl:l.length+1<=1152921504606846976)
 (hK:∀ v' h' A',Ow r h0 h' e A' v' (l++[x])->gL A (h1.lay bs w) h'->(A'=A\/h1.size<=A')->K v' h'):cK (lA T t v (.slice (some ⟨h1.size+i,0,none⟩) 1 c) (h1.lay bs w)) K:=by
 have nz:(h1.lay bs w).get (h1.size+i)=some (.row cs u ro):=by rw [iL];exact hg
 obtain ⟨hs,yk⟩:=Up (r:=r) (A:=A) (c:=c) (y:=x) (by omega) nz hr
 exact zvn hd hi Ab hk hz f (by rw [<- Ab];exact hs) yk hb hl hK
theorem dD {n o:Nat} {vs:List ai} {v:ai} (q:Holds h1 A (.row cs u false)) (hs:c9 T t=some n) (hv:v.cells.toList=vs) (hl:vs.length=n) (hb:o+n<=cs.length) (b8:vs.all one=true)
 (hK:∀ h',Holds h' A (.row (an cs o vs) u false)->gL A (h1.lay bs w) h'->K undef h'):lr (gm T t (.pointer (some ⟨A,o,none⟩)) v (h1.lay bs w)) K:=by
 have hg:(h1.lay bs w).get A=some (.row cs u false):=q.lay bs w
 have hA:A < (h1.lay bs w).size:=(q.on bs w).lt
 have cA:v.cells.size=n:=by rw [<- hl,<- hv];simp
 have he:gm T t (.pointer (some ⟨A,o,none⟩)) v (h1.lay bs w)=some ((h1.lay bs w).set A (.row (an cs o vs) u false)):=by
  unfold gm
  simp only [hs,cM]
  rw [aC cA,hv]
  unfold nQ
  rw [hg]
  simp only
  rw [aC (by simp only [cY,jW];exact ⟨by omega,b8⟩)]
 rw [he]
 refine hK _ ⟨by rw [Heap.size_set];exact hA,by rw [Heap.aL _ _ _ _ hA,aC rfl]⟩ ⟨by rw [Heap.size_set];exact bg _,λB hB aV=>by rw [Heap.aL _ _ _ _ hA,ay aV],by rw [Heap.bY];omega⟩
end
section
variable {P:Program} {T:bm} {ov:Ov}
end
theorem F9 {h:Heap} {A B:Nat} (aV:B≠A):(kill A h).get B=h.get B:=by
 unfold kill
 split
 .rename_i hA
  rw [Heap.aL _ _ _ _ hA,ay aV]
 .rfl
theorem HY {h:Heap} {A:Nat} (hA:A < h.size):(kill A h).get A=some .dead:=by
 unfold kill
 rw [aC hA,Heap.aL _ _ _ _ hA,aC rfl]
structure OT (B:Heap) (A:Nat) (h:Heap):Prop where
 lt:A < h.size
 inc:dz B (kill A h)
section
variable {B h1 h2:Heap} {A A':Nat} {bs:List bd} {w:Nat}
theorem OT.all (k:OT B A h1):dz B h1:=k.inc.trans (ztV _ _)
theorem zzb {a b:Heap} (i:dz a b):dz (kill A a) (kill A b):=⟨by rw [AD,AD];exact i.size,λC hC hd=>by
 by_cases hCA:C=A
 .subst hCA
  rw [AD] at hC
  exact absurd (HY hC) hd
 .rw [AD] at hC
  rw [F9 hCA] at hd ⊢
  rw [F9 hCA]
  exact i.get C hC hd⟩
theorem OT.mono (k:OT B A h1) (i:dz h1 h2):OT B A h2:=⟨eR k.lt i.size,k.inc.trans (zzb i)⟩
theorem OT.over (k:OT B A h1) (x:Ext (h1.lay bs w) h2):OT B A h2:=k.mono ((dz.lay _ _ _).trans x.inc)
theorem OT.lay (k:OT B A h1) (bs:List bd) (w:Nat):OT B A (h1.lay bs w):=k.mono (dz.lay _ _ _)
theorem OT.step (k:OT B A h1) (c:gL A (h1.lay bs w) h2) (hA:A'=A\/h1.size<=A') (hl:A' < h2.size):OT B A' h2:=by
 have hs:h1.size<=(h1.lay bs w).size:=by rw [cF];omega
 refine ⟨hl,⟨by rw [AD];exact iG k.all.size (iG hs c.size),λC hC hd=>?_⟩⟩
 have h3:=k.inc.get C hC hd
 have hCA:C≠A:=by
  intro e
  subst e
  rw [HY k.lt] at h3
  exact hd h3.symm
 have hC1:C < h1.size:=eR hC k.all.size
 rw [F9 hCA] at h3
 rw [F9 (by rcases hA with e|e <;> omega),c.get C (by omega) hCA,uz _ _ _ hC1]
 exact h3
theorem OT.trans (k:OT B A h1) (k2:OT (kill A (h1.lay bs w)) A' h2):OT B A' h2:=⟨k2.lt,(k.lay bs w).inc.trans k2.inc⟩
theorem OT.holds {C:Nat} (k:OT B A h1) (q:Holds B C (.row cs u ro)):Holds h1 C (.row cs u ro)/\C≠A:=by
 refine ⟨q.mono k.all,λe=>?_⟩
 have:=k.inc.get C q.lt (by rw [q.get];nofun)
 rw [e,HY k.lt,<- e,q.get] at this
 cases this
theorem OT.keep {C:Nat} (k:OT (kill A (h1.lay bs w)) A' h2) (q:Holds h1 C (.row cs u ro)) (aV:C≠A):Holds h2 C (.row cs u ro)/\C≠A' :=
 k.holds ⟨by rw [AD];exact (q.on bs w).lt,(F9 aV).trans (q.on bs w).get⟩
end
section
variable {T:bm} {t e:TypeId} {v:ai} {B h1:Heap} {bs:List bd} {w:Nat} {K:aF} {kd:IntKind} {i:Int}
end
theorem dz.JC {a b d:Heap} {A:Nat} (i:dz a b) (c:gL A b d) (hA:a.size<=A):dz a d:=⟨iG i.size c.size,λB hB hd=>(c.get B (eR hB i.size) (by omega)).trans (i.get B hB hd)⟩
theorem NB {s:aA} (h:um s):s.size<=300:=by have:=h.len;omega
theorem cC.size {t:aH} (h:cC t):t.s.size<=300:=by
 unfold cC at h
 split at h
 .have:=h.len;omega
 .exact NB h.1
theorem zru {a:ae} (h0:a.says.size<=300) (h1:a.pred.size<=300) (h:∀ i,i < 4->(a.arg i).s.size<=300):a.dF=true:=by
 unfold ae.dF
 simp only [cY,jW]
 exact ⟨h0,h1,h 0 (by omega),h 1 (by omega),h 2 (by omega),h 3 (by omega)⟩
theorem bu.dF {a:ae} (h:bu a):a.dF=true:=by
 refine zru (NB h.says.1.1) (NB h.pred.1.1) (λi hi=>?_)
 by_cases hn:(i:Int) < a.n
 .exact (h.gY i hn).size
 .rw [h.rest i (by omega) hi]
  decide
end Go.Am
namespace Go.Am
def ey {κ:Type} (kv:κ->ai) (h:Heap) (A:Nat) (met:List κ):Prop:=∃ es clock,∃ ks:List κ,Holds h A (.map es clock)/\es.map (λx:MapEntry=>x.key)=ks.map kv/\(∀ a,a∈ks↔a∈met)/\∀ x∈es,x.val=.agg ⟨[]⟩
section
variable {κ:Type} {kv:κ->ai} {T:bm} {t kt et:TypeId} {A:Nat} {met:List κ} {a:κ} {h1:Heap} {bs:List bd} {w:Nat} {K:aF} {z:ai}
theorem Nh [DecidableEq κ] (heq:∀ x y:κ,dS T 20 kt (kv x) (kv y)=some (decide (x=y))):∀ (es:List MapEntry) (ks:List κ) (i:Nat),es.map (λx:MapEntry=>x.key)=ks.map kv ->
 (a ∉ ks->nR T kt (kv a) es i=some none)/\(a∈ks->∃ (j:Nat) (e:MapEntry),nR T kt (kv a) es i=some (some (i+j,e.val))/\es[j]? = some e/\e.key=kv a)
 | [],ks,i,hk=>by
  cases ks with
  |nil=>exact ⟨λ_=>rfl,λh=>by simp at h⟩
  |cons k ks=>simp at hk
 |e::es,ks,i,hk=>by
  cases ks with
  |nil=>simp at hk
  |cons k ks =>
   simp only [zzs,List.cons.injEq] at hk
   obtain ⟨h1,h2⟩:=Nh heq es ks (i+1) hk.2
   unfold nR
   rw [hk.1,heq]
   by_cases hx:a=k
   .subst hx
    refine ⟨λhn=>absurd qj hn,λ_=>⟨0,e,by simp,rfl,hk.1⟩⟩
   .simp only [pK hx,cM,fb,if_false,i0,hx,false_or]
    refine ⟨h1,λha=>?_⟩
    obtain ⟨j,e',g1,g2,g3⟩:=h2 ha
    refine ⟨j+1,e',?_,by simpa using g2,g3⟩
    rw [g1,show i+1+j=i+(j+1) by omega]
    simp
theorem Oh [DecidableEq κ] (hp:∀ x:κ,plain (kv x)=true) (a:κ) (heq:∀ x y:κ,dS T 20 kt (kv x) (kv y)=some (decide (x=y))):sk T kt (kv a)=true:=by
 unfold sk
 rw [hp,heq]
 simp
theorem ey.over (m:ey kv h1 A met) {h2:Heap} (x:Ext (h1.lay bs w) h2):ey kv h2 A met:=by
 obtain ⟨es,cl,ks,m1,m2,m3⟩:=m
 exact ⟨es,cl,ks,m1.over x,m2,m3⟩
theorem ey.ext (m:ey kv h1 A met) {h2:Heap} (x:Ext h1 h2):ey kv h2 A met:=by
 obtain ⟨es,cl,ks,m1,m2,m3⟩:=m
 exact ⟨es,cl,ks,⟨eR m1.lt x.size,(x.get A m1.lt).trans m1.get⟩,m2,m3⟩
theorem ey.bG (m:ey kv h1 A met) {B:Nat} {h2:Heap} (c:gL B (h1.lay bs w) h2) (aV:A≠B):ey kv h2 A met:=by
 obtain ⟨es,cl,ks,m1,m2,m3⟩:=m
 exact ⟨es,cl,ks,m1.bG c aV,m2,m3⟩
theorem ey.lay (m:ey kv h1 A met) (bs:List bd) (w:Nat):ey kv (h1.lay bs w) A met:=by
 obtain ⟨es,cl,ks,m1,m2,m3⟩:=m
 exact ⟨es,cl,ks,m1.on bs w,m2,m3⟩
theorem ey.new (q:Holds h1 A (.map [] 0)):ey kv h1 A ([]:List κ):=⟨[],0,[],q,rfl,λ_=>Iff.rfl,λ_ hx=>by simp at hx⟩
theorem ey.lt (m:ey kv h1 A met):A < h1.size:=by
 obtain ⟨es,cl,ks,m1,m2,m3⟩:=m
 exact m1.lt
theorem ey.hold {H:Heap} (m:ey kv h1 A met) (hO:∀ A b,Holds h1 A b->Holds H A b):ey kv H A met:=by
 obtain ⟨es,cl,ks,m1,m2,m3⟩:=m
 exact ⟨es,cl,ks,hO _ _ m1,m2,m3⟩
theorem ey.same {Eh:List κ} (m:ey kv h1 A met) (h:∀ a,a∈met↔a∈Eh):ey kv h1 A Eh:=by
 obtain ⟨es,cl,ks,m1,m2,m3,m4⟩:=m
 exact ⟨es,cl,ks,m1,m2,λa=>(m3 a).trans (h a),m4⟩
theorem zqc [DecidableEq κ] (m:ey kv h1 A met) (hp:∀ x:κ,plain (kv x)=true) (hd:T.desc t=some (.map kt et)) (heq:∀ x y:κ,dS T 20 kt (kv x) (kv y)=some (decide (x=y))) (hz:T.zero et=some (.agg ⟨[]⟩))
 (ea:a∈met->K (.tuple #[.agg ⟨[]⟩,.bool true]) (h1.lay bs w)) (gR:a ∉ met->K (.tuple #[.agg ⟨[]⟩,.bool false]) (h1.lay bs w)):aE (y9 T t (.map (some A)) (kv a) true (h1.lay bs w)) (h1.lay bs w) K:=by
 obtain ⟨es,cl,ks,m1,m2,m3,m4⟩:=m
 obtain ⟨f1,f2⟩:=Nh (a:=a) heq es ks 0 m2
 have hg:(h1.lay bs w).get A=some (.map es cl):=m1.lay bs w
 unfold y9
 simp only [hd,Oh hp a heq,if_true,IZ,hg,cM]
 by_cases ha:a∈ks
 .obtain ⟨j,e,hr,hx,_⟩:=f2 ha
  rw [hr]
  have fj:e.val=.agg ⟨[]⟩:=m4 e (ig hx)
  simp only [fj,cM,gJ,if_true]
  exact ea ((m3 a).1 ha)
 .rw [f1 ha]
  simp only [hz,cM,gJ,if_true]
  exact gR (λhh=>ha ((m3 a).2 hh))
theorem zuJ [DecidableEq κ] (m:ey kv h1 A met) (hp:∀ x:κ,plain (kv x)=true) (vB:∀ x:κ,yY (kv x) (kv x)=true) (hd:T.desc t=some (.map kt et)) (heq:∀ x y:κ,dS T 20 kt (kv x) (kv y)=some (decide (x=y)))
 (hK:∀ h',ey kv h' A (a::met)->gL A (h1.lay bs w) h'->K undef h'):lr (nP T t (.map (some A)) (kv a) (.agg ⟨[]⟩) (h1.lay bs w)) K:=by
 obtain ⟨es,cl,ks,m1,m2,m3,m4⟩:=m
 obtain ⟨f1,f2⟩:=Nh (a:=a) heq es ks 0 m2
 have hg:(h1.lay bs w).get A=some (.map es cl):=m1.lay bs w
 have hA:A < (h1.lay bs w).size:=(m1.on bs w).lt
 have hc:∀ b,gL A (h1.lay bs w) ((h1.lay bs w).set A b):=λb=>⟨by rw [Heap.size_set];exact bg _,λB hB aV=>by rw [Heap.aL _ _ _ _ hA,ay aV],by rw [Heap.bY];omega⟩
 have hh:∀ b,Holds ((h1.lay bs w).set A b) A b:=λb=>⟨by rw [Heap.size_set];exact hA,by rw [Heap.aL _ _ _ _ hA,aC rfl]⟩
 by_cases ha:a∈ks
 .obtain ⟨j,e,hr,hx,Dl⟩:=f2 ha
  have he:nP T t (.map (some A)) (kv a) (.agg ⟨[]⟩) (h1.lay bs w)=some ((h1.lay bs w).set A (.map (es.modify j λe=>{ e with key:=kv a,val:=.agg ⟨[]⟩ }) cl)):=by
   unfold nP
   simp only [hd,hg,Oh hp a heq,if_true,hr,cM,jX,hx,Dl,vB]
  rw [he]
  refine hK _ ⟨_,cl,ks,hh _,?_,λb=>?_,λx Hl=>?_⟩ (hc _)
  .rw [<- m2]
   refine uO (λi=>?_)
   simp only [lE,zzh]
   by_cases gj:j=i
   .subst gj
    rw [hx]
    simp [Dl]
   .cases es[i]? <;> simp [gj]
  .rw [m3,i0]
   exact ⟨.inr,λh=>h.elim (λe=>e ▸ (m3 a).1 ha) id⟩
  .obtain ⟨i,hi⟩:=zn Hl
   rw [zzh] at hi
   cases tJ:es[i]? with
   |none=>rw [tJ] at hi;simp at hi
   |some y =>
    rw [tJ] at hi
    simp only [Option.map_eq_map,gJ,de] at hi
    by_cases gj:j=i
    .rw [aC gj] at hi;rw [<- hi]
    .rw [ay gj] at hi;rw [<- hi];exact m4 y (ig tJ)
 .have he:nP T t (.map (some A)) (kv a) (.agg ⟨[]⟩) (h1.lay bs w)=some ((h1.lay bs w).set A (.map (es++[{ key:=kv a,val:=.agg ⟨[]⟩,born:=cl }]) (cl+1))):=by
   unfold nP
   simp only [hd,hg,Oh hp a heq,if_true,f1 ha,cM]
  rw [he]
  refine hK _ ⟨_,_,ks++[a],hh _,by simp [m2],λb=>?_,λx hx=>?_⟩ (hc _)
  .rw [pM,td,i0,m3]
   exact Or.comm
  .rcases pM.1 hx with hx|hx
   .exact m4 x hx
   .rw [td.1 hx]
end
end Go.Am

/- Walks: maps of atoms. No condition. -/
import Derived.Test.YtnkmeidmdaidhaaGreatDoorG13
set_option linter.unusedSimpArgs false
set_option linter.unusedVariables false
namespace Go.Am
section
variable {P:Program} {T:bN} {ov:Ov} {d:Option Tmp} {ty:TypeId} {pos:String} {af:Array Edge} {g:Option (Nat × Bool)} {e:Env} {h:Heap} {K:aO}
theorem Lm (t:TypeId):cO P T ov ⟨d,.makeMap t none,ty,pos,af,g⟩ e h K=K (.map (some h.size)) (h.push (.map [] 0)):=rfl
theorem LB (t:TypeId) (x k:Operand) (ok:Bool):cO P T ov ⟨d,.lookup t x k ok,ty,pos,af,g⟩ e h K=aM (uq T t (bE e x) (bE e k) ok h) h K:=by rw [<- xS];rfl
theorem Lc (t:TypeId) (m k x:Operand):cO P T ov ⟨d,.mapUpdate t m k x,ty,pos,af,g⟩ e h K=kX (nN T t (bE e m) (bE e k) (bE e x) h) K:=by
 show dz ((nN T t (bE e m) (bE e k) (bE e x) h).map λh'=>(undef,h')) K=_
 cases nN T t (bE e m) (bE e k) (bE e x) h <;> rfl
end
def eR (h:Heap) (A:Nat) (met:aN):Prop:=∃ es clock,∃ ks:aN,ak h A (.map es clock)/\es.map (λx:MapEntry=>x.key)=ks.map ae.val/\(∀ a,a∈ks↔a∈met)/\∀ x∈es,x.val=.agg ⟨[]⟩
theorem WT {T:bN} {kt:TypeId} {a:ae} (heq:∀ x y:ae,dy T 20 kt x.val y.val=some (decide (x=y))):∀ (es:List MapEntry) (ks:aN) (i:Nat),es.map (λx:MapEntry=>x.key)=ks.map ae.val ->
 (a ∉ ks->lH T kt a.val es i=some none)/\(a∈ks->∃ r,lH T kt a.val es i=some (some r)/\∃ x∈es,x.val=r.2)
 | [],ks,i,hk=>by
  cases ks with
  |nil=>exact ⟨λ_=>rfl,λh=>by simp at h⟩
  |cons k ks=>simp at hk
 |e::es,ks,i,hk=>by
  cases ks with
  |nil=>simp at hk
  |cons k ks =>
   simp only [qG,List.cons.injEq] at hk
   obtain ⟨h1,h2⟩:=WT heq es ks (i+1) hk.2
   unfold lH
   rw [hk.1,heq]
   by_cases hx:a=k
   .subst hx
    simp
   .simp only [tO hx,dH,gH,if_false,db,hx,false_or]
    refine ⟨h1,λha=>?_⟩
    obtain ⟨r,g1,x,g2,g3⟩:=h2 ha
    exact ⟨r,g1,x,.inr g2,g3⟩
theorem zt4 (a:ae):plain a.val=true:=rfl
theorem Ph {T:bN} {kt:TypeId} (a:ae) (heq:∀ x y:ae,dy T 20 kt x.val y.val=some (decide (x=y))):rJ T kt a.val=true:=by
 unfold rJ
 rw [zt4,heq]
 simp
section
variable {T:bN} {t kt et:TypeId} {A:Nat} {met:aN} {a:ae} {h1:Heap} {bs:List aZ} {w:Nat} {K:aO} {z:ai}
theorem eR.over (m:eR h1 A met) {h2:Heap} (x:Ext (h1.lay bs w) h2):eR h2 A met:=by
 obtain ⟨es,cl,ks,m1,m2,m3⟩:=m
 exact ⟨es,cl,ks,m1.over x,m2,m3⟩
theorem eR.ext (m:eR h1 A met) {h2:Heap} (x:Ext h1 h2):eR h2 A met:=by
 obtain ⟨es,cl,ks,m1,m2,m3⟩:=m
 exact ⟨es,cl,ks,⟨dt m1.lt x.size,(x.get A m1.lt).trans m1.get⟩,m2,m3⟩
theorem eR.top {h2:Heap} {i:Nat} (x:Ext (h1.lay bs w) h2) (hi:bs[i]? = some (.map [] 0)):eR h2 (h1.size+i) []:=⟨[],0,[],ak.top x hi,rfl,λ_=>Iff.rfl,λ_ hx=>by simp at hx⟩
theorem zqy (m:eR h1 A met) (hd:T.desc t=some (.map kt et)) (heq:∀ x y:ae,dy T 20 kt x.val y.val=some (decide (x=y))) (hz:T.zero et=some (.agg ⟨[]⟩))
 (hK:K (.tuple #[.agg ⟨[]⟩,.bool (decide (a∈met))]) (h1.lay bs w)):aM (uq T t (.map (some A)) a.val true (h1.lay bs w)) (h1.lay bs w) K:=by
 obtain ⟨es,cl,ks,m1,m2,m3,m4⟩:=m
 obtain ⟨f1,f2⟩:=WT (a:=a) heq es ks 0 m2
 have hg:(h1.lay bs w).get A=some (.map es cl):=m1.lay bs w
 unfold uq
 simp only [hd,Ph a heq,if_true,Fq,hg,dH]
 by_cases ha:a∈ks
 .obtain ⟨r,hr,x,hx,hxr⟩:=f2 ha
  rw [hr]
  have:=hK
  rw [sH ((m3 a).1 ha)] at this
  have fo:r.2=.agg ⟨[]⟩:=by rw [<- hxr];exact m4 x hx
  simp only [fo,dH,kK,if_true]
  exact this
 .rw [f1 ha]
  simp only [hz,dH,kK,if_true]
  have:=hK
  rw [tO (λhh=>ha ((m3 a).2 hh))] at this
  exact this
theorem zrf {h:Heap} (m:eR h A met) (hd:T.desc t=some (.map kt et)) (heq:∀ x y:ae,dy T 20 kt x.val y.val=some (decide (x=y))) (ha:a ∉ met) :
 ∃ h',nN T t (.map (some A)) a.val (.agg ⟨[]⟩) h=some h'/\eR h' A (a::met)/\fc A h h':=by
 obtain ⟨es,cl,ks,m1,m2,m3,m4⟩:=m
 obtain ⟨f1,f2⟩:=WT (a:=a) heq es ks 0 m2
 have hn:a ∉ ks:=λhh=>ha ((m3 a).1 hh)
 refine ⟨h.set A (.map (es++[{ key:=a.val,val:=.agg ⟨[]⟩,born:=cl }]) (cl+1)),?_,⟨_,_,ks++[a],⟨by rw [Heap.size_set];exact m1.lt,by rw [Heap.aH _ _ _ _ m1.lt,aB rfl]⟩,by simp [m2],λb=>?_,λx hx=>?_⟩,?_,?_,?_⟩
 .unfold nN
  simp only [hd,m1.get,Ph a heq,if_true,f1 hn,dH]
 .simp [m3,Or.comm]
 .rcases iT.1 hx with hx|hx
  .exact m4 x hx
  .rw [eM.1 hx]
 .rw [Heap.size_set];exact aQ _
 .intro B hB aL
  rw [Heap.aH _ _ _ _ m1.lt,aA aL]
 .rw [Heap.cA];omega
end
theorem EG {T:bN} {t u:TypeId} {A n:Nat} {cs:List ai} {v:ai} {h1:Heap} {bs:List aZ} {w:Nat} {K:aO} (q:ak h1 A (.row cs u false)) (hs:dF T t=some n) (hv:v.cells.toList.length=n) (hl:cs.length=n) (cF:v.cells.toList.all one=true)
 (hK:∀ h',ak h' A (.row v.cells.toList u false)->fc A (h1.lay bs w) h'->K undef h'):kX (iQ T t (.pointer (some ⟨A,0,none⟩)) v (h1.lay bs w)) K:=by
 have hg:(h1.lay bs w).get A=some (.row cs u false):=q.lay bs w
 have hA:A < (h1.lay bs w).size:=(q.on bs w).lt
 have dV:v.cells.size=n:=by rw [<- hv];simp
 have hw:nQ A 0 v.cells.toList (h1.lay bs w)=some ((h1.lay bs w).set A (.row v.cells.toList u false)):=by
  unfold nQ
  rw [hg]
  simp only
  rw [aB (by simp only [dW,ix];exact ⟨by omega,cF⟩)]
  congr 2
  unfold aI
  rw [Fj,yk,B8 (by omega),bD]
 have he:iQ T t (.pointer (some ⟨A,0,none⟩)) v (h1.lay bs w)=some ((h1.lay bs w).set A (.row v.cells.toList u false)):=by
  unfold iQ
  simp only [hs,dH]
  rw [aB dV]
  exact hw
 rw [he]
 refine hK _ ⟨by rw [Heap.size_set];exact hA,by rw [Heap.aH _ _ _ _ hA,aB rfl]⟩ ⟨by rw [Heap.size_set];exact aQ _,λB hB aL=>by rw [Heap.aH _ _ _ _ hA,aA aL],by rw [Heap.cA];omega⟩
theorem OU {Z:Type} {r:aG Z} {h:Heap} {v:ai} {l:List Z} (f:Sl r h v l):v.cells.toList=[v]:=by
 rcases f with ⟨rfl,_⟩|⟨A,o,c,row,u,ro,rfl,_⟩ <;> rfl
theorem zsB (v:ai) (h:Heap) (K:aO):aM (some v) h K=K v h:=rfl
theorem K8 (t:ay):t.val.cells.toList=t.cells:=rfl
end Go.Am
namespace Go.Am
def dp {κ:Type} (kv:κ->ai) (h:Heap) (A:Nat) (met:List κ):Prop:=∃ es clock,∃ ks:List κ,ak h A (.map es clock)/\es.map (λx:MapEntry=>x.key)=ks.map kv/\(∀ a,a∈ks↔a∈met)/\∀ x∈es,x.val=.agg ⟨[]⟩
section
variable {κ:Type} {kv:κ->ai} {T:bN} {t kt et:TypeId} {A:Nat} {met:List κ} {a:κ} {h1:Heap} {bs:List aZ} {w:Nat} {K:aO} {z:ai}
theorem Wh [DecidableEq κ] (heq:∀ x y:κ,dy T 20 kt (kv x) (kv y)=some (decide (x=y))):∀ (es:List MapEntry) (ks:List κ) (i:Nat),es.map (λx:MapEntry=>x.key)=ks.map kv ->
 (a ∉ ks->lH T kt (kv a) es i=some none)/\(a∈ks->∃ (j:Nat) (e:MapEntry),lH T kt (kv a) es i=some (some (i+j,e.val))/\es[j]? = some e/\e.key=kv a)
 | [],ks,i,hk=>by
  cases ks with
  |nil=>exact ⟨λ_=>rfl,λh=>by simp at h⟩
  |cons k ks=>simp at hk
 |e::es,ks,i,hk=>by
  cases ks with
  |nil=>simp at hk
  |cons k ks =>
   simp only [qG,List.cons.injEq] at hk
   obtain ⟨h1,h2⟩:=Wh heq es ks (i+1) hk.2
   unfold lH
   rw [hk.1,heq]
   by_cases hx:a=k
   .subst hx
    refine ⟨λhn=>absurd nU hn,λ_=>⟨0,e,by simp,rfl,hk.1⟩⟩
   .simp only [tO hx,dH,gH,if_false,db,hx,false_or]
    refine ⟨h1,λha=>?_⟩
    obtain ⟨j,e',g1,g2,g3⟩:=h2 ha
    refine ⟨j+1,e',?_,by simpa using g2,g3⟩
    rw [g1,show i+1+j=i+(j+1) by omega]
    simp
theorem Xh [DecidableEq κ] (hp:∀ x:κ,plain (kv x)=true) (a:κ) (heq:∀ x y:κ,dy T 20 kt (kv x) (kv y)=some (decide (x=y))):rJ T kt (kv a)=true:=by
 unfold rJ
 rw [hp,heq]
 simp
theorem dp.over (m:dp kv h1 A met) {h2:Heap} (x:Ext (h1.lay bs w) h2):dp kv h2 A met:=by
 obtain ⟨es,cl,ks,m1,m2,m3⟩:=m
 exact ⟨es,cl,ks,m1.over x,m2,m3⟩
theorem dp.ext (m:dp kv h1 A met) {h2:Heap} (x:Ext h1 h2):dp kv h2 A met:=by
 obtain ⟨es,cl,ks,m1,m2,m3⟩:=m
 exact ⟨es,cl,ks,⟨dt m1.lt x.size,(x.get A m1.lt).trans m1.get⟩,m2,m3⟩
theorem dp.bB (m:dp kv h1 A met) {B:Nat} {h2:Heap} (c:fc B (h1.lay bs w) h2) (aL:A≠B):dp kv h2 A met:=by
 obtain ⟨es,cl,ks,m1,m2,m3⟩:=m
 exact ⟨es,cl,ks,m1.bB c aL,m2,m3⟩
theorem dp.lay (m:dp kv h1 A met) (bs:List aZ) (w:Nat):dp kv (h1.lay bs w) A met:=by
 obtain ⟨es,cl,ks,m1,m2,m3⟩:=m
 exact ⟨es,cl,ks,m1.on bs w,m2,m3⟩
theorem dp.new (q:ak h1 A (.map [] 0)):dp kv h1 A ([]:List κ):=⟨[],0,[],q,rfl,λ_=>Iff.rfl,λ_ hx=>by simp at hx⟩
theorem dp.lt (m:dp kv h1 A met):A < h1.size:=by
 obtain ⟨es,cl,ks,m1,m2,m3⟩:=m
 exact m1.lt
theorem dp.hold {H:Heap} (m:dp kv h1 A met) (hO:∀ A b,ak h1 A b->ak H A b):dp kv H A met:=by
 obtain ⟨es,cl,ks,m1,m2,m3⟩:=m
 exact ⟨es,cl,ks,hO _ _ m1,m2,m3⟩
theorem dp.Br (m:dp kv h1 A met) (row:List ai) (u:TypeId) (ro:Bool):h1.get A≠some (.row row u ro):=by
 obtain ⟨es,cl,ks,m1,m2,m3⟩:=m
 rw [m1.get]
 nofun
theorem Sl.Kj {Z:Type} {r:aG Z} {v:ai} {l:List Z} (f:Sl r h1 v l) (dP:∀ h h' cs x,r.R h cs x->r.R h' cs x) (m:dp kv h1 A met) {h2:Heap} (c:fc A (h1.lay bs w) h2):Sl r h2 v l:=by
 rcases f with f|⟨B,o,n,row,u,ro,e1,e2,e3,e4,e5,e6⟩
 .exact .inl f
 .have aL:B≠A:=λe=>m.Br row u ro (e ▸ e5)
  have hs:=c.size
  rw [br] at hs
  refine .inr ⟨B,o,n,row,u,ro,e1,e2,e3,by omega,?_,λi x hx=>?_⟩
  .rw [c.get B (by rw [br];omega) aL,sd _ _ _ e4,e5]
  .obtain ⟨cs,g1,g2⟩:=e6 i x hx
   exact ⟨cs,g1,dP _ _ _ _ g2⟩
theorem dp.same {m8:List κ} (m:dp kv h1 A met) (h:∀ a,a∈met↔a∈m8):dp kv h1 A m8:=by
 obtain ⟨es,cl,ks,m1,m2,m3,m4⟩:=m
 exact ⟨es,cl,ks,m1,m2,λa=>(m3 a).trans (h a),m4⟩
theorem ztH [DecidableEq κ] (m:dp kv h1 A met) (hp:∀ x:κ,plain (kv x)=true) (hd:T.desc t=some (.map kt et)) (heq:∀ x y:κ,dy T 20 kt (kv x) (kv y)=some (decide (x=y))) (hz:T.zero et=some (.agg ⟨[]⟩))
 (lR:a∈met->K (.tuple #[.agg ⟨[]⟩,.bool true]) (h1.lay bs w)) (lz:a ∉ met->K (.tuple #[.agg ⟨[]⟩,.bool false]) (h1.lay bs w)):aM (uq T t (.map (some A)) (kv a) true (h1.lay bs w)) (h1.lay bs w) K:=by
 obtain ⟨es,cl,ks,m1,m2,m3,m4⟩:=m
 obtain ⟨f1,f2⟩:=Wh (a:=a) heq es ks 0 m2
 have hg:(h1.lay bs w).get A=some (.map es cl):=m1.lay bs w
 unfold uq
 simp only [hd,Xh hp a heq,if_true,Fq,hg,dH]
 by_cases ha:a∈ks
 .obtain ⟨j,e,hr,hx,_⟩:=f2 ha
  rw [hr]
  have fo:e.val=.agg ⟨[]⟩:=m4 e (ek hx)
  simp only [fo,dH,kK,if_true]
  exact lR ((m3 a).1 ha)
 .rw [f1 ha]
  simp only [hz,dH,kK,if_true]
  exact lz (λhh=>ha ((m3 a).2 hh))
theorem zyR [DecidableEq κ] (m:dp kv h1 A met) (hp:∀ x:κ,plain (kv x)=true) (JB:∀ x:κ,B3 (kv x) (kv x)=true) (hd:T.desc t=some (.map kt et)) (heq:∀ x y:κ,dy T 20 kt (kv x) (kv y)=some (decide (x=y)))
 (hK:∀ h',dp kv h' A (a::met)->fc A (h1.lay bs w) h'->K undef h'):kX (nN T t (.map (some A)) (kv a) (.agg ⟨[]⟩) (h1.lay bs w)) K:=by
 obtain ⟨es,cl,ks,m1,m2,m3,m4⟩:=m
 obtain ⟨f1,f2⟩:=Wh (a:=a) heq es ks 0 m2
 have hg:(h1.lay bs w).get A=some (.map es cl):=m1.lay bs w
 have hA:A < (h1.lay bs w).size:=(m1.on bs w).lt
 have hc:∀ b,fc A (h1.lay bs w) ((h1.lay bs w).set A b):=λb=>⟨by rw [Heap.size_set];exact aQ _,λB hB aL=>by rw [Heap.aH _ _ _ _ hA,aA aL],by rw [Heap.cA];omega⟩
 have hh:∀ b,ak ((h1.lay bs w).set A b) A b:=λb=>⟨by rw [Heap.size_set];exact hA,by rw [Heap.aH _ _ _ _ hA,aB rfl]⟩
 by_cases ha:a∈ks
 .obtain ⟨j,e,hr,hx,Zf⟩:=f2 ha
  have he:nN T t (.map (some A)) (kv a) (.agg ⟨[]⟩) (h1.lay bs w)=some ((h1.lay bs w).set A (.map (es.modify j λe=>{ e with key:=kv a,val:=.agg ⟨[]⟩ }) cl)):=by
   unfold nN
   simp only [hd,hg,Xh hp a heq,if_true,hr,dH,i5,hx,Zf,JB]
  rw [he]
  refine hK _ ⟨_,cl,ks,hh _,?_,λb=>?_,λx Uc=>?_⟩ (hc _)
  .rw [<- m2]
   refine xi (λi=>?_)
   simp only [lk,GU]
   by_cases fk:j=i
   .subst fk
    rw [hx]
    simp [Zf]
   .cases es[i]? <;> simp [fk]
  .rw [m3,db]
   exact ⟨.inr,λh=>h.elim (λe=>e ▸ (m3 a).1 ha) id⟩
  .obtain ⟨i,hi⟩:=E6 Uc
   rw [GU] at hi
   cases II:es[i]? with
   |none=>rw [II] at hi;simp at hi
   |some y =>
    rw [II] at hi
    simp only [Option.map_eq_map,kK,dR] at hi
    by_cases fk:j=i
    .rw [aB fk] at hi;rw [<- hi]
    .rw [aA fk] at hi;rw [<- hi];exact m4 y (ek II)
 .have he:nN T t (.map (some A)) (kv a) (.agg ⟨[]⟩) (h1.lay bs w)=some ((h1.lay bs w).set A (.map (es++[{ key:=kv a,val:=.agg ⟨[]⟩,born:=cl }]) (cl+1))):=by
   unfold nN
   simp only [hd,hg,Xh hp a heq,if_true,f1 ha,dH]
  rw [he]
  refine hK _ ⟨_,_,ks++[a],hh _,by simp [m2],λb=>?_,λx hx=>?_⟩ (hc _)
  .rw [iT,eM,db,m3]
   exact Or.comm
  .rcases iT.1 hx with hx|hx
   .exact m4 x hx
   .rw [eM.1 hx]
end
end Go.Am

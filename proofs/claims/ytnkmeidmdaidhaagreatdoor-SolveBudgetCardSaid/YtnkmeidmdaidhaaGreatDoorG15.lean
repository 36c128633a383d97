/- Walks: maps of atoms. No condition. -/
import Derived.Test.YtnkmeidmdaidhaaGreatDoorG14
set_option linter.unusedSimpArgs false
set_option linter.unusedVariables false
namespace Go.Am
section
variable {P:Program} {T:bx} {ov:Ov} {d:Option Tmp} {ty:TypeId} {pos:String} {af:Array Edge} {g:Option (Nat × Bool)} {e:Env} {h:Heap} {K:aL}
theorem Jy (t:TypeId):bU P T ov ⟨d,.makeMap t none,ty,pos,af,g⟩ e h K=K (.map (some h.size)) (h.push (.map [] 0)):=rfl
theorem JL (t:TypeId) (x k:Operand) (ok:Bool):bU P T ov ⟨d,.lookup t x k ok,ty,pos,af,g⟩ e h K=aK (rZ T t (br e x) (br e k) ok h) h K:=by rw [<- vQ];rfl
theorem Jv (t:TypeId) (m k x:Operand):bU P T ov ⟨d,.mapUpdate t m k x,ty,pos,af,g⟩ e h K=jM (mr T t (br e m) (br e k) (br e x) h) K:=by
 show da ((mr T t (br e m) (br e k) (br e x) h).map λh'=>(undef,h')) K=_
 cases mr T t (br e m) (br e k) (br e x) h <;> rfl
end
def fj (h:Heap) (A:Nat) (met:aU):Prop:=∃ es clock,∃ ks:aU,ak h A (.map es clock)/\es.map (λx:MapEntry=>x.key)=ks.map ae.val/\(∀ a,a∈ks↔a∈met)/\∀ x∈es,x.val=.agg ⟨[]⟩
theorem Uc {T:bx} {kt:TypeId} {a:ae} (heq:∀ x y:ae,cV T 20 kt x.val y.val=some (decide (x=y))):∀ (es:List MapEntry) (ks:aU) (i:Nat),es.map (λx:MapEntry=>x.key)=ks.map ae.val ->
 (a ∉ ks->j6 T kt a.val es i=some none)/\(a∈ks->∃ r,j6 T kt a.val es i=some (some r)/\∃ x∈es,x.val=r.2)
 | [],ks,i,hk=>by
  cases ks with
  |nil=>exact ⟨λ_=>rfl,λh=>by simp at h⟩
  |cons k ks=>simp at hk
 |e::es,ks,i,hk=>by
  cases ks with
  |nil=>simp at hk
  |cons k ks =>
   simp only [pR,List.cons.injEq] at hk
   obtain ⟨h1,h2⟩:=Uc heq es ks (i+1) hk.2
   unfold j6
   rw [hk.1,heq]
   by_cases hx:a=k
   .subst hx
    simp
   .simp only [su hx,dz,fF,if_false,dg,hx,false_or]
    refine ⟨h1,λha=>?_⟩
    obtain ⟨r,g1,x,g2,g3⟩:=h2 ha
    exact ⟨r,g1,x,.inr g2,g3⟩
theorem zs7 (a:ae):plain a.val=true:=rfl
theorem MU {T:bx} {kt:TypeId} (a:ae) (heq:∀ x y:ae,cV T 20 kt x.val y.val=some (decide (x=y))):pL T kt a.val=true:=by
 unfold pL
 rw [zs7,heq]
 simp
section
variable {T:bx} {t kt et:TypeId} {A:Nat} {met:aU} {a:ae} {h1:Heap} {bs:List bc} {w:Nat} {K:aL} {z:ai}
theorem fj.over (m:fj h1 A met) {h2:Heap} (x:Ext (h1.lay bs w) h2):fj h2 A met:=by
 obtain ⟨es,cl,ks,m1,m2,m3⟩:=m
 exact ⟨es,cl,ks,m1.over x,m2,m3⟩
theorem fj.ext (m:fj h1 A met) {h2:Heap} (x:Ext h1 h2):fj h2 A met:=by
 obtain ⟨es,cl,ks,m1,m2,m3⟩:=m
 exact ⟨es,cl,ks,⟨dU m1.lt x.size,(x.get A m1.lt).trans m1.get⟩,m2,m3⟩
theorem fj.top {h2:Heap} {i:Nat} (x:Ext (h1.lay bs w) h2) (hi:bs[i]? = some (.map [] 0)):fj h2 (h1.size+i) []:=⟨[],0,[],ak.top x hi,rfl,λ_=>Iff.rfl,λ_ hx=>by simp at hx⟩
theorem zpE (m:fj h1 A met) (hd:T.desc t=some (.map kt et)) (heq:∀ x y:ae,cV T 20 kt x.val y.val=some (decide (x=y))) (hz:T.zero et=some (.agg ⟨[]⟩))
 (hK:K (.tuple #[.agg ⟨[]⟩,.bool (decide (a∈met))]) (h1.lay bs w)):aK (rZ T t (.map (some A)) a.val true (h1.lay bs w)) (h1.lay bs w) K:=by
 obtain ⟨es,cl,ks,m1,m2,m3,m4⟩:=m
 obtain ⟨f1,f2⟩:=Uc (a:=a) heq es ks 0 m2
 have hg:(h1.lay bs w).get A=some (.map es cl):=m1.lay bs w
 unfold rZ
 simp only [hd,MU a heq,if_true,Du,hg,dz]
 by_cases ha:a∈ks
 .obtain ⟨r,hr,x,hx,hxr⟩:=f2 ha
  rw [hr]
  have:=hK
  rw [wm ((m3 a).1 ha)] at this
  have eQ:r.2=.agg ⟨[]⟩:=by rw [<- hxr];exact m4 x hx
  simp only [eQ,dz,jT,if_true]
  exact this
 .rw [f1 ha]
  simp only [hz,dz,jT,if_true]
  have:=hK
  rw [su (λhh=>ha ((m3 a).2 hh))] at this
  exact this
theorem zqo {h:Heap} (m:fj h A met) (hd:T.desc t=some (.map kt et)) (heq:∀ x y:ae,cV T 20 kt x.val y.val=some (decide (x=y))) (ha:a ∉ met) :
 ∃ h',mr T t (.map (some A)) a.val (.agg ⟨[]⟩) h=some h'/\fj h' A (a::met)/\fW A h h':=by
 obtain ⟨es,cl,ks,m1,m2,m3,m4⟩:=m
 obtain ⟨f1,f2⟩:=Uc (a:=a) heq es ks 0 m2
 have hn:a ∉ ks:=λhh=>ha ((m3 a).1 hh)
 refine ⟨h.set A (.map (es++[{ key:=a.val,val:=.agg ⟨[]⟩,born:=cl }]) (cl+1)),?_,⟨_,_,ks++[a],⟨by rw [Heap.size_set];exact m1.lt,by rw [Heap.aM _ _ _ _ m1.lt,aG rfl]⟩,by simp [m2],λb=>?_,λx hx=>?_⟩,?_,?_,?_⟩
 .unfold mr
  simp only [hd,m1.get,MU a heq,if_true,f1 hn,dz]
 .simp [m3,Or.comm]
 .rcases ju.1 hx with hx|hx
  .exact m4 x hx
  .rw [ek.1 hx]
 .rw [Heap.size_set];exact aS _
 .intro B hB aO
  rw [Heap.aM _ _ _ _ m1.lt,aA aO]
 .rw [Heap.cC];omega
end
theorem CT {T:bx} {t u:TypeId} {A n:Nat} {cs:List ai} {v:ai} {h1:Heap} {bs:List bc} {w:Nat} {K:aL} (q:ak h1 A (.row cs u false)) (hs:de T t=some n) (hv:v.cells.toList.length=n) (hl:cs.length=n) (bW:v.cells.toList.all one=true)
 (hK:∀ h',ak h' A (.row v.cells.toList u false)->fW A (h1.lay bs w) h'->K undef h'):jM (gN T t (.pointer (some ⟨A,0,none⟩)) v (h1.lay bs w)) K:=by
 have hg:(h1.lay bs w).get A=some (.row cs u false):=q.lay bs w
 have hA:A < (h1.lay bs w).size:=(q.on bs w).lt
 have dC:v.cells.size=n:=by rw [<- hv];simp
 have hw:np A 0 v.cells.toList (h1.lay bs w)=some ((h1.lay bs w).set A (.row v.cells.toList u false)):=by
  unfold np
  rw [hg]
  simp only
  rw [aG (by simp only [dj,iC];exact ⟨by omega,bW⟩)]
  congr 2
  unfold aJ
  rw [Ds,yy,C8 (by omega),bu]
 have he:gN T t (.pointer (some ⟨A,0,none⟩)) v (h1.lay bs w)=some ((h1.lay bs w).set A (.row v.cells.toList u false)):=by
  unfold gN
  simp only [hs,dz]
  rw [aG dC]
  exact hw
 rw [he]
 refine hK _ ⟨by rw [Heap.size_set];exact hA,by rw [Heap.aM _ _ _ _ hA,aG rfl]⟩ ⟨by rw [Heap.size_set];exact aS _,λB hB aO=>by rw [Heap.aM _ _ _ _ hA,aA aO],by rw [Heap.cC];omega⟩
theorem Mu {Z:Type} {r:aF Z} {h:Heap} {v:ai} {l:List Z} (f:Sl r h v l):v.cells.toList=[v]:=by
 rcases f with ⟨rfl,_⟩|⟨A,o,c,row,u,ro,rfl,_⟩ <;> rfl
theorem zrF (v:ai) (h:Heap) (K:aL):aK (some v) h K=K v h:=rfl
theorem Jn (t:az):t.val.cells.toList=t.cells:=rfl
end Go.Am
namespace Go.Am
def ea {κ:Type} (kv:κ->ai) (h:Heap) (A:Nat) (met:List κ):Prop:=∃ es clock,∃ ks:List κ,ak h A (.map es clock)/\es.map (λx:MapEntry=>x.key)=ks.map kv/\(∀ a,a∈ks↔a∈met)/\∀ x∈es,x.val=.agg ⟨[]⟩
section
variable {κ:Type} {kv:κ->ai} {T:bx} {t kt et:TypeId} {A:Nat} {met:List κ} {a:κ} {h1:Heap} {bs:List bc} {w:Nat} {K:aL} {z:ai}
theorem TO [DecidableEq κ] (heq:∀ x y:κ,cV T 20 kt (kv x) (kv y)=some (decide (x=y))):∀ (es:List MapEntry) (ks:List κ) (i:Nat),es.map (λx:MapEntry=>x.key)=ks.map kv ->
 (a ∉ ks->j6 T kt (kv a) es i=some none)/\(a∈ks->∃ (j:Nat) (e:MapEntry),j6 T kt (kv a) es i=some (some (i+j,e.val))/\es[j]? = some e/\e.key=kv a)
 | [],ks,i,hk=>by
  cases ks with
  |nil=>exact ⟨λ_=>rfl,λh=>by simp at h⟩
  |cons k ks=>simp at hk
 |e::es,ks,i,hk=>by
  cases ks with
  |nil=>simp at hk
  |cons k ks =>
   simp only [pR,List.cons.injEq] at hk
   obtain ⟨h1,h2⟩:=TO heq es ks (i+1) hk.2
   unfold j6
   rw [hk.1,heq]
   by_cases hx:a=k
   .subst hx
    refine ⟨λhn=>absurd pO hn,λ_=>⟨0,e,by simp,rfl,hk.1⟩⟩
   .simp only [su hx,dz,fF,if_false,dg,hx,false_or]
    refine ⟨h1,λha=>?_⟩
    obtain ⟨j,e',g1,g2,g3⟩:=h2 ha
    refine ⟨j+1,e',?_,by simpa using g2,g3⟩
    rw [g1,show i+1+j=i+(j+1) by omega]
    simp
theorem UO [DecidableEq κ] (hp:∀ x:κ,plain (kv x)=true) (a:κ) (heq:∀ x y:κ,cV T 20 kt (kv x) (kv y)=some (decide (x=y))):pL T kt (kv a)=true:=by
 unfold pL
 rw [hp,heq]
 simp
theorem ea.over (m:ea kv h1 A met) {h2:Heap} (x:Ext (h1.lay bs w) h2):ea kv h2 A met:=by
 obtain ⟨es,cl,ks,m1,m2,m3⟩:=m
 exact ⟨es,cl,ks,m1.over x,m2,m3⟩
theorem ea.ext (m:ea kv h1 A met) {h2:Heap} (x:Ext h1 h2):ea kv h2 A met:=by
 obtain ⟨es,cl,ks,m1,m2,m3⟩:=m
 exact ⟨es,cl,ks,⟨dU m1.lt x.size,(x.get A m1.lt).trans m1.get⟩,m2,m3⟩
theorem ea.bC (m:ea kv h1 A met) {B:Nat} {h2:Heap} (c:fW B (h1.lay bs w) h2) (aO:A≠B):ea kv h2 A met:=by
 obtain ⟨es,cl,ks,m1,m2,m3⟩:=m
 exact ⟨es,cl,ks,m1.bC c aO,m2,m3⟩
theorem ea.lay (m:ea kv h1 A met) (bs:List bc) (w:Nat):ea kv (h1.lay bs w) A met:=by
 obtain ⟨es,cl,ks,m1,m2,m3⟩:=m
 exact ⟨es,cl,ks,m1.on bs w,m2,m3⟩
theorem ea.new (q:ak h1 A (.map [] 0)):ea kv h1 A ([]:List κ):=⟨[],0,[],q,rfl,λ_=>Iff.rfl,λ_ hx=>by simp at hx⟩
theorem ea.lt (m:ea kv h1 A met):A < h1.size:=by
 obtain ⟨es,cl,ks,m1,m2,m3⟩:=m
 exact m1.lt
theorem ea.hold {H:Heap} (m:ea kv h1 A met) (hO:∀ A b,ak h1 A b->ak H A b):ea kv H A met:=by
 obtain ⟨es,cl,ks,m1,m2,m3⟩:=m
 exact ⟨es,cl,ks,hO _ _ m1,m2,m3⟩
theorem ea.H6 (m:ea kv h1 A met) (row:List ai) (u:TypeId) (ro:Bool):h1.get A≠some (.row row u ro):=by
 obtain ⟨es,cl,ks,m1,m2,m3⟩:=m
 rw [m1.get]
 nofun
theorem Sl.Ip {Z:Type} {r:aF Z} {v:ai} {l:List Z} (f:Sl r h1 v l) (dF:∀ h h' cs x,r.R h cs x->r.R h' cs x) (m:ea kv h1 A met) {h2:Heap} (c:fW A (h1.lay bs w) h2):Sl r h2 v l:=by
 rcases f with f|⟨B,o,n,row,u,ro,e1,e2,e3,e4,e5,e6⟩
 .exact .inl f
 .have aO:B≠A:=λe=>m.H6 row u ro (e ▸ e5)
  have hs:=c.size
  rw [bo] at hs
  refine .inr ⟨B,o,n,row,u,ro,e1,e2,e3,by omega,?_,λi x hx=>?_⟩
  .rw [c.get B (by rw [bo];omega) aO,xW _ _ _ e4,e5]
  .obtain ⟨cs,g1,g2⟩:=e6 i x hx
   exact ⟨cs,g1,dF _ _ _ _ g2⟩
theorem ea.same {pz:List κ} (m:ea kv h1 A met) (h:∀ a,a∈met↔a∈pz):ea kv h1 A pz:=by
 obtain ⟨es,cl,ks,m1,m2,m3,m4⟩:=m
 exact ⟨es,cl,ks,m1,m2,λa=>(m3 a).trans (h a),m4⟩
theorem zsJ [DecidableEq κ] (m:ea kv h1 A met) (hp:∀ x:κ,plain (kv x)=true) (hd:T.desc t=some (.map kt et)) (heq:∀ x y:κ,cV T 20 kt (kv x) (kv y)=some (decide (x=y))) (hz:T.zero et=some (.agg ⟨[]⟩))
 (kh:a∈met->K (.tuple #[.agg ⟨[]⟩,.bool true]) (h1.lay bs w)) (jX:a ∉ met->K (.tuple #[.agg ⟨[]⟩,.bool false]) (h1.lay bs w)):aK (rZ T t (.map (some A)) (kv a) true (h1.lay bs w)) (h1.lay bs w) K:=by
 obtain ⟨es,cl,ks,m1,m2,m3,m4⟩:=m
 obtain ⟨f1,f2⟩:=TO (a:=a) heq es ks 0 m2
 have hg:(h1.lay bs w).get A=some (.map es cl):=m1.lay bs w
 unfold rZ
 simp only [hd,UO hp a heq,if_true,Du,hg,dz]
 by_cases ha:a∈ks
 .obtain ⟨j,e,hr,hx,_⟩:=f2 ha
  rw [hr]
  have eQ:e.val=.agg ⟨[]⟩:=m4 e (fV hx)
  simp only [eQ,dz,jT,if_true]
  exact kh ((m3 a).1 ha)
 .rw [f1 ha]
  simp only [hz,dz,jT,if_true]
  exact jX (λhh=>ha ((m3 a).2 hh))
theorem zxE [DecidableEq κ] (m:ea kv h1 A met) (hp:∀ x:κ,plain (kv x)=true) (Hy:∀ x:κ,zL (kv x) (kv x)=true) (hd:T.desc t=some (.map kt et)) (heq:∀ x y:κ,cV T 20 kt (kv x) (kv y)=some (decide (x=y)))
 (hK:∀ h',ea kv h' A (a::met)->fW A (h1.lay bs w) h'->K undef h'):jM (mr T t (.map (some A)) (kv a) (.agg ⟨[]⟩) (h1.lay bs w)) K:=by
 obtain ⟨es,cl,ks,m1,m2,m3,m4⟩:=m
 obtain ⟨f1,f2⟩:=TO (a:=a) heq es ks 0 m2
 have hg:(h1.lay bs w).get A=some (.map es cl):=m1.lay bs w
 have hA:A < (h1.lay bs w).size:=(m1.on bs w).lt
 have hc:∀ b,fW A (h1.lay bs w) ((h1.lay bs w).set A b):=λb=>⟨by rw [Heap.size_set];exact aS _,λB hB aO=>by rw [Heap.aM _ _ _ _ hA,aA aO],by rw [Heap.cC];omega⟩
 have hh:∀ b,ak ((h1.lay bs w).set A b) A b:=λb=>⟨by rw [Heap.size_set];exact hA,by rw [Heap.aM _ _ _ _ hA,aG rfl]⟩
 by_cases ha:a∈ks
 .obtain ⟨j,e,hr,hx,W4⟩:=f2 ha
  have he:mr T t (.map (some A)) (kv a) (.agg ⟨[]⟩) (h1.lay bs w)=some ((h1.lay bs w).set A (.map (es.modify j λe=>{ e with key:=kv a,val:=.agg ⟨[]⟩ }) cl)):=by
   unfold mr
   simp only [hd,hg,UO hp a heq,if_true,hr,dz,ia,hx,W4,Hy]
  rw [he]
  refine hK _ ⟨_,cl,ks,hh _,?_,λb=>?_,λx RW=>?_⟩ (hc _)
  .rw [<- m2]
   refine uY (λi=>?_)
   simp only [jS,ES]
   by_cases ej:j=i
   .subst ej
    rw [hx]
    simp [W4]
   .cases es[i]? <;> simp [ej]
  .rw [m3,dg]
   exact ⟨.inr,λh=>h.elim (λe=>e ▸ (m3 a).1 ha) id⟩
  .obtain ⟨i,hi⟩:=Dd RW
   rw [ES] at hi
   cases GP:es[i]? with
   |none=>rw [GP] at hi;simp at hi
   |some y =>
    rw [GP] at hi
    simp only [Option.map_eq_map,jT,dy] at hi
    by_cases ej:j=i
    .rw [aG ej] at hi;rw [<- hi]
    .rw [aA ej] at hi;rw [<- hi];exact m4 y (fV GP)
 .have he:mr T t (.map (some A)) (kv a) (.agg ⟨[]⟩) (h1.lay bs w)=some ((h1.lay bs w).set A (.map (es++[{ key:=kv a,val:=.agg ⟨[]⟩,born:=cl }]) (cl+1))):=by
   unfold mr
   simp only [hd,hg,UO hp a heq,if_true,f1 ha,dz]
  rw [he]
  refine hK _ ⟨_,_,ks++[a],hh _,by simp [m2],λb=>?_,λx hx=>?_⟩ (hc _)
  .rw [ju,ek,dg,m3]
   exact Or.comm
  .rcases ju.1 hx with hx|hx
   .exact m4 x hx
   .rw [ek.1 hx]
end
end Go.Am

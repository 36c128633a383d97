/- Walks: interfaces, entries of maps. No condition. -/
import Derived.Test.YtjildadoepadeaaGreatDoorG31
import Derived.Test.YtjildadoepadeaaGreatDoorG32
import Derived.Test.YtjildadoepadeaaGreatDoorGFormed
set_option linter.unusedSimpArgs false
set_option linter.unusedVariables false
namespace Go.Am
variable {H:Heap}
section
variable {P:Program} {T:bm} {ov:Ov} {d:Option Tmp} {ty:TypeId} {pos:String} {af:Array Edge} {g:Option (Nat × Bool)} {e:Env} {h:Heap} {K:aF}
end
def aaa (h:Heap) (A:Nat) (kv:List (aA × ai)):Prop:=∃ es clock,Holds h A (.map es clock)/\es.map (λx:MapEntry=>(x.key,x.val))=kv.map (λp=>(Value.string p.1,p.2))/\(kv.map Prod.fst).Nodup/\(es.map (·.born)).Nodup/\∀ x∈es,x.born < clock
def zzt (kv:List (aA × ai)) (a:aA):Option ai:=(kv.find? (λp=>decide (a=p.1))).map (·.2)
def aaf (kv:List (aA × ai)) (a:aA) (v:ai):List (aA × ai):=if (zzt kv a).isSome then kv.map (λp=>if a=p.1 then (a,v) else p) else kv++[(a,v)]
theorem zzM (p:aA × ai) (kv:List (aA × ai)) (a:aA):zzt (p::kv) a=if a=p.1 then some p.2 else zzt kv a:=by
 unfold zzt
 by_cases h:a=p.1
 .rw [List.find?_cons_of_pos (by simpa using h),aC h];rfl
 .rw [List.find?_cons_of_neg (by simpa using h),ay h]
theorem aap {kv:List (aA × ai)} {a:aA}:zzt kv a=none↔a ∉ kv.map Prod.fst:=by
 induction kv with
 |nil=>simp [zzt]
 |cons p kv ih =>
  rw [zzM]
  by_cases h:a=p.1
  .simp [h]
  .rw [ay h,ih]
   simp [h]
theorem zzB (kv:List (aA × ai)) (a:aA) (v:ai):(aaf kv a v).map Prod.fst=if (zzt kv a).isSome then kv.map Prod.fst else kv.map Prod.fst++[a]:=by
 unfold aaf
 split
 .rw [List.map_map]
  congr 1
  funext p
  simp only [Function.comp]
  split
  .rename_i h;exact h
  .rfl
 .rw [List.map_append];rfl
theorem zzl {kv:List (aA × ai)} (hn:(kv.map Prod.fst).Nodup) (a:aA) (v:ai):((aaf kv a v).map Prod.fst).Nodup:=by
 rw [zzB]
 split
 .exact hn
 .rename_i hs
  rw [List.nodup_append]
  refine ⟨hn,by simp,λx hx y hy=>?_⟩
  rw [td] at hy
  subst hy
  intro e
  subst e
  have:zzt kv x=none:=by
   cases hl:zzt kv x with
   |none=>rfl
   |some w=>rw [hl] at hs;exact absurd rfl hs
  exact aap.1 this hx
theorem UI {T:bm} {kt:TypeId} (hd:T.desc kt=some .string) (x y:aA):dS T 20 kt (.string x) (.string y)=some (decide (x=y)):=by
 unfold dS
 simp only [hd]
 congr 1
 rw [Bool.eq_iff_iff,decide_eq_true_iff,beq_iff_eq]
 exact ⟨λh=>ByteArray.ext (Bf.1 h),λh=>by rw [h]⟩
theorem zzu {kv:List (aA × ai)} {a:aA} {v w:ai}:∀ {j:Nat},kv[j]? = some (a,w)->(∀ k p,k < j->kv[k]? = some p->a≠p.1)->(kv.map Prod.fst).Nodup->kv.map (λp=>if a=p.1 then (a,v) else p)=kv.modify j (λp=>(a,v)):=by
 induction kv with
 |nil=>intro j h;simp at h
 |cons p kv ih =>
  intro j hj aS hn
  rw [zzs,List.nodup_cons] at hn
  cases j with
  |zero =>
   rw [zza] at hj
   cases hj
   rw [zzs,aC rfl,List.modify_zero_cons]
   congr 1
   rw [zzi (g:=id),List.map_id]
   intro q hq
   rw [ay]
   .rfl
   .intro e
    exact hn.1 (by show a∈_;rw [e];exact List.mem_map_of_mem (f:=Prod.fst) hq)
  |succ j =>
   rw [zzs,ay (aS 0 p (by omega) rfl),List.modify_succ_cons,ih (by simpa using hj) (λk q hk hq=>aS (k+1) q (by omega) (by simpa using hq)) hn.2]
section
variable {T:bm} {t kt et:TypeId} {A:Nat} {kv:List (aA × ai)} {a:aA} {v:ai} {h h1 h2:Heap} {bs:List bd} {w:Nat} {K:aF}
theorem aaa.lt (m:aaa h A kv):A < h.size:=by obtain ⟨es,cl,m1,m2⟩:=m;exact m1.lt
theorem aaa.hold (m:aaa h A kv) (hO:∀ b,Holds h A b->Holds H A b):aaa H A kv:=by
 obtain ⟨es,cl,m1,m2⟩:=m
 exact ⟨es,cl,hO _ m1,m2⟩
theorem aaa.over (m:aaa h1 A kv) (x:Ext (h1.lay bs w) h2):aaa h2 A kv:=m.hold λb q=>q.over x
theorem aaa.lay (m:aaa h1 A kv) (bs:List bd) (w:Nat):aaa (h1.lay bs w) A kv:=m.hold λb q=>q.on bs w
theorem aaa.new (q:Holds h A (.map [] 0)):aaa h A []:=⟨[],0,q,rfl,by simp,by simp,λ_ hx=>by simp at hx⟩
theorem aaa.bG (m:aaa h1 A kv) {B:Nat} (c:gL B (h1.lay bs w) h2) (aV:A≠B):aaa h2 A kv:=m.hold λb q=>q.bG c aV
theorem zvV {b:bd} (hA:A < H.size):gL A H (H.set A b):=⟨by rw [Heap.size_set];exact bg _,λB hB aV=>by rw [Heap.aL _ _ _ _ hA,ay aV],by rw [Heap.bY];omega⟩
theorem zsb {b:bd} (hA:A < H.size):Holds (H.set A b) A b:=⟨by rw [Heap.size_set];exact hA,by rw [Heap.aL _ _ _ _ hA,aC rfl]⟩
theorem ZC (a:aA):yY (.string a) (.string a)=true:=by unfold yY zs;simp
theorem aaa.put {es:List MapEntry} {cl:Nat} (hA:A < H.size) (m2:es.map (λx:MapEntry=>(x.key,x.val))=kv.map (λp=>(Value.string p.1,p.2))) (m3:(kv.map Prod.fst).Nodup) (m4:(es.map (·.born)).Nodup) (m5:∀ x∈es,x.born < cl) (hl:zzt kv a=none) :
 aaa (H.set A (.map (es++[{ key:=.string a,val:=v,born:=cl }]) (cl+1))) A (aaf kv a v):=by
 have tW:aaf kv a v=kv++[(a,v)]:=by unfold aaf;rw [hl];rfl
 refine ⟨_,_,zsb hA,?_,zzl m3 a v,?_,λx hx=>?_⟩
 .rw [tW,List.map_append,List.map_append,m2];rfl
 .rw [List.map_append,List.nodup_append]
  refine ⟨m4,by simp,λx hx y hy=>?_⟩
  obtain ⟨e,he,rfl⟩:=zC.1 hx
  simp at hy
  have:=m5 e he
  omega
 .rcases pM.1 hx with hx|hx
  .have:=m5 x hx;omega
  .rw [td.1 hx];exact su _
theorem aaa.turn {es:List MapEntry} {cl j:Nat} {w:ai} {f:MapEntry->MapEntry} (hf:∀ e,(f e).key=.string a/\(f e).val=v/\(f e).born=e.born) (hA:A < H.size) (m2:es.map (λx:MapEntry=>(x.key,x.val))=kv.map (λp=>(Value.string p.1,p.2))) (m3:(kv.map Prod.fst).Nodup) (m4:(es.map (·.born)).Nodup) (m5:∀ x∈es,x.born < cl) (hl:zzt kv a=some w)
 (g5:kv[j]? = some (a,w)) (g6:∀ k p,k < j->kv[k]? = some p->a≠p.1):aaa (H.set A (.map (es.modify j f) cl)) A (aaf kv a v):=by
 have tW:aaf kv a v=kv.modify j (λp=>(a,v)):=by unfold aaf;rw [hl];exact zzu g5 g6 m3
 have hb:(es.modify j f).map (·.born)=es.map (·.born):=by
  refine uO λi=>?_
  simp only [lE,zzh]
  cases es[i]? with
  |none=>rfl
  |some y=>by_cases gj:j=i <;> simp [gj,(hf y).2.2]
 refine ⟨_,_,zsb hA,?_,zzl m3 a v,by rw [hb];exact m4,λx hx=>?_⟩
 .rw [tW]
  refine uO λi=>?_
  have hi:=congrArg (λl=>l[i]?) m2
  simp only [lE] at hi
  simp only [lE,zzh]
  by_cases gj:j=i
  .subst gj
   rw [g5] at hi ⊢
   cases he:es[j]? with
   |none=>rw [he] at hi;simp at hi
   |some y=>simp [(hf y).1,(hf y).2.1]
  .cases he:es[i]? with
   |none =>
    rw [he] at hi
    cases hk:kv[i]? with
    |none=>rfl
    |some p=>rw [hk] at hi;simp at hi
   |some y =>
    rw [he] at hi
    cases hk:kv[i]? with
    |none=>rw [hk] at hi;simp at hi
    |some p=>rw [hk] at hi;simpa [gj] using hi
 .have h1:x.born∈(es.modify j f).map (·.born):=List.mem_map_of_mem (f:=λx:MapEntry=>x.born) hx
  rw [hb] at h1
  obtain ⟨y,hy,he⟩:=zC.1 h1
  rw [<- he]
  exact m5 y hy
end
end Go.Am
namespace Go.Am
variable {n o:Nat} {cs vs:List ai}
structure jO (D:List Nat) (h h':Heap):Prop where
 size:h.size<=h'.size
 get:∀ B,B < h.size->B ∉ D->h'.get B=h.get B
section
variable {D D':List Nat} {a b c h h1 h2:Heap} {A B w:Nat} {bs:List bd} {k:bd}
theorem jO.refl (D:List Nat) (h:Heap):jO D h h:=⟨bg _,λ_ _ _=>rfl⟩
theorem Ext.CZ (x:Ext a b) (D:List Nat):jO D a b:=⟨x.size,λB hB _=>x.get B hB⟩
theorem gL.CZ (x:gL A a b) (hA:A∈D):jO D a b:=⟨x.size,λB hB hD=>x.get B hB (λe=>hD (e ▸ hA))⟩
theorem jO.lay (a:Heap) (bs:List bd) (w:Nat) (D:List Nat):jO D a (a.lay bs w):=⟨by rw [cF];omega,λB hB _=>uz a bs w hB⟩
theorem jO.trans (f:jO D a b) (g:jO D' b c) (hD:∀ B∈D',B∈D\/a.size<=B):jO D a c :=
 ⟨iG f.size g.size,λB hB hn=>(g.get B (eR hB f.size) (λhh=>(hD B hh).elim hn (λe=>by omega))).trans (f.get B hB hn)⟩
theorem jO.over (f:jO D a h1) (x:Ext (h1.lay bs w) h2):jO D a h2:=(f.trans (jO.lay h1 bs w []) (λ_ h=>nomatch h)).trans (x.CZ []) (λ_ h=>nomatch h)
theorem jO.JC (f:jO D a h1) (x:gL A (h1.lay bs w) h2) (hA:A∈D\/a.size<=A):jO D a h2 :=
 (f.trans (jO.lay h1 bs w []) (λ_ h=>nomatch h)).trans (x.CZ (D:=[A]) (by simp)) (λB hB=>by rw [td.1 hB];exact hA)
theorem jO.mono (f:jO D a b) (hs:∀ B∈D,B∈D'):jO D' a b:=⟨f.size,λB hB hn=>f.get B hB (λh=>hn (hs B h))⟩
theorem Holds.CZ (q:Holds a B k) (f:jO D a b) (hB:B ∉ D):Holds b B k:=⟨eR q.lt f.size,(f.get B q.lt hB).trans q.get⟩
theorem jO.all (f:jO [] a b):dz a b:=⟨f.size,λB hB _=>f.get B hB (by simp)⟩
theorem Holds.eh (q:Holds a B k) (f:jO [] a b):Holds b B k:=⟨eR q.lt f.size,(f.get B q.lt (by simp)).trans q.get⟩
def zzm:List Nat->Heap->Heap
 | [],h=>h
 |A::D,h=>kill A (zzm D h)
theorem zy9:∀ (D:List Nat) (h:Heap),(zzm D h).size=h.size
 | [],_=>rfl
 |A::D,h=>by unfold zzm;rw [AD,zy9 D h]
theorem zze:∀ {D:List Nat} {h:Heap} {B:Nat},B ∉ D->(zzm D h).get B=h.get B
 | [],_,_,_=>rfl
 |A::D,h,B,hn=>by
  unfold zzm
  rw [F9 (λe=>hn (by rw [e];exact qj)),zze (λhh=>hn (sq _ hh))]
theorem zzk:∀ {D:List Nat} {h:Heap} {B:Nat},B∈D->B < h.size->(zzm D h).get B=some .dead
 |A::D,h,B,hm,hB=>by
  unfold zzm
  by_cases he:B=A
  .subst he;exact HY (by rw [zy9];exact hB)
  .rw [F9 he]
   exact zzk ((i0.1 hm).resolve_left he) hB
theorem jO.inc (f:jO D a b) (hD:∀ B∈D',B∈D\/a.size<=B):dz (zzm D a) (zzm D' b):=by
 refine ⟨by rw [zy9,zy9];exact f.size,λB hB hd=>?_⟩
 rw [zy9] at hB
 have hn:B ∉ D:=λhh=>hd (zzk hh hB)
 rw [zze hn,zze (λhh=>(hD B hh).elim hn (λe=>by omega))]
 exact f.get B hB hn
end
theorem Ow.turn {Z:Type} {r:aQ Z} {h0 h h':Heap} {e:TypeId} {A C:Nat} {v:ai} {l:List Z} {row:List ai} {u:TypeId} {ro:Bool} (mh:∀ h h' cs x,r.R h cs x->r.R h' cs x) (f:Ow r h0 h e A v l) (c:gL C h h') (hC:C≠A) (q:Holds h' C (.row row u ro)):Ow r h0 h' e A v l:=by
 rcases f with ⟨e1,e2,e3⟩|⟨row,e1,e2,e3,e4,e5,e6,e7,e8⟩
 .refine .inl ⟨e1,e2,?_⟩
  rcases e3 with e3|⟨B,o,g1,g0,g2,ly,u2,Xd,g3⟩
  .exact .inl e3
  .refine .inr ⟨B,o,g1,g0,eR g2 c.size,?_⟩
   by_cases hB:B=C
   .subst hB;exact ⟨_,_,_,q.get⟩
   .exact ⟨ly,u2,Xd,by rw [c.get B g2 hB];exact g3⟩
 .refine .inr ⟨row,e1,e2,e3,eR e4 c.size,by rw [c.get A e4 (Ne.symm hC)];exact e5,e6,e7,λi x hx=>?_⟩
  obtain ⟨cs,g1,g2⟩:=e8 i x hx
  exact ⟨cs,g1,mh _ _ _ _ g2⟩
def wL {Z:Type} (k:Nat) (cell:Z->List ai) (h:Heap) (u:TypeId) (A:Nat) (v:ai) (l:List Z):Prop :=
 (v=.slice none 0 0/\l=[])\/∃ (q:Nat) (row:List ai),v=.slice (some ⟨A,0,none⟩) l.length (G*k+q)/\Holds h A (.row row u false)/\row.length=q*k/\l.length<=q/\q<=1000000000/\∀ (i:Nat) (x:Z),l[i]? = some x->cut row (i*k) k=some (cell x)
section
variable {Z:Type} {k:Nat} {cell:Z->List ai} {h h1 h2:Heap} {u:TypeId} {A:Nat} {v:ai} {l:List Z} {T:bm} {t e:TypeId} {K:aF} {bs:List bd} {w i:Nat} {x y:Z} {kd:IntKind}
theorem wL.nil:wL k cell h u A (.slice none 0 0) []:=.inl ⟨rfl,rfl⟩
theorem wL.hold (f:wL k cell h u A v l) (hO:∀ b,Holds h A b->Holds h1 A b):wL k cell h1 u A v l:=by
 rcases f with f|⟨q,row,e1,e2,e3⟩
 .exact .inl f
 .exact .inr ⟨q,row,e1,hO _ e2,e3⟩
theorem wL.over (f:wL k cell h1 u A v l) (x:Ext (h1.lay bs w) h2):wL k cell h2 u A v l:=f.hold λb q=>q.over x
theorem wL.lay (f:wL k cell h1 u A v l) (bs:List bd) (w:Nat):wL k cell (h1.lay bs w) u A v l:=f.hold λb q=>q.on bs w
theorem wL.bG {B:Nat} (f:wL k cell h1 u A v l) (c:gL B (h1.lay bs w) h2) (aV:A≠B):wL k cell h2 u A v l:=f.hold λb q=>q.bG c aV
theorem wL.CZ {D:List Nat} (f:wL k cell h1 u A v l) (c:jO D h1 h2) (aV:A ∉ D):wL k cell h2 u A v l:=f.hold λb q=>q.CZ c aV
theorem wL.bE (f:wL k cell h u A v l) (hd:T.desc t=some (.slice e)) (h2:Heap):Am.bE T t v h2=some (.int .i64 l.length):=by
 rcases f with ⟨rfl,rfl⟩|⟨q,row,rfl,_⟩
 .simp [Am.bE,hd]
 .simp [Am.bE,hd]
theorem wL.shape (f:wL k cell h u A v l):∃ a n c,v=.slice a n c:=by
 rcases f with ⟨rfl,rfl⟩|⟨q,row,rfl,_⟩
 .exact ⟨_,_,_,rfl⟩
 .exact ⟨_,_,_,rfl⟩
theorem wL.row (f:wL k cell h u A v l) (hx:l[i]? = some x):∃ row,Holds h A (.row row u false)/\cut row (i*k) k=some (cell x):=by
 rcases f with ⟨_,rfl⟩|⟨q,row,rfl,e2,e3,e4,e5,e6⟩
 .simp at hx
 .exact ⟨row,e2,e6 i x hx⟩
theorem wL.at (hk:∀ x,(cell x).length=k) (f:wL k cell h u A v l) (hx:l[i]? = some x):dY h (.pointer (some ⟨A,i*k,none⟩)) (cell x):=by
 obtain ⟨row,q,c⟩:=f.row hx
 exact ⟨A,_,row,u,false,rfl,q.lt,q.get,by rw [hk];exact c⟩
theorem wL.lt (f:wL k cell h u A v l) (aV:l≠[]):A < h.size:=by
 rcases f with ⟨_,rfl⟩|⟨q,row,rfl,e2,_⟩
 .exact absurd rfl aV
 .exact e2.lt
theorem M5 (hb:o+vs.length<=cs.length) (j:Nat):(an cs o vs)[j]? = if j < o then cs[j]? else if j < o+vs.length then vs[j - o]? else cs[j]? := by
 unfold an
 rw [mY,Gk,ku,Nat.min_eq_left (by omega)]
 by_cases h1:j < o
 .rw [aC h1,aC h1,nV,aC h1]
 .rw [ay h1,ay h1,Gk]
  by_cases h2:j < o+vs.length
  .rw [aC (by omega),aC h2]
  .rw [ay (by omega),ay h2,ja]
   congr 1
   omega
theorem RX (hb:o+vs.length<=cs.length):(an cs o vs).length=cs.length:=by
 unfold an;rw [hJ,hJ,ku,nX];omega
theorem XH {row:List ai} {off:Nat} (hc:cut row o n=some cs) (hb:off+vs.length<=n):cut (an row (o+off) vs) o n=some (an cs off vs):=by
 unfold cut at hc ⊢
 split at hc
 .rename_i hle
  simp only [de] at hc
  have Dg:cs.length=n:=by rw [<- hc,ku,nX];omega
  rw [aC (by rw [RX (by omega)];exact hle)]
  congr 1
  apply uO
  intro j
  rw [nV,ja,M5 (by omega),M5 (by omega),<- hc,nV,ja]
  by_cases hj:j < n
  .rw [aC hj,aC hj]
   by_cases h1:j < off
   .rw [aC (by omega),aC h1]
   .rw [ay (by omega),ay h1]
    by_cases h2:j < off+vs.length
    .rw [aC (by omega),aC h2]
     congr 1
     omega
    .rw [ay (by omega),ay h2]
  .rw [ay hj,ay hj,ay (by omega),ay (by omega)]
 .cases hc
theorem XA {row:List ai} {o2:Nat} (hc:cut row o n=some cs) (hb:o2+vs.length<=row.length) (hd:o+n<=o2\/o2+vs.length<=o):cut (an row o2 vs) o n=some cs:=by
 unfold cut at hc ⊢
 split at hc
 .rename_i hle
  simp only [de] at hc
  rw [aC (by rw [RX hb];exact hle),<- hc]
  congr 1
  apply uO
  intro j
  rw [nV,nV,ja,ja,M5 hb]
  by_cases hj:j < n
  .rw [aC hj,aC hj]
   rcases hd with hd|hd
   .rw [aC (by omega)]
   .rw [ay (by omega),ay (by omega)]
  .rw [ay hj,ay hj]
 .cases hc
theorem wL.store {off:Nat} {val:ai} (Lp:∀ x,(cell x).length=k) (f:wL k cell h1 u A v l) (hx:l[i]? = some x) (hs:c9 T t=some n) (oY:off+n<=k) (hv:val.cells.toList=vs) (hl:vs.length=n) (b8:vs.all one=true) (hy:an (cell x) off vs=cell y)
 (hK:∀ h',wL k cell h' u A v (l.set i y)->gL A (h1.lay bs w) h'->K undef h'):lr (gm T t (.pointer (some ⟨A,i*k+off,none⟩)) val (h1.lay bs w)) K:=by
 have hi:i < l.length:=(fB.1 hx).1
 rcases f with ⟨_,rfl⟩|⟨q,row,rfl,e2,e3,e4,e5,e6⟩
 .simp at hi
 have hb:i*k+off+n<=row.length:=by
  rw [e3]
  calc i*k+off+n<=i*k+k:=by omega
   _=(i+1)*k:=by rw [sz]
   _<=q*k:=nU _ (by omega)
 have hg:(h1.lay bs w).get A=some (.row row u false):=e2.lay bs w
 have hA:A < (h1.lay bs w).size:=(e2.on bs w).lt
 have cA:val.cells.size=n:=by rw [<- hl,<- hv];simp
 have he:gm T t (.pointer (some ⟨A,i*k+off,none⟩)) val (h1.lay bs w)=some ((h1.lay bs w).set A (.row (an row (i*k+off) vs) u false)):=by
  unfold gm
  simp only [hs,cM]
  rw [aC cA,hv]
  unfold nQ
  rw [hg]
  simp only
  rw [aC (by simp only [cY,jW];exact ⟨by omega,b8⟩)]
 rw [he]
 refine hK _ (.inr ⟨q,an row (i*k+off) vs,by rw [List.length_set],zsb hA,?_,by rw [List.length_set];exact e4,e5,λj z hz=>?_⟩) (zvV hA)
 .unfold an;rw [hJ,hJ,ku,nX];omega
 .rw [List.getElem?_set] at hz
  by_cases gj:i=j
  .rw [aC gj,aC hi] at hz
   cases hz
   rw [<- gj,<- hy]
   exact XH (e6 i x hx) (by omega)
  .rw [ay gj] at hz
   refine XA (e6 j z hz) (by omega) ?_
   rcases Nat.lt_or_gt_of_ne gj with h|h
   .right
    have:(i+1)*k<=j*k:=nU _ (by omega)
    rw [sz] at this
    omega
   .left
    have:(j+1)*k<=i*k:=nU _ (by omega)
    rw [sz] at this
    omega
end
end Go.Am
namespace Go.Proofs.YtjildadoepadeaaGreatDoor
open Go.Am Tryz
set_option maxRecDepth 100000
set_option maxHeartbeats 0
variable {h:Heap} {i:Nat}
def dE (h:Heap) (fv:ai) (e:Int):Prop:=(∃ (f:Fn) (a b:Array ai),fv=.func f a b)/\∀ hc (K:aF),jO [] h hc->(∀ h',Ext hc h'->K (.int .i64 e) h')->qh prog az ov [] hc K fv
theorem dE.CZ {h2:Heap} {fv:ai} {e:Int} (r:dE h fv e) (x:jO [] h h2):dE h2 fv e:=⟨r.1,λhc K y hk=>r.2 hc K (x.trans y (λ_ h=>nomatch h)) hk⟩
theorem dE.over {h1 h2:Heap} {bs:List bd} {w:Nat} {fv:ai} {e:Int} (r:dE h1 fv e) (x:Ext (h1.lay bs w) h2):dE h2 fv e:=r.CZ ((jO.refl [] h1).over x)
theorem dE.lay {h1:Heap} {fv:ai} {e:Int} (r:dE h1 fv e) (bs:List bd) (w:Nat):dE (h1.lay bs w) fv e:=r.CZ (jO.lay _ _ _ _)
theorem Ext.eh {h2:Heap} (x:Ext h h2):jO [] h h2:=x.CZ []
theorem zwp (b:Bool) (e:Int) (A B:Nat) (h:Heap) (q0:Holds h A (.row [.bool b] 4 false)) (q1:Holds h B (.row [.int .i64 e] 32 false)) (K:aF) (hk:∀ h',Ext h h'->K (.int .i64 (aO b e)) h'):Ok prog az ov 162 [.pointer (some ⟨A,0,none⟩),.pointer (some ⟨B,0,none⟩)] h K:=by
 rw [ak h]
 have z:=Ext.refl h
 refine Ok.au 3 (br BN) ?_
 cases b
 .simp only [aa,seval,CD,q0.lay]
  exact hk _ z.ao
 .simp only [aa,seval,CD,q0.lay,q1.lay]
  exact hk _ z.ao
theorem jV (b:Bool) (e:Int) (h:Heap) (K:aF) (hk:∀ h' fv,Ext h h'->dE h' fv (aO b e)->K fv h'):Ok prog az ov 98 [.bool b,.int .i64 e] h K:=by
 rw [ak h]
 have z:=Ext.refl h
 refine Ok.au 4 (br PB) ?_
 simp only [aa,seval,U6]
 refine hk _ _ z.ao ⟨⟨_,_,_,rfl⟩,λhc K2 y gz=>?_⟩
 rw [oz]
 exact zwp b e _ _ hc (Holds.eh ⟨by rw [cF];simp,by rw [iL];rfl⟩ y) (Holds.eh ⟨by rw [cF];simp,by rw [iL];rfl⟩ y) K2 gz
theorem Tb {es:List Int} {e:Int} (hz:∀ x∈es.take i,x=0) (he:es[i]? = some e) (aV:e≠0):eN es=e:=by
 induction es generalizing i with
 |nil=>simp at he
 |cons x es ih =>
  rw [dN]
  cases i with
  |zero=>simp at he;subst he;rw [ay aV]
  |succ i =>
   rw [aC (hz x (by simp))]
   exact ih (λy hy=>hz y (by rw [List.take_succ_cons];exact sq _ hy)) (by simpa using he)
theorem sU (iR:List ai) (es:List Int) (v:ai) (h:Heap) (hl:Sl aQ.xk h v iR) (hs:iR.length<=100) (hlen:es.length=iR.length) (hr:∀ (i:Nat) fv e,iR[i]? = some fv->es[i]? = some e->dE h fv e) (K:aF)
 (hk:∀ h',Ext h h'->K (.int .i64 (eN es)) h'):Ok prog az ov 97 [v] h K:=by
 rw [ak h]
 have z:=Ext.refl h
 have cO:=λ(hh:Heap)=>hl.bE GL hh
 refine Ok.au 17 (br PA) ?_
 simp only [aa,seval,uZ,cO]
 obtain ⟨I1,aU⟩:∃ I:Nat->Env->Heap->Prop,I=(λn e h'=>∃ (i:Nat) (h1:Heap),h'=h1.lay [] h1.low/\Ext h h1/\(n=iR.length - i/\i<=iR.length/\∀ x∈es.take i,x=0)/\∃ J:Nat->ai,e=(jr J 0 6 (v::.int .i64 iR.length::.int .i64 i::jr J 9 9 ([])))):=⟨_,rfl⟩
 refine dK I1 _ (by rw [aU];exact ⟨0,_,rfl,z,⟨rfl,by omega,by simp⟩,bx⟩) ?_
 intro n e h' aR
 rw [aU] at aR
 obtain ⟨i,b8,rfl,z,hinv,J,rfl⟩:=aR
 obtain ⟨rfl,hi,aq⟩:=hinv
 have hw:=ec i (by omega)
 simp only [aa,seval,uZ]
 refine bp (λaS=>?_) (λaS=>?_)
 rotate_left
 .rw [i9 (by omega)] at aq
  rw [c8.2 aq] at hk
  simp only [aa,seval,uZ]
  exact hk _ z.ao
 obtain ⟨fv,hf,pP⟩:=fx (l:=iR) (i:=i) (by omega)
 obtain ⟨e,he,mN⟩:=fx (l:=es) (i:=i) (by omega)
 simp only [aa,seval,uZ]
 repeat' ((first|with_reducible refine NX (hl.mono z.inc) GL zy3 (by omega) hf (λp hp=>?_)|with_reducible refine iF hp UR ?_) <;> simp only [aa,seval,uZ])
 refine (hr i fv e pP mN).2 _ _ (z.ao.CZ []) (λh' x=>?_)
 (replace z:=z.aj x;rw [ak h'])
 clear hp
 simp only [aa,seval,uZ]
 refine gD (λaV=>?_) (λheq=>?_)
 .rw [Tb aq mN aV] at hk
  simp only [aa,seval,uZ]
  exact hk _ z.ao
 .simp only [aa,seval,uZ]
  rw [hw]
  (rw [aU];with_reducible refine db (m:=_) ?_ ⟨i+1,_,rfl,z,⟨rfl,by omega,mS (i:=i) (P:=λx:Int=>x=0) mN aq heq⟩,bx⟩;omega)
theorem Aj (l:List aA) (bW:aA) (p0 p1 p2 p5 p6:ai) (q b:Int) (h:Heap) (hl:Sl aQ.str h p0 l) (hs:l.length<=1000) (K:aF) (hk:∀ h',Ext h h'->K (.bool (aM l bW)) h'):Ok prog az ov 49 [fS p0 p1 p2 p5 p6 q b,.string bW] h K:=by
 rw [ak h]
 have z:=Ext.refl h
 have b9:∀ (h:Heap) (K:aF),aE (some p0) h K=K p0 h:=λ_ _=>rfl
 refine Ok.au 7 (br Pa) ?_
 simp only [aa,seval,PG,iE,kh,b9]
 refine FT l p0 bW _ (hl.lay _ _) hs _ (λh' x=>?_)
 (replace z:=z.aj x;rw [ak h'])
 simp only [aa,seval,PG]
 exact hk _ z.ao
theorem Ti {l:List bb} {x:bb} {s:aA} (hz:∀ y∈l.take i,¬ y.name=s) (hx:l[i]? = some x) (he:x.name=s):jS l s=(x.arity,true):=by
 induction l generalizing i with
 |nil=>simp at hx
 |cons y l ih =>
  unfold jS at ih ⊢
  cases i with
  |zero=>simp at hx;subst hx;rw [List.find?_cons_of_pos (by simpa using he)]
  |succ i =>
   rw [List.find?_cons_of_neg (by simpa using hz y (by simp))]
   exact ih (λw hw=>hz w (by rw [List.take_succ_cons];exact sq _ hw)) (by simpa using hx)
theorem R4 {l:List bb} {s:aA} (hz:∀ y∈l,¬ y.name=s):jS l s=(0,false):=by
 unfold jS
 rw [List.find?_eq_none.2 (λx hx=>by simpa using hz x hx)]
theorem UU (h:Heap) (l:List bd) (w i o:Nat) (v:ai) (hi:i < l.length):gm az 67 (.pointer (some ⟨h.size+i,o,none⟩)) v (h.lay l w)=if v.cells.size=2 then oF l[i]? i o v.cells.toList h l w else none:=si iX h l w i o v hi
theorem zss (l:List bb) (bW:aA) (p0 p1 p2 p5 p6:ai) (q b:Int) (h:Heap) (hl:Sl aQ.pred h p1 l) (K:aF) (hk:∀ h',Ext h h'->K (.tuple #[.int .i64 (jS l bW).1,.bool (jS l bW).2]) h'):Ok prog az ov 160 [fS p0 p1 p2 p5 p6 q b,.string bW] h K:=by
 rw [ak h]
 have z:=Ext.refl h
 have hle:=hl.le
 have b9:∀ (h:Heap) (K:aF),aE (some p1) h K=K p1 h:=λ_ _=>rfl
 have eo:∀ (s:aA) (h:Heap) (K:aF),aE (some (.string s)) h K=K (.string s) h:=λ_ _ _=>rfl
 have cO:=λ(hh:Heap)=>hl.bE iu hh
 refine Ok.au 20 (br BL) ?_
 simp only [aa,seval,qt,iE,iW,b9,cO]
 refine ko (λh' x hq=>?_)
 have q0:=hq 0 _ rfl
 clear hq
 (replace z:=z.aj x;rw [ak h'])
 obtain ⟨I1,aU⟩:∃ I:Nat->Env->Heap->Prop,I=(λn e h'=>∃ (i:Nat) (h1:Heap),h'=h1.lay [] h1.low/\Ext h h1/\(n=l.length - i/\i<=l.length/\∀ y∈l.take i,¬ y.name=bW)/\∃ J:Nat->ai,e=(J 0::.string bW::jr J 2 7 (p1::.int .i64 l.length::.int .i64 i::jr J 12 10 ([])))):=⟨_,rfl⟩
 refine dK I1 _ (by rw [aU];exact ⟨0,_,rfl,z,⟨rfl,by omega,by simp⟩,bx⟩) ?_
 intro n e h' aR
 rw [aU] at aR
 obtain ⟨i,b8,rfl,z,hinv,J,rfl⟩:=aR
 obtain ⟨rfl,hi,aq⟩:=hinv
 have hw:i < l.length->IntKind.i64.wrap ((i:Int)+1)=((i+1:Nat):Int):=λhh=>by unfold maxLen at hle;rw [wrap_i64 (by omega) (by omega)];omega
 simp only [aa,seval,qt]
 refine bp (λaS=>?_) (λaS=>?_)
 rotate_left
 .rw [i9 (by omega)] at aq
  rw [R4 aq] at hk
  simp only [aa,seval,qt]
  exact hk _ z.ao
 obtain ⟨r,hr,bz⟩:=fx (l:=l) (i:=i) (by omega)
 repeat' (first|simp only [aa,seval,qt]|with_reducible refine Gv (hl.mono z.inc) iu iX (by omega) hr (λp hp=>?_)|with_reducible refine Ee hp th iX ?_)
 repeat' (first|simp only [aa,seval,qt,i7,kS,mL,Am.one,jM,iZ,UU,eo]|((with_reducible apply bp) <;> intro _))
 .rw [Ti aq bz (by assumption)] at hk
  exact hk _ z.ao
 .rw [hw (by omega)]
  refine HQ z.ao (λH z hO hI=>?_)
  (rw [aU];with_reducible refine db (m:=_) ?_ ⟨i+1,_,rfl,z,⟨rfl,by omega,mS (i:=i) (P:=λy:bb=>¬ y.name=bW) bz aq (by assumption)⟩,bx⟩;omega)
theorem zsu (a:ae) (h:Heap) (bJ:aI 1 h) (K:aF) (hk:∀ h',Ext h h'->K (.int .i64 (gn a)) h'):Ok prog az ov 128 [a.val] h K:=by
 rw [ak h]
 have z:=Ext.refl h
 refine Ok.au 40 (br wH) ?_
 repeat' (simp only [aa,seval,eg,e9,IG])
 refine Ii _ _ (bJ.lay _ _) _ (λhs h' x=>?_) (λhs h' x=>?_)
 rotate_left
 ·(replace z:=z.aj x;rw [ak h'])
  repeat' (first|simp only [aa,seval,eg]|((with_reducible apply bK);(· rfl)))
  rw [HT (.inl hs)] at hk
  exact hk _ z.ao
 have q0:=Holds.top (i:=0) x rfl
 (replace z:=z.aj x;rw [ak h'])
 repeat' (first|simp only [aa,seval,eg,q0.lay,On]|((with_reducible apply bK);(· rfl)))
 refine NM _ _ ((bJ.ext z).lay _ _) _ (λhp h' x=>?_) (λhp h' x=>?_)
 rotate_left
 ·(replace z:=z.aj x;( replace q0:=q0.over x );rw [ak h'])
  repeat' (first|simp only [aa,seval,eg]|((with_reducible apply bK);(· rfl)))
  rw [HT (.inr hp)] at hk
  exact hk _ z.ao
 (replace z:=z.aj x;replace q0:=q0.over x;rw [ak h'])
 repeat' (first|simp only [aa,seval,eg,q0.lay,GA,↓eZ,dO,dx]|((with_reducible apply bp) <;> intro _)|((with_reducible apply bK);(· rfl)))
 all_goals first
  |(rw [Tw hs hp (by omega)] at hk
    exact hk _ z.ao)
  |skip
 have pU:0<=a.n:=by omega
 have pV:a.n<=4:=by omega
 have qV:a.bR=a.n.toNat:=UE pU pV
 refine IA a _ _ (λw h' x sw=>?_)
 (replace z:=z.aj x;replace q0:=q0.over x;rw [ak h'])
 repeat' (simp only [aa,seval,eg])
 refine MG a.args w _ jf _ (sw.lay _ _) (by rw [vR];have:=Nz a;omega) (λt hc K' xe hK=>by rw [nK];exact SQ t hc ((bJ.ext z).lay _ _ |>.ext xe) K' hK) _ (λh' x=>?_)
 (replace z:=z.aj x;replace q0:=q0.over x;rw [ak h'])
 cases qJ:a.args.any jf
 rotate_left
 .repeat' ( simp only [aa,seval,eg])
  rw [S2 hs hp (by omega) qJ] at hk
  exact hk _ z.ao
 rw [S1 hs hp (by omega) qJ,qV] at hk
 obtain ⟨k,V1⟩:=H6 pU
 have tM:k<=4:=by omega
 have DW:=IY
 have cq:=Uo q0 k tM
 have lg:(0:Int)<=a.n/\a.n<=4:=⟨pU,pV⟩
 repeat' (simp only [aa,seval,eg,q0.lay,GA,IY _ _ _ pU pV])
 have Lq:a.n.toNat=k:=by omega
 rw [Lq] at hk ⊢
 obtain ⟨sv,tW⟩:∃ sv,sv=Value.slice (some ⟨h.size+0,if 4=k then 3 else 3+k*2,none⟩) (4 - k) (4 - k):=⟨_,rfl⟩
 rw [<- tW] at cq ⊢
 clear DW
 obtain ⟨I1,aU⟩:∃ I:Nat->Env->Heap->Prop,I=(λn e h'=>∃ (i:Nat) (h1:Heap),h'=h1.lay [] h1.low/\Ext h h1/\(n=4 - k - i/\i<=4 - k/\(∀ t∈(a.all.drop k).take i,t=aZ)/\Sl aQ.term h1 sv (a.all.drop k))/\∃ J:Nat->ai,e=(jr J 0 31 (sv::.int .i64 ((4 - k:Nat):Int)::.int .i64 i::jr J 34 7 ([])))):=⟨_,rfl⟩
 refine dK I1 _ (by rw [aU];exact ⟨0,_,rfl,z,⟨rfl,by omega,by simp,cq⟩,bx⟩) ?_
 intro n e h' aR
 rw [aU] at aR
 obtain ⟨i,b8,rfl,z,hinv,J,rfl⟩:=aR
 clear cq q0
 obtain ⟨rfl,hi,aq,cq⟩:=hinv
 have j9:=ec i (by omega)
 have P3:=An a k
 simp only [aa,seval,eg]
 refine bp (λaS=>?_) (λaS=>?_)
 rotate_left
 .rw [i9 (by omega)] at aq
  repeat' (simp only [aa,seval,eg])
  rw [ay (by rw [oI];rintro ⟨x,hx,e⟩;simp [aq x hx] at e)] at hk
  exact hk _ z.ao
 obtain ⟨⟨rv,rs⟩,hr,bz⟩:=fx (l:=a.all.drop k) (i:=i) (by omega)
 have Qo:a.arg (k+i)=⟨rv,rs⟩:=Option.some.inj ((IC a (by omega)).symm.trans bz)
 repeat' (first|simp only [aa,seval,eg,i7,kS,mL,Am.one,jM,iZ,yK,aH.val,aH.cells,SD,RZ]|((with_reducible apply IQ) <;> intro _)|with_reducible refine IV cq wC iD (by omega) hr (λp hp=>?_)|with_reducible refine Ef hp oJ iD ?_)
 .have LI:¬ (⟨rv,rs⟩:aH)=aZ:=‹¬ (⟨rv,rs⟩:aH)=⟨false,⟨#[]⟩⟩›
  rw [aC (oI.2 ⟨_,ig bz,by simp [LI]⟩)] at hk
  exact hk _ z.ao
 .have xI:(⟨rv,rs⟩:aH)=aZ:=‹(⟨rv,rs⟩:aH)=⟨false,⟨#[]⟩⟩›
  rw [j9]
  refine HQ z.ao (λH z hO hI=>?_)
  (rw [aU];with_reducible refine db (m:=_) ?_ ⟨i+1,_,rfl,z,⟨rfl,by omega,mS (i:=i) (P:=λt:aH=>t=aZ) bz aq xI,cq.mono hI⟩,bx⟩;omega)
theorem zt3 (a:ae) (A:Nat) (h:Heap) (bJ:aI 1 h) (q0:Holds h A (.row a.cells 41 false)) (K:aF) (hk:∀ h',Ext h h'->K (.int .i64 (gn a)) h'):Ok prog az ov 161 [.pointer (some ⟨A,0,none⟩)] h K:=by
 rw [ak h]
 have z:=Ext.refl h
 refine Ok.au 3 (br BM) ?_
 simp only [aa,seval,CC,q0.lay,↓eZ,dO,dx]
 refine zsu a _ (bJ.lay _ _) _ (λh' x=>?_)
 (replace z:=z.aj x;rw [ak h'])
 simp only [aa,seval,CC]
 exact hk _ z.ao
theorem sR (b:Bool) (h:Heap) (K:aF):pJ b h K=K (.bool b) h:=by
 unfold pJ
 cases b
 .simp
 .simp
theorem tc {bs:List bd} {w c:Nat} {u:TypeId} {ro:Bool} {l:List ai} (hb:bs[i]? = some (.row l u ro)) (h1:l.all Am.one=true) (hc:c=l.length) (hl:l.length<=100):Sl aQ.xk (h.lay bs w) (.slice (some ⟨h.size+i,0,none⟩) l.length c) l:=by
 have hi:=(fB.1 hb).1
 refine .inr ⟨h.size+i,0,c,l,u,ro,rfl,by unfold maxLen;omega,.inl ⟨by unfold G;omega,by omega⟩,by rw [cF];omega,by rw [iL];exact hb,λj x hx=>⟨[x],?_,rfl,fD.1 h1 x (ig hx)⟩⟩
 have hj:=fB.1 hx
 have re:=hj.1
 show cut l (0+j*1) 1=some [x]
 unfold cut
 rw [aC (by omega),jX,uS,F5 hj.1,hj.2]
 rfl
theorem Ig (d:aD) (a:ae) (p0 p1 p2 p5 p6:ai) (q b:Int) (h:Heap) (bJ:aI 1 h) (aY:(cN p0 p1 p2 p5 p6 q b).all Am.one=true) (h0:Sl aQ.str h p0 d.ah) (h1:Sl aQ.pred h p1 d.bo) (hs:d.ah.length<=1000) (K:aF) (hk:∀ h',Ext h h'->K (.int .i64 (ek d a)) h'):Ok prog az ov 96 [fS p0 p1 p2 p5 p6 q b,a.val] h K:=by
 rw [ak h]
 have z:=Ext.refl h
 have eo:∀ (s:aA) (h:Heap) (K:aF),aE (some (.string s)) h K=K (.string s) h:=λ_ _ _=>rfl
 refine Ok.au 29 (br Pz) ?_
 simp only [aa,seval,ng,iE,↓eI,eH,ef,e9,On,eo]
 refine zss d.bo a.pred _ _ _ _ _ _ _ _ (h1.lay _ _) _ (λh' x=>?_)
 have q0:=Holds.top (i:=0) x rfl
 have q1:=Holds.top (i:=1) x rfl
 (replace z:=z.aj x;rw [ak h'])
 simp only [aa,seval,ng]
 rw [sR]
 simp only [aa,seval,ng]
 with_reducible first|refine hH (by simp only [ng]) z.ao ?_
 simp only [aa,seval,ng,q0.lay,q1.lay,↓eI,eH,ef,IG,eo]
 refine Aj d.ah a.says _ _ _ _ _ _ _ _ ((h0.mono z.inc).lay _ _) hs _ (λh' x=>?_)
 (((with_reducible refine eu ?_ ?_ ?_);(· exact (by (simp only [ep]);have:=z.size;omega));(· exact x));replace z:=z.aj x;replace q0:=q0.over x;replace q1:=q1.over x;rw [ak h'])
 simp only [aa,seval,ng]
 (with_reducible apply bK);(· rfl)
 simp only [aa,seval,ng]
 refine jV _ _ _ _ (λh' f1 x r1=>?_)
 (((with_reducible refine eu ?_ ?_ ?_);(· exact (by (simp only [ep]);have:=z.size;omega));(· exact x));replace z:=z.aj x;replace q0:=q0.over x;replace q1:=q1.over x;rw [ak h'])
 simp only [aa,seval,ng]
 (with_reducible apply bK);(· rfl)
 simp only [aa,seval,ng]
 refine jV _ _ _ _ (λh' f2 x r2=>?_)
 (((with_reducible refine eu ?_ ?_ ?_);(· exact (by (simp only [ep]);have:=z.size;omega));(· exact x));replace z:=z.aj x;replace q0:=q0.over x;replace q1:=q1.over x;replace r1:=r1.over x;rw [ak h'])
 simp only [aa,seval,ng,q1.lay,GA]
 rw [sR]
 simp only [aa,seval,ng]
 refine jV _ _ _ _ (λh' f3 x r3=>?_)
 (((with_reducible refine eu ?_ ?_ ?_);(· exact (by (simp only [ep]);have:=z.size;omega));(· exact x));replace z:=z.aj x;replace q0:=q0.over x;replace q1:=q1.over x;replace r1:=r1.over x;replace r2:=r2.over x;rw [ak h'])
 obtain ⟨A1,j5⟩:∃ A1,A1=h.size+1:=⟨_,rfl⟩
 rw [<- j5] at q1
 rw [<- j5]
 have r0:dE h' (.func (.func 161) ⟨[]⟩ ⟨[.pointer (some ⟨A1,0,none⟩)]⟩) (gn a):=⟨⟨_,_,_,rfl⟩,λhc K2 y gz=>by rw [oz];exact zt3 a A1 hc (Holds.eh (bJ.ext z) y) (Holds.eh q1 y) K2 gz⟩
 obtain ⟨g1,u1,v1,rfl⟩:=r1.1
 obtain ⟨g2,u2,v2,rfl⟩:=r2.1
 obtain ⟨g3,u3,v3,rfl⟩:=r3.1
 simp only [aa,seval,ng]
 refine yO (by have:=z.size;omega) (by omega) ?_
 simp only [aa,seval,ng]
 refine sU [.func (.func 161) ⟨[]⟩ ⟨[.pointer (some ⟨A1,0,none⟩)]⟩,.func g1 u1 v1,.func g2 u2 v2,.func g3 u3 v3] [gn a,aO (!aM d.ah a.says) 6,aO (!(jS d.bo a.pred).2) 7,aO ((jS d.bo a.pred).1 != a.n) 8] _ _ (tc (i:=0) rfl rfl rfl (by simp)) (by simp) rfl (λi fv e h1 h2=>?_) _ (λh' x=>?_)
 .match i,h1,h2 with
  |0,h1,h2=>cases h1;cases h2;exact r0.lay _ _
  |1,h1,h2=>cases h1;cases h2;exact r1.lay _ _
  |2,h1,h2=>cases h1;cases h2;exact r2.lay _ _
  |3,h1,h2=>cases h1;cases h2;exact r3.lay _ _
 (((with_reducible refine eu ?_ ?_ ?_);(· exact (by (simp only [ep]);have:=z.size;omega));(· exact x));replace z:=z.aj x;replace q0:=q0.over x;replace q1:=q1.over x;replace r1:=r1.over x;replace r2:=r2.over x;replace r3:=r3.over x;rw [ak h'])
 simp only [aa,seval,ng]
 ((with_reducible refine ⟨z.eD.lay _ _,?_⟩);(intro _ h' zz x _);(simp only [dy,cU] at x);replace q0:=q0.over x;replace q1:=q1.over x;replace r1:=r1.over x;replace r2:=r2.over x;replace r3:=r3.over x;(replace z:=zz);(clear zz);rw [ak h'])
 simp only [aa,seval,ng]
 have he:eN [gn a,aO (!aM d.ah a.says) 6,aO (!(jS d.bo a.pred).2) 7,aO ((jS d.bo a.pred).1 != a.n) 8]=ek d a:=rfl
 rw [he]
 exact hk _ z.ao
theorem zt4 (d:aD) (a:ae) (p0 p1 p2 p5 p6:ai) (q b:Int) (A B:Nat) (h:Heap) (bJ:aI 1 h) (aY:(cN p0 p1 p2 p5 p6 q b).all Am.one=true) (h0:Sl aQ.str h p0 d.ah) (h1:Sl aQ.pred h p1 d.bo) (hs:d.ah.length<=1000) (q0:Holds h A (.row (cN p0 p1 p2 p5 p6 q b) 29 false)) (q1:Holds h B (.row a.cells 41 false)) (K:aF) (hk:∀ h',Ext h h'->K (.int .i64 (ek d a)) h'):Ok prog az ov 99 [.pointer (some ⟨A,0,none⟩),.pointer (some ⟨B,0,none⟩)] h K:=by
 rw [ak h]
 have z:=Ext.refl h
 refine Ok.au 4 (br PC) ?_
 simp only [aa,seval,PI,q0.lay,q1.lay,↓eI,eH,ef,↓eZ,dO,dx]
 refine Ig d a _ _ _ _ _ _ _ _ (bJ.lay _ _) aY (h0.lay _ _) (h1.lay _ _) hs _ (λh' x=>?_)
 (replace z:=z.aj x;rw [ak h'])
 simp only [aa,seval,PI]
 exact hk _ z.ao
theorem zt6 (d:aD) (s:aA) (a:ae) (p0 p1 p2 p5 p6:ai) (q b:Int) (h:Heap) (bJ:aI 1 h) (aY:(cN p0 p1 p2 p5 p6 q b).all Am.one=true) (h0:Sl aQ.str h p0 d.ah) (h1:Sl aQ.pred h p1 d.bo) (hs:d.ah.length<=1000) (K:aF) (hk:∀ h',Ext h h'->K (.int .i64 (kq d s a)) h'):Ok prog az ov 54 [fS p0 p1 p2 p5 p6 q b,.string s,a.val] h K:=by
 rw [ak h]
 have z:=Ext.refl h
 have eo:∀ (s:aA) (h:Heap) (K:aF),aE (some (.string s)) h K=K (.string s) h:=λ_ _ _=>rfl
 refine Ok.au 21 (br Pf) ?_
 simp only [aa,seval,n8,iE,e9]
 refine ko (λh' x hq=>?_)
 have q0:=hq 0 _ rfl
 have q1:=hq 1 _ rfl
 clear hq
 (replace z:=z.aj x;rw [ak h'])
 obtain ⟨A0,dA⟩:∃ A0,A0=h.size+0:=⟨_,rfl⟩
 rw [<- dA] at q0
 rw [<- dA]
 obtain ⟨A1,j5⟩:∃ A1,A1=h.size+1:=⟨_,rfl⟩
 rw [<- j5] at q1
 rw [<- j5]
 with_reducible first|refine hH (by simp only [n8]) z.ao ?_
 simp only [aa,seval,n8,q0.lay,↓eI,eH,ef]
 refine Aj d.ah s _ _ _ _ _ _ _ _ ((h0.mono z.inc).lay _ _) hs _ (λh' x=>?_)
 (((with_reducible refine eu ?_ ?_ ?_);(· exact (by (simp only [ep]);have:=z.size;omega));(· exact x));replace z:=z.aj x;replace q0:=q0.over x;replace q1:=q1.over x;rw [ak h'])
 simp only [aa,seval,n8]
 (with_reducible apply bK);(· rfl)
 simp only [aa,seval,n8]
 refine jV _ _ _ _ (λh' f1 x r1=>?_)
 (((with_reducible refine eu ?_ ?_ ?_);(· exact (by (simp only [ep]);have:=z.size;omega));(· exact x));replace z:=z.aj x;replace q0:=q0.over x;replace q1:=q1.over x;rw [ak h'])
 simp only [aa,seval,n8,q1.lay,↓eZ,dO,dx]
 refine zsz a _ _ (λh' x=>?_)
 (((with_reducible refine eu ?_ ?_ ?_);(· exact (by (simp only [ep]);have:=z.size;omega));(· exact x));replace z:=z.aj x;replace q0:=q0.over x;replace q1:=q1.over x;replace r1:=r1.over x;rw [ak h'])
 simp only [aa,seval,n8]
 (with_reducible apply bK);(· rfl)
 simp only [aa,seval,n8]
 refine jV _ _ _ _ (λh' f2 x r2=>?_)
 (((with_reducible refine eu ?_ ?_ ?_);(· exact (by (simp only [ep]);have:=z.size;omega));(· exact x));replace z:=z.aj x;replace q0:=q0.over x;replace q1:=q1.over x;replace r1:=r1.over x;rw [ak h'])
 simp only [aa,seval,n8,q1.lay,IG,eo]
 rw [sR]
 simp only [aa,seval,n8]
 refine jV _ _ _ _ (λh' f3 x r3=>?_)
 (((with_reducible refine eu ?_ ?_ ?_);(· exact (by (simp only [ep]);have:=z.size;omega));(· exact x));replace z:=z.aj x;replace q0:=q0.over x;replace q1:=q1.over x;replace r1:=r1.over x;replace r2:=r2.over x;rw [ak h'])
 have r0:dE h' (.func (.func 99) ⟨[]⟩ ⟨[.pointer (some ⟨A0,0,none⟩),.pointer (some ⟨A1,0,none⟩)]⟩) (ek d a):=⟨⟨_,_,_,rfl⟩,λhc K2 y gz=>by
  rw [oz]
  exact zt4 d a _ _ _ _ _ _ _ A0 A1 hc (Holds.eh (bJ.ext z) y) aY ((h0.mono z.inc).mono y.all) ((h1.mono z.inc).mono y.all) hs (Holds.eh q0 y) (Holds.eh q1 y) K2 gz⟩
 rw [show decide (a.says≠s) = !decide (a.says=s) by simp] at r3
 obtain ⟨g1,u1,v1,rfl⟩:=r1.1
 obtain ⟨g2,u2,v2,rfl⟩:=r2.1
 obtain ⟨g3,u3,v3,rfl⟩:=r3.1
 simp only [aa,seval,n8]
 refine yO (by have:=z.size;omega) (by omega) ?_
 simp only [aa,seval,n8]
 refine sU [.func g1 u1 v1,.func (.func 99) ⟨[]⟩ ⟨[.pointer (some ⟨A0,0,none⟩),.pointer (some ⟨A1,0,none⟩)]⟩,.func g2 u2 v2,.func g3 u3 v3] [aO (!aM d.ah s) 6,ek d a,aO (!a.ground) 10,aO (!decide (a.says=s)) 11] _ _ (tc (i:=0) rfl rfl rfl (by simp)) (by simp) rfl (λi fv e h1 h2=>?_) _ (λh' x=>?_)
 .match i,h1,h2 with
  |0,h1,h2=>cases h1;cases h2;exact r1.lay _ _
  |1,h1,h2=>cases h1;cases h2;exact r0.lay _ _
  |2,h1,h2=>cases h1;cases h2;exact r2.lay _ _
  |3,h1,h2=>cases h1;cases h2;exact r3.lay _ _
 (((with_reducible refine eu ?_ ?_ ?_);(· exact (by (simp only [ep]);have:=z.size;omega));(· exact x));replace z:=z.aj x;replace q0:=q0.over x;replace q1:=q1.over x;replace r1:=r1.over x;replace r2:=r2.over x;replace r3:=r3.over x;rw [ak h'])
 simp only [aa,seval,n8]
 ((with_reducible refine ⟨z.eD.lay _ _,?_⟩);(intro _ h' zz x _);(simp only [dy,cU] at x);replace q0:=q0.over x;replace q1:=q1.over x;replace r1:=r1.over x;replace r2:=r2.over x;replace r3:=r3.over x;(replace z:=zz);(clear zz);rw [ak h'])
 simp only [aa,seval,n8]
 exact hk _ z.ao
end Go.Proofs.YtjildadoepadeaaGreatDoor

/- Parts of slices; appending to a part that has no room. No condition. -/
import Derived.Test.YtjildadoepadeaaGreatDoorG12
import Derived.Test.YtjildadoepadeaaGreatDoorGOv
import Derived.Shelf.Sort.Plain
import Derived.Shelf.Slices.In.SortNone
import Derived.Shelf.Slices.CompactS
set_option linter.unusedSimpArgs false
set_option linter.unusedVariables false
namespace Go.Am
section
variable {Z:Type} {r:aQ Z} {h0 h h1:Heap} {v:ai} {l:List Z} {t e:TypeId} {T:bm} {bs:List bd} {w:Nat} {K:aF}
def kx (x:Option ai) (d n:Nat):Prop:=(x=none/\n=d)\/∃ kd,x=some (.int kd n)
theorem kx.no (n:Nat):kx none n n:=.inl ⟨rfl,rfl⟩
theorem zrH {kd:IntKind} {n hi:Nat} (hn:n<=hi):pH (.int kd n) hi=some n:=by
 have:(0:Int)<=n/\(n:Int)<=hi:=by omega
 simp only [pH,this,and_self,if_true,Gl]
theorem M6 {n c a b:Nat} {lo hi:Option ai} (gF:kx lo 0 a) (xT:kx hi n b) (G2:a<=b) (Vy:b<=c):mQ n c lo hi none=some (a,b,c):=by
 unfold mQ
 rcases gF with ⟨rfl,rfl⟩|⟨kd,rfl⟩ <;> rcases xT with ⟨rfl,rfl⟩|⟨kd2,rfl⟩ <;> simp [zrH,G2,Vy]
theorem UO:0 < G:=by unfold G;omega
theorem zum {k q:Nat} (hk:0 < k) (hq:q < G):G<=G*k+q/\(G*k+q) / G=k/\(G*k+q) % G=q:=by
 obtain ⟨c1,c2,c3⟩:=wc (k:=k) (q:=q) hk hq
 exact ⟨by omega,c3,c2⟩
theorem Sl.sub (f:Sl r h v l) (hk:0 < r.k) (hd:T.desc t=some (.slice e)) (hs:c9 T e=some r.k) {a b:Nat} {lo hi:Option ai} (gF:kx lo 0 a) (xT:kx hi l.length b) (G2:a<=b) (hb:b<=l.length) :
 ∃ v',kn T t v lo hi none=some v'/\Sl r h v' ((l.take b).drop a):=by
 have hlen:((l.take b).drop a).length=b - a:=by simp;omega
 have zU:∀ (i:Nat) (x:Z),((l.take b).drop a)[i]? = some x->l[a+i]? = some x/\i < b - a:=by
  intro i x hx
  have:=(fB.1 hx).1
  rw [hlen] at this
  rw [ja,AW (by omega)] at hx
  exact ⟨hx,this⟩
 rcases f with ⟨rfl,rfl⟩|⟨A,o,c,row,u,ro,rfl,e2,e3,e4,e5,e6⟩
 .have xu:b=0:=by simpa using hb
  subst xu
  have xp:a=0:=by omega
  subst xp
  refine ⟨.slice none 0 0,?_,by simpa using Sl.nil⟩
  unfold kn
  simp only [hd,hs,cM,aC UO]
  have:=M6 (n:=0) (c:=0) gF (by simpa using xT) (bg 0) (bg 0)
  rw [this]
  rfl
 .rcases e3 with ⟨c1,c2⟩|⟨c1,c2,c3⟩
  .refine ⟨.slice (some ⟨A,if c=a then o else o+a*r.k,none⟩) (b - a) (c - a),?_,?_⟩
   .unfold kn
    simp only [hd,hs,cM,aC c1]
    rw [M6 gF xT G2 (by omega)]
    rfl
   .refine .inr ⟨A,_,c - a,row,u,ro,by rw [hlen],by rw [hlen];omega,.inl ⟨by omega,by rw [hlen];omega⟩,e4,e5,λi x hx=>?_⟩
    obtain ⟨hx,hi⟩:=zU i x hx
    obtain ⟨cs,g1,g2⟩:=e6 _ _ hx
    refine ⟨cs,?_,g2⟩
    rw [ay (by omega),jN,<- wF]
    exact g1
  .refine ⟨.slice (some ⟨A,o+a*r.k,none⟩) (b - a) (G*r.k+(c % G - a)),?_,?_⟩
   .unfold kn
    simp only [hd,hs,cM,ay (show ¬ c < G by omega),aC c2]
    rw [M6 gF xT G2 (by omega)]
    rfl
   .have hm:=wG c UO
    obtain ⟨d1,d2,d3⟩:=zum (k:=r.k) (q:=c % G - a) hk (by omega)
    refine .inr ⟨A,_,_,row,u,ro,by rw [hlen],by rw [hlen];omega,.inr ⟨d1,d2,by rw [hlen,d3];omega⟩,e4,e5,λi x hx=>?_⟩
    obtain ⟨hx,hi⟩:=zU i x hx
    obtain ⟨cs,g1,g2⟩:=e6 _ _ hx
    refine ⟨cs,?_,g2⟩
    rw [jN,<- wF]
    exact g1
end
end Go.Am
namespace Go.Am
def slt (a b:aA):Bool:=Op.bytesLess a.data.toList b.data.toList
def zwO (l:List fE) (m:Nat):Prop:=∀ k x y,k+1 < m->l[k]? = some x->l[k+1]? = some y->slt x.var y.var=true
def zzf (l:List fE) (s:aA):aH × Bool:=match l.find? (λx=>decide (x.var=s)) with
 |some x=>(x.term,true)
 |none=>(aZ,false)
end Go.Am
namespace Go.Am
section
variable {P:Program} {T:bm} {ov:Ov} {d:Option Tmp} {ty:TypeId} {pos:String} {af:Array Edge} {g:Option (Nat × Bool)} {e:Env} {h:Heap} {K:aF}
theorem Np (t:TypeId):bL P T ov ⟨d,.makeMap t none,ty,pos,af,g⟩ e h K=K (.map (some h.size)) (h.push (.map [] 0)):=rfl
theorem ND (t:TypeId) (x k:Operand) (ok:Bool):bL P T ov ⟨d,.lookup t x k ok,ty,pos,af,g⟩ e h K=aE (y9 T t (aX e x) (aX e k) ok h) h K:=by rw [<- sY];rfl
theorem MR (t:TypeId) (m k x:Operand):bL P T ov ⟨d,.mapUpdate t m k x,ty,pos,af,g⟩ e h K=lr (nP T t (aX e m) (aX e k) (aX e x) h) K:=by
 show cK ((nP T t (aX e m) (aX e k) (aX e x) h).map λh'=>(undef,h')) K=_
 cases nP T t (aX e m) (aX e k) (aX e x) h <;> rfl
end
def aag (h:Heap) (A:Nat) (met:cR):Prop:=∃ es clock,∃ ks:cR,Holds h A (.map es clock)/\es.map (λx:MapEntry=>x.key)=ks.map ae.val/\(∀ a,a∈ks↔a∈met)/\∀ x∈es,x.val=.agg ⟨[]⟩
section
variable {T:bm} {t kt et:TypeId} {A:Nat} {met:cR} {a:ae} {h1:Heap} {bs:List bd} {w:Nat} {K:aF} {z:ai}
theorem aag.over (m:aag h1 A met) {h2:Heap} (x:Ext (h1.lay bs w) h2):aag h2 A met:=by
 obtain ⟨es,cl,ks,m1,m2,m3⟩:=m
 exact ⟨es,cl,ks,m1.over x,m2,m3⟩
theorem aag.ext (m:aag h1 A met) {h2:Heap} (x:Ext h1 h2):aag h2 A met:=by
 obtain ⟨es,cl,ks,m1,m2,m3⟩:=m
 exact ⟨es,cl,ks,⟨eR m1.lt x.size,(x.get A m1.lt).trans m1.get⟩,m2,m3⟩
theorem aag.top {h2:Heap} {i:Nat} (x:Ext (h1.lay bs w) h2) (hi:bs[i]? = some (.map [] 0)):aag h2 (h1.size+i) []:=⟨[],0,[],Holds.top x hi,rfl,λ_=>Iff.rfl,λ_ hx=>by simp at hx⟩
end
theorem zsZ {T:bm} {t u:TypeId} {A n:Nat} {cs:List ai} {v:ai} {h1:Heap} {bs:List bd} {w:Nat} {K:aF} (q:Holds h1 A (.row cs u false)) (hs:c9 T t=some n) (hv:v.cells.toList.length=n) (hl:cs.length=n) (b8:v.cells.toList.all one=true)
 (hK:∀ h',Holds h' A (.row v.cells.toList u false)->gL A (h1.lay bs w) h'->K undef h'):lr (gm T t (.pointer (some ⟨A,0,none⟩)) v (h1.lay bs w)) K:=by
 have hg:(h1.lay bs w).get A=some (.row cs u false):=q.lay bs w
 have hA:A < (h1.lay bs w).size:=(q.on bs w).lt
 have cA:v.cells.size=n:=by rw [<- hv];simp
 have hw:nQ A 0 v.cells.toList (h1.lay bs w)=some ((h1.lay bs w).set A (.row v.cells.toList u false)):=by
  unfold nQ
  rw [hg]
  simp only
  rw [aC (by simp only [cY,jW];exact ⟨by omega,b8⟩)]
  congr 2
  unfold an
  rw [List.take_zero,List.nil_append,zzd (by omega),cU]
 have he:gm T t (.pointer (some ⟨A,0,none⟩)) v (h1.lay bs w)=some ((h1.lay bs w).set A (.row v.cells.toList u false)):=by
  unfold gm
  simp only [hs,cM]
  rw [aC cA]
  exact hw
 rw [he]
 refine hK _ ⟨by rw [Heap.size_set];exact hA,by rw [Heap.aL _ _ _ _ hA,aC rfl]⟩ ⟨by rw [Heap.size_set];exact bg _,λB hB aV=>by rw [Heap.aL _ _ _ _ hA,ay aV],by rw [Heap.bY];omega⟩
theorem zpS (t:aH):t.val.cells.toList=t.cells:=rfl
end Go.Am
namespace Go.Am
def UT:List UInt8:=[32,115,97,121,115,32]
def UF:List UInt8:=[44,32]
def se (a:ae):List (List UInt8):=a.args.map λt=>t.s.data.toList
def lR (a:ae):List UInt8:=a.says.data.toList++UT++a.pred.data.toList++(if a.args=[] then [] else [40]++Lib.join (se a) UF++[41])
def bZ (a b:ae):Int:=Lib.compareBytes (lR a) (lR b)
theorem aaI (x:aA):x.data.toList.length=x.size:=by rw [nT];rfl
end Go.Am
namespace Go.Am
open Go.RowKit Go.Sort Go.Proofs
section
variable {P:Program} {gs:List Nat}
end
end Go.Am

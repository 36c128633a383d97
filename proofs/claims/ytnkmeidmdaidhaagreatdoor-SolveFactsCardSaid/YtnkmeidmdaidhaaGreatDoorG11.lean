/- Parts of slices; appending to a part that has no room. No condition. -/
import Derived.Test.YtnkmeidmdaidhaaGreatDoorG10
import Derived.Test.YtnkmeidmdaidhaaGreatDoorG6
import Derived.Shelf.Sort.Plain
import Derived.Shelf.Slices.In.SortNone
import Derived.Shelf.Slices.CompactS
set_option linter.unusedSimpArgs false
set_option linter.unusedVariables false
noncomputable section
namespace Go.Am
variable {a b i n:Nat} {kd Pl:IntKind} {hi lo:Option ai}
section
variable {Z:Type} {r:aC Z} {h0 h h1:Heap} {v:ai} {l:List Z} {t e:TypeId} {T:bJ} {bs:List aZ} {w:Nat} {K:aJ}
def fp (x:Option ai) (d n:Nat):Prop:=(x=none/\n=d)\/∃ kd,x=some (.int kd n)
theorem fp.no (n:Nat):fp none n n:=.inl ⟨rfl,rfl⟩
theorem fp.num (kd:IntKind) (d n:Nat):fp (some (.int kd n)) d n:=.inr ⟨kd,rfl⟩
theorem zof {hi:Nat} (hn:n<=hi):xV (.int kd n) hi=some n:=by
 have:(0:Int)<=n/\(n:Int)<=hi:=by omega
 simp only [xV,this,and_self,if_true,uK]
theorem MS {c:Nat} (gJ:fp lo 0 a) (o0:fp hi n b) (vY:a<=b) (Ui:b<=c):qZ n c lo hi none=some (a,b,c):=by
 unfold qZ
 rcases gJ with ⟨rfl,rfl⟩|⟨kd,rfl⟩ <;> rcases o0 with ⟨rfl,rfl⟩|⟨Pl,rfl⟩ <;> simp [zof,vY,Ui]
theorem Xp {c:Nat} (hi:i<=c):qZ n c none (some (.int kd i)) (some (.int Pl i))=some (0,i,i):=by
 unfold qZ
 simp [zof,hi]
theorem WX:0 < G:=by unfold G;omega
theorem HO {k q:Nat} (hk:0 < k) (hq:q < G):G<=G*k+q/\(G*k+q) / G=k/\(G*k+q) % G=q:=by
 obtain ⟨c1,c2,c3⟩:=CX (k:=k) (q:=q) hk hq
 exact ⟨by omega,c3,c2⟩
theorem Sl.sub (f:Sl r h v l) (hk:0 < r.k) (hd:T.desc t=some (.slice e)) (hs:dJ T e=some r.k) (gJ:fp lo 0 a) (o0:fp hi l.length b) (vY:a<=b) (hb:b<=l.length) :
 ∃ v',lN T t v lo hi none=some v'/\Sl r h v' ((l.take b).drop a):=by
 have hlen:((l.take b).drop a).length=b - a:=by simp;omega
 have zU:∀ (i:Nat) (x:Z),((l.take b).drop a)[i]? = some x->l[a+i]? = some x/\i < b - a:=by
  intro i x hx
  have:=(fG.1 hx).1
  rw [hlen] at this
  rw [lq,F6 (by omega)] at hx
  exact ⟨hx,this⟩
 rcases f with ⟨rfl,rfl⟩|⟨A,o,c,row,u,ro,rfl,e2,e3,e4,e5,e6⟩
 .have sI:b=0:=by simpa using hb
  subst sI
  have DW:a=0:=by omega
  subst DW
  refine ⟨.slice none 0 0,?_,by simpa using Sl.nil⟩
  unfold lN
  simp only [hd,hs,dO,aD WX]
  have:=MS (n:=0) (c:=0) gJ (by simpa using o0) (aR 0) (aR 0)
  rw [this]
  rfl
 .rcases e3 with ⟨c1,c2⟩|⟨c1,c2,c3⟩
  .refine ⟨.slice (some ⟨A,if c=a then o else o+a*r.k,none⟩) (b - a) (c - a),?_,?_⟩
   .unfold lN
    simp only [hd,hs,dO,aD c1]
    rw [MS gJ o0 vY (by omega)]
    rfl
   .refine .inr ⟨A,_,c - a,row,u,ro,by rw [hlen],by rw [hlen];omega,.inl ⟨by omega,by rw [hlen];omega⟩,e4,e5,λi x hx=>?_⟩
    obtain ⟨hx,hi⟩:=zU i x hx
    obtain ⟨cs,g1,g2⟩:=e6 _ _ hx
    refine ⟨cs,?_,g2⟩
    rw [az (by omega),pB,<- rk]
    exact g1
  .refine ⟨.slice (some ⟨A,o+a*r.k,none⟩) (b - a) (G*r.k+(c % G - a)),?_,?_⟩
   .unfold lN
    simp only [hd,hs,dO,az (show ¬ c < G by omega),aD c2]
    rw [MS gJ o0 vY (by omega)]
    rfl
   .have hm:=Nat.mod_lt c WX
    obtain ⟨d1,d2,d3⟩:=HO (k:=r.k) (q:=c % G - a) hk (by omega)
    refine .inr ⟨A,_,_,row,u,ro,by rw [hlen],by rw [hlen];omega,.inr ⟨d1,d2,by rw [hlen,d3];omega⟩,e4,e5,λi x hx=>?_⟩
    obtain ⟨hx,hi⟩:=zU i x hx
    obtain ⟨cs,g1,g2⟩:=e6 _ _ hx
    refine ⟨cs,?_,g2⟩
    rw [pB,<- rk]
    exact g1
theorem Sl.full (f:Sl r h v l) (hd:T.desc t=some (.slice e)) (hs:dJ T e=some r.k) (hi:i<=l.length) :
 ∃ base,lN T t v none (some (.int kd i)) (some (.int Pl i))=some (.slice base i i)/\Sl r h (.slice base i i) (l.take i):=by
 have hlen:(l.take i).length=i:=by simp;omega
 rcases f with ⟨rfl,rfl⟩|⟨A,o,c,row,u,ro,rfl,e2,e3,e4,e5,e6⟩
 .have sI:i=0:=by simpa using hi
  subst sI
  refine ⟨none,?_,by simpa using Sl.nil⟩
  unfold lN
  simp only [hd,hs,dO,aD WX]
  rw [Xp (aR 0)]
  rfl
 .have hG:maxLen < G:=by decide
  have zU:Sl r h (.slice (some ⟨A,o,none⟩) i i) (l.take i):=by
   refine .inr ⟨A,o,i,row,u,ro,by rw [hlen],by rw [hlen];omega,.inl ⟨by omega,by rw [hlen];omega⟩,e4,e5,λj x hx=>?_⟩
   have hj:=(fG.1 hx).1
   rw [hlen] at hj
   rw [F6 hj] at hx
   exact e6 _ _ hx
  refine ⟨some ⟨A,o,none⟩,?_,zU⟩
  rcases e3 with ⟨c1,c2⟩|⟨c1,c2,c3⟩
  .unfold lN
   simp only [hd,hs,dO,aD c1]
   rw [Xp (by omega)]
   simp
  .unfold lN
   simp only [hd,hs,dO,az (show ¬ c < G by omega),aD c2]
   rw [Xp (by omega)]
   simp
theorem zzN (f:Sl r h1 v l) (hk:0 < r.k) (hd:T.desc t=some (.slice e)) (hs:dJ T e=some r.k) (gJ:fp lo 0 a) (o0:fp hi l.length b) (vY:a<=b) (hb:b<=l.length)
 (hK:∀ v',Sl r h1 v' ((l.take b).drop a)->K v' (h1.lay bs w)):aK (lN T t v lo hi none) (h1.lay bs w) K:=by
 obtain ⟨v',g1,g2⟩:=f.sub hk hd hs gJ o0 vY hb
 rw [g1]
 exact hK v' g2
theorem P8 (f:Sl r h1 v l) (hk:0 < r.k) (hd:T.desc t=some (.slice e)) (hs:dJ T e=some r.k) (ha:a<=l.length)
 (hK:∀ v',Sl r h1 v' (l.drop a)->K v' (h1.lay bs w)):aK (lN T t v (some (.int kd a)) none none) (h1.lay bs w) K :=
 zzN f hk hd hs (fp.num kd _ a) (fp.no _) ha (aR _) (λv' h=>hK v' (by rw [Ge] at h;exact h))
theorem zoM (f:Sl r h1 v l) (hd:T.desc t=some (.slice e)) (hs:dJ T e=some r.k) (hi:i<=l.length)
 (hK:∀ base,Sl r h1 (.slice base i i) (l.take i)->K (.slice base i i) (h1.lay bs w)):aK (lN T t v none (some (.int kd i)) (some (.int Pl i))) (h1.lay bs w) K:=by
 obtain ⟨b,g1,g2⟩:=f.full hd hs hi
 rw [g1]
 exact hK b g2
theorem zr6 {k bytes:Nat} {z:List ai} {base:Option Addr} {x:ai} {l2:List Z} (hd:T.desc t=some (.slice e)) (hi:T.info e=some (k,bytes,z)) (Cs:r.k=k) (hk:0 < k) (hz:h0.size<=h.size)
 (f:Sl r h (.slice base l.length l.length) l) {m:Nat} {news:List ai} (hs:fU x k h=some (m,news)) (j3:Src r h m news l2) (Ai:0 < m)
 (hb:(l.length+m)*bytes<=140737488355328) (hl:l.length+m<=1152921504606846976) :
 ∃ v' h',jT T t (.slice base l.length l.length) x h=some (v',h')/\Ow r h0 h' e h.size v' (l++l2)/\Ext h h':=by
 subst Cs
 obtain ⟨hm,Ey,h1,wW⟩:=j3
 obtain ⟨qE,s1,WE,Lz,so3,Pw⟩:=xR (A:=h.size) hk f (λcs y hr=>by rw [Nq (aR _)];exact hr)
 rw [Nq (aR _)] at Pw
 have mw:nj (.slice base l.length l.length) r.k h=some qE:=by
  simp only [fU,ct,cQ] at s1
  obtain ⟨a,ha,_,rfl⟩:=s1
  exact ha
 have hlG:l.length < G:=by unfold G;omega
 have Eu:l.length % G=l.length:=Dh hlG
 refine ⟨.slice (some ⟨h.size,0,none⟩) (l.length+m) (G*r.k+(l.length+m)),h.push (.row (qE++news) e false),?_,?_,?_⟩
 .unfold jT
  simp only [hd,hi,hs,dO]
  rw [az (by omega),az,az (by rw [Eu];omega)]
  .simp only [mw,dO]
   rw [aD hlG]
  .simp only [sg,jm,zi,h1,not_or]
   exact ⟨⟨⟨by omega,by omega⟩,by omega⟩,by simp⟩
 .have wF:bN h ((h.push (.row (qE++news) e false)).set h.size .dead):=⟨by rw [Heap.size_set,Heap.size_push];omega,λB hB _=>by
   rw [Heap.aG _ _ _ _ (by rw [Heap.size_push];omega),az (by omega),Heap.bA,az (by omega)]⟩
  refine .inr ⟨qE++news,by rw [cE,hm],λhh=>?_,hz,by rw [Heap.size_push];omega,by rw [Heap.bA,aD rfl],by rw [cE,cE,Lz,Ey,hm,rk],by rw [cE,hm];exact hl,λi y hy=>?_⟩
  .have:=congrArg List.length hh
   rw [cE,hm] at this
   simp at this
   omega
  .by_cases hi:i < l.length
   .rw [jz hi] at hy
    obtain ⟨cs,g1,g2⟩:=Pw i y hy
    exact ⟨cs,YP g1,r.mono _ _ _ _ wF g2⟩
   .rw [lp (by omega)] at hy
    obtain ⟨cs,g1,g2⟩:=wW _ y hy
    refine ⟨cs,?_,r.mono _ _ _ _ wF g2⟩
    have:=YG (a:=qE) g1
    rwa [Lz,<- rk,show l.length+(i - l.length)=i by omega] at this
 .refine ⟨by rw [Heap.size_push];omega,λA hA=>by rw [Heap.bA,az (by omega)],by rw [Heap.eY];omega⟩
end
end Go.Am
namespace Go.Am
variable {l:List au} {x y:au} {i:Nat} {s:aU}
def slt (a b:aU):Bool:=Op.bytesLess a.data.toList b.data.toList
theorem Q3:∀ (x y:List UInt8),Op.bytesLess x y=decide (x < y)
 | [],[]=>by simp [Op.bytesLess]
 |_::_,[]=>by simp [Op.bytesLess]
 | [],_::_=>by simp [Op.bytesLess]
 |a::x,b::y=>by
  rw [Op.bytesLess,Q3 x y]
  simp only [List.cons_lt_cons_iff]
  by_cases h1:a < b <;> by_cases h2:a=b <;> by_cases h3:x < y <;> simp [h1,h2,h3]
theorem Hr (a:aU):slt a a=false:=by
 unfold slt
 rw [Q3]
 simp [List.lt_irrefl]
theorem MX {a b c:aU} (h1:slt a b=true) (h2:slt b c=true):slt a c=true:=by
 unfold slt at *
 rw [Q3] at *
 simp only [jm] at *
 exact List.lt_trans h1 h2
theorem zpB {a b:aU} (h1:slt a b=false) (h2:slt b a=false):a=b:=by
 unfold slt at *
 rw [Q3] at *
 simp only [decide_eq_false_iff_not,List.not_lt] at *
 exact F5 (List.le_antisymm h2 h1)
def lZ (l:List au) (m:Nat):Prop:=∀ k x y,k+1 < m->l[k]? = some x->l[k+1]? = some y->slt x.var y.var=true
theorem zlJ {m:Nat} (h:m<=1):lZ l m:=by
 intro k x y hk
 omega
theorem zrm (h:lZ l i) (h0:0 < i) (hx:l[i - 1]? = some x) (hy:l[i]? = some y) (hs:slt x.var y.var=true):lZ l (i+1):=by
 intro k a b hk ha hb
 by_cases rK:k+1 < i
 .exact h k a b rK ha hb
 .have rK:k=i - 1:=by omega
  subst rK
  have e:i - 1+1=i:=by omega
  rw [e] at hb
  obtain rfl:x=a:=Option.some.inj (hx.symm.trans ha)
  obtain rfl:y=b:=Option.some.inj (hy.symm.trans hb)
  exact hs
theorem zuW (h0:0 < i) (hx:l[i - 1]? = some x) (hy:l[i]? = some y) (hs:¬ slt x.var y.var=true):¬ lZ l l.length:=by
 intro hR
 refine hs (hR (i - 1) x y ?_ hx ?_)
 .have:=(fG.1 hy).1
  omega
 .rw [show i - 1+1=i by omega]
  exact hy
theorem Ht (h:lZ l l.length) {j:Nat} (fw:i < j) (hx:l[i]? = some x) (hy:l[j]? = some y):slt x.var y.var=true:=by
 induction j generalizing y with
 |zero=>omega
 |succ j ih =>
  have hj:=(fG.1 hy).1
  have hz:l[j]? = some l[j]:=iH (by omega)
  have h1:=h j l[j] y hj hz hy
  by_cases he:i=j
  .subst he
   rw [hz] at hx
   cases hx
   exact h1
  .exact MX (ih (by omega) hz) h1
def bE (l:List au) (s:aU):ay × Bool:=match l.find? (λx=>decide (x.var=s)) with
 |some x=>(x.term,true)
 |none=>(bD,false)
theorem zBs {Z:Type} {p:Z->Bool} {l:List Z} {x:Z} (hx:l[i]? = some x) (aB:∀ y∈l.take i,p y=false) (hp:p x=true):l.find? p=some x:=by
 induction l generalizing i with
 |nil=>simp at hx
 |cons a l ih =>
  rw [List.find?_cons]
  cases i with
  |zero =>
   simp at hx
   subst hx
   simp [hp]
  |succ i =>
   have ha:=aB a (by simp)
   rw [ha]
   exact ih (i:=i) (by simpa using hx) (λy hy=>aB y (by simp [hy]))
theorem zxS (hx:l[i]? = some x) (aB:∀ y∈l.take i,y.var≠s) (hp:x.var=s):bE l s=(x.term,true):=by
 unfold bE
 rw [zBs hx (λy hy=>by simpa using aB y hy) (by simpa using hp)]
theorem zxT (aB:∀ y∈l,y.var≠s):bE l s=(bD,false):=by
 unfold bE
 rw [List.find?_eq_none.2 (λx hx=>by simpa using aB x hx)]
theorem zu0 (h:lZ l l.length) (hi:i<=l.length) (gJ:0 < i->(match l[i - 1]? with|some x => !slt x.var s|none=>false)=false):∀ y∈l.take i,y.var≠s:=by
 intro y hy
 obtain ⟨k,hk,rfl⟩:=zf hy
 rw [gR] at hk
 rw [List.getElem_take]
 have h0:=gJ (by omega)
 have hx:l[i - 1]? = some (l[i - 1]'(by omega)):=iH (by omega)
 rw [hx] at h0
 simp only [Bool.not_eq_eq_eq_not,Bool.not_false] at h0
 have aT:slt (l[k]'(by omega)).var s=true:=by
  by_cases he:k=i - 1
  .subst he
   exact h0
  .exact MX (Ht h (show k < i - 1 by omega) (iH (by omega)) hx) h0
 intro he
 rw [he,Hr] at aT
 cases aT
def eG (l:List au):Prop:=lZ l l.length/\∀ b∈l,b.term.s≠⟨#[]⟩/\¬ (b.term.v=true/\(bE l b.term.s).2=true)
def cu (l:List au) (t:ay):ay:=if (bE l t.s).2=true/\t.v=true then (bE l t.s).1 else t
def gE (l m:List au):List au:=l.map λb=>⟨b.var,cu m b.term⟩
def mL (b:au):Bool:=b.term.v && decide (b.term.s=b.var)
def kE (l:List au) (b:au):List au:=l.takeWhile (λx => !slt b.var x.var)++b::l.dropWhile (λx => !slt b.var x.var)
theorem zpI {Z:Type} {p:Z->Bool} {l:List Z} (hi:i<=l.length) (aB:∀ y∈l.take i,p y=true) (hn:∀ x,l[i]? = some x->p x=false):l.takeWhile p=l.take i/\l.dropWhile p=l.drop i:=by
 induction l generalizing i with
 |nil=>simp
 |cons a l ih =>
  cases i with
  |zero =>
   have:=hn a (by simp)
   simp [this]
  |succ i =>
   have ha:=aB a (by simp)
   have:=ih (i:=i) (by simpa using hi) (λy hy=>aB y (by simp [hy])) (λx hx=>hn x (by simpa using hx))
   simp [ha,this]
theorem ztk {b:au} (h:lZ l l.length) (hi:i<=l.length) (gJ:0 < i->(match l[i - 1]? with|some x=>slt b.var x.var|none=>false)=false) (o0:i < l.length->(match l[i]? with|some x=>slt b.var x.var|none=>false)=true) :
 kE l b=l.take i++b::l.drop i:=by
 unfold kE
 obtain ⟨e1,e2⟩:=zpI (p:=λx:au => !slt b.var x.var) hi (λy hy=>by
  obtain ⟨k,hk,rfl⟩:=zf hy
  rw [gR] at hk
  rw [List.getElem_take]
  have h0:=gJ (by omega)
  have hx:l[i - 1]? = some (l[i - 1]'(by omega)):=iH (by omega)
  rw [hx] at h0
  simp only at h0
  by_cases he:k=i - 1
  .subst he
   simpa using h0
  .have h2:=Ht h (show k < i - 1 by omega) (iH (by omega)) hx
   cases h3:slt b.var (l[k]'(by omega)).var
   .rfl
   .rw [MX h3 h2] at h0
    cases h0) (λx hx=>by
  have h0:=o0 (fG.1 hx).1
  rw [hx] at h0
  simpa using h0)
 rw [e1,e2]
theorem PT {f:au->ay} (h:lZ l l.length):lZ (l.map λb=>⟨b.var,f b⟩) (l.map λb=>(⟨b.var,f b⟩:au)).length:=by
 intro k x y hk hx hy
 rw [gw] at hk
 rw [lP] at hx hy
 simp only [ct] at hx hy
 obtain ⟨x',oz,rfl⟩:=hx
 obtain ⟨y',sQ,rfl⟩:=hy
 exact h k x' y' hk oz sQ
open Classical in
def jW (l:List au) (v:aU) (t:ay):Option (List au) :=
 if ¬ eG l then none
 else if v=⟨#[]⟩\/t.s=⟨#[]⟩ then none
 else if (bE l v).2=true then none
 else if mL ⟨v,cu l t⟩=true then none
 else some (kE (gE l [⟨v,cu l t⟩]) ⟨v,cu l t⟩)
def mP (a b:ae):Bool:=decide (a.says=b.says) && (decide (a.pred=b.pred) && (decide (a.n=b.n) && (decide (0<=a.n) && decide (a.n<=4))))
def tb (out:List au) (x y:ay):Option (List au) :=
 if x.v=false then (if x=y then some out else none)
 else if (bE out x.s).2=true then (if (bE out x.s).1=y then some out else none)
 else jW out x.s y
def r8 (p g:ae):Nat->List au->Option (List au)
 |0,out=>some out
 |n+1,out=>(r8 p g n out).bind λo=>tb o (p.arg n) (g.arg n)
def rA (l:List au) (x:ay):Bool:=x.v && (decide (x.s=⟨#[]⟩) || ((bE l x.s).2 && (bE l x.s).1.v))
open Classical in
def bG (l:List au) (p g:ae):Option (List au) :=
 if ¬ eG l\/mP p g=false\/g.ground=false then none
 else if ∃ i:Nat,i < 4/\(i:Int) < p.n/\rA l (p.arg i)=true then none
 else r8 p g p.n.toNat l
def Gs:aN->aN->List au->Option (List au)
 |p::ps,g::gs,l=>(bG l p g).bind (Gs ps gs)
 |_,_,l=>some l
end Go.Am
namespace Go.Am
section
variable {P:Program} {T:bJ} {ov:Ov} {d:Option Tmp} {ty:TypeId} {pos:String} {af:Array Edge} {g:Option (Nat × Bool)} {e:Env} {h:Heap} {K:aJ}
theorem MZ (t:TypeId):cv P T ov ⟨d,.makeMap t none,ty,pos,af,g⟩ e h K=K (.map (some h.size)) (h.push (.map [] 0)):=rfl
theorem Ni (t:TypeId) (x k:Operand) (ok:Bool):cv P T ov ⟨d,.lookup t x k ok,ty,pos,af,g⟩ e h K=aK (u9 T t (bz e x) (bz e k) ok h) h K:=by rw [<- yP];rfl
theorem MK (t:TypeId) (m k x:Operand):cv P T ov ⟨d,.mapUpdate t m k x,ty,pos,af,g⟩ e h K=lG (oG T t (bz e m) (bz e k) (bz e x) h) K:=by
 show dv ((oG T t (bz e m) (bz e k) (bz e x) h).map λh'=>(undef,h')) K=_
 cases oG T t (bz e m) (bz e k) (bz e x) h <;> rfl
end
def fh (h:Heap) (A:Nat) (met:aN):Prop:=∃ es clock,∃ ks:aN,Holds h A (.map es clock)/\es.map (λx:MapEntry=>x.key)=ks.map ae.val/\(∀ a,a∈ks↔a∈met)/\∀ x∈es,x.val=.agg ⟨[]⟩
theorem Yn {T:bJ} {kt:TypeId} {a:ae} (heq:∀ x y:ae,dC T 20 kt x.val y.val=some (decide (x=y))):∀ (es:List MapEntry) (ks:aN) (i:Nat),es.map (λx:MapEntry=>x.key)=ks.map ae.val ->
 (a ∉ ks->mb T kt a.val es i=some none)/\(a∈ks->∃ r,mb T kt a.val es i=some (some r)/\∃ x∈es,x.val=r.2)
 | [],ks,i,hk=>by
  cases ks with
  |nil=>exact ⟨λ_=>rfl,λh=>by simp at h⟩
  |cons k ks=>simp at hk
 |e::es,ks,i,hk=>by
  cases ks with
  |nil=>simp at hk
  |cons k ks =>
   simp only [qO,List.cons.injEq] at hk
   obtain ⟨h1,h2⟩:=Yn heq es ks (i+1) hk.2
   unfold mb
   rw [hk.1,heq]
   by_cases hx:a=k
   .subst hx
    simp
   .simp only [tn hx,dO,gX,if_false,df,hx,false_or]
    refine ⟨h1,λha=>?_⟩
    obtain ⟨r,g1,x,g2,g3⟩:=h2 ha
    exact ⟨r,g1,x,.inr g2,g3⟩
theorem zuR (a:ae):plain a.val=true:=rfl
theorem QS {T:bJ} {kt:TypeId} (a:ae) (heq:∀ x y:ae,dC T 20 kt x.val y.val=some (decide (x=y))):sc T kt a.val=true:=by
 unfold sc
 rw [zuR,heq]
 simp
section
variable {T:bJ} {t kt et:TypeId} {A:Nat} {met:aN} {a:ae} {h1:Heap} {bs:List aZ} {w:Nat} {K:aJ} {z:ai}
theorem fh.over (m:fh h1 A met) {h2:Heap} (x:Ext (h1.lay bs w) h2):fh h2 A met:=by
 obtain ⟨es,cl,ks,m1,m2,m3⟩:=m
 exact ⟨es,cl,ks,m1.over x,m2,m3⟩
theorem fh.ext (m:fh h1 A met) {h2:Heap} (x:Ext h1 h2):fh h2 A met:=by
 obtain ⟨es,cl,ks,m1,m2,m3⟩:=m
 exact ⟨es,cl,ks,⟨dr m1.lt x.size,(x.get A m1.lt).trans m1.get⟩,m2,m3⟩
theorem fh.top {h2:Heap} {i:Nat} (x:Ext (h1.lay bs w) h2) (hi:bs[i]? = some (.map [] 0)):fh h2 (h1.size+i) []:=⟨[],0,[],Holds.top x hi,rfl,λ_=>Iff.rfl,λ_ hx=>by simp at hx⟩
theorem zq5 (m:fh h1 A met) (hd:T.desc t=some (.map kt et)) (heq:∀ x y:ae,dC T 20 kt x.val y.val=some (decide (x=y))) (hz:T.zero et=some (.agg ⟨[]⟩))
 (hK:K (.tuple #[.agg ⟨[]⟩,.bool (decide (a∈met))]) (h1.lay bs w)):aK (u9 T t (.map (some A)) a.val true (h1.lay bs w)) (h1.lay bs w) K:=by
 obtain ⟨es,cl,ks,m1,m2,m3,m4⟩:=m
 obtain ⟨f1,f2⟩:=Yn (a:=a) heq es ks 0 m2
 have hg:(h1.lay bs w).get A=some (.map es cl):=m1.lay bs w
 unfold u9
 simp only [hd,QS a heq,if_true,Gl,hg,dO]
 by_cases ha:a∈ks
 .obtain ⟨r,hr,x,hx,hxr⟩:=f2 ha
  rw [hr]
  have:=hK
  rw [sk ((m3 a).1 ha)] at this
  have iu:r.2=.agg ⟨[]⟩:=by rw [<- hxr];exact m4 x hx
  simp only [iu,dO,lu,if_true]
  exact this
 .rw [f1 ha]
  simp only [hz,dO,lu,if_true]
  have:=hK
  rw [tn (λhh=>ha ((m3 a).2 hh))] at this
  exact this
theorem zrP {h:Heap} (m:fh h A met) (hd:T.desc t=some (.map kt et)) (heq:∀ x y:ae,dC T 20 kt x.val y.val=some (decide (x=y))) (ha:a ∉ met) :
 ∃ h',oG T t (.map (some A)) a.val (.agg ⟨[]⟩) h=some h'/\fh h' A (a::met)/\ff A h h':=by
 obtain ⟨es,cl,ks,m1,m2,m3,m4⟩:=m
 obtain ⟨f1,f2⟩:=Yn (a:=a) heq es ks 0 m2
 have hn:a ∉ ks:=λhh=>ha ((m3 a).1 hh)
 refine ⟨h.set A (.map (es++[{ key:=a.val,val:=.agg ⟨[]⟩,born:=cl }]) (cl+1)),?_,⟨_,_,ks++[a],⟨by rw [Heap.size_set];exact m1.lt,by rw [Heap.aG _ _ _ _ m1.lt,aD rfl]⟩,by simp [m2],λb=>?_,λx hx=>?_⟩,?_,?_,?_⟩
 .unfold oG
  simp only [hd,m1.get,QS a heq,if_true,f1 hn,dO]
 .simp [m3,Or.comm]
 .rcases gg.1 hx with hx|hx
  .exact m4 x hx
  .rw [ep.1 hx]
 .rw [Heap.size_set];exact aR _
 .intro B hB aM
  rw [Heap.aG _ _ _ _ m1.lt,az aM]
 .rw [Heap.cM];omega
end
theorem FQ {T:bJ} {t u:TypeId} {A n:Nat} {cs:List ai} {v:ai} {h1:Heap} {bs:List aZ} {w:Nat} {K:aJ} (q:Holds h1 A (.row cs u false)) (hs:dJ T t=some n) (hv:v.cells.toList.length=n) (hl:cs.length=n) (bU:v.cells.toList.all one=true)
 (hK:∀ h',Holds h' A (.row v.cells.toList u false)->ff A (h1.lay bs w) h'->K undef h'):lG (i7 T t (.pointer (some ⟨A,0,none⟩)) v (h1.lay bs w)) K:=by
 have hg:(h1.lay bs w).get A=some (.row cs u false):=q.lay bs w
 have hA:A < (h1.lay bs w).size:=(q.on bs w).lt
 have dS:v.cells.size=n:=by rw [<- hv];simp
 have hw:nM A 0 v.cells.toList (h1.lay bs w)=some ((h1.lay bs w).set A (.row v.cells.toList u false)):=by
  unfold nM
  rw [hg]
  simp only
  rw [aD (by simp only [dK,jm];exact ⟨by omega,bU⟩)]
  congr 2
  unfold aI
  rw [Dp,ya,C6 (by omega),bC]
 have he:i7 T t (.pointer (some ⟨A,0,none⟩)) v (h1.lay bs w)=some ((h1.lay bs w).set A (.row v.cells.toList u false)):=by
  unfold i7
  simp only [hs,dO]
  rw [aD dS]
  exact hw
 rw [he]
 refine hK _ ⟨by rw [Heap.size_set];exact hA,by rw [Heap.aG _ _ _ _ hA,aD rfl]⟩ ⟨by rw [Heap.size_set];exact aR _,λB hB aM=>by rw [Heap.aG _ _ _ _ hA,az aM],by rw [Heap.cM];omega⟩
theorem Qw {Z:Type} {r:aC Z} {h:Heap} {v:ai} {l:List Z} (f:Sl r h v l):v.cells.toList=[v]:=by
 rcases f with ⟨rfl,_⟩|⟨A,o,c,row,u,ro,rfl,_⟩ <;> rfl
theorem zth (v:ai) (h:Heap) (K:aJ):aK (some v) h K=K v h:=rfl
theorem MT (t:ay):t.val.cells.toList=t.cells:=rfl
end Go.Am
namespace Go.Am
variable {a:ae}
def Of:List UInt8:=[32,115,97,121,115,32]
def gk:List UInt8:=[44,32]
def nK (a:ae):List (List UInt8):=a.args.map λt=>t.s.data.toList
def iG (a:ae):List UInt8:=a.says.data.toList++Of++a.pred.data.toList++(if a.args=[] then [] else [40]++Lib.join (nK a) gk++[41])
def bj (a b:ae):Int:=Lib.compareBytes (iG a) (iG b)
theorem NJ (a b:aU):(a++b).data.toList=a.data.toList++b.data.toList:=by
 rw [ByteArray.data_append,Array.toList_append]
theorem Dz (x:aU):x.data.toList.length=x.size:=by rw [vu];rfl
theorem zxQ {row:List ai}:∀ (xs:List aU) (o:Nat),(∀ (i:Nat) (x:aU),xs[i]? = some x->cut row (o+i) 1=some [.string x])->cut row o xs.length=some (xs.map Value.string)\/xs=[]
 | [],o,h=>.inr rfl
 |x::xs,o,h=>by
  left
  have h0:=h 0 x rfl
  rw [gx] at h0
  have hr:=zxQ xs (o+1) (λi y hy=>by
   have:=h (i+1) y hy
   rwa [show o+(i+1)=o+1+i by omega] at this)
  unfold cut at h0 hr ⊢
  split at h0
  .rename_i hle
   simp only [eh] at h0
   rcases hr with hr|rfl
   .split at hr
    .rename_i akL
     simp only [eh] at hr
     rw [aD (by simp only [ek];omega)]
     simp only [ek,qO,eh]
     have e1:(row.drop o).take (xs.length+1)=(row.drop o).take 1++((row.drop o).drop 1).take xs.length:=by
      rw [Nat.add_comm,List.take_add]
     rw [e1,h0,BG,hr]
     rfl
    .cases hr
   .rw [aD (by simp only [ek,db];omega)]
    simp only [ek,db,qO,List.map_nil]
    rw [h0]
  .cases h0
theorem zzL (xs:List aU):strs (xs.map Value.string)=some xs:=by
 induction xs with
 |nil=>rfl
 |cons x xs ih=>simp only [qO,strs,ih,lu]
theorem zBw {h:Heap} {v:ai} {xs:List aU} {sep:aU} (f:Sl aC.str h v xs) (aM:xs≠[]) (hl:xs.length<=1000) (hj:(Lib.join (xs.map (·.data.toList)) sep.data.toList).length<=100000) :
 Gp [v,.string sep] h=some (.string ⟨(Lib.join (xs.map (·.data.toList)) sep.data.toList).toArray⟩,h):=by
 rcases f with ⟨_,e⟩|⟨A,o,c,row,u,ro,rfl,_,_,_,hg,zU⟩
 .exact absurd e aM
 .have tX:xs.length≠0:=λe=>aM (C8.1 e)
  have hc:cut row o xs.length=some (xs.map Value.string):=by
   rcases zxQ (row:=row) xs o (λi x hx=>by
    obtain ⟨cs,g1,g2⟩:=zU i x hx
    have g2':cs=[.string x]:=g2
    rw [g2'] at g1
    have g1':cut row (o+i*1) 1=some [.string x]:=g1
    rwa [Nat.mul_one] at g1') with h1|h1
   .exact h1
   .exact absurd h1 aM
  unfold Gp
  simp only [tX,if_false,kY,hg,hc,dO,zzL]
  rw [aD ⟨by omega,by omega⟩]
theorem zBu {a b d:Heap} {A:Nat} (i:bN a b) (c:ff A b d) (hA:a.size<=A):bN a d:=⟨eA i.size c.size,λB hB hd=>(c.get B (dr hB i.size) (by omega)).trans (i.get B hB hd)⟩
theorem zx3 (h:a.args.length=0):iG a=a.says.data.toList++Of++a.pred.data.toList:=by
 have:a.args=[]:=C8.1 h
 unfold iG
 rw [aD this,bC]
theorem zCt {s:aU} {l:List UInt8} (h:s.data.toList=l):s=⟨l.toArray⟩:=by
 apply F5
 rw [h]
theorem zsv:∀ (l:List (List UInt8)) (m:Nat),(∀ x∈l,x.length<=m)->(Lib.join l gk).length<=l.length*(m+2)
 | [],m,_=>by simp [Lib.join]
 | [x],m,h=>by
  rw [Lib.join_one]
  have:=h x (by simp)
  simp
  omega
 |x::y::l,m,h=>by
  have e:(Lib.join (x::y::l) gk).length=x.length+gk.length+(Lib.join (y::l) gk).length:=by simp [Lib.join,List.intercalate];omega
  have h1:=zsv (y::l) m (λz hz=>h z (by simp only [df] at hz ⊢;exact .inr hz))
  have h2:=h x (by simp)
  have h3:gk.length=2:=rfl
  rw [e]
  simp only [ek,vz] at h1 ⊢
  omega
theorem zuo (h:a.bW=true):∀ t∈a.args,t.s.size<=300:=by
 intro t ht
 have h1:=List.mem_of_mem_take ht
 simp only [df,il,or_false] at h1
 rcases h1 with rfl|rfl|rfl|rfl
 .exact M6 h 0
 .exact M6 h 1
 .exact M6 h 2
 .exact M6 h 3
theorem zuh (h:a.bW=true):(Lib.join (nK a) gk).length<=1300:=by
 have h1:=zsv (nK a) 300 (λx hx=>by
  unfold nK at hx
  obtain ⟨t,ht,rfl⟩:=pC.1 hx
  rw [Dz]
  exact zuo h t ht)
 have h2:(nK a).length<=4:=by
  unfold nK
  rw [gw,Bc]
  unfold ae.bx
  omega
 have h3:(nK a).length*(300+2)<=4*302:=uJ _ h2
 omega
theorem zx4 (h:¬ a.args.length=0):iG a=a.says.data.toList++Of++a.pred.data.toList++[40]++Lib.join (nK a) gk++[41]:=by
 have:a.args≠[]:=λe=>h (by rw [e];rfl)
 unfold iG
 rw [az this]
 simp only [se]
end Go.Am
namespace Go.Am
open Go.RowKit Go.Sort Go.Proofs
section
variable {P:Program} {gs:List Nat}
end
end Go.Am

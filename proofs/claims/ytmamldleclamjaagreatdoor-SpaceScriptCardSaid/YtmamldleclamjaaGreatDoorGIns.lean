/- slices.Insert of one element, in place of its text. No condition. -/
import Derived.Test.YtmamldleclamjaaGreatDoorG6
import Derived.Lib.Overlaps
import Derived.Lib.AppendZerosOnto
set_option linter.unusedSimpArgs false
set_option linter.unusedVariables false
namespace Go.Am
open Go.RowKit
variable {fz:Nat × Nat} {cur:Array ah} {e t:TypeId} {m:List ah} {b o:Nat}
section
variable {P:Program} {gs:List Nat} {ρ:cn} {h:Heap} {w:World}
theorem zxR (hs:bR ρ h w) (gi:ρ h.size=none) {A off:Nat} {L:Loc} {cs news:List ah} {W:World} (hA:ρ A=some L) (hg:h.get A=some (.row cs e false))
 (pQ:nU e cur.size fz) (pR:cur.size=L.vD) (qV:W.heap[L.b]? = some (.cells cur e fz)) (jv:∀ b,b≠L.b->W.heap[b]? = w.heap[b]?) (dF:W.heap.size=w.heap.size)
 (vo:W.os=w.os) (htp:W.tape=w.tape) (dN:W.output=w.output) (km:cut cur.toList off news.length=some m) (hn:cx ρ news m) :
 ∃ ρ',ρ' h.size=some ⟨L.b,off,L.vD⟩/\Fr ρ ρ' h ((h.set A .dead).push (.row news e false)) w W/\bR ρ' ((h.set A .dead).push (.row news e false)) W:=by
 have uS:A < h.size:=Heap.bE hg
 have eM:∀ A L',ρ A=some L'->(λA=>if A=h.size then some (⟨L.b,off,L.vD⟩:Loc) else ρ A) A=some L':=by
  intro A L' hA
  have aS:A≠h.size:=λe=>by rw [e,gi] at hA;cases hA
  simp only [aA aS]
  exact hA
 have eT:∀ j,((h.set A .dead).push (.row news e false)).get j=if j=h.size then some (.row news e false) else if j=A then some .dead else h.get j:=by
  intro j
  rw [Heap.bC,Heap.size_set,Heap.aJ _ _ _ _ uS]
 have aS:∀ A' L',ρ A'=some L'->A'≠A->live h A'->L'.b≠L.b:=by
  intro A' L' dO e' j7 heq
  rcases hs.inj A' A L' L dO hA e' heq with h1|h1|h1
  .exact h1 j7
  .exact h1 ⟨_,hg,by simp⟩
  .obtain ⟨_,Ri,e2,rP⟩:=h1
   rw [hg] at rP
   cases rP
 refine ⟨λA=>if A=h.size then some ⟨L.b,off,L.vD⟩ else ρ A,by simp,⟨eM,?_,vo,htp,dN,by rw [dF];exact bo _,?_,w9 _ _,?_,?_⟩,⟨?_,?_⟩⟩
 .intro A' L' dO X1
  split at dO
  .rename_i e1
   cases dO
   refine ⟨by omega,by rw [Heap.size_push,Heap.size_set];omega,.inr ⟨A,L,hA,rfl,?_,by rw [Heap.size_push,Heap.size_set];omega⟩⟩
   rw [Heap.dB,Heap.cd]
   omega
  .rw [X1] at dO;cases dO
 .rw [Heap.size_push,Heap.size_set];omega
 .intro b hb aE
  refine jv b λe'=>?_
  subst e'
  have:=aE A L hA rfl
  rw [Heap.dB,Heap.cd,Heap.size_push,Heap.size_set] at this
  omega
 .intro A' dO hl
  rw [Heap.dB,Heap.cd] at hl
  rw [eT,aA (by omega),aA (by omega)]
 .intro A' L' dO
  rw [eT]
  split at dO
  .rename_i e1
   cases dO
   rw [aB e1]
   exact ⟨_,fz,qV,pQ,pR,m,km,hn.mono eM⟩
  .rename_i e1
   rw [aA e1]
   by_cases e2:A'=A
   .rw [aB e2]
    show L'.b < _
    rw [dF]
    exact hs.lt dO
   .rw [aA e2]
    exact (hs.j5 A' L' dO).keep eM (by rw [dF];exact bo _) λhl=>jv L'.b (aS A' L' dO e2 hl)
 .intro A1 A2 L1 L2 h1 h2 yg hb
  unfold live nh
  rw [eT,eT]
  have bt:∀ A' L',A'≠h.size->ρ A'=some L'->L.b=L'.b->¬ ∃ b,(if A'=A then some ba.dead else h.get A')=some b/\b≠.dead:=by
   intro A' L' hh dO jG
   by_cases e2:A'=A
   .simp [e2]
   .rw [aA e2]
    exact λj7=>aS A' L' dO e2 j7 jG.symm
  split at h1
  .rename_i e1
   split at h2
   .omega
   .rename_i e2
    cases h1
    right;left
    rw [aA e2]
    exact bt A2 L2 e2 h2 hb
  .rename_i e1
   split at h2
   .rename_i e2
    cases h2
    left
    rw [aA e1]
    exact bt A1 L1 e1 h1 hb.symm
   .rename_i e2
    rw [aA e1,aA e2]
    by_cases f1:A1=A
    .left;simp [f1]
    .by_cases f2:A2=A
     .right;left;simp [f2]
     .rw [aA f1,aA f2]
      exact hs.inj A1 A2 L1 L2 h1 h2 yg hb

theorem Sp {w:World} {u ty e':TypeId} {i:TypeInfo} (ht:P.underlying t=some (.slice e)) (hi:P.info? e=some i) {n c m q:Nat} {s':ah} {news:List ah} (hlen:Builtin.lenOf s'=pure m) (hq:min m n=q)
 (hf:(Builtin.firstCells i.size q s').run P w=.ok news.toArray w) (jb:w.heap[b]? = some (.cells cur e' fz)) (pQ:nU e' cur.size fz) (ko:o+news.length<=cur.size) (h1:∀ v∈news,v.oneCell'=true) :
 (Builtin.copy_ #[t,u] ty #[.slice (some ⟨b,o,none⟩) n c,s']).run P w=.ok (.int .i64 q) (w.setRow b (aF cur.toList o news).toArray):=by
 have eG:=Sg P b o e' fz news 0 cur w jb pQ (by omega) h1
 simp only [i0] at eG
 have yf:Nat.min m n=q:=hq
 simp [Builtin.copy_,run_underlying ht,hlen,yf,sizeOf,typeInfo,hi,hf,eG,goInt,aF]
theorem zBn {cur d us:List ah} {I N K:Nat} (hd:cut cur o N=some d) (hu:us.length=K) (hI:I<=N) (ko:o+N+K<=cur.length) :
 cut (aF (aF cur (o+I+K) (d.drop I)) (o+I) us) o (N+K)=some (d.take I++us++d.drop I):=by
 obtain ⟨h1,h2,h3⟩:=uv hd
 have sP:(d.drop I).length=N - I:=by rw [jM,h2]
 have wC:(d.take I).length=I:=by rw [fw,h2];omega
 have jt:(aF cur (o+I+K) (d.drop I)).length=cur.length:=pd (by omega)
 refine se (by rw [pd (by omega),jt];omega) (by rw [dI,dI,wC,sP,hu];omega) λj hj=>?_
 rw [bW _ _ _ _ (by omega),bW _ _ _ _ (by omega),hu,sP]
 by_cases c1:j < I
 .rw [aB (by omega),aB (by omega),ka,nz (by omega),mc,aB c1,h3 j (by omega)]
 .rw [aA (by omega)]
  by_cases c2:j < I+K
  .rw [aB (by omega),ka,qC (by omega),wC,nz (by omega)]
   congr 1
   omega
  .rw [aA (by omega),aA (by omega),aB (by omega),ka,qC (by omega),wC,qC (by omega),hu]
   congr 1
   omega
theorem zBo {cur d us:List ah} {I N K:Nat} (hd:d.length=N) (nc:∀ j,j < I->cur[j]? = d[j]?) (hu:us.length=K) (hI:I<=N) (ko:N+K<=cur.length) :
 cut (aF (aF cur I us) (I+K) (d.drop I)) 0 (N+K)=some (d.take I++us++d.drop I):=by
 have sP:(d.drop I).length=N - I:=by rw [jM,hd]
 have wC:(d.take I).length=I:=by rw [fw,hd];omega
 have jt:(aF cur I us).length=cur.length:=pd (by omega)
 refine se (by rw [pd (by omega),jt];omega) (by rw [dI,dI,wC,sP,hu];omega) λj hj=>?_
 rw [j3,bW _ _ _ _ (by omega),bW _ _ _ _ (by omega),hu,sP]
 by_cases c1:j < I
 .rw [aB (by omega),aB (by omega),ka,nz (by omega),mc,aB c1,nc j c1]
 .by_cases c2:j < I+K
  .rw [aB (by omega),aA (by omega),aB (by omega),ka,qC (by omega),wC,nz (by omega)]
  .rw [aA (by omega),aB (by omega),ka,qC (by omega),wC,qC (by omega),hu]
   congr 1
   omega
def ru (T:bO) (t:TypeId) (args:List ah) (h:Heap):Option (ah × Heap) :=
 match T.desc t,args with
 |some (.slice e),[.slice base n c,.int .i64 iz,.slice (some ⟨B,o2,none⟩) 1 c2] =>
  if iz=(n:Int) then iy T t (.slice base n c) (.slice (some ⟨B,o2,none⟩) 1 c2) h else
  match T.info e,base,h.get B with
  |some (k,bytes,_),some ⟨A,o,none⟩,some (.row _ eB false) =>
   match h.get A with
   |some (.row _ eA false) =>
    if (0<=iz/\iz < n/\A≠B/\eA=e/\eB=e/\e≠QS/\0 < k/\G<=c/\c / G=k)/\(n+1)*bytes<=140737488355328/\n+1<=1152921504606846976 then
     (iQ A o (n*k) h).bind λeD=>(iQ B o2 k h).bind λnews =>
     if news.all one=true/\eD.all one=true then some (.slice (some ⟨h.size,0,none⟩) (n+1) (G*k+(n+1)),(h.set A .dead).push (.row (eD.take (iz.toNat*k)++news++eD.drop (iz.toNat*k)) e false)) else none
    else none
   |_=>none
  |_,_,_=>none
 |_,_=>none
theorem zmT {T:bO} {args:List ah} {h h':Heap} {v:ah} (ak:ru T t args h=some (v,h')):bA h h':=by
 unfold ru at ak
 split at ak
 .split at ak
  .exact zgs ak
  .split at ak
   .split at ak
    .rename_i hg
     split at ak
     .simp only [cL] at ak
      obtain ⟨eD,_,news,_,ak⟩:=ak
      split at ak
      .cases ak
       exact (bA.set _ (Heap.bE hg)).trans (bA.push _ _)
      .cases ak
     .cases ak
    .cases ak
   .cases ak
 .cases ak
theorem zkk {w:World} {n:Nat} (jb:w.heap[b]? = some (.cells cur e fz)) (hc:cut cur.toList o n=some m):w.rangeAt b o m:=by
 obtain ⟨h1,h2,h3⟩:=uv hc
 intro j v hj
 have XK:j < n:=by rw [<- h2];exact (dH.1 hj).1
 rw [cell_of_row w b _ cur e fz jb,<- Array.getElem?_toList,<- h3 j XK]
 exact hj
theorem zuG {w:World} {q:Nat} (h:w.rangeAt b o m):w.rangeAt b (o+q) (m.drop q):=by
 intro j v hj
 rw [kL] at hj
 rw [qk]
 exact h _ v hj
theorem zhz {w W:World} (h:w.rangeAt b o m) (hb:W.heap[b]? = w.heap[b]?):W.rangeAt b o m:=by
 intro j v hj
 have:=h j v hj
 unfold World.cell? at this ⊢
 rw [hb]
 exact this
set_option maxHeartbeats 0 in
theorem zuB {T:bO} (hT:T.Fits P) {f Zd tn tb:TypeId} {k bytes:Nat} {z:List ah} (hd:T.desc t=some (.slice e)) (gU:T.info e=some (k,bytes,z)) (hint:P.underlying tn=some (.int .i64))
 (ez:∀ aO w,(callFunc f aO).run P w=.ok (.enter f aO) w)
 (X9:∀ (x y:ah) (w:World),(Extern.SlicesOverlaps.overlaps #[t,t] #[tb] #[x,y]).run P w=.ok (.bool false) w->(callFunc Zd #[x,y]).run P w=.ok (.value (.bool false)) w)
 (WI:∀ (a:Option Addr) (n c:Nat) (av:Option Addr) (cv:Nat) (w w':World) (r:ah),n<=c->(∀ ty,(Builtin.append_ #[t,t] ty #[.slice a n c,.slice av 1 cv]).run P w=.ok r w') ->
  Calls P f #[.slice a n c,.int .i64 n,.slice av 1 cv] w λe W=>e=.returned r/\W=w')
 (L4:∀ (b off n c i:Nat) (av:Option Addr) (cv:Nat) (w w1 w2:World) (x1 x2:ah),i < n->n+1<=c->c<=9223372036854775807 ->
  (∀ lb cb,(callFunc Zd #[.slice av 1 cv,.slice (some ⟨b,off+(i+1)*k,none⟩) lb cb]).run P w=.ok (.value (.bool false)) w) ->
  (∀ ty dc sc,(Builtin.copy_ #[t,t] ty #[.slice (some ⟨b,off+(i+1)*k,none⟩) (n - i) dc,.slice (some ⟨b,off+i*k,none⟩) (n+1 - i) sc]).run P w.drew=.ok x1 w1) ->
  (∀ ty dc,(Builtin.copy_ #[t,t] ty #[.slice (some ⟨b,off+i*k,none⟩) (n+1 - i) dc,.slice av 1 cv]).run P w1=.ok x2 w2) ->
  Calls P f #[.slice (some ⟨b,off,none⟩) n c,.int .i64 i,.slice av 1 cv] w λe W=>e=.returned (.slice (some ⟨b,off,none⟩) (n+1) c)/\W=w2)
 (LW:∀ (b off n c i nb g:Nat) (av:Option Addr) (cv:Nat) (w w1 w2 w3:World) (x1 x2:ah),i < n->n<=c->c < n+1->n+1<=g->g<=9223372036854775807 ->
  (∀ ty,(Builtin.append_ #[t,tn] ty #[.slice (some ⟨b,off,none⟩) i c,.int .i64 ((n:Int)+1 - (i:Int))]).run P w=.ok (.slice (some ⟨nb,0,none⟩) (n+1) g) w1) ->
  (∀ ty dc,(Builtin.copy_ #[t,t] ty #[.slice (some ⟨nb,i*k,none⟩) (n+1 - i) dc,.slice av 1 cv]).run P w1=.ok x1 w2) ->
  (∀ ty dc sc,(Builtin.copy_ #[t,t] ty #[.slice (some ⟨nb,(i+1)*k,none⟩) (n - i) dc,.slice (some ⟨b,off+i*k,none⟩) (n - i) sc]).run P w2.drew=.ok x2 w3) ->
  Calls P f #[.slice (some ⟨b,off,none⟩) n c,.int .i64 i,.slice av 1 cv] w λe W=>e=.returned (.slice (some ⟨nb,0,none⟩) (n+1) g)/\W=w3):Ee P gs f (ru T t):=by
 intro args h v h' ak
 refine ⟨zmT ak,λρ w aO _ hs cp hv=>.inr ⟨ez aO w,?_⟩⟩
 unfold ru at ak
 split at ak
 rotate_left
 .cases ak
 rename_i _ e' base n c iz B o2 c2 oc
 rw [hd] at oc
 cases oc
 obtain ⟨x,m0,e0,hx,hv⟩:=hv.of_cons
 obtain ⟨y,m1,e1,hy,hv⟩:=hv.of_cons
 obtain ⟨u,m2,e2,hu,hv⟩:=hv.of_cons
 have e3:=hv.of_nil
 subst e3 e2 e1
 have rM:aO=#[x,y,u]:=by rw [<- JI];exact e0
 subst rM
 cases hy
 have ht:P.underlying t=some (.slice e):=hT.desc _ _ hd
 obtain ⟨inf,zv,hi,hk,uX,hz,YO,yz,uj⟩:=hT.info e k bytes z gU
 have Ys:=hu
 -- the new HY list
 have YW:∃ L cv,ρ B=some L/\u=.slice (some ⟨L.b,L.s+o2,none⟩) 1 cv:=by
  cases hu with
  |slice hA hc ua ft=>exact ⟨_,_,hA,by rw [ft (by omega)]⟩
  |cA hA hc dj ua hk hm ft=>exact ⟨_,_,hA,by rw [(ft (by omega)).1]⟩
 obtain ⟨LB,cv,hB,rfl⟩:=YW
 by_cases od:iz=(n:Int)
 .subst od
  rw [aB rfl] at ak
  have key:∃ a' c',x=.slice a' n c'/\n<=c':=by
   cases hx with
   |dD=>exact ⟨_,_,rfl,bo _⟩
   |slice hA hc hn ft=>exact ⟨_,_,rfl,hn⟩
   |cA hA hc dj hn hk hm ft=>exact ⟨_,_,rfl,by omega⟩
  obtain ⟨a',c',rfl,ua⟩:=key
  obtain ⟨ρ',vc,w',eC,cQ,dR,nI⟩:=zgt (ty:=0) (u:=t) hT hs cp (.inl ⟨e,ht⟩) hx Ys ak
  refine (WI a' n c' _ cv w w' vc ua (λty=>?_)).mono ?_
  .exact eC
  .rintro ed W ⟨rfl,rfl⟩
   exact ⟨ρ',vc,rfl,cQ,dR,nI⟩
 rw [aA od] at ak
 split at ak
 rotate_left
 .cases ak
 rename_i k' UF z' A o csB eB CM zG
 rw [gU] at CM
 cases CM
 split at ak
 rotate_left
 .cases ak
 rename_i csA eA Fu
 split at ak
 rotate_left
 .cases ak
 rename_i Mo
 obtain ⟨⟨sU,aP,hAB,heA,heB,Mk,xW,hG,nG⟩,Fq,h60⟩:=Mo
 rw [heA] at Fu
 rw [heB] at zG
 clear heA heB
 simp only [cL] at ak
 obtain ⟨eD,hold,news,kY,ak⟩:=ak
 split at ak
 rotate_left
 .cases ak
 rename_i bt
 cases ak
 obtain ⟨i,rfl⟩:=Int.eq_ofNat_of_zero_le sU
 simp only [Qz] at cp ⊢
 have sV:i < n:=by omega
 cases hx with
 |slice hA hc hn ft=>omega
 |cA hA hc dj hn gu CO ft =>
 rename_i c' L ad
 obtain ⟨rfl,ko⟩:=ft (by omega)
 rw [nG] at ko
 have zB:=hs.j5 A L hA
 rw [Fu] at zB
 obtain ⟨cur,fz,jb,pQ,pR,mA,hmA,hvA⟩:=zB
 have hbB:=hs.j5 B LB hB
 rw [zG] at hbB
 obtain ⟨Lu,fzB,tW,Na,aeY,mB,hmB,hvB⟩:=hbB
 have LY:LB.b≠L.b:=by
  intro jG
  rcases hs.inj A B L LB hA hB hAB jG.symm with g|g|⟨g,_⟩
  .exact g ⟨_,Fu,by simp⟩
  .exact g ⟨_,zG,by simp⟩
  .obtain ⟨_,_,g2⟩:=g
   rw [Fu] at g2
   cases g2
 -- what is read
 have Cv:∀ {cs m:List ah} {cur:Array ah} {s q p:Nat} {l:List ah},cut cur.toList s cs.length=some m->cx ρ cs m->cut cs q p=some l->∃ d,cut cur.toList (s+q) p=some d/\cx ρ l d:=by
  intro cs m cur s q p l h1 h2 h3
  obtain ⟨d,jS,wD⟩:=h2.cut h3
  obtain ⟨k1,k2,k3⟩:=uv h1
  obtain ⟨d1,d2,d3⟩:=uv jS
  refine ⟨d,se (by omega) d2 (λj hj=>?_),wD⟩
  rw [d3 j (by omega),k3 (q+j) (by omega),qk]
 simp only [iQ,Fu] at hold
 simp only [iQ,zG] at kY
 obtain ⟨d,jS,wD⟩:=Cv hmA hvA hold
 obtain ⟨us,ku,mL⟩:=Cv hmB hvB kY
 obtain ⟨a1,a2,a3⟩:=uv jS
 obtain ⟨b1,b2,b3⟩:=uv ku
 have NF:∀ v∈us,v.oneCell'=true:=mL.one bt.1
 have Zb:∀ v∈d,v.oneCell'=true:=wD.one bt.2
 have e1:(i+1)*k=i*k+k:=rF i k
 have e2:(n+1)*k=n*k+k:=rF n k
 have e3:(n - i)*k=n*k - i*k:=Nat.sub_mul n i k
 have hIN:i*k<=n*k:=qj _ (Nat.le_of_lt sV)
 have pM:ρ h.size=none:=cp _ (bo _) (by rw [Heap.size_push,Heap.size_set];omega)
 have jT:=B1 (k:=k) (q:=n+1) xW (by unfold G;omega)
 have aeH:∀ cv,Builtin.lenOf (.slice (some ⟨LB.b,LB.s+o2,none⟩) 1 cv)=pure 1:=λ_=>rfl
 have CP:(eD.take (i*k)++news++eD.drop (i*k)).length=n*k+k:=by
  have q1:eD.length=n*k:=by rw [wD.1,a2]
  have q2:news.length=k:=by rw [mL.1,b2]
  rw [dI,dI,fw,jM]
  omega
 have C5:cx ρ (eD.take (i*k)++news++eD.drop (i*k)) (d.take (i*k)++us++d.drop (i*k)):=((wD.take _).append mL).append (wD.drop _)
 have C1:∀ W:World,W.heap[LB.b]? = w.heap[LB.b]? -> ∀ cv,(Builtin.firstCells inf.size 1 (.slice (some ⟨LB.b,LB.s+o2,none⟩) 1 cv)).run P W=.ok us.toArray W:=λW hW cv =>
  Sh (zhz (zkk tW ku) hW) (by rw [b2,hk,Nat.one_mul])
 have CZ:∀ W:World,W.heap[L.b]? = w.heap[L.b]? -> ∀ nn sc,(Builtin.firstCells inf.size (n - i) (.slice (some ⟨L.b,L.s+o+i*k,none⟩) nn sc)).run P W=.ok (d.drop (i*k)).toArray W:=λW hW nn sc =>
  Sh (zhz (zuG (zkk jb jS)) hW) (by rw [jM,a2,hk,e3])
 have A8:cur.toList.length=cur.size:=rD
 have hmul:∀ q,q<=c'->q*k<=c'*k:=λq hq=>qj _ hq
 have sP:(d.drop (i*k)).length=n*k - i*k:=by rw [jM,a2]
 have CK:∀ v∈d.drop (i*k),v.oneCell'=true:=λv hv=>Zb v (List.mem_of_mem_drop hv)
 by_cases iT:n+1<=c'
 .have Mw:=hmul _ iT
  rw [e2] at Mw
  -- in place
  have rS:∀ lb cb,(callFunc Zd #[.slice (some ⟨LB.b,LB.s+o2,none⟩) 1 cv,.slice (some ⟨L.b,L.s+o+(i+1)*k,none⟩) lb cb]).run P w=.ok (.value (.bool false)) w:=λlb cb=>by
   refine X9 _ _ w (Lib.run_overlaps_apart w t tb e ht k (λw=>by simp [sizeOf,typeInfo,hi,hk]) ⟨LB.b,LB.s+o2,none⟩ ⟨L.b,L.s+o+(i+1)*k,none⟩ 1 cv lb cb LY e e Lu.size cur.size ?_ ?_ ?_ ?_ ?_)
   .simp only [World.shape?,tW]
   .simp only [World.shape?,jb]
   .have:0 < c'*k:=Nat.mul_pos (by omega) xW
    omega
   .have:=Na.in' (LB.s+o2) (by have:=rD (xs:=Lu);omega)
    simp only [World.frozen?,tW,Tv,decide_eq_false_iff_not]
    omega
   .have:=Na.UO.resolve_left Mk
    simp only [World.frozen?,tW,Tv,decide_eq_false_iff_not]
    omega
  have wt:w.drew.heap[L.b]? = some (.cells cur e fz):=jb
  have r1:=λty dc sc=>Sp (w:=w.drew) (t:=t) (u:=t) (ty:=ty) (o:=L.s+o+(i+1)*k) (n:=n - i) (c:=dc) (m:=n+1 - i) (q:=n - i) (s':=.slice (some ⟨L.b,L.s+o+i*k,none⟩) (n+1 - i) sc) ht hi rfl (by omega) (CZ w.drew rfl _ _) wt pQ (by rw [sP,e1];omega) CK
  have lu:=setRow_heap w.drew L.b cur (aF cur.toList (L.s+o+(i+1)*k) (d.drop (i*k))).toArray e fz wt
  have oo:(aF cur.toList (L.s+o+(i+1)*k) (d.drop (i*k))).toArray.size=cur.size:=by
   rw [JH,pd (by rw [sP,e1];omega),A8]
  have r2:=λty dc=>Sp (w:=w.drew.setRow L.b (aF cur.toList (L.s+o+(i+1)*k) (d.drop (i*k))).toArray) (t:=t) (u:=t) (ty:=ty) (o:=L.s+o+i*k) (n:=n+1 - i) (c:=dc) (m:=1) (q:=1) (s':=.slice (some ⟨LB.b,LB.s+o2,none⟩) 1 cv) ht hi rfl (by omega)
   (C1 _ (setRow_other w.drew L.b LB.b _ LY) cv) lu (by rw [oo];exact pQ) (by rw [oo];omega) NF
  refine (L4 L.b (L.s+o) n c' i _ cv w _ _ _ _ sV iT (by unfold maxLen at CO;omega) rS r1 r2).mono ?_
  rintro ed W ⟨rfl,rfl⟩
  have zC:=setRow_heap _ L.b _ (aF (aF cur.toList (L.s+o+(i+1)*k) (d.drop (i*k))).toArray.toList (L.s+o+i*k) us).toArray e fz lu
  have km:cut (aF (aF cur.toList (L.s+o+(i+1)*k) (d.drop (i*k))).toArray.toList (L.s+o+i*k) us).toArray.toList (L.s+o) (eD.take (i*k)++news++eD.drop (i*k)).length=some (d.take (i*k)++us++d.drop (i*k)):=by
   rw [CP,e1,<- qk]
   exact zBn jS b2 hIN (by omega)
  have Bt:(aF (aF cur.toList (L.s+o+(i+1)*k) (d.drop (i*k))).toArray.toList (L.s+o+i*k) us).toArray.size=cur.size:=by
   show (aF (aF cur.toList (L.s+o+(i+1)*k) (d.drop (i*k))) (L.s+o+i*k) us).length=cur.size
   rw [pd (by rw [pd (by rw [sP,e1];omega)];omega),pd (by rw [sP,e1];omega),A8]
  obtain ⟨ρ',hρ,cQ,dR⟩:=zxR (w:=w) (off:=L.s+o) hs pM hA Fu (by rw [Bt];exact pQ) (by rw [Bt];exact pR) zC
   (λb hb=>by rw [setRow_other _ _ _ _ hb,setRow_other _ _ _ _ hb];rfl) (by simp [World.setRow,World.drew,-World.drew_eq]) rfl rfl rfl km C5
  refine ⟨ρ',_,rfl,cQ,dR,.cA hρ jT.1 (by rw [jT.2.1];exact iT) (by rw [jT.2.1];exact bo _) (by rw [jT.2.2];exact xW) CO (λ_=>⟨rfl,?_⟩)⟩
  rw [jT.2.2]
  exact ko
 .-- a new row
  have CI:c'=n:=by omega
  subst CI
  obtain ⟨g,hg⟩:∃ g,g=grownCap w (c'+1) c' e:=⟨_,rfl⟩
  have kW:=grownCap_ge w (c'+1) c' e
  have hle:=grownCap_le_maxLen w (c'+1) c' e (by unfold maxLen;omega)
  have MV:(Builtin.firstCells inf.size i (.slice (some ⟨L.b,L.s+o,none⟩) i c')).run P w.drew=.ok (d.take (i*k)).toArray w.drew :=
   Sh (zhz (zh7 (zkk jb jS)) rfl) (by rw [fw,a2,hk];omega)
  have mi:=λty=>Lib.run_append_grow_zeros w t tn ty e inf zv .i64 .i64 ht hint hi hz (some ⟨L.b,L.s+o,none⟩) i c' (d.take (i*k)) MV (c'+1 - i) (by omega) (by omega) (by omega) (by omega)
   (by rw [uX]
       have:(c'+1 - i)*bytes<=(c'+1)*bytes:=qj _ (by omega)
       omega) (by rw [uX,show i+(c'+1 - i)=c'+1 by omega];exact growslice_fits (by omega) Fq)
  rw [show i+(c'+1 - i)=c'+1 by omega,<- hg] at mi
  rw [show ((c'+1 - i:Nat):Int)=(c':Int)+1 - (i:Int) by omega] at mi
  rw [<- hg] at kW hle
  obtain ⟨kb,E9⟩:∃ kb:Array ah,kb=(d.take (i*k)).toArray++Builtin.zeroCells zv.cells (c'+1 - i)++Builtin.zeroCells zv.cells (g - (c'+1)):=⟨_,rfl⟩
  rw [<- E9] at mi
  have yA:zv.cells.size=k:=by rw [<- rD,YO,yz]
  have wC:(d.take (i*k)).length=i*k:=by rw [fw,a2];omega
  have e4:(c'+1 - i)*k=c'*k+k - i*k:=by rw [Nat.sub_mul,e2]
  have e5:(g - (c'+1))*k=g*k - (c'*k+k):=by rw [Nat.sub_mul,e2]
  have hgk:c'*k+k<=g*k:=by rw [<- e2];exact qj _ kW
  have L5:kb.size=g*k:=by
   rw [E9]
   simp only [Array.size_append,JH,size_zeroCells,yA,wC,e4,e5]
   omega
  have H4:kb.toList.length=g*k:=by rw [rD,L5]
  have hRp:∀ j,j < i*k->kb.toList[j]? = d[j]? := by
   intro j hj
   rw [E9,JA,JA,ka,nz (by rw [List.toList_toArray,wC];exact hj),List.toList_toArray,mc,aB hj]
  have aS:L.b≠w.heap.size:=by have:=hs.lt hA;omega
  have anC:LB.b≠w.heap.size:=by have:=hs.lt hB;omega
  have wt:(w.drew.alloc (.cells kb e)).heap[w.heap.size]? = some (.cells kb e (0,0)):=by simp [World.alloc,World.drew,-World.alloc_eq,-World.drew_eq]
  have yk:∀ j,j < w.heap.size->(w.drew.alloc (.cells kb e)).heap[j]? = w.heap[j]? := λj hj=>by
   have:j≠w.heap.size:=by omega
   simp [World.alloc,World.drew,-World.alloc_eq,-World.drew_eq,w7,this]
  have M9:nU e kb.size (0,0):=.zero _ _
  have r1:=λty dc=>Sp (w:=w.drew.alloc (.cells kb e)) (t:=t) (u:=t) (ty:=ty) (o:=i*k) (n:=c'+1 - i) (c:=dc) (m:=1) (q:=1) (s':=.slice (some ⟨LB.b,LB.s+o2,none⟩) 1 cv) ht hi rfl (by omega)
   (C1 _ (yk _ (hs.lt hB)) cv) wt M9 (by rw [b2,L5];omega) NF
  have oo:(aF kb.toList (i*k) us).toArray.size=kb.size:=by
   show (aF kb.toList (i*k) us).length=kb.size
   rw [pd (by rw [b2,H4];omega),H4,L5]
  have lu:=setRow_heap _ w.heap.size kb (aF kb.toList (i*k) us).toArray e (0,0) wt
  have r2:=λty dc sc=>Sp (w:=((w.drew.alloc (.cells kb e)).setRow w.heap.size (aF kb.toList (i*k) us).toArray).drew) (t:=t) (u:=t) (ty:=ty) (o:=(i+1)*k) (n:=c' - i) (c:=dc) (m:=c' - i) (q:=c' - i) (s':=.slice (some ⟨L.b,L.s+o+i*k,none⟩) (c' - i) sc) ht hi rfl (by omega)
   (CZ _ (by show ((w.drew.alloc (.cells kb e)).setRow w.heap.size (aF kb.toList (i*k) us).toArray).heap[L.b]? = _
             rw [setRow_other _ _ _ _ aS];exact yk _ (hs.lt hA)) _ _) lu (by rw [oo];exact M9) (by rw [sP,e1,oo,L5];omega) CK
  refine (LW L.b (L.s+o) c' c' i w.heap.size g _ cv w _ _ _ _ _ sV (bo _) (by omega) kW (by unfold maxLen at hle;omega) mi r1 r2).mono ?_
  rintro ed W ⟨rfl,rfl⟩
  have zC:=setRow_heap _ w.heap.size _ (aF (aF kb.toList (i*k) us).toArray.toList ((i+1)*k) (d.drop (i*k))).toArray e (0,0) (show (((w.drew.alloc (.cells kb e)).setRow w.heap.size (aF kb.toList (i*k) us).toArray).drew).heap[w.heap.size]? = _ from lu)
  have Bt:(aF (aF kb.toList (i*k) us).toArray.toList ((i+1)*k) (d.drop (i*k))).toArray.size=g*k:=by
   show (aF (aF kb.toList (i*k) us) ((i+1)*k) (d.drop (i*k))).length=g*k
   rw [pd (by rw [pd (by rw [b2,H4];omega),H4,sP,e1];omega),pd (by rw [b2,H4];omega),H4]
  have km:cut (aF (aF kb.toList (i*k) us).toArray.toList ((i+1)*k) (d.drop (i*k))).toArray.toList 0 (eD.take (i*k)++news++eD.drop (i*k)).length=some (d.take (i*k)++us++d.drop (i*k)):=by
   rw [CP,e1]
   exact zBo a2 hRp b2 hIN (by rw [rD,L5];omega)
  obtain ⟨EN,GC⟩:=zlx hs Fu
  obtain ⟨ρ',hρ,cQ,dR⟩:=Sz (L:=⟨w.heap.size,0,g*k⟩) (b:=.row (eD.take (i*k)++news++eD.drop (i*k)) e false) GC pM (W:=(((w.drew.alloc (.cells kb e)).setRow w.heap.size (aF kb.toList (i*k) us).toArray).drew).setRow w.heap.size (aF (aF kb.toList (i*k) us).toArray.toList ((i+1)*k) (d.drop (i*k))).toArray)
   (λj hj=>by
    rw [setRow_other _ _ _ _ (by omega)]
    show ((w.drew.alloc (.cells kb e)).setRow w.heap.size (aF kb.toList (i*k) us).toArray).heap[j]? = _
    rw [setRow_other _ _ _ _ (by omega)]
    exact yk _ hj)
   (by simp [World.setRow,World.drew,World.alloc,-World.alloc_eq,-World.drew_eq]) (by simp [World.setRow,World.drew,World.alloc,-World.alloc_eq,-World.drew_eq]) (by simp [World.setRow,World.drew,World.alloc,-World.alloc_eq,-World.drew_eq]) (by simp [World.setRow,World.drew,World.alloc,-World.alloc_eq,-World.drew_eq])
   (bo _) (λρ' XB=>⟨_,(0,0),zC,.zero _ _,Bt,_,km,C5.mono XB⟩)
  refine ⟨ρ',_,rfl,EN.trans cQ,dR,.cA hρ jT.1 (by rw [jT.2.1];exact kW) (by rw [jT.2.1];exact bo _) (by rw [jT.2.2];exact xW) hle (λ_=>⟨by simp,?_⟩)⟩
  rw [jT.2.2]
  simp
end
end Go.Am

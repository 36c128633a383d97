/- slices.Insert of one element, in place of its text. No condition. -/
import Derived.Test.YtjildadoepadeaaGreatDoorGOv
import Derived.Lib.Overlaps
import Derived.Lib.AppendZerosOnto
set_option linter.unusedSimpArgs false
set_option linter.unusedVariables false
namespace Go.Am
open Go.RowKit
section
variable {P:Program} {gs:List Nat} {ρ:Rho} {h:Heap} {w:World}
theorem zhn (hs:Sim ρ h w) (hnone:ρ h.size=none) {A off:Nat} {L:Loc} {cs news m:List Vly} {e:TypeId} {cur:Array Vly} {fz:Nat × Nat} {W:World} (hA:ρ A=some L) (hg:h.get A=some (.row cs e false))
 (hth:Thaw e cur.size fz) (htot:cur.size=L.tot) (hcur':W.heap[L.b]? = some (.cells cur e fz)) (hother:∀ b,b≠L.b->W.heap[b]? = w.heap[b]?) (hsz:W.heap.size=w.heap.size)
 (hos:W.os=w.os) (htp:W.tape=w.tape) (hout:W.output=w.output) (hcut:cut cur.toList off news.length=some m) (hn:VRs ρ news m) :
 ∃ ρ',ρ' h.size=some ⟨L.b,off,L.tot⟩/\Fr ρ ρ' h ((h.set A .dead).push (.row news e false)) w W/\Sim ρ' ((h.set A .dead).push (.row news e false)) W:=by
 have hAs:A < h.size:=Heap.lt_of_get hg
 have hgrow:∀ A L',ρ A=some L'->(λA=>if A=h.size then some (⟨L.b,off,L.tot⟩:Loc) else ρ A) A=some L':=by
  intro A L' hA
  have hne:A≠h.size:=λe=>by rw [e,hnone] at hA;cases hA
  simp only [if_neg hne]
  exact hA
 have hget:∀ j,((h.set A .dead).push (.row news e false)).get j=if j=h.size then some (.row news e false) else if j=A then some .dead else h.get j:=by
  intro j
  rw [Heap.get_push,Heap.size_set,Heap.get_set _ _ _ _ hAs]
 have hne:∀ A' L',ρ A'=some L'->A'≠A->live h A'->L'.b≠L.b:=by
  intro A' L' hA' e' hlive heq
  rcases hs.inj A' A L' L hA' hA e' heq with h1|h1|h1
  .exact h1 hlive
  .exact h1 ⟨_,hg,by simp⟩
  .obtain ⟨_,cs2,e2,hg2⟩:=h1
   rw [hg] at hg2
   cases hg2
 refine ⟨λA=>if A=h.size then some ⟨L.b,off,L.tot⟩ else ρ A,by simp,⟨hgrow,?_,hos,htp,hout,by rw [hsz];exact Nat.le_refl _,?_,Nat.min_le_left _ _,?_,?_⟩,⟨?_,?_⟩⟩
 .intro A' L' hA' hn'
  split at hA'
  .rename_i e1
   cases hA'
   refine ⟨by omega,by rw [Heap.size_push,Heap.size_set];omega,.inr ⟨A,L,hA,rfl,?_,by rw [Heap.size_push,Heap.size_set];omega⟩⟩
   rw [Heap.low_push,Heap.low_set]
   omega
  .rw [hn'] at hA';cases hA'
 .rw [Heap.size_push,Heap.size_set];omega
 .intro b hb hall
  refine hother b λe'=>?_
  subst e'
  have:=hall A L hA rfl
  rw [Heap.low_push,Heap.low_set,Heap.size_push,Heap.size_set] at this
  omega
 .intro A' hA' hl
  rw [Heap.low_push,Heap.low_set] at hl
  rw [hget,if_neg (by omega),if_neg (by omega)]
 .intro A' L' hA'
  rw [hget]
  split at hA'
  .rename_i e1
   cases hA'
   rw [if_pos e1]
   exact ⟨_,fz,hcur',hth,htot,m,hcut,hn.mono hgrow⟩
  .rename_i e1
   rw [if_neg e1]
   by_cases e2:A'=A
   .rw [if_pos e2]
    show L'.b < _
    rw [hsz]
    exact hs.lt hA'
   .rw [if_neg e2]
    exact (hs.blk A' L' hA').keep hgrow (by rw [hsz];exact Nat.le_refl _) λhl=>hother L'.b (hne A' L' hA' e2 hl)
 .intro A1 A2 L1 L2 h1 h2 hne12 hb
  unfold live isRo
  rw [hget,hget]
  have hone:∀ A' L',A'≠h.size->ρ A'=some L'->L.b=L'.b->¬ ∃ b,(if A'=A then some Blk.dead else h.get A')=some b/\b≠.dead:=by
   intro A' L' hh hA' hbb
   by_cases e2:A'=A
   .simp [e2]
   .rw [if_neg e2]
    exact λhlive=>hne A' L' hA' e2 hlive hbb.symm
  split at h1
  .rename_i e1
   split at h2
   .omega
   .rename_i e2
    cases h1
    right;left
    rw [if_neg e2]
    exact hone A2 L2 e2 h2 hb
  .rename_i e1
   split at h2
   .rename_i e2
    cases h2
    left
    rw [if_neg e1]
    exact hone A1 L1 e1 h1 hb.symm
   .rename_i e2
    rw [if_neg e1,if_neg e2]
    by_cases f1:A1=A
    .left;simp [f1]
    .by_cases f2:A2=A
     .right;left;simp [f2]
     .rw [if_neg f1,if_neg f2]
      exact hs.inj A1 A2 L1 L2 h1 h2 hne12 hb

theorem zbA {w:World} {t u ty e e':TypeId} {i:TypeInfo} (ht:P.underlying t=some (.slice e)) (hi:P.info? e=some i) {b o n c m q:Nat} {s':Vly} {news:List Vly} (hlen:Builtin.lenOf s'=pure m) (hq:min m n=q)
 (hf:(Builtin.firstCells i.size q s').run P w=.ok news.toArray w) {cur:Array Vly} {fz:Nat × Nat} (hcur:w.heap[b]? = some (.cells cur e' fz)) (hth:Thaw e' cur.size fz) (hfit:o+news.length<=cur.size) (h1:∀ v∈news,v.oneCell'=true) :
 (Builtin.copy_ #[t,u] ty #[.slice (some ⟨b,o,none⟩) n c,s']).run P w=.ok (.int .i64 q) (w.setRow b (splice cur.toList o news).toArray):=by
 have hst:=zaw P b o e' fz news 0 cur w hcur hth (by omega) h1
 simp only [Nat.add_zero] at hst
 have hmin:Nat.min m n=q:=hq
 simp [Builtin.copy_,run_underlying ht,hlen,hmin,sizeOf,typeInfo,hi,hf,hst,goInt,splice]
theorem zhW {cur d us:List Vly} {o I N K:Nat} (hd:cut cur o N=some d) (hu:us.length=K) (hI:I<=N) (hfit:o+N+K<=cur.length) :
 cut (splice (splice cur (o+I+K) (d.drop I)) (o+I) us) o (N+K)=some (d.take I++us++d.drop I):=by
 obtain ⟨h1,h2,h3⟩:=zay hd
 have hdl:(d.drop I).length=N - I:=by rw [List.length_drop,h2]
 have htl:(d.take I).length=I:=by rw [List.length_take,h2];omega
 have hl1:(splice cur (o+I+K) (d.drop I)).length=cur.length:=zae (by omega)
 refine zbv (by rw [zae (by omega),hl1];omega) (by rw [List.length_append,List.length_append,htl,hdl,hu];omega) λj hj=>?_
 rw [getElem?_splice _ _ _ _ (by omega),getElem?_splice _ _ _ _ (by omega),hu,hdl]
 by_cases c1:j < I
 .rw [if_pos (by omega),if_pos (by omega),List.append_assoc,List.getElem?_append_left (by omega),List.getElem?_take,if_pos c1,h3 j (by omega)]
 .rw [if_neg (by omega)]
  by_cases c2:j < I+K
  .rw [if_pos (by omega),List.append_assoc,List.getElem?_append_right (by omega),htl,List.getElem?_append_left (by omega)]
   congr 1
   omega
  .rw [if_neg (by omega),if_neg (by omega),if_pos (by omega),List.append_assoc,List.getElem?_append_right (by omega),htl,List.getElem?_append_right (by omega),hu]
   congr 1
   omega
theorem zhX {cur d us:List Vly} {I N K:Nat} (hd:d.length=N) (hpre:∀ j,j < I->cur[j]? = d[j]?) (hu:us.length=K) (hI:I<=N) (hfit:N+K<=cur.length) :
 cut (splice (splice cur I us) (I+K) (d.drop I)) 0 (N+K)=some (d.take I++us++d.drop I):=by
 have hdl:(d.drop I).length=N - I:=by rw [List.length_drop,hd]
 have htl:(d.take I).length=I:=by rw [List.length_take,hd];omega
 have hl1:(splice cur I us).length=cur.length:=zae (by omega)
 refine zbv (by rw [zae (by omega),hl1];omega) (by rw [List.length_append,List.length_append,htl,hdl,hu];omega) λj hj=>?_
 rw [Nat.zero_add,getElem?_splice _ _ _ _ (by omega),getElem?_splice _ _ _ _ (by omega),hu,hdl]
 by_cases c1:j < I
 .rw [if_pos (by omega),if_pos (by omega),List.append_assoc,List.getElem?_append_left (by omega),List.getElem?_take,if_pos c1,hpre j c1]
 .by_cases c2:j < I+K
  .rw [if_pos (by omega),if_neg (by omega),if_pos (by omega),List.append_assoc,List.getElem?_append_right (by omega),htl,List.getElem?_append_left (by omega)]
  .rw [if_neg (by omega),if_pos (by omega),List.append_assoc,List.getElem?_append_right (by omega),htl,List.getElem?_append_right (by omega),hu]
   congr 1
   omega
def zcv (T:Tab) (t:TypeId) (args:List Vly) (h:Heap):Option (Vly × Heap) :=
 match T.desc t,args with
 |some (.slice e),[.slice base n c,.int .i64 iz,.slice (some ⟨B,o2,none⟩) 1 c2] =>
  if iz=(n:Int) then zbJ T t (.slice base n c) (.slice (some ⟨B,o2,none⟩) 1 c2) h else
  match T.info e,base,h.get B with
  |some (k,bytes,_),some ⟨A,o,none⟩,some (.row _ eB false) =>
   match h.get A with
   |some (.row _ eA false) =>
    if (0<=iz/\iz < n/\A≠B/\eA=e/\eB=e/\e≠zhQ/\0 < k/\G<=c/\c / G=k)/\(n+1)*bytes<=140737488355328/\n+1<=1152921504606846976 then
     (zav A o (n*k) h).bind λold=>(zav B o2 k h).bind λnews =>
     if news.all one=true/\old.all one=true then some (.slice (some ⟨h.size,0,none⟩) (n+1) (G*k+(n+1)),(h.set A .dead).push (.row (old.take (iz.toNat*k)++news++old.drop (iz.toNat*k)) e false)) else none
    else none
   |_=>none
  |_,_,_=>none
 |_,_=>none
theorem ze4 {T:Tab} {t:TypeId} {args:List Vly} {h h':Heap} {v:Vly} (hev:zcv T t args h=some (v,h')):Keeps h h':=by
 unfold zcv at hev
 split at hev
 .split at hev
  .exact zcA hev
  .split at hev
   .split at hev
    .rename_i hg
     split at hev
     .simp only [Option.bind_eq_some_iff] at hev
      obtain ⟨old,_,news,_,hev⟩:=hev
      split at hev
      .cases hev
       exact (Keeps.set _ (Heap.lt_of_get hg)).trans (Keeps.push _ _)
      .cases hev
     .cases hev
    .cases hev
   .cases hev
 .cases hev
theorem zdK {w:World} {b o:Nat} {cur:Array Vly} {e:TypeId} {fz:Nat × Nat} {m:List Vly} {n:Nat} (hcur:w.heap[b]? = some (.cells cur e fz)) (hc:cut cur.toList o n=some m):w.rangeAt b o m:=by
 obtain ⟨h1,h2,h3⟩:=zay hc
 intro j v hj
 have hjn:j < n:=by rw [<- h2];exact (List.getElem?_eq_some_iff.1 hj).1
 rw [cell_of_row w b _ cur e fz hcur,<- Array.getElem?_toList,<- h3 j hjn]
 exact hj
theorem zg0 {w:World} {b o q:Nat} {m:List Vly} (h:w.rangeAt b o m):w.rangeAt b (o+q) (m.drop q):=by
 intro j v hj
 rw [List.getElem?_drop] at hj
 rw [Nat.add_assoc]
 exact h _ v hj
theorem zc0 {w W:World} {b o:Nat} {m:List Vly} (h:w.rangeAt b o m) (hb:W.heap[b]? = w.heap[b]?):W.rangeAt b o m:=by
 intro j v hj
 have:=h j v hj
 unfold World.cell? at this ⊢
 rw [hb]
 exact this
set_option maxHeartbeats 0 in
theorem zgZ {T:Tab} (hT:T.Fits P) {f ovf t tn tb e:TypeId} {k bytes:Nat} {z:List Vly} (hd:T.desc t=some (.slice e)) (hinf:T.info e=some (k,bytes,z)) (hint:P.underlying tn=some (.int .i64))
 (henter:∀ cargs w,(callFunc f cargs).run P w=.ok (.enter f cargs) w)
 (hovl:∀ (x y:Vly) (w:World),(Extern.SlicesOverlaps.overlaps #[t,t] #[tb] #[x,y]).run P w=.ok (.bool false) w->(callFunc ovf #[x,y]).run P w=.ok (.value (.bool false)) w)
 (hEnd:∀ (a:Option Addr) (n c:Nat) (av:Option Addr) (cv:Nat) (w w':World) (r:Vly),n<=c->(∀ ty,(Builtin.append_ #[t,t] ty #[.slice a n c,.slice av 1 cv]).run P w=.ok r w') ->
  Calls P f #[.slice a n c,.int .i64 n,.slice av 1 cv] w λe W=>e=.returned r/\W=w')
 (hRoom:∀ (b off n c i:Nat) (av:Option Addr) (cv:Nat) (w w1 w2:World) (x1 x2:Vly),i < n->n+1<=c->c<=9223372036854775807 ->
  (∀ lb cb,(callFunc ovf #[.slice av 1 cv,.slice (some ⟨b,off+(i+1)*k,none⟩) lb cb]).run P w=.ok (.value (.bool false)) w) ->
  (∀ ty dc sc,(Builtin.copy_ #[t,t] ty #[.slice (some ⟨b,off+(i+1)*k,none⟩) (n - i) dc,.slice (some ⟨b,off+i*k,none⟩) (n+1 - i) sc]).run P w.drew=.ok x1 w1) ->
  (∀ ty dc,(Builtin.copy_ #[t,t] ty #[.slice (some ⟨b,off+i*k,none⟩) (n+1 - i) dc,.slice av 1 cv]).run P w1=.ok x2 w2) ->
  Calls P f #[.slice (some ⟨b,off,none⟩) n c,.int .i64 i,.slice av 1 cv] w λe W=>e=.returned (.slice (some ⟨b,off,none⟩) (n+1) c)/\W=w2)
 (hGrow:∀ (b off n c i nb g:Nat) (av:Option Addr) (cv:Nat) (w w1 w2 w3:World) (x1 x2:Vly),i < n->n<=c->c < n+1->n+1<=g->g<=9223372036854775807 ->
  (∀ ty,(Builtin.append_ #[t,tn] ty #[.slice (some ⟨b,off,none⟩) i c,.int .i64 ((n:Int)+1 - (i:Int))]).run P w=.ok (.slice (some ⟨nb,0,none⟩) (n+1) g) w1) ->
  (∀ ty dc,(Builtin.copy_ #[t,t] ty #[.slice (some ⟨nb,i*k,none⟩) (n+1 - i) dc,.slice av 1 cv]).run P w1=.ok x1 w2) ->
  (∀ ty dc sc,(Builtin.copy_ #[t,t] ty #[.slice (some ⟨nb,(i+1)*k,none⟩) (n - i) dc,.slice (some ⟨b,off+i*k,none⟩) (n - i) sc]).run P w2.drew=.ok x2 w3) ->
  Calls P f #[.slice (some ⟨b,off,none⟩) n c,.int .i64 i,.slice av 1 cv] w λe W=>e=.returned (.slice (some ⟨nb,0,none⟩) (n+1) g)/\W=w3):Ov1 P gs f (zcv T t):=by
 intro args h v h' hev
 refine ⟨ze4 hev,λρ w cargs _ hs hfree hv=>.inr ⟨henter cargs w,?_⟩⟩
 unfold zcv at hev
 split at hev
 rotate_left
 .cases hev
 rename_i _ e' base n c iz B o2 c2 hd'
 rw [hd] at hd'
 cases hd'
 obtain ⟨x,m0,e0,hx,hv⟩:=hv.of_cons
 obtain ⟨y,m1,e1,hy,hv⟩:=hv.of_cons
 obtain ⟨u,m2,e2,hu,hv⟩:=hv.of_cons
 have e3:=hv.of_nil
 subst e3 e2 e1
 have hca:cargs=#[x,y,u]:=by rw [<- Array.toList_inj];exact e0
 subst hca
 cases hy
 have ht:P.underlying t=some (.slice e):=hT.desc _ _ hd
 obtain ⟨inf,zv,hi,hk,hby,hz,hzc,hzl,hzp⟩:=hT.info e k bytes z hinf
 have hunc:=hu
 -- the new element's list
 have keyu:∃ L cv,ρ B=some L/\u=.slice (some ⟨L.b,L.s+o2,none⟩) 1 cv:=by
  cases hu with
  |slice hA hc hnc had=>exact ⟨_,_,hA,by rw [had (by omega)]⟩
  |sliceG hA hc hlo hnc hk hm had=>exact ⟨_,_,hA,by rw [(had (by omega)).1]⟩
 obtain ⟨LB,cv,hB,rfl⟩:=keyu
 by_cases hend:iz=(n:Int)
 .subst hend
  rw [if_pos rfl] at hev
  have key:∃ a' c',x=.slice a' n c'/\n<=c':=by
   cases hx with
   |sliceNil=>exact ⟨_,_,rfl,Nat.le_refl _⟩
   |slice hA hc hn had=>exact ⟨_,_,rfl,hn⟩
   |sliceG hA hc hlo hn hk hm had=>exact ⟨_,_,rfl,by omega⟩
  obtain ⟨a',c',rfl,hnc⟩:=key
  obtain ⟨ρ',vc,w',hrun,hfr,hsim,hvr⟩:=zcB (ty:=0) (u:=t) hT hs hfree (.inl ⟨e,ht⟩) hx hunc hev
  refine (hEnd a' n c' _ cv w w' vc hnc (λty=>?_)).mono ?_
  .exact hrun
  .rintro ed W ⟨rfl,rfl⟩
   exact ⟨ρ',vc,rfl,hfr,hsim,hvr⟩
 rw [if_neg hend] at hev
 split at hev
 rotate_left
 .cases hev
 rename_i k' bytes' z' A o csB eB hinf' hgB
 rw [hinf] at hinf'
 cases hinf'
 split at hev
 rotate_left
 .cases hev
 rename_i csA eA hgA
 split at hev
 rotate_left
 .cases hev
 rename_i hcond
 obtain ⟨⟨hi0,hin,hAB,heA,heB,hbt,hkp,hG,hck⟩,hfit48,h60⟩:=hcond
 rw [heA] at hgA
 rw [heB] at hgB
 clear heA heB
 simp only [Option.bind_eq_some_iff] at hev
 obtain ⟨old,hold,news,hnew,hev⟩:=hev
 split at hev
 rotate_left
 .cases hev
 rename_i hone
 cases hev
 obtain ⟨i,rfl⟩:=Int.eq_ofNat_of_zero_le hi0
 simp only [Int.toNat_natCast] at hfree ⊢
 have hilt:i < n:=by omega
 cases hx with
 |slice hA hc hn had=>omega
 |sliceG hA hc hlo hn hk2 hmx had =>
 rename_i c' L ad
 obtain ⟨rfl,hfit⟩:=had (by omega)
 rw [hck] at hfit
 have hbA:=hs.blk A L hA
 rw [hgA] at hbA
 obtain ⟨cur,fz,hcur,hth,htot,mA,hmA,hvA⟩:=hbA
 have hbB:=hs.blk B LB hB
 rw [hgB] at hbB
 obtain ⟨curB,fzB,hcurB,hthB,htotB,mB,hmB,hvB⟩:=hbB
 have hLne:LB.b≠L.b:=by
  intro hbb
  rcases hs.inj A B L LB hA hB hAB hbb.symm with g|g|⟨g,_⟩
  .exact g ⟨_,hgA,by simp⟩
  .exact g ⟨_,hgB,by simp⟩
  .obtain ⟨_,_,g2⟩:=g
   rw [hgA] at g2
   cases g2
 -- what is read
 have cutin:∀ {cs m:List Vly} {cur:Array Vly} {s q p:Nat} {l:List Vly},cut cur.toList s cs.length=some m->VRs ρ cs m->cut cs q p=some l->∃ d,cut cur.toList (s+q) p=some d/\VRs ρ l d:=by
  intro cs m cur s q p l h1 h2 h3
  obtain ⟨d,hd2,hvd⟩:=h2.cut h3
  obtain ⟨k1,k2,k3⟩:=zay h1
  obtain ⟨d1,d2,d3⟩:=zay hd2
  refine ⟨d,zbv (by omega) d2 (λj hj=>?_),hvd⟩
  rw [d3 j (by omega),k3 (q+j) (by omega),Nat.add_assoc]
 simp only [zav,hgA] at hold
 simp only [zav,hgB] at hnew
 obtain ⟨d,hd2,hvd⟩:=cutin hmA hvA hold
 obtain ⟨us,hus,hvu⟩:=cutin hmB hvB hnew
 obtain ⟨a1,a2,a3⟩:=zay hd2
 obtain ⟨b1,b2,b3⟩:=zay hus
 have oneu:∀ v∈us,v.oneCell'=true:=hvu.one hone.1
 have oned:∀ v∈d,v.oneCell'=true:=hvd.one hone.2
 have e1:(i+1)*k=i*k+k:=Nat.succ_mul i k
 have e2:(n+1)*k=n*k+k:=Nat.succ_mul n k
 have e3:(n - i)*k=n*k - i*k:=Nat.sub_mul n i k
 have hIN:i*k<=n*k:=Nat.mul_le_mul_right _ (Nat.le_of_lt hilt)
 have hfree1:ρ h.size=none:=hfree _ (Nat.le_refl _) (by rw [Heap.size_push,Heap.size_set];omega)
 have hoc:=zfc (k:=k) (q:=n+1) hkp (by unfold G;omega)
 have hlen1:∀ cv,Builtin.lenOf (.slice (some ⟨LB.b,LB.s+o2,none⟩) 1 cv)=pure 1:=λ_=>rfl
 have hnewl:(old.take (i*k)++news++old.drop (i*k)).length=n*k+k:=by
  have q1:old.length=n*k:=by rw [hvd.1,a2]
  have q2:news.length=k:=by rw [hvu.1,b2]
  rw [List.length_append,List.length_append,List.length_take,List.length_drop]
  omega
 have hvnew:VRs ρ (old.take (i*k)++news++old.drop (i*k)) (d.take (i*k)++us++d.drop (i*k)):=((hvd.take _).append hvu).append (hvd.drop _)
 have hsrcB:∀ W:World,W.heap[LB.b]? = w.heap[LB.b]? -> ∀ cv,(Builtin.firstCells inf.size 1 (.slice (some ⟨LB.b,LB.s+o2,none⟩) 1 cv)).run P W=.ok us.toArray W:=λW hW cv =>
  zas (zc0 (zdK hcurB hus) hW) (by rw [b2,hk,Nat.one_mul])
 have hsrcA:∀ W:World,W.heap[L.b]? = w.heap[L.b]? -> ∀ nn sc,(Builtin.firstCells inf.size (n - i) (.slice (some ⟨L.b,L.s+o+i*k,none⟩) nn sc)).run P W=.ok (d.drop (i*k)).toArray W:=λW hW nn sc =>
  zas (zc0 (zg0 (zdK hcur hd2)) hW) (by rw [List.length_drop,a2,hk,e3])
 have hcl:cur.toList.length=cur.size:=Array.length_toList
 have hmul:∀ q,q<=c'->q*k<=c'*k:=λq hq=>Nat.mul_le_mul_right _ hq
 have hdl:(d.drop (i*k)).length=n*k - i*k:=by rw [List.length_drop,a2]
 have hdone:∀ v∈d.drop (i*k),v.oneCell'=true:=λv hv=>oned v (List.mem_of_mem_drop hv)
 by_cases hroom:n+1<=c'
 .have hfit2:=hmul _ hroom
  rw [e2] at hfit2
  -- in place
  have hov:∀ lb cb,(callFunc ovf #[.slice (some ⟨LB.b,LB.s+o2,none⟩) 1 cv,.slice (some ⟨L.b,L.s+o+(i+1)*k,none⟩) lb cb]).run P w=.ok (.value (.bool false)) w:=λlb cb=>by
   refine hovl _ _ w (Lib.run_overlaps_apart w t tb e ht k (λw=>by simp [sizeOf,typeInfo,hi,hk]) ⟨LB.b,LB.s+o2,none⟩ ⟨L.b,L.s+o+(i+1)*k,none⟩ 1 cv lb cb hLne e e curB.size cur.size ?_ ?_ ?_ ?_ ?_)
   .simp only [World.shape?,hcurB]
   .simp only [World.shape?,hcur]
   .have:0 < c'*k:=Nat.mul_pos (by omega) hkp
    omega
   .have:=hthB.in' (LB.s+o2) (by have:=Array.length_toList (xs:=curB);omega)
    simp only [World.frozen?,hcurB,Bool.and_eq_false_iff,decide_eq_false_iff_not]
    omega
   .have:=hthB.end'.resolve_left hbt
    simp only [World.frozen?,hcurB,Bool.and_eq_false_iff,decide_eq_false_iff_not]
    omega
  have hc1:w.drew.heap[L.b]? = some (.cells cur e fz):=hcur
  have r1:=λty dc sc=>zbA (w:=w.drew) (t:=t) (u:=t) (ty:=ty) (o:=L.s+o+(i+1)*k) (n:=n - i) (c:=dc) (m:=n+1 - i) (q:=n - i) (s':=.slice (some ⟨L.b,L.s+o+i*k,none⟩) (n+1 - i) sc) ht hi rfl (by omega) (hsrcA w.drew rfl _ _) hc1 hth (by rw [hdl,e1];omega) hdone
  have hc2:=setRow_heap w.drew L.b cur (splice cur.toList (L.s+o+(i+1)*k) (d.drop (i*k))).toArray e fz hc1
  have hsz1:(splice cur.toList (L.s+o+(i+1)*k) (d.drop (i*k))).toArray.size=cur.size:=by
   rw [List.size_toArray,zae (by rw [hdl,e1];omega),hcl]
  have r2:=λty dc=>zbA (w:=w.drew.setRow L.b (splice cur.toList (L.s+o+(i+1)*k) (d.drop (i*k))).toArray) (t:=t) (u:=t) (ty:=ty) (o:=L.s+o+i*k) (n:=n+1 - i) (c:=dc) (m:=1) (q:=1) (s':=.slice (some ⟨LB.b,LB.s+o2,none⟩) 1 cv) ht hi rfl (by omega)
   (hsrcB _ (setRow_other w.drew L.b LB.b _ hLne) cv) hc2 (by rw [hsz1];exact hth) (by rw [hsz1];omega) oneu
  refine (hRoom L.b (L.s+o) n c' i _ cv w _ _ _ _ hilt hroom (by unfold maxLen at hmx;omega) hov r1 r2).mono ?_
  rintro ed W ⟨rfl,rfl⟩
  have hc3:=setRow_heap _ L.b _ (splice (splice cur.toList (L.s+o+(i+1)*k) (d.drop (i*k))).toArray.toList (L.s+o+i*k) us).toArray e fz hc2
  have hcut:cut (splice (splice cur.toList (L.s+o+(i+1)*k) (d.drop (i*k))).toArray.toList (L.s+o+i*k) us).toArray.toList (L.s+o) (old.take (i*k)++news++old.drop (i*k)).length=some (d.take (i*k)++us++d.drop (i*k)):=by
   rw [hnewl,e1,<- Nat.add_assoc]
   exact zhW hd2 b2 hIN (by omega)
  have hsz3:(splice (splice cur.toList (L.s+o+(i+1)*k) (d.drop (i*k))).toArray.toList (L.s+o+i*k) us).toArray.size=cur.size:=by
   show (splice (splice cur.toList (L.s+o+(i+1)*k) (d.drop (i*k))) (L.s+o+i*k) us).length=cur.size
   rw [zae (by rw [zae (by rw [hdl,e1];omega)];omega),zae (by rw [hdl,e1];omega),hcl]
  obtain ⟨ρ',hρ,hfr,hsim⟩:=zhn (w:=w) (off:=L.s+o) hs hfree1 hA hgA (by rw [hsz3];exact hth) (by rw [hsz3];exact htot) hc3
   (λb hb=>by rw [setRow_other _ _ _ _ hb,setRow_other _ _ _ _ hb];rfl) (by simp [World.setRow,World.drew,-World.drew_eq]) rfl rfl rfl hcut hvnew
  refine ⟨ρ',_,rfl,hfr,hsim,.sliceG hρ hoc.1 (by rw [hoc.2.1];exact hroom) (by rw [hoc.2.1];exact Nat.le_refl _) (by rw [hoc.2.2];exact hkp) hmx (λ_=>⟨rfl,?_⟩)⟩
  rw [hoc.2.2]
  exact hfit
 .-- a new row
  have hcn:c'=n:=by omega
  subst hcn
  obtain ⟨g,hg⟩:∃ g,g=grownCap w (c'+1) c' e:=⟨_,rfl⟩
  have hge:=grownCap_ge w (c'+1) c' e
  have hle:=grownCap_le_maxLen w (c'+1) c' e (by unfold maxLen;omega)
  have holdc:(Builtin.firstCells inf.size i (.slice (some ⟨L.b,L.s+o,none⟩) i c')).run P w.drew=.ok (d.take (i*k)).toArray w.drew :=
   zas (zc0 (zc6 (zdK hcur hd2)) rfl) (by rw [List.length_take,a2,hk];omega)
  have hap:=λty=>Lib.run_append_grow_zeros w t tn ty e inf zv .i64 .i64 ht hint hi hz (some ⟨L.b,L.s+o,none⟩) i c' (d.take (i*k)) holdc (c'+1 - i) (by omega) (by omega) (by omega) (by omega)
   (by rw [hby]
       have:(c'+1 - i)*bytes<=(c'+1)*bytes:=Nat.mul_le_mul_right _ (by omega)
       omega) (by rw [hby,show i+(c'+1 - i)=c'+1 by omega];exact growslice_fits (by omega) hfit48)
  rw [show i+(c'+1 - i)=c'+1 by omega,<- hg] at hap
  rw [show ((c'+1 - i:Nat):Int)=(c':Int)+1 - (i:Int) by omega] at hap
  rw [<- hg] at hge hle
  obtain ⟨ROW,hROW⟩:∃ ROW:Array Vly,ROW=(d.take (i*k)).toArray++Builtin.zeroCells zv.cells (c'+1 - i)++Builtin.zeroCells zv.cells (g - (c'+1)):=⟨_,rfl⟩
  rw [<- hROW] at hap
  have hzs:zv.cells.size=k:=by rw [<- Array.length_toList,hzc,hzl]
  have htl:(d.take (i*k)).length=i*k:=by rw [List.length_take,a2];omega
  have e4:(c'+1 - i)*k=c'*k+k - i*k:=by rw [Nat.sub_mul,e2]
  have e5:(g - (c'+1))*k=g*k - (c'*k+k):=by rw [Nat.sub_mul,e2]
  have hgk:c'*k+k<=g*k:=by rw [<- e2];exact Nat.mul_le_mul_right _ hge
  have hRs:ROW.size=g*k:=by
   rw [hROW]
   simp only [Array.size_append,List.size_toArray,size_zeroCells,hzs,htl,e4,e5]
   omega
  have hRl:ROW.toList.length=g*k:=by rw [Array.length_toList,hRs]
  have hRp:∀ j,j < i*k->ROW.toList[j]? = d[j]? := by
   intro j hj
   rw [hROW,Array.toList_append,Array.toList_append,List.append_assoc,List.getElem?_append_left (by rw [List.toList_toArray,htl];exact hj),List.toList_toArray,List.getElem?_take,if_pos hj]
  have hne:L.b≠w.heap.size:=by have:=hs.lt hA;omega
  have hneB:LB.b≠w.heap.size:=by have:=hs.lt hB;omega
  have hc1:(w.drew.alloc (.cells ROW e)).heap[w.heap.size]? = some (.cells ROW e (0,0)):=by simp [World.alloc,World.drew,-World.alloc_eq,-World.drew_eq]
  have hold1:∀ j,j < w.heap.size->(w.drew.alloc (.cells ROW e)).heap[j]? = w.heap[j]? := λj hj=>by
   have:j≠w.heap.size:=by omega
   simp [World.alloc,World.drew,-World.alloc_eq,-World.drew_eq,Array.getElem?_push,this]
  have hth1:Thaw e ROW.size (0,0):=.zero _ _
  have r1:=λty dc=>zbA (w:=w.drew.alloc (.cells ROW e)) (t:=t) (u:=t) (ty:=ty) (o:=i*k) (n:=c'+1 - i) (c:=dc) (m:=1) (q:=1) (s':=.slice (some ⟨LB.b,LB.s+o2,none⟩) 1 cv) ht hi rfl (by omega)
   (hsrcB _ (hold1 _ (hs.lt hB)) cv) hc1 hth1 (by rw [b2,hRs];omega) oneu
  have hsz1:(splice ROW.toList (i*k) us).toArray.size=ROW.size:=by
   show (splice ROW.toList (i*k) us).length=ROW.size
   rw [zae (by rw [b2,hRl];omega),hRl,hRs]
  have hc2:=setRow_heap _ w.heap.size ROW (splice ROW.toList (i*k) us).toArray e (0,0) hc1
  have r2:=λty dc sc=>zbA (w:=((w.drew.alloc (.cells ROW e)).setRow w.heap.size (splice ROW.toList (i*k) us).toArray).drew) (t:=t) (u:=t) (ty:=ty) (o:=(i+1)*k) (n:=c' - i) (c:=dc) (m:=c' - i) (q:=c' - i) (s':=.slice (some ⟨L.b,L.s+o+i*k,none⟩) (c' - i) sc) ht hi rfl (by omega)
   (hsrcA _ (by show ((w.drew.alloc (.cells ROW e)).setRow w.heap.size (splice ROW.toList (i*k) us).toArray).heap[L.b]? = _
                rw [setRow_other _ _ _ _ hne];exact hold1 _ (hs.lt hA)) _ _) hc2 (by rw [hsz1];exact hth1) (by rw [hdl,e1,hsz1,hRs];omega) hdone
  refine (hGrow L.b (L.s+o) c' c' i w.heap.size g _ cv w _ _ _ _ _ hilt (Nat.le_refl _) (by omega) hge (by unfold maxLen at hle;omega) hap r1 r2).mono ?_
  rintro ed W ⟨rfl,rfl⟩
  have hc3:=setRow_heap _ w.heap.size _ (splice (splice ROW.toList (i*k) us).toArray.toList ((i+1)*k) (d.drop (i*k))).toArray e (0,0) (show (((w.drew.alloc (.cells ROW e)).setRow w.heap.size (splice ROW.toList (i*k) us).toArray).drew).heap[w.heap.size]? = _ from hc2)
  have hsz3:(splice (splice ROW.toList (i*k) us).toArray.toList ((i+1)*k) (d.drop (i*k))).toArray.size=g*k:=by
   show (splice (splice ROW.toList (i*k) us) ((i+1)*k) (d.drop (i*k))).length=g*k
   rw [zae (by rw [zae (by rw [b2,hRl];omega),hRl,hdl,e1];omega),zae (by rw [b2,hRl];omega),hRl]
  have hcut:cut (splice (splice ROW.toList (i*k) us).toArray.toList ((i+1)*k) (d.drop (i*k))).toArray.toList 0 (old.take (i*k)++news++old.drop (i*k)).length=some (d.take (i*k)++us++d.drop (i*k)):=by
   rw [hnewl,e1]
   exact zhX a2 hRp b2 hIN (by rw [Array.length_toList,hRs];omega)
  obtain ⟨fr1,sim1⟩:=zeD hs hgA
  obtain ⟨ρ',hρ,hfr,hsim⟩:=zbr (L:=⟨w.heap.size,0,g*k⟩) (b:=.row (old.take (i*k)++news++old.drop (i*k)) e false) sim1 hfree1 (W:=(((w.drew.alloc (.cells ROW e)).setRow w.heap.size (splice ROW.toList (i*k) us).toArray).drew).setRow w.heap.size (splice (splice ROW.toList (i*k) us).toArray.toList ((i+1)*k) (d.drop (i*k))).toArray)
   (λj hj=>by
    rw [setRow_other _ _ _ _ (by omega)]
    show ((w.drew.alloc (.cells ROW e)).setRow w.heap.size (splice ROW.toList (i*k) us).toArray).heap[j]? = _
    rw [setRow_other _ _ _ _ (by omega)]
    exact hold1 _ hj)
   (by simp [World.setRow,World.drew,World.alloc,-World.alloc_eq,-World.drew_eq]) (by simp [World.setRow,World.drew,World.alloc,-World.alloc_eq,-World.drew_eq]) (by simp [World.setRow,World.drew,World.alloc,-World.alloc_eq,-World.drew_eq]) (by simp [World.setRow,World.drew,World.alloc,-World.alloc_eq,-World.drew_eq])
   (Nat.le_refl _) (λρ' hgr=>⟨_,(0,0),hc3,.zero _ _,hsz3,_,hcut,hvnew.mono hgr⟩)
  refine ⟨ρ',_,rfl,fr1.trans hfr,hsim,.sliceG hρ hoc.1 (by rw [hoc.2.1];exact hge) (by rw [hoc.2.1];exact Nat.le_refl _) (by rw [hoc.2.2];exact hkp) hle (λ_=>⟨by simp,?_⟩)⟩
  rw [hoc.2.2]
  simp
end
end Go.Am

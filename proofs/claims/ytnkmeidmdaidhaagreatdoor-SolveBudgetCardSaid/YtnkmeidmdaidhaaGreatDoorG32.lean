/- Maps from atoms to numbers, in walks. No condition. -/
import Derived.Test.YtnkmeidmdaidhaaGreatDoorG31
set_option linter.unusedSimpArgs false
set_option linter.unusedVariables false
set_option maxRecDepth 100000
set_option maxHeartbeats 0
noncomputable section
namespace Go.Am
def ct (h:Heap) (A:Nat) (kv:List (ae × Int)):Prop:=∃ es clock,ak h A (.map es clock)/\es.map (λx:MapEntry=>(x.key,x.val))=kv.map (λp=>(p.1.val,Value.int .i64 p.2))
def pM (kv:List (ae × Int)) (a:ae):Option Int:=(kv.find? (λp=>decide (a=p.1))).map (·.2)
theorem U6 {T:bx} {kt:TypeId} {a:ae} (heq:∀ x y:ae,cV T 20 kt x.val y.val=some (decide (x=y))):∀ (es:List MapEntry) (kv:List (ae × Int)) (i:Nat),es.map (λx:MapEntry=>(x.key,x.val))=kv.map (λp=>(p.1.val,Value.int .i64 p.2)) ->
 (pM kv a=none->j6 T kt a.val es i=some none)/\∀ n,pM kv a=some n->∃ j,j6 T kt a.val es i=some (some (j,.int .i64 n))
 | [],kv,i,hk=>by
  cases kv with
  |nil=>exact ⟨λ_=>rfl,λn h=>by simp [pM] at h⟩
  |cons k kv=>simp at hk
 |e::es,kv,i,hk=>by
  cases kv with
  |nil=>simp at hk
  |cons k kv =>
   simp only [pR,List.cons.injEq,cx] at hk
   obtain ⟨h1,h2⟩:=U6 heq es kv (i+1) hk.2
   unfold j6
   rw [hk.1.1,heq]
   unfold pM at h1 h2 ⊢
   by_cases hx:a=k.1
   .rw [wm hx,List.find?_cons_of_pos (by simpa using hx)]
    simp [hk.1.2]
   .rw [su hx,List.find?_cons_of_neg (by simpa using hx)]
    simp only [dz,fF,if_false]
    exact ⟨h1,h2⟩
section
variable {T:bx} {t kt et:TypeId} {A:Nat} {kv:List (ae × Int)} {a:ae} {h1:Heap} {bs:List bc} {w:Nat} {K:aL}
theorem ct.over (m:ct h1 A kv) {h2:Heap} (x:Ext (h1.lay bs w) h2):ct h2 A kv:=by
 obtain ⟨es,cl,m1,m2⟩:=m
 exact ⟨es,cl,m1.over x,m2⟩
theorem ct.top {h2:Heap} {i:Nat} (x:Ext (h1.lay bs w) h2) (hi:bs[i]? = some (.map [] 0)):ct h2 (h1.size+i) []:=⟨[],0,ak.top x hi,rfl⟩
theorem ct.step (m:ct h1 A kv) {B:Nat} {h2:Heap} (c:fW B h1 h2) (hB:A≠B):ct h2 A kv:=by
 obtain ⟨es,cl,m1,m2⟩:=m
 exact ⟨es,cl,m1.step c hB,m2⟩
theorem zkJ {ok:Bool} (m:ct h1 A kv) (hd:T.desc t=some (.map kt et)) (heq:∀ x y:ae,cV T 20 kt x.val y.val=some (decide (x=y))) (hz:T.zero et=some (.int .i64 0))
 (hK:K (if ok then .tuple #[.int .i64 ((pM kv a).getD 0),.bool (pM kv a).isSome] else .int .i64 ((pM kv a).getD 0)) (h1.lay bs w)):aK (rZ T t (.map (some A)) a.val ok (h1.lay bs w)) (h1.lay bs w) K:=by
 obtain ⟨es,cl,m1,m2⟩:=m
 obtain ⟨f1,f2⟩:=U6 (a:=a) heq es kv 0 m2
 have hg:(h1.lay bs w).get A=some (.map es cl):=m1.lay bs w
 unfold rZ
 simp only [hd,MU a heq,if_true,Du,hg,dz]
 cases hl:pM kv a with
 |none =>
  rw [hl] at hK
  rw [f1 hl]
  simp only [hz,dz,jT]
  exact hK
 |some n =>
  rw [hl] at hK
  obtain ⟨j,hj⟩:=f2 n hl
  rw [hj]
  simp only [dz,jT]
  exact hK
theorem zov {h:Heap} {n:Int} (m:ct h A kv) (hd:T.desc t=some (.map kt et)) (heq:∀ x y:ae,cV T 20 kt x.val y.val=some (decide (x=y))) (ha:pM kv a=none) :
 ∃ h',mr T t (.map (some A)) a.val (.int .i64 n) h=some h'/\ct h' A (kv++[(a,n)])/\fW A h h':=by
 obtain ⟨es,cl,m1,m2⟩:=m
 obtain ⟨f1,f2⟩:=U6 (a:=a) heq es kv 0 m2
 refine ⟨h.set A (.map (es++[{ key:=a.val,val:=.int .i64 n,born:=cl }]) (cl+1)),?_,⟨_,_,⟨by rw [Heap.size_set];exact m1.lt,by rw [Heap.aM _ _ _ _ m1.lt,aG rfl]⟩,by simp [m2]⟩,?_,?_,?_⟩
 .unfold mr
  simp only [hd,m1.get,MU a heq,if_true,f1 ha,dz]
 .rw [Heap.size_set];exact aS _
 .intro B hB aO
  rw [Heap.aM _ _ _ _ m1.lt,aA aO]
 .rw [Heap.cC];omega
end
end Go.Am
namespace Go.Am
def ints (l:List Int):List ai:=l.map (Value.int .i64)
end Go.Am
namespace Go.Am
variable {A:Nat} {h h' h2:Heap}
structure FT where
 atom:ae
 clause:Int
 Gb:List Int
 deriving DecidableEq
abbrev aF.step:aF FT :=
 { k:=13,R:=λh cs x=>∃ v,cs=x.atom.cells++[.int .i64 x.clause,v]/\Sl aF.int h v x.Gb
   len:=by rintro h cs x ⟨v,rfl,_⟩;rfl
   mono:=by rintro h h' cs x i ⟨v,e,f⟩;exact ⟨v,e,f.mono i⟩
   hU:=by rintro h cs x ⟨v,rfl,f⟩;have:=f.one;simp only [Dq,ae.cells,gA,il,this];rfl }
def FT.re (s:FT):aV:=⟨s.atom,s.clause,[]⟩
section
variable {h1:Heap} {bs:List bc} {w:Nat} {T:bx} {K:aL} {t e s:TypeId} {v p:ai} {kd:IntKind} {i:Int}
theorem zye {l:List FT} {x:FT} (f:Sl aF.step h1 v l) (hd:T.desc t=some (.slice e)) (hs:de T e=some 13) (h0:0<=i) (hx:l[i.toNat]? = some x) (hk:∀ p b,Sl aF.int h1 b x.Gb->gU h1 p (x.re.atom.cells++[.int .i64 x.re.clause,b])->K p (h1.lay bs w)):aK (jq T t v (.int kd i)) (h1.lay bs w) K:=by
 have hi:=(fD.1 hx).1
 refine zP f hd hs h0 (by omega) (λx' p cs mU hr hp=>?_)
 rw [hx] at mU
 cases mU
 obtain ⟨b,rfl,hb⟩:=hr
 exact hk p b hb hp
end
structure Rows (h h':Heap):Prop where
 size:h.size<=h'.size
 get:∀ B row u ro,h.get B=some (.row row u ro)->h'.get B=some (.row row u ro)
theorem Rows.kill (g:Rows h h') (hA:A < h.size):Rows (h.set A .dead) (h'.set A .dead):=⟨g.size,λB row u ro hb=>by
 rw [Heap.aM _ _ _ _ hA] at hb
 rw [Heap.aM _ _ _ _ (dU hA g.size)]
 split
 .rename_i e
  rw [aG e] at hb
  cases hb
 .rename_i e
  rw [aA e] at hb
  exact g.get B row u ro hb⟩
theorem ct.H6 {kv:List (ae × Int)} (m:ct h A kv):∀ row u ro,h.get A≠some (.row row u ro):=by
 obtain ⟨es,cl,m1,m2⟩:=m
 intro row u ro
 rw [m1.get]
 intro e
 cases e
theorem Ow.ec {Z:Type} {r:aF Z} {h0:Heap} {e:TypeId} {B:Nat} {v:ai} {l:List Z} (dF:∀ h h' cs x,r.R h cs x->r.R h' cs x) (aO:l≠[]) (f:Ow r h0 h e A v l) (c:fW B h h') (hB:B≠A):Ow r h0 h' e A v l:=by
 rcases f with ⟨f1,f2,f3⟩|⟨row,e1,e2,e3,e4,e5,e6,e7,e8⟩
 .exact absurd f2 aO
 .refine .inr ⟨row,e1,e2,e3,dU e4 c.size,(c.get A e4 (λx=>hB x.symm)).trans e5,e6,e7,λi x hx=>?_⟩
  obtain ⟨cs,g1,g2⟩:=e8 i x hx
  exact ⟨cs,g1,dF _ _ _ _ g2⟩
theorem Ow.lay {Z:Type} {r:aF Z} {h0 h:Heap} {e:TypeId} {A:Nat} {v:ai} {l:List Z} (f:Ow r h0 h e A v l) (bs:List bc) (w:Nat):Ow r h0 (h.lay bs w) e A v l:=f.mono (bQ.lay h bs w)
theorem wo.inc (x:wo h h'):bQ h h':=⟨x.1,λA hA _=>x.2 A hA⟩
theorem wo.over {h1:Heap} {bs:List bc} {w:Nat} (g:wo h h1) (x:Ext (h1.lay bs w) h2):wo h h2:=by
 have hs:=x.size
 rw [bo] at hs
 have hg:=g.1
 exact ⟨by omega,λA hA=>by rw [x.get A (by rw [bo];omega),xW _ _ _ (by omega)];exact g.2 A hA⟩
theorem wo.bC {h1:Heap} {C:Nat} {bs:List bc} {w:Nat} (g:wo h h1) (c:fW C (h1.lay bs w) h2) (hC:h.size<=C):wo h h2:=by
 have hs:=c.size
 rw [bo] at hs
 have hg:=g.1
 exact ⟨by omega,λA hA=>by rw [c.get A (by rw [bo];omega) (by omega),xW _ _ _ (by omega)];exact g.2 A hA⟩
theorem ct.cI {h1:Heap} {kv:List (ae × Int)} (m:ct h1 A kv) (x:wo h1 h2):ct h2 A kv:=by
 obtain ⟨es,cl,m1,m2⟩:=m
 exact ⟨es,cl,⟨dU m1.lt x.1,(x.2 A m1.lt).trans m1.get⟩,m2⟩
theorem ct.lt {h:Heap} {A:Nat} {kv:List (ae × Int)} (m:ct h A kv):A < h.size:=by
 obtain ⟨es,cl,m1,m2⟩:=m
 exact m1.lt
theorem ct.bC {h1 h2:Heap} {A B:Nat} {kv:List (ae × Int)} {bs:List bc} {w:Nat} (m:ct h1 A kv) (c:fW B (h1.lay bs w) h2) (hB:A≠B):ct h2 A kv:=by
 obtain ⟨es,cl,m1,m2⟩:=m
 exact ⟨es,cl,m1.bC c hB,m2⟩
end Go.Am
namespace Go.Am
def gJ (c:ay):ay:=⟨gd c.head,c.body.map gd⟩
theorem bQ.bY {A:Nat} {h0 h1 h2:Heap} {bs:List bc} {w:Nat} (f:bQ h0 h1) (c:fW A (h1.lay bs w) h2) (hA:h0.size<=A):bQ h0 h2:=(f.trans (bQ.lay h1 bs w)).ec c hA
end Go.Am
namespace Go.Proofs.YtnkmeidmdaidhaaGreatDoor
open Go.Am Tryz
theorem MN (a:ae) (u:ai):(a.cells++[u]).length=12:=rfl
theorem JY {a:ae} {w:ai} (h:Am.one w=true):(a.cells++[w]).all Am.one=true:=by
 rw [Dq,Eo]
 simp [h]
theorem UG (a:ae) (u:ai):cut (a.cells++[u]) 0 11=some a.cells:=rfl
theorem zwx (a:ae) (u:ai):cut (a.cells++[u]) 0 12=some (a.cells++[u]):=rfl
theorem JH (a:ae) (u:ai):(a.cells++[u])[11]? = some u:=rfl
theorem zyM (a:ae):mu aH 35 [(0,a.val)]=some (.agg ⟨a.cells++[.slice none 0 0]⟩):=by kernel_rfl
theorem zwE (a:ae) (v z0 g1 z2 z3 z4 z5 z6 z7 z8 z9 Cy SP:ai):n8 (λi=>some (i*12,12)) [z0,g1,z2,z3,z4,z5,z6,z7,z8,z9,Cy,SP] [(0,Value.agg (a.cells++[v]).toArray)]=some (a.cells++[v]):=rfl
theorem zBy:rH aH 22 22=true:=by kernel_rfl
theorem zs0 (l:List ay) (v:ai) (h:Heap) (hl:Sl aF.clause h v l) (hn:l.length<=1000) (K3:∀ c∈l,c.body.length<=1000/\c.head.bE=true/\∀ b∈c.body,b.bE=true) (K:aL)
 (hk:∀ w A h',Ext h h'->Ow aF.clause h h' 35 A w (l.map gJ)->K w h'):Ok prog aH ov 26 [v] h K:=by
 rw [aq h]
 have z:=Ext.refl h
 have dG:=λ(hh:Heap)=>hl.bP iv hh
 refine Ok.aC 39 (bH Vp) ?_
 simp only [aa,seval,nb,dG]
 obtain ⟨I1,aY⟩:∃ I:Nat->Env->Heap->Prop,I=(λn e h'=>∃ (i:Nat) (wv:ai) (A:Nat) (h1:Heap),h'=h1.lay [] h1.low/\Ext h h1/\(n=l.length - i/\i<=l.length/\Ow aF.clause h h1 35 A wv ((l.take i).map gJ))/\∃ J:Nat->ai,e=(jr J 0 3 (wv::jr J 4 5 (v::.int .i64 l.length::.int .i64 i::jr J 12 28 ([]))))):=⟨_,rfl⟩
 refine dV I1 _ (by rw [aY];exact ⟨0,.slice none 0 0,h.size,_,rfl,z,⟨rfl,by omega,Ow.nil (aS _)⟩,bw⟩) ?_
 intro n e h' aT
 rw [aY] at aT
 obtain ⟨i,wv,A,bW,rfl,z,hinv,J,rfl⟩:=aT
 obtain ⟨rfl,hi,ho⟩:=hinv
 have hw:=fe i (by omega)
 have hz:=z.size
 simp only [aa,seval,nb]
 refine b9 (λaW=>?_) (λaW=>?_)
 rotate_left
 .rw [iK (by omega)] at ho
  repeat' (simp only [aa,seval,nb])
  exact hk _ _ _ z.aw (ho.mono (bQ.lay _ _ _))
 obtain ⟨r,hr,cv⟩:=ig (l:=l) (i:=i) (by omega)
 obtain ⟨hrb,pj,eQ⟩:=K3 r (fV cv)
 have g1:=bQ.refl bW
 have Q8:=ho
 have PQ:=ho.lt
 repeat' (first|simp only [aa,seval,nb]|with_reducible refine EW (hl.mono z.inc) iv jo (by omega) hr (λp bd fO hp=>?_)|with_reducible refine HX hp qJ jo ?_)
 have aD:=JY (a:=r.head) fO.one
 have zg:∀ (h:Heap) (K:aL),aK (some bd) h K=K bd h:=λ_ _=>rfl
 repeat' (simp only [aa,seval,nb,gy,gv,eA,pC,MN,aD,↓UG,dJ,dt])
 refine znX r.head pj _ _ (λh' x=>?_)
 have qc:=ak.top (i:=0) x rfl
 (replace z:=z.ao x;replace g1:=g1.over x;rw [aq h'])
 clear hp ho
 have Gz:=JY (a:=gd r.head) (w:=.slice none 0 0) rfl
 have xf:=λ(hh:Heap)=>fO.bP cF hh
 have po:=z.size
 have Cb:=g1.size
 obtain ⟨AD,PK⟩:∃ A,A=h'.size+0:=⟨_,rfl⟩
 have aes:bW.size<=AD:=by omega
 repeat' (simp only [aa,seval,nb,zyM,MN,Gz,gy,gv,eA,pC,qc.lay,JH,zg,xf])
 clear qc
 refine r6 (λh' x hq=>?_)
 have qd:=hq 0 _ rfl
 clear hq
 (replace z:=z.ao x;replace g1:=g1.over x;rw [aq h'])
 rw [<- PK] at qd
 rw [<- PK]
 clear PK
 have po:=z.size
 have Cb:=g1.size
 obtain ⟨I2,fI⟩:∃ I:Nat->Env->Heap->Prop,I=(λn e h'=>∃ (j:Nat) (wb:ai) (B:Nat) (h1:Heap),h'=h1.lay [] h1.low/\Ext h h1/\(n=r.body.length - j/\j<=r.body.length/\bQ bW h1/\Ow aF.atom bW h1 28 B wb ((r.body.take j).map gd)/\B≠AD/\ak h1 AD (.row ((gd r.head).cells++[wb]) 35 false))/\∃ J:Nat->ai,e=(jr J 0 3 (wv::jr J 4 2 (.pointer (some ⟨AD,0,none⟩)::jr J 7 2 (v::.int .i64 l.length::.int .i64 i::jr J 12 8 (bd::.int .i64 r.body.length::.int .i64 j::jr J 23 17 ([]))))))):=⟨_,rfl⟩
 refine dV I2 _ (by rw [fI];exact ⟨0,.slice none 0 0,AD+1,_,rfl,z,⟨rfl,by omega,g1,Ow.nil (by omega),by omega,qd⟩,bw⟩) ?_
 intro n e h' aT
 rw [fI] at aT
 obtain ⟨j,wb,B,cK,rfl,z,hinv,J,rfl⟩:=aT
 clear qd g1 po Cb
 obtain ⟨rfl,hj,g1,ob,hBD,qd⟩:=hinv
 have jL:=fe j (by omega)
 have hvx:∀ (h:Heap) (K:aL),aK (some wb) h K=K wb h:=λ_ _=>rfl
 have po:=z.size
 have Cb:=g1.size
 have hqd:=qd.lt
 simp only [aa,seval,nb]
 refine b9 (λeM=>?_) (λeM=>?_)
 rotate_left
 .rw [iK (by omega)] at ob
  simp only [aa,seval,nb,qd.lay,↓zwx,zwE]
  simp only [bM,seval,j4,zBy]
  have hle:(l.take i).length<=1000:=by rw [hZ];omega
  obtain ⟨A',Xj,eG⟩:∃ A',Ow aF.clause h cK 35 A' wv ((l.take i).map gJ)/\(A' < bW.size\/A'=cK.size+1):=by
   rcases PQ with hq|hq
   .exact ⟨A,Q8.mono g1,.inl hq⟩
   .rw [hq] at Q8
    refine ⟨cK.size+1,?_,.inr rfl⟩
    rw [hq]
    exact (Q8.mono g1).any _ (by omega)
  have hR:aF.clause.R (kill A' (cK.lay [bc.row ((gd r.head).cells++[wb]) 35 false] cK.low)) ((gd r.head).cells++[wb]) (gJ r) :=
   ⟨wb,rfl,(ob.mono (bQ.lay _ _ _)).under (by decide) (λ_ _ _ _ h=>h) (by rw [bo];simp only [dB,cW];omega)⟩
  refine uR (i:=0) (cs:=((gd r.head).cells++[wb])) (x:=gJ r) iv TI rfl (by decide) (by rfl) z.size Xj hR (by rw [fN];omega) (by rw [fN];omega) (λw3 h3 A3 iy ff jH=>?_)
  have DR:=Xj.fresh
  replace z:=z.aw.step ff (by omega)
  rw [aq h3]
  have mR:(l.take i).map gJ++[gJ r]=(l.take (i+1)).map gJ:=by rw [od,cv,rM];rfl
  rw [mR] at iy
  repeat' (simp only [aa,seval,nb])
  rw [hw]
  (rw [aY];with_reducible refine cR (m:=_) ?_ ⟨i+1,w3,A3,_,rfl,z,⟨rfl,by omega,iy⟩,bw⟩;omega)
 obtain ⟨b,hb,lU⟩:=ig (l:=r.body) (i:=j) eM
 have jh:=eQ b (fV lU)
 repeat' (first|simp only [aa,seval,nb]|with_reducible refine uQ (fO.mono g1) cF cw (by omega) hb (λp hp=>?_)|with_reducible refine rq hp iM cw ?_)
 repeat' (simp only [aa,seval,nb,gy,gv,eA,lJ,iB,CR,CP,Eo])
 with_reducible first|refine dO (by simp only [nb]) z.aw ?_
 simp only [aa,seval,nb,qd.lay,JH,hvx,↓eH,dJ,dt]
 refine znX b jh _ _ (λh' x=>?_)
 (((with_reducible refine fC ?_ ?_ ?_);(· exact (by (simp only [fT]);have:=z.size;omega));(· exact x));replace z:=z.ao x;replace g1:=g1.over x;replace ob:=ob.over x;replace qd:=qd.over x;rw [aq h'])
 clear hp
 simp only [aa,seval,nb,iB,CR,CP]
 have xh:(r.body.take j).length<=1000:=by rw [hZ];omega
 refine kO (by have:=z.size;omega) (by omega) ?_
 simp only [bM,seval,nb,j4,Nh]
 refine uR (i:=0) (cs:=(gd b).cells) (x:=gd b) cF xU rfl (by decide) (by rfl) g1.size ob rfl (by rw [fN];omega) (by rw [fN];omega) (λw3 h3 A3 iy ff jH=>?_)
 have W5:=ob.fresh
 have B3:=z.size
 have tW:=g1.size
 refine gR (A:=B) (by kernel_rfl) (by have:=z.size;rw [bo];omega) (by omega) (by simpa only [bK,bo,bu,dB,cW,gw] using ff) ?_
 have afT:=qd.lt
 replace qd:=qd.bC ff (Ne.symm hBD)
 replace z:=z.bY ff (by omega) (by omega)
 replace g1:=g1.bY ff W5
 rw [aq h3]
 simp only [aa,seval,nb]
 obtain ⟨a3,m3,sN,rfl⟩:=iy.slice
 refine iH (n:=1) (o:=11) (vs:=[.slice a3 m3 sN]) qd (by kernel_rfl) rfl rfl (by rw [MN];decide) rfl (λh4 q4 lr=>?_)
 refine gR (A:=AD) (by kernel_rfl) (by have:=z.size;rw [bo];omega) (by omega) lr ?_
 have xK:=Ow.ec (λ_ _ _ _ h=>h) (by simp) (iy.mono (bQ.lay h3 [] (h3.size+0))) lr (by rcases jH with e|e <;> omega)
 have af5:=z.size
 have af6:=g1.size
 replace z:=z.bY lr (by omega) (by omega)
 replace g1:=g1.bY lr (by omega)
 clear ob iy qd
 have q4:ak h4 AD (.row ((gd r.head).cells++[.slice a3 m3 sN]) 35 false):=q4
 have mR:(r.body.take j).map gd++[gd b]=(r.body.take (j+1)).map gd:=by rw [od,lU,rM];rfl
 rw [mR] at xK
 rw [aq h4]
 simp only [bM,seval,nb]
 ((with_reducible refine ⟨z.cI.lay _ _,?_⟩);(intro _ h' zz x _);(simp only [bK,bu] at x);replace g1:=g1.over x;replace q4:=q4.over x;replace xK:=xK.over x;(replace z:=zz);(clear zz);rw [aq h'])
 simp only [aa,seval,nb]
 rw [jL]
 (rw [fI];with_reducible refine cR (m:=_) ?_ ⟨j+1,_,A3,_,rfl,z,⟨rfl,by omega,g1,xK,by rcases jH with e|e <;> omega,q4⟩,bw⟩;omega)
def Vr:=bD f28
def X9:=PLift.up (by have c:=bG Vr f28;simp only [aQ,f28,seval] at c;exact nd c <| @On)
theorem c28:type_of% X9.down:=X9.down
def VY:=bD f69
def YK:=PLift.up (by have c:=bG VY f69;simp only [aQ,f69,seval] at c;exact nd c <| nd @UY <| nd @R4 <| nd @zBs <| nd @Cj <| nd @Cl <| @O4)
theorem c69:type_of% YK.down:=YK.down
def VK:=bD f56
def Yx:=PLift.up (by have c:=bG VK f56;simp only [aQ,f56,seval] at c;exact nd c <| nd @NM <| nd @UK <| nd @zya <| nd @zAn <| nd @UY <| nd @cj <| nd @Ci <| nd @Cj <| nd @Cl <| @OR)
theorem nv:type_of% Yx.down:=Yx.down
def VL:=bD f57
def Yy:=PLift.up (by have c:=bG VL f57;simp only [aQ,f57,seval] at c;exact nd c <| nd @jb <| nd @UK <| nd @cj <| @OS)
theorem NS:type_of% Yy.down:=Yy.down
def Vv:=bD f33
def Ye:=PLift.up (by have c:=bG Vv f33;simp only [aQ,f33,seval] at c;exact nd c <| nd @zuF <| nd @ix <| @Ox)
theorem NO:type_of% Ye.down:=Ye.down
def Vw:=bD f34
def Yf:=PLift.up (by have c:=bG Vw f34;simp only [aQ,f34,seval] at c;exact nd c <| nd @UY <| nd @Cj <| nd @Cl <| @Oy)
theorem c34:type_of% Yf.down:=Yf.down
def Wc:=bD f90
def YZ:=PLift.up (by have c:=bG Wc f90;simp only [aQ,f90,seval] at c;exact nd c <| nd @oO <| nd @UK <| nd @zuF <| nd @zy5 <| nd @zAo <| nd @ix <| nd @cj <| nd @mh <| nd @Ci <| nd @fK <| @Pk)
theorem jd:type_of% YZ.down:=YZ.down
def Wd:=bD f91
def Y0:=PLift.up (by have c:=bG Wd f91;simp only [aQ,f91,seval] at c;exact nd c <| nd @zuG <| nd @um <| @Pl)
theorem NV:type_of% Y0.down:=Y0.down
def VV:=bD f66
def YH:=PLift.up (by have c:=bG VV f66;simp only [aQ,f66,seval] at c;exact nd c <| nd @Au <| nd @zuG <| nd @um <| @O1)
theorem DI:type_of% YH.down:=YH.down
def Wb:=bD f89
def YY:=PLift.up (by have c:=bG Wb f89;simp only [aQ,f89,seval] at c;exact nd c <| nd @zya <| nd @cj <| nd @Ci <| @Pj)
theorem yI:type_of% YY.down:=YY.down
def Fy:=bD f121
def IH:=PLift.up (by have c:=bG Fy f121;simp only [aQ,f121,seval] at c;exact nd c <| nd @Au <| @zA8)
theorem wx:type_of% IH.down:=IH.down
def Wh:=bD f96
def Y5:=PLift.up (by have c:=bG Wh f96;simp only [aQ,f96,seval] at c;exact nd c <| @Pq)
theorem NW:type_of% Y5.down:=Y5.down
def FA:=bD f123
def IJ:=PLift.up (by have c:=bG FA f123;simp only [aQ,f123,seval] at c;exact nd c <| nd @HT <| nd @mh <| nd @H2 <| @zBa)
theorem wy:type_of% IJ.down:=IJ.down
def Vu:=bD f31
def Yc:=PLift.up (by have c:=bG Vu f31;simp only [aQ,f31,seval] at c;exact nd c <| nd @zAk <| nd @M3 <| nd @mh <| @Ot)
theorem AB:type_of% Yc.down:=Yc.down
def VP:=bD f61
def YC:=PLift.up (by have c:=bG VP f61;simp only [aQ,f61,seval] at c;exact nd c <| nd @NL <| nd @Au <| nd @M3 <| nd @zx6 <| nd @UX <| nd @mh <| nd @HV <| nd @um <| nd @Sd <| nd @OW <| @Px)
theorem ve:type_of% YC.down:=YC.down
def VN:=bD f59
def YA:=PLift.up (by have c:=bG VN f59;simp only [aQ,f59,seval] at c;exact nd c <| nd @zz0 <| nd @NK <| nd @M3 <| nd @M4 <| nd @UX <| nd @zx7 <| nd @zAl <| nd @zx8 <| nd @cj <| nd @mh <| nd @xE <| nd @xF <| nd @Sa <| nd @um <| nd @xG <| nd @OU <| @Pw)
theorem eJ:type_of% YA.down:=YA.down
def VT:=bD f64
def YF:=PLift.up (by have c:=bG VT f64;simp only [aQ,f64,seval] at c;exact nd c <| nd @zuE <| nd @C6 <| nd @jZ <| @OZ)
theorem Wo:type_of% YF.down:=YF.down
end Go.Proofs.YtnkmeidmdaidhaaGreatDoor

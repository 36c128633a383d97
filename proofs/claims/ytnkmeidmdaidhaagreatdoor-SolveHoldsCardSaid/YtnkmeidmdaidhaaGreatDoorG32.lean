/- Maps from atoms to numbers, in walks. No condition. -/
import Derived.Test.YtnkmeidmdaidhaaGreatDoorG31
set_option linter.unusedSimpArgs false
set_option linter.unusedVariables false
set_option maxRecDepth 100000
set_option maxHeartbeats 0
noncomputable section
namespace Go.Am
def bV (h:Heap) (A:Nat) (kv:List (ae × Int)):Prop:=∃ es clock,ak h A (.map es clock)/\es.map (λx:MapEntry=>(x.key,x.val))=kv.map (λp=>(p.1.val,Value.int .i64 p.2))
def rK (kv:List (ae × Int)) (a:ae):Option Int:=(kv.find? (λp=>decide (a=p.1))).map (·.2)
theorem U8 {T:bN} {kt:TypeId} {a:ae} (heq:∀ x y:ae,dy T 20 kt x.val y.val=some (decide (x=y))):∀ (es:List MapEntry) (kv:List (ae × Int)) (i:Nat),es.map (λx:MapEntry=>(x.key,x.val))=kv.map (λp=>(p.1.val,Value.int .i64 p.2)) ->
 (rK kv a=none->lH T kt a.val es i=some none)/\∀ n,rK kv a=some n->∃ j,lH T kt a.val es i=some (some (j,.int .i64 n))
 | [],kv,i,hk=>by
  cases kv with
  |nil=>exact ⟨λ_=>rfl,λn h=>by simp [rK] at h⟩
  |cons k kv=>simp at hk
 |e::es,kv,i,hk=>by
  cases kv with
  |nil=>simp at hk
  |cons k kv =>
   simp only [qG,List.cons.injEq,cR] at hk
   obtain ⟨h1,h2⟩:=U8 heq es kv (i+1) hk.2
   unfold lH
   rw [hk.1.1,heq]
   unfold rK at h1 h2 ⊢
   by_cases hx:a=k.1
   .rw [sH hx,List.find?_cons_of_pos (by simpa using hx)]
    simp [hk.1.2]
   .rw [tO hx,List.find?_cons_of_neg (by simpa using hx)]
    simp only [dH,gH,if_false]
    exact ⟨h1,h2⟩
section
variable {T:bN} {t kt et:TypeId} {A:Nat} {kv:List (ae × Int)} {a:ae} {h1:Heap} {bs:List aZ} {w:Nat} {K:aO}
theorem bV.over (m:bV h1 A kv) {h2:Heap} (x:Ext (h1.lay bs w) h2):bV h2 A kv:=by
 obtain ⟨es,cl,m1,m2⟩:=m
 exact ⟨es,cl,m1.over x,m2⟩
theorem bV.top {h2:Heap} {i:Nat} (x:Ext (h1.lay bs w) h2) (hi:bs[i]? = some (.map [] 0)):bV h2 (h1.size+i) []:=⟨[],0,ak.top x hi,rfl⟩
theorem bV.step (m:bV h1 A kv) {B:Nat} {h2:Heap} (c:fc B h1 h2) (hB:A≠B):bV h2 A kv:=by
 obtain ⟨es,cl,m1,m2⟩:=m
 exact ⟨es,cl,m1.step c hB,m2⟩
theorem zlo {ok:Bool} (m:bV h1 A kv) (hd:T.desc t=some (.map kt et)) (heq:∀ x y:ae,dy T 20 kt x.val y.val=some (decide (x=y))) (hz:T.zero et=some (.int .i64 0))
 (hK:K (if ok then .tuple #[.int .i64 ((rK kv a).getD 0),.bool (rK kv a).isSome] else .int .i64 ((rK kv a).getD 0)) (h1.lay bs w)):aM (uq T t (.map (some A)) a.val ok (h1.lay bs w)) (h1.lay bs w) K:=by
 obtain ⟨es,cl,m1,m2⟩:=m
 obtain ⟨f1,f2⟩:=U8 (a:=a) heq es kv 0 m2
 have hg:(h1.lay bs w).get A=some (.map es cl):=m1.lay bs w
 unfold uq
 simp only [hd,Ph a heq,if_true,Fq,hg,dH]
 cases hl:rK kv a with
 |none =>
  rw [hl] at hK
  rw [f1 hl]
  simp only [hz,dH,kK]
  exact hK
 |some n =>
  rw [hl] at hK
  obtain ⟨j,hj⟩:=f2 n hl
  rw [hj]
  simp only [dH,kK]
  exact hK
theorem zpt {h:Heap} {n:Int} (m:bV h A kv) (hd:T.desc t=some (.map kt et)) (heq:∀ x y:ae,dy T 20 kt x.val y.val=some (decide (x=y))) (ha:rK kv a=none) :
 ∃ h',nN T t (.map (some A)) a.val (.int .i64 n) h=some h'/\bV h' A (kv++[(a,n)])/\fc A h h':=by
 obtain ⟨es,cl,m1,m2⟩:=m
 obtain ⟨f1,f2⟩:=U8 (a:=a) heq es kv 0 m2
 refine ⟨h.set A (.map (es++[{ key:=a.val,val:=.int .i64 n,born:=cl }]) (cl+1)),?_,⟨_,_,⟨by rw [Heap.size_set];exact m1.lt,by rw [Heap.aH _ _ _ _ m1.lt,aB rfl]⟩,by simp [m2]⟩,?_,?_,?_⟩
 .unfold nN
  simp only [hd,m1.get,Ph a heq,if_true,f1 ha,dH]
 .rw [Heap.size_set];exact aQ _
 .intro B hB aL
  rw [Heap.aH _ _ _ _ m1.lt,aA aL]
 .rw [Heap.cA];omega
end
end Go.Am
namespace Go.Am
def ints (l:List Int):List ai:=l.map (Value.int .i64)
end Go.Am
namespace Go.Am
variable {A:Nat} {h h' h2:Heap}
structure pk where
 atom:ae
 clause:Int
 AG:List Int
 deriving DecidableEq
abbrev aG.step:aG pk :=
 { k:=13,R:=λh cs x=>∃ v,cs=x.atom.cells++[.int .i64 x.clause,v]/\Sl aG.int h v x.AG
   len:=by rintro h cs x ⟨v,rfl,_⟩;rfl
   mono:=by rintro h h' cs x i ⟨v,e,f⟩;exact ⟨v,e,f.mono i⟩
   ig:=by rintro h cs x ⟨v,rfl,f⟩;have:=f.one;simp only [Fg,ae.cells,iy,jt,this];rfl }
def pk.re (s:pk):ba:=⟨s.atom,s.clause,[]⟩
section
variable {h1:Heap} {bs:List aZ} {w:Nat} {T:bN} {K:aO} {t e s:TypeId} {v p:ai} {kd:IntKind} {i:Int}
theorem Xv {l:List pk} {x:pk} (f:Sl aG.step h1 v l) (hd:T.desc t=some (.slice e)) (hs:dF T e=some 13) (h0:0<=i) (hx:l[i.toNat]? = some x) (hk:∀ p b,Sl aG.int h1 b x.AG->gJ h1 p (x.re.atom.cells++[.int .i64 x.re.clause,b])->K p (h1.lay bs w)):aM (kF T t v (.int kd i)) (h1.lay bs w) K:=by
 have hi:=(fR.1 hx).1
 refine BX f hd hs h0 (by omega) (λx' p cs nF hr hp=>?_)
 rw [hx] at nF
 cases nF
 obtain ⟨b,rfl,hb⟩:=hr
 exact hk p b hb hp
end
structure Rows (h h':Heap):Prop where
 size:h.size<=h'.size
 get:∀ B row u ro,h.get B=some (.row row u ro)->h'.get B=some (.row row u ro)
theorem Rows.kill (g:Rows h h') (hA:A < h.size):Rows (h.set A .dead) (h'.set A .dead):=⟨g.size,λB row u ro hb=>by
 rw [Heap.aH _ _ _ _ hA] at hb
 rw [Heap.aH _ _ _ _ (dt hA g.size)]
 split
 .rename_i e
  rw [aB e] at hb
  cases hb
 .rename_i e
  rw [aA e] at hb
  exact g.get B row u ro hb⟩
theorem bV.Br {kv:List (ae × Int)} (m:bV h A kv):∀ row u ro,h.get A≠some (.row row u ro):=by
 obtain ⟨es,cl,m1,m2⟩:=m
 intro row u ro
 rw [m1.get]
 intro e
 cases e
theorem Ow.eN {Z:Type} {r:aG Z} {h0:Heap} {e:TypeId} {B:Nat} {v:ai} {l:List Z} (dP:∀ h h' cs x,r.R h cs x->r.R h' cs x) (aL:l≠[]) (f:Ow r h0 h e A v l) (c:fc B h h') (hB:B≠A):Ow r h0 h' e A v l:=by
 rcases f with ⟨f1,f2,f3⟩|⟨row,e1,e2,e3,e4,e5,e6,e7,e8⟩
 .exact absurd f2 aL
 .refine .inr ⟨row,e1,e2,e3,dt e4 c.size,(c.get A e4 (λx=>hB x.symm)).trans e5,e6,e7,λi x hx=>?_⟩
  obtain ⟨cs,g1,g2⟩:=e8 i x hx
  exact ⟨cs,g1,dP _ _ _ _ g2⟩
theorem Ow.lay {Z:Type} {r:aG Z} {h0 h:Heap} {e:TypeId} {A:Nat} {v:ai} {l:List Z} (f:Ow r h0 h e A v l) (bs:List aZ) (w:Nat):Ow r h0 (h.lay bs w) e A v l:=f.mono (bP.lay h bs w)
theorem qe.inc (x:qe h h'):bP h h':=⟨x.1,λA hA _=>x.2 A hA⟩
theorem qe.over {h1:Heap} {bs:List aZ} {w:Nat} (g:qe h h1) (x:Ext (h1.lay bs w) h2):qe h h2:=by
 have hs:=x.size
 rw [br] at hs
 have hg:=g.1
 exact ⟨by omega,λA hA=>by rw [x.get A (by rw [br];omega),sd _ _ _ (by omega)];exact g.2 A hA⟩
theorem qe.bB {h1:Heap} {C:Nat} {bs:List aZ} {w:Nat} (g:qe h h1) (c:fc C (h1.lay bs w) h2) (hC:h.size<=C):qe h h2:=by
 have hs:=c.size
 rw [br] at hs
 have hg:=g.1
 exact ⟨by omega,λA hA=>by rw [c.get A (by rw [br];omega) (by omega),sd _ _ _ (by omega)];exact g.2 A hA⟩
theorem bV.cS {h1:Heap} {kv:List (ae × Int)} (m:bV h1 A kv) (x:qe h1 h2):bV h2 A kv:=by
 obtain ⟨es,cl,m1,m2⟩:=m
 exact ⟨es,cl,⟨dt m1.lt x.1,(x.2 A m1.lt).trans m1.get⟩,m2⟩
theorem bV.lt {h:Heap} {A:Nat} {kv:List (ae × Int)} (m:bV h A kv):A < h.size:=by
 obtain ⟨es,cl,m1,m2⟩:=m
 exact m1.lt
theorem bV.bB {h1 h2:Heap} {A B:Nat} {kv:List (ae × Int)} {bs:List aZ} {w:Nat} (m:bV h1 A kv) (c:fc B (h1.lay bs w) h2) (hB:A≠B):bV h2 A kv:=by
 obtain ⟨es,cl,m1,m2⟩:=m
 exact ⟨es,cl,m1.bB c hB,m2⟩
end Go.Am
namespace Go.Am
def eY (c:aq):aq:=⟨fp c.head,c.body.map fp⟩
theorem bP.cp {A:Nat} {h0 h1 h2:Heap} {bs:List aZ} {w:Nat} (f:bP h0 h1) (c:fc A (h1.lay bs w) h2) (hA:h0.size<=A):bP h0 h2:=(f.trans (bP.lay h1 bs w)).eN c hA
end Go.Am
namespace Go.Proofs.YtnkmeidmdaidhaaGreatDoor
open Go.Am Tryz
theorem O7 (a:ae) (u:ai):(a.cells++[u]).length=12:=rfl
theorem LI {a:ae} {w:ai} (h:Am.one w=true):(a.cells++[w]).all Am.one=true:=by
 rw [Fg,Gv]
 simp [h]
theorem W9 (a:ae) (u:ai):cut (a.cells++[u]) 0 11=some a.cells:=rfl
theorem zxH (a:ae) (u:ai):cut (a.cells++[u]) 0 12=some (a.cells++[u]):=rfl
theorem Lx (a:ae) (u:ai):(a.cells++[u])[11]? = some u:=rfl
theorem zzS (a:ae):nP aJ 35 [(0,a.val)]=some (.agg ⟨a.cells++[.slice none 0 0]⟩):=by kernel_rfl
theorem zxR (a:ae) (v z0 g1 z2 z3 z4 z5 z6 z7 z8 z9 Em U5:ai):pZ (λi=>some (i*12,12)) [z0,g1,z2,z3,z4,z5,z6,z7,z8,z9,Em,U5] [(0,Value.agg (a.cells++[v]).toArray)]=some (a.cells++[v]):=rfl
theorem zCE:tJ aJ 22 22=true:=by kernel_rfl
theorem ztW (l:List aq) (v:ai) (h:Heap) (hl:Sl aG.clause h v l) (hn:l.length<=1000) (M3:∀ c∈l,c.body.length<=1000/\c.head.bQ=true/\∀ b∈c.body,b.bQ=true) (K:aO)
 (hk:∀ w A h',Ext h h'->Ow aG.clause h h' 35 A w (l.map eY)->K w h'):Ok prog aJ ov 26 [v] h K:=by
 rw [az h]
 have z:=Ext.refl h
 have eD:=λ(hh:Heap)=>hl.bW jv hh
 refine Ok.aF 39 (bY XJ) ?_
 simp only [aa,seval,oV,eD]
 obtain ⟨I1,bo⟩:∃ I:Nat->Env->Heap->Prop,I=(λn e h'=>∃ (i:Nat) (wv:ai) (A:Nat) (h1:Heap),h'=h1.lay [] h1.low/\Ext h h1/\(n=l.length - i/\i<=l.length/\Ow aG.clause h h1 35 A wv ((l.take i).map eY))/\∃ J:Nat->ai,e=(jr J 0 3 (wv::jr J 4 5 (v::.int .i64 l.length::.int .i64 i::jr J 12 28 ([]))))):=⟨_,rfl⟩
 refine fh I1 _ (by rw [bo];exact ⟨0,.slice none 0 0,h.size,_,rfl,z,⟨rfl,by omega,Ow.nil (aQ _)⟩,bO⟩) ?_
 intro n e h' aU
 rw [bo] at aU
 obtain ⟨i,wv,A,cF,rfl,z,hinv,J,rfl⟩:=aU
 obtain ⟨rfl,hi,ho⟩:=hinv
 have hw:=gE i (by omega)
 have hz:=z.size
 simp only [aa,seval,oV]
 refine cm (λbc=>?_) (λbc=>?_)
 rotate_left
 .rw [iR (by omega)] at ho
  repeat' (simp only [aa,seval,oV])
  exact hk _ _ _ z.aw (ho.mono (bP.lay _ _ _))
 obtain ⟨r,hr,cI⟩:=i4 (l:=l) (i:=i) (by omega)
 obtain ⟨hrb,r6,fo⟩:=M3 r (ek cI)
 have g1:=bP.refl cF
 have Ts:=ho
 have CR:=ho.lt
 repeat' (first|simp only [aa,seval,oV]|with_reducible refine GX (hl.mono z.inc) jv kx (by omega) hr (λp bd gV hp=>?_)|with_reducible refine JZ hp sK kx ?_)
 have aE:=LI (a:=r.head) gV.one
 have tZ:∀ (h:Heap) (K:aO),aM (some bd) h K=K bd h:=λ_ _=>rfl
 repeat' (simp only [aa,seval,oV,iw,iv,fW,ry,O7,aE,↓W9,eG,dS])
 refine zoV r.head r6 _ _ (λh' x=>?_)
 have qc:=ak.top (i:=0) x rfl
 (replace z:=z.au x;replace g1:=g1.over x;rw [az h'])
 clear hp ho
 have Iu:=LI (a:=fp r.head) (w:=.slice none 0 0) rfl
 have yX:=λ(hh:Heap)=>gV.bW cM hh
 have tu:=z.size
 have DY:=g1.size
 obtain ⟨AD,RQ⟩:∃ A,A=h'.size+0:=⟨_,rfl⟩
 have agV:cF.size<=AD:=by omega
 repeat' (simp only [aa,seval,oV,zzS,O7,Iu,iw,iv,fW,ry,qc.lay,Lx,tZ,yX])
 clear qc
 refine uw (λh' x hq=>?_)
 have qd:=hq 0 _ rfl
 clear hq
 (replace z:=z.au x;replace g1:=g1.over x;rw [az h'])
 rw [<- RQ] at qd
 rw [<- RQ]
 clear RQ
 have tu:=z.size
 have DY:=g1.size
 obtain ⟨I2,gN⟩:∃ I:Nat->Env->Heap->Prop,I=(λn e h'=>∃ (j:Nat) (wb:ai) (B:Nat) (h1:Heap),h'=h1.lay [] h1.low/\Ext h h1/\(n=r.body.length - j/\j<=r.body.length/\bP cF h1/\Ow aG.atom cF h1 28 B wb ((r.body.take j).map fp)/\B≠AD/\ak h1 AD (.row ((fp r.head).cells++[wb]) 35 false))/\∃ J:Nat->ai,e=(jr J 0 3 (wv::jr J 4 2 (.pointer (some ⟨AD,0,none⟩)::jr J 7 2 (v::.int .i64 l.length::.int .i64 i::jr J 12 8 (bd::.int .i64 r.body.length::.int .i64 j::jr J 23 17 ([]))))))):=⟨_,rfl⟩
 refine fh I2 _ (by rw [gN];exact ⟨0,.slice none 0 0,AD+1,_,rfl,z,⟨rfl,by omega,g1,Ow.nil (by omega),by omega,qd⟩,bO⟩) ?_
 intro n e h' aU
 rw [gN] at aU
 obtain ⟨j,wb,B,da,rfl,z,hinv,J,rfl⟩:=aU
 clear qd g1 tu DY
 obtain ⟨rfl,hj,g1,ob,hBD,qd⟩:=hinv
 have pe:=gE j (by omega)
 have hvx:∀ (h:Heap) (K:aO),aM (some wb) h K=K wb h:=λ_ _=>rfl
 have tu:=z.size
 have DY:=g1.size
 have hqd:=qd.lt
 simp only [aa,seval,oV]
 refine cm (λfM=>?_) (λfM=>?_)
 rotate_left
 .rw [iR (by omega)] at ob
  simp only [aa,seval,oV,qd.lay,↓zxH,zxR]
  simp only [cv,seval,lF,zCE]
  have hle:(l.take i).length<=1000:=by rw [gR];omega
  obtain ⟨A',Zv,fw⟩:∃ A',Ow aG.clause h da 35 A' wv ((l.take i).map eY)/\(A' < cF.size\/A'=da.size+1):=by
   rcases CR with hq|hq
   .exact ⟨A,Ts.mono g1,.inl hq⟩
   .rw [hq] at Ts
    refine ⟨da.size+1,?_,.inr rfl⟩
    rw [hq]
    exact (Ts.mono g1).any _ (by omega)
  have hR:aG.clause.R (kill A' (da.lay [aZ.row ((fp r.head).cells++[wb]) 35 false] da.low)) ((fp r.head).cells++[wb]) (eY r) :=
   ⟨wb,rfl,(ob.mono (bP.lay _ _ _)).under (by decide) (λ_ _ _ _ h=>h) (by rw [br];simp only [eB,dK];omega)⟩
  refine xb (i:=0) (cs:=((fp r.head).cells++[wb])) (x:=eY r) jv VV rfl (by decide) (by rfl) z.size Zv hR (by rw [gq];omega) (by rw [gq];omega) (λw3 h3 A3 jz gg kO=>?_)
  have FJ:=Zv.fresh
  replace z:=z.aw.step gg (by omega)
  rw [az h3]
  have oF:(l.take i).map eY++[eY r]=(l.take (i+1)).map eY:=by rw [oT,cI,sG];rfl
  rw [oF] at jz
  repeat' (simp only [aa,seval,oV])
  rw [hw]
  (rw [bo];with_reducible refine dA (m:=_) ?_ ⟨i+1,w3,A3,_,rfl,z,⟨rfl,by omega,jz⟩,bO⟩;omega)
 obtain ⟨b,hb,lB⟩:=i4 (l:=r.body) (i:=j) fM
 have rX:=fo b (ek lB)
 repeat' (first|simp only [aa,seval,oV]|with_reducible refine tH (gV.mono g1) cM cw (by omega) hb (λp hp=>?_)|with_reducible refine rj hp jb cw ?_)
 repeat' (simp only [aa,seval,oV,iw,iv,fW,nb,js,EF,ED,Gv])
 with_reducible first|refine eF (by simp only [oV]) z.aw ?_
 simp only [aa,seval,oV,qd.lay,Lx,hvx,↓fU,eG,dS]
 refine zoV b rX _ _ (λh' x=>?_)
 (((with_reducible refine fP ?_ ?_ ?_);(· exact (by (simp only [gh]);have:=z.size;omega));(· exact x));replace z:=z.au x;replace g1:=g1.over x;replace ob:=ob.over x;replace qd:=qd.over x;rw [az h'])
 clear hp
 simp only [aa,seval,oV,js,EF,ED]
 have yZ:(r.body.take j).length<=1000:=by rw [gR];omega
 refine nL (by have:=z.size;omega) (by omega) ?_
 simp only [cv,seval,oV,lF,Px]
 refine xb (i:=0) (cs:=(fp b).cells) (x:=fp b) cM zS rfl (by decide) (by rfl) g1.size ob rfl (by rw [gq];omega) (by rw [gq];omega) (λw3 h3 A3 jz gg kO=>?_)
 have Zg:=ob.fresh
 have DP:=z.size
 have wq:=g1.size
 refine i3 (A:=B) (by kernel_rfl) (by have:=z.size;rw [br];omega) (by omega) (by simpa only [bS,br,bD,eB,dK,gS] using gg) ?_
 have aij:=qd.lt
 replace qd:=qd.bB gg (Ne.symm hBD)
 replace z:=z.cp gg (by omega) (by omega)
 replace g1:=g1.cp gg Zg
 rw [az h3]
 simp only [aa,seval,oV]
 obtain ⟨a3,m3,uT,rfl⟩:=jz.slice
 refine jL (n:=1) (o:=11) (vs:=[.slice a3 m3 uT]) qd (by kernel_rfl) rfl rfl (by rw [O7];decide) rfl (λh4 q4 mR=>?_)
 refine i3 (A:=AD) (by kernel_rfl) (by have:=z.size;rw [br];omega) (by omega) mR ?_
 have zB:=Ow.eN (λ_ _ _ _ h=>h) (by simp) (jz.mono (bP.lay h3 [] (h3.size+0))) mR (by rcases kO with e|e <;> omega)
 have aiw:=z.size
 have aix:=g1.size
 replace z:=z.cp mR (by omega) (by omega)
 replace g1:=g1.cp mR (by omega)
 clear ob jz qd
 have q4:ak h4 AD (.row ((fp r.head).cells++[.slice a3 m3 uT]) 35 false):=q4
 have oF:(r.body.take j).map fp++[fp b]=(r.body.take (j+1)).map fp:=by rw [oT,lB,sG];rfl
 rw [oF] at zB
 rw [az h4]
 simp only [cv,seval,oV]
 ((with_reducible refine ⟨z.cS.lay _ _,?_⟩);(intro _ h' zz x _);(simp only [bS,bD] at x);replace g1:=g1.over x;replace q4:=q4.over x;replace zB:=zB.over x;(replace z:=zz);(clear zz);rw [az h'])
 simp only [aa,seval,oV]
 rw [pe]
 (rw [gN];with_reducible refine dA (m:=_) ?_ ⟨j+1,_,A3,_,rfl,z,⟨rfl,by omega,g1,zB,by rcases kO with e|e <;> omega,q4⟩,bO⟩;omega)
def XL:=bR f28
def x28:=PLift.up (by have c:=bU XL f28;simp only [aS,f28,seval] at c;exact nd c <| @QA)
theorem c28:type_of% x28.down:=x28.down
def Ye:=bR f69
def x69:=PLift.up (by have c:=bU Ye f69;simp only [aS,f69,seval] at c;exact nd c <| nd @Xr <| nd @Ul <| nd @zCx <| nd @D6 <| nd @D8 <| @Q8)
theorem c69:type_of% x69.down:=x69.down
def X1:=bR f56
def x56:=PLift.up (by have c:=bU X1 f56;simp only [aS,f56,seval] at c;exact nd c <| nd @P2 <| nd @Xd <| nd @zzk <| nd @zBv <| nd @Xr <| nd @cJ <| nd @D5 <| nd @D6 <| nd @D8 <| @QV)
theorem pw:type_of% x56.down:=x56.down
def X2:=bR f57
def x57:=PLift.up (by have c:=bU X2 f57;simp only [aS,f57,seval] at c;exact nd c <| nd @kc <| nd @Xd <| nd @cJ <| @QW)
theorem P9:type_of% x57.down:=x57.down
def XP:=bR f33
def x33:=PLift.up (by have c:=bU XP f33;simp only [aS,f33,seval] at c;exact nd c <| nd @zvA <| nd @jx <| @QF)
theorem P5:type_of% x33.down:=x33.down
def XQ:=bR f34
def x34:=PLift.up (by have c:=bU XQ f34;simp only [aS,f34,seval] at c;exact nd c <| nd @Xr <| nd @D6 <| nd @D8 <| @QG)
theorem c34:type_of% x34.down:=x34.down
def Ys:=bR f90
def x90:=PLift.up (by have c:=bU Ys f90;simp only [aS,f90,seval] at c;exact nd c <| nd @qO <| nd @Xd <| nd @zvA <| nd @zAc <| nd @zBw <| nd @jx <| nd @cJ <| nd @nH <| nd @D5 <| nd @iG <| @Rp)
theorem kf:type_of% x90.down:=x90.down
def Yt:=bR f91
def x91:=PLift.up (by have c:=bU Yt f91;simp only [aS,f91,seval] at c;exact nd c <| nd @zvB <| nd @wG <| @Rq)
theorem Qc:type_of% x91.down:=x91.down
def Yb:=bR f66
def x66:=PLift.up (by have c:=bU Yb f66;simp only [aS,f66,seval] at c;exact nd c <| nd @Cw <| nd @zvB <| nd @wG <| @Q5)
theorem Fz:type_of% x66.down:=x66.down
def Yr:=bR f89
def x89:=PLift.up (by have c:=bU Yr f89;simp only [aS,f89,seval] at c;exact nd c <| nd @zzk <| nd @cJ <| nd @D5 <| @Rn)
theorem AE:type_of% x89.down:=x89.down
def Ho:=bR f121
def KE:=PLift.up (by have c:=bU Ho f121;simp only [aS,f121,seval] at c;exact nd c <| nd @Cw <| @zCd)
theorem yr:type_of% KE.down:=KE.down
def Yx:=bR f96
def x96:=PLift.up (by have c:=bU Yx f96;simp only [aS,f96,seval] at c;exact nd c <| @Rv)
theorem Qd:type_of% x96.down:=x96.down
def Hq:=bR f123
def zG:=PLift.up (by have c:=bU Hq f123;simp only [aS,f123,seval] at c;exact nd c <| nd @JV <| nd @nH <| nd @J1 <| @zCf)
theorem yu:type_of% zG.down:=zG.down
def XO:=bR f31
def x31:=PLift.up (by have c:=bU XO f31;simp only [aS,f31,seval] at c;exact nd c <| nd @zBs <| nd @Pe <| nd @nH <| @QD)
theorem CD:type_of% x31.down:=x31.down
def X6:=bR f61
def x61:=PLift.up (by have c:=bU X6 f61;simp only [aS,f61,seval] at c;exact nd c <| nd @P1 <| nd @Cw <| nd @Pe <| nd @zzg <| nd @Xq <| nd @nH <| nd @JX <| nd @wG <| nd @Us <| nd @Q0 <| @RC)
theorem xo:type_of% x61.down:=x61.down
def X4:=bR f59
def x59:=PLift.up (by have c:=bU X4 f59;simp only [aS,f59,seval] at c;exact nd c <| nd @zA6 <| nd @P0 <| nd @Pe <| nd @Pf <| nd @Xq <| nd @zzh <| nd @zBt <| nd @zzi <| nd @cJ <| nd @nH <| nd @zw <| nd @zx <| nd @Uo <| nd @wG <| nd @D4 <| nd @QY <| @RB)
theorem fJ:type_of% x59.down:=x59.down
def X9:=bR f64
def x64:=PLift.up (by have c:=bU X9 f64;simp only [aS,f64,seval] at c;exact nd c <| nd @zvz <| nd @E0 <| nd @lD <| @Q3)
theorem YC:type_of% x64.down:=x64.down
end Go.Proofs.YtnkmeidmdaidhaaGreatDoor

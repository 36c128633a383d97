/- Maps from atoms to numbers, in walks. No condition. -/
import Derived.Test.YtnkmeidmdaidhaaGreatDoorG29
set_option linter.unusedSimpArgs false
set_option linter.unusedVariables false
set_option maxRecDepth 100000
set_option maxHeartbeats 0
noncomputable section
namespace Go.Am
def b9 (h:Heap) (A:Nat) (kv:List (ae × Int)):Prop:=∃ es clock,Holds h A (.map es clock)/\es.map (λx:MapEntry=>(x.key,x.val))=kv.map (λp=>(p.1.val,Value.int .i64 p.2))
def sd (kv:List (ae × Int)) (a:ae):Option Int:=(kv.find? (λp=>decide (a=p.1))).map (·.2)
theorem W7 {T:bJ} {kt:TypeId} {a:ae} (heq:∀ x y:ae,dC T 20 kt x.val y.val=some (decide (x=y))):∀ (es:List MapEntry) (kv:List (ae × Int)) (i:Nat),es.map (λx:MapEntry=>(x.key,x.val))=kv.map (λp=>(p.1.val,Value.int .i64 p.2)) ->
 (sd kv a=none->mb T kt a.val es i=some none)/\∀ n,sd kv a=some n->∃ j,mb T kt a.val es i=some (some (j,.int .i64 n))
 | [],kv,i,hk=>by
  cases kv with
  |nil=>exact ⟨λ_=>rfl,λn h=>by simp [sd] at h⟩
  |cons k kv=>simp at hk
 |e::es,kv,i,hk=>by
  cases kv with
  |nil=>simp at hk
  |cons k kv =>
   simp only [qO,List.cons.injEq,cQ] at hk
   obtain ⟨h1,h2⟩:=W7 heq es kv (i+1) hk.2
   unfold mb
   rw [hk.1.1,heq]
   unfold sd at h1 h2 ⊢
   by_cases hx:a=k.1
   .rw [sk hx,List.find?_cons_of_pos (by simpa using hx)]
    simp [hk.1.2]
   .rw [tn hx,List.find?_cons_of_neg (by simpa using hx)]
    simp only [dO,gX,if_false]
    exact ⟨h1,h2⟩
section
variable {T:bJ} {t kt et:TypeId} {A:Nat} {kv:List (ae × Int)} {a:ae} {h1:Heap} {bs:List aZ} {w:Nat} {K:aJ}
theorem b9.over (m:b9 h1 A kv) {h2:Heap} (x:Ext (h1.lay bs w) h2):b9 h2 A kv:=by
 obtain ⟨es,cl,m1,m2⟩:=m
 exact ⟨es,cl,m1.over x,m2⟩
theorem b9.top {h2:Heap} {i:Nat} (x:Ext (h1.lay bs w) h2) (hi:bs[i]? = some (.map [] 0)):b9 h2 (h1.size+i) []:=⟨[],0,Holds.top x hi,rfl⟩
theorem b9.step (m:b9 h1 A kv) {B:Nat} {h2:Heap} (c:ff B h1 h2) (hB:A≠B):b9 h2 A kv:=by
 obtain ⟨es,cl,m1,m2⟩:=m
 exact ⟨es,cl,m1.step c hB,m2⟩
theorem zlA {ok:Bool} (m:b9 h1 A kv) (hd:T.desc t=some (.map kt et)) (heq:∀ x y:ae,dC T 20 kt x.val y.val=some (decide (x=y))) (hz:T.zero et=some (.int .i64 0))
 (hK:K (if ok then .tuple #[.int .i64 ((sd kv a).getD 0),.bool (sd kv a).isSome] else .int .i64 ((sd kv a).getD 0)) (h1.lay bs w)):aK (u9 T t (.map (some A)) a.val ok (h1.lay bs w)) (h1.lay bs w) K:=by
 obtain ⟨es,cl,m1,m2⟩:=m
 obtain ⟨f1,f2⟩:=W7 (a:=a) heq es kv 0 m2
 have hg:(h1.lay bs w).get A=some (.map es cl):=m1.lay bs w
 unfold u9
 simp only [hd,QS a heq,if_true,Gl,hg,dO]
 cases hl:sd kv a with
 |none =>
  rw [hl] at hK
  rw [f1 hl]
  simp only [hz,dO,lu]
  exact hK
 |some n =>
  rw [hl] at hK
  obtain ⟨j,hj⟩:=f2 n hl
  rw [hj]
  simp only [dO,lu]
  exact hK
theorem zpQ {h:Heap} {n:Int} (m:b9 h A kv) (hd:T.desc t=some (.map kt et)) (heq:∀ x y:ae,dC T 20 kt x.val y.val=some (decide (x=y))) (ha:sd kv a=none) :
 ∃ h',oG T t (.map (some A)) a.val (.int .i64 n) h=some h'/\b9 h' A (kv++[(a,n)])/\ff A h h':=by
 obtain ⟨es,cl,m1,m2⟩:=m
 obtain ⟨f1,f2⟩:=W7 (a:=a) heq es kv 0 m2
 refine ⟨h.set A (.map (es++[{ key:=a.val,val:=.int .i64 n,born:=cl }]) (cl+1)),?_,⟨_,_,⟨by rw [Heap.size_set];exact m1.lt,by rw [Heap.aG _ _ _ _ m1.lt,aD rfl]⟩,by simp [m2]⟩,?_,?_,?_⟩
 .unfold oG
  simp only [hd,m1.get,QS a heq,if_true,f1 ha,dO]
 .rw [Heap.size_set];exact aR _
 .intro B hB aM
  rw [Heap.aG _ _ _ _ m1.lt,az aM]
 .rw [Heap.cM];omega
end
end Go.Am
namespace Go.Am
def ints (l:List Int):List ai:=l.map (Value.int .i64)
end Go.Am
namespace Go.Am
variable {A:Nat} {h h' h2:Heap}
structure pV where
 atom:ae
 clause:Int
 BS:List Int
 deriving DecidableEq
abbrev aC.step:aC pV :=
 { k:=13,R:=λh cs x=>∃ v,cs=x.atom.cells++[.int .i64 x.clause,v]/\Sl aC.int h v x.BS
   len:=by rintro h cs x ⟨v,rfl,_⟩;rfl
   mono:=by rintro h h' cs x i ⟨v,e,f⟩;exact ⟨v,e,f.mono i⟩
   gu:=by rintro h cs x ⟨v,rfl,f⟩;have:=f.one;simp only [Dn,ae.cells,gS,iI,this];rfl }
def pV.re (s:pV):bc:=⟨s.atom,s.clause,[]⟩
section
variable {h1:Heap} {bs:List aZ} {w:Nat} {T:bJ} {K:aJ} {t e s:TypeId} {v p:ai} {kd:IntKind} {i:Int}
theorem Zk {l:List pV} {x:pV} (f:Sl aC.step h1 v l) (hd:T.desc t=some (.slice e)) (hs:dJ T e=some 13) (h0:0<=i) (hx:l[i.toNat]? = some x) (hk:∀ p b,Sl aC.int h1 b x.BS->gy h1 p (x.re.atom.cells++[.int .i64 x.re.clause,b])->K p (h1.lay bs w)):aK (kC T t v (.int kd i)) (h1.lay bs w) K:=by
 have hi:=(fG.1 hx).1
 refine C4 f hd hs h0 (by omega) (λx' p cs oz hr hp=>?_)
 rw [hx] at oz
 cases oz
 obtain ⟨b,rfl,hb⟩:=hr
 exact hk p b hb hp
end
structure Rows (h h':Heap):Prop where
 size:h.size<=h'.size
 get:∀ B row u ro,h.get B=some (.row row u ro)->h'.get B=some (.row row u ro)
theorem Rows.kill (g:Rows h h') (hA:A < h.size):Rows (h.set A .dead) (h'.set A .dead):=⟨g.size,λB row u ro hb=>by
 rw [Heap.aG _ _ _ _ hA] at hb
 rw [Heap.aG _ _ _ _ (dr hA g.size)]
 split
 .rename_i e
  rw [aD e] at hb
  cases hb
 .rename_i e
  rw [az e] at hb
  exact g.get B row u ro hb⟩
theorem b9.Cy {kv:List (ae × Int)} (m:b9 h A kv):∀ row u ro,h.get A≠some (.row row u ro):=by
 obtain ⟨es,cl,m1,m2⟩:=m
 intro row u ro
 rw [m1.get]
 intro e
 cases e
theorem Ow.eV {Z:Type} {r:aC Z} {h0:Heap} {e:TypeId} {B:Nat} {v:ai} {l:List Z} (ef:∀ h h' cs x,r.R h cs x->r.R h' cs x) (aM:l≠[]) (f:Ow r h0 h e A v l) (c:ff B h h') (hB:B≠A):Ow r h0 h' e A v l:=by
 rcases f with ⟨f1,f2,f3⟩|⟨row,e1,e2,e3,e4,e5,e6,e7,e8⟩
 .exact absurd f2 aM
 .refine .inr ⟨row,e1,e2,e3,dr e4 c.size,(c.get A e4 (λx=>hB x.symm)).trans e5,e6,e7,λi x hx=>?_⟩
  obtain ⟨cs,g1,g2⟩:=e8 i x hx
  exact ⟨cs,g1,ef _ _ _ _ g2⟩
theorem Ow.lay {Z:Type} {r:aC Z} {h0 h:Heap} {e:TypeId} {A:Nat} {v:ai} {l:List Z} (f:Ow r h0 h e A v l) (bs:List aZ) (w:Nat):Ow r h0 (h.lay bs w) e A v l:=f.mono (bN.lay h bs w)
theorem pD.inc (x:pD h h'):bN h h':=⟨x.1,λA hA _=>x.2 A hA⟩
theorem pD.over {h1:Heap} {bs:List aZ} {w:Nat} (g:pD h h1) (x:Ext (h1.lay bs w) h2):pD h h2:=by
 have hs:=x.size
 rw [bh] at hs
 have hg:=g.1
 exact ⟨by omega,λA hA=>by rw [x.get A (by rw [bh];omega),sU _ _ _ (by omega)];exact g.2 A hA⟩
theorem pD.br {h1:Heap} {C:Nat} {bs:List aZ} {w:Nat} (g:pD h h1) (c:ff C (h1.lay bs w) h2) (hC:h.size<=C):pD h h2:=by
 have hs:=c.size
 rw [bh] at hs
 have hg:=g.1
 exact ⟨by omega,λA hA=>by rw [c.get A (by rw [bh];omega) (by omega),sU _ _ _ (by omega)];exact g.2 A hA⟩
theorem b9.cU {h1:Heap} {kv:List (ae × Int)} (m:b9 h1 A kv) (x:pD h1 h2):b9 h2 A kv:=by
 obtain ⟨es,cl,m1,m2⟩:=m
 exact ⟨es,cl,⟨dr m1.lt x.1,(x.2 A m1.lt).trans m1.get⟩,m2⟩
theorem b9.lt {h:Heap} {A:Nat} {kv:List (ae × Int)} (m:b9 h A kv):A < h.size:=by
 obtain ⟨es,cl,m1,m2⟩:=m
 exact m1.lt
theorem b9.br {h1 h2:Heap} {A B:Nat} {kv:List (ae × Int)} {bs:List aZ} {w:Nat} (m:b9 h1 A kv) (c:ff B (h1.lay bs w) h2) (hB:A≠B):b9 h2 A kv:=by
 obtain ⟨es,cl,m1,m2⟩:=m
 exact ⟨es,cl,m1.br c hB,m2⟩
end Go.Am
namespace Go.Am
def ei (c:ak):ak:=⟨fN c.head,c.body.map fN⟩
theorem bN.bV {A:Nat} {h0 h1 h2:Heap} {bs:List aZ} {w:Nat} (f:bN h0 h1) (c:ff A (h1.lay bs w) h2) (hA:h0.size<=A):bN h0 h2:=(f.trans (bN.lay h1 bs w)).eV c hA
end Go.Am
namespace Go.Proofs.YtnkmeidmdaidhaaGreatDoor
open Go.Am Tryz
theorem QC (a:ae) (u:ai):(a.cells++[u]).length=12:=rfl
theorem Nu {a:ae} {w:ai} (h:Am.one w=true):(a.cells++[w]).all Am.one=true:=by
 rw [Dn,HF]
 simp [h]
theorem YQ (a:ae) (u:ai):cut (a.cells++[u]) 0 11=some a.cells:=rfl
theorem zyH (a:ae) (u:ai):cut (a.cells++[u]) 0 12=some (a.cells++[u]):=rfl
theorem Nf (a:ae) (u:ai):(a.cells++[u])[11]? = some u:=rfl
theorem zAY (a:ae):lL aH 35 [(0,a.val)]=some (.agg ⟨a.cells++[.slice none 0 0]⟩):=by kernel_rfl
theorem zyR (a:ae) (v z0 g1 z2 z3 z4 z5 z6 z7 z8 z9 xG My:ai):pA (λi=>some (i*12,12)) [z0,g1,z2,z3,z4,z5,z6,z7,z8,z9,xG,My] [(0,Value.agg (a.cells++[v]).toArray)]=some (a.cells++[v]):=rfl
theorem zEi:td aH 22 22=true:=by kernel_rfl
theorem zuK (l:List ak) (v:ai) (h:Heap) (hl:Sl aC.clause h v l) (hn:l.length<=1000) (nT:∀ c∈l,c.body.length<=1000/\c.head.bW=true/\∀ b∈c.body,b.bW=true) (K:aJ)
 (hk:∀ w A h',Ext h h'->Ow aC.clause h h' 35 A w (l.map ei)->K w h'):Ok prog aH ov 26 [v] h K:=by
 rw [aw h]
 have z:=Ext.refl h
 have dQ:=λ(hh:Heap)=>hl.bQ fB hh
 refine Ok.aA 39 (bH ZH) ?_
 simp only [aa,seval,pE,dQ]
 obtain ⟨I1,aX⟩:∃ I:Nat->Env->Heap->Prop,I=(λn e h'=>∃ (i:Nat) (wv:ai) (A:Nat) (h1:Heap),h'=h1.lay [] h1.low/\Ext h h1/\(n=l.length - i/\i<=l.length/\Ow aC.clause h h1 35 A wv ((l.take i).map ei))/\∃ J:Nat->ai,e=(jr J 0 3 (wv::jr J 4 5 (v::.int .i64 l.length::.int .i64 i::jr J 12 28 ([]))))):=⟨_,rfl⟩
 refine dN I1 _ (by rw [aX];exact ⟨0,.slice none 0 0,h.size,_,rfl,z,⟨rfl,by omega,Ow.nil (aR _)⟩,bo⟩) ?_
 intro n e h' aP
 rw [aX] at aP
 obtain ⟨i,wv,A,bU,rfl,z,hinv,J,rfl⟩:=aP
 obtain ⟨rfl,hi,ho⟩:=hinv
 have hw:=eE i (by omega)
 have hz:=z.size
 simp only [aa,seval,pE]
 refine bS (λaT=>?_) (λaT=>?_)
 rotate_left
 .rw [gb (by omega)] at ho
  repeat' (simp only [aa,seval,pE])
  exact hk _ _ _ z.av (ho.mono (bN.lay _ _ _))
 obtain ⟨r,hr,cw⟩:=gC (l:=l) (i:=i) (by omega)
 obtain ⟨hrb,Cr,iu⟩:=nT r (en cw)
 have g1:=bN.refl bU
 have Vc:=ho
 have DV:=ho.lt
 repeat' (first|simp only [aa,seval,pE]|with_reducible refine Db (hl.mono z.inc) fB iE (by omega) hr (λp bd gz hp=>?_)|with_reducible refine G5 hp rz iE ?_)
 have aB:=Nu (a:=r.head) gz.one
 have ph:∀ (h:Heap) (K:aJ),aK (some bd) h K=K bd h:=λ_ _=>rfl
 repeat' (simp only [aa,seval,pE,iy,im,gd,rV,QC,aB,↓YQ,dU,dq])
 refine zpc r.head Cr _ _ (λh' x=>?_)
 have qc:=Holds.top (i:=0) x rfl
 (replace z:=z.ao x;replace g1:=g1.over x;rw [aw h'])
 clear hp ho
 have we:=Nu (a:=fN r.head) (w:=.slice none 0 0) rfl
 have Ae:=λ(hh:Heap)=>gz.bQ bZ hh
 have sS:=z.size
 have E0:=g1.size
 obtain ⟨AD,TO⟩:∃ A,A=h'.size+0:=⟨_,rfl⟩
 have ajC:bU.size<=AD:=by omega
 repeat' (simp only [aa,seval,pE,zAY,QC,we,iy,im,gd,rV,qc.lay,Nf,ph,Ae])
 clear qc
 refine uB (λh' x hq=>?_)
 have qd:=hq 0 _ rfl
 clear hq
 (replace z:=z.ao x;replace g1:=g1.over x;rw [aw h'])
 rw [<- TO] at qd
 rw [<- TO]
 clear TO
 have sS:=z.size
 have E0:=g1.size
 obtain ⟨I2,eu⟩:∃ I:Nat->Env->Heap->Prop,I=(λn e h'=>∃ (j:Nat) (wb:ai) (B:Nat) (h1:Heap),h'=h1.lay [] h1.low/\Ext h h1/\(n=r.body.length - j/\j<=r.body.length/\bN bU h1/\Ow aC.atom bU h1 28 B wb ((r.body.take j).map fN)/\B≠AD/\Holds h1 AD (.row ((fN r.head).cells++[wb]) 35 false))/\∃ J:Nat->ai,e=(jr J 0 3 (wv::jr J 4 2 (.pointer (some ⟨AD,0,none⟩)::jr J 7 2 (v::.int .i64 l.length::.int .i64 i::jr J 12 8 (bd::.int .i64 r.body.length::.int .i64 j::jr J 23 17 ([]))))))):=⟨_,rfl⟩
 refine dN I2 _ (by rw [eu];exact ⟨0,.slice none 0 0,AD+1,_,rfl,z,⟨rfl,by omega,g1,Ow.nil (by omega),by omega,qd⟩,bo⟩) ?_
 intro n e h' aP
 rw [eu] at aP
 obtain ⟨j,wb,B,dc,rfl,z,hinv,J,rfl⟩:=aP
 clear qd g1 sS E0
 obtain ⟨rfl,hj,g1,ob,hBD,qd⟩:=hinv
 have pK:=eE j (by omega)
 have hvx:∀ (h:Heap) (K:aJ),aK (some wb) h K=K wb h:=λ_ _=>rfl
 have sS:=z.size
 have E0:=g1.size
 have hqd:=qd.lt
 simp only [aa,seval,pE]
 refine bS (λey=>?_) (λey=>?_)
 rotate_left
 .rw [gb (by omega)] at ob
  simp only [aa,seval,pE,qd.lay,↓zyH,zyR]
  simp only [cm,seval,jF,zEi]
  have hle:(l.take i).length<=1000:=by rw [gR];omega
  obtain ⟨A',yx,fk⟩:∃ A',Ow aC.clause h dc 35 A' wv ((l.take i).map ei)/\(A' < bU.size\/A'=dc.size+1):=by
   rcases DV with hq|hq
   .exact ⟨A,Vc.mono g1,.inl hq⟩
   .rw [hq] at Vc
    refine ⟨dc.size+1,?_,.inr rfl⟩
    rw [hq]
    exact (Vc.mono g1).any _ (by omega)
  have hR:aC.clause.R (kill A' (dc.lay [aZ.row ((fN r.head).cells++[wb]) 35 false] dc.low)) ((fN r.head).cells++[wb]) (ei r) :=
   ⟨wb,rfl,(ob.mono (bN.lay _ _ _)).under (by decide) (λ_ _ _ _ h=>h) (by rw [bh];simp only [ek,db];omega)⟩
  refine te (i:=0) (cs:=((fN r.head).cells++[wb])) (x:=ei r) fB MQ rfl (by decide) (by rfl) z.size yx hR (by rw [gw];omega) (by rw [gw];omega) (λw3 h3 A3 jS eU jM=>?_)
  have wz:=yx.fresh
  replace z:=z.av.step eU (by omega)
  rw [aw h3]
  have pg:(l.take i).map ei++[ei r]=(l.take (i+1)).map ei:=by rw [lr,cw,sf];rfl
  rw [pg] at jS
  repeat' (simp only [aa,seval,pE])
  rw [hw]
  (rw [aX];with_reducible refine cF (m:=_) ?_ ⟨i+1,w3,A3,_,rfl,z,⟨rfl,by omega,jS⟩,bo⟩;omega)
 obtain ⟨b,hb,lU⟩:=gC (l:=r.body) (i:=j) ey
 have ke:=iu b (en lU)
 repeat' (first|simp only [aa,seval,pE]|with_reducible refine r9 (gz.mono g1) bZ ck (by omega) hb (λp hp=>?_)|with_reducible refine qV hp iQ ck ?_)
 repeat' (simp only [aa,seval,pE,iy,im,gd,lI,gV,FP,FN,HF])
 with_reducible first|refine ez (by simp only [pE]) z.av ?_
 simp only [aa,seval,pE,qd.lay,Nf,hvx,↓fe,dU,dq]
 refine zpc b ke _ _ (λh' x=>?_)
 (((with_reducible refine ix ?_ ?_ ?_);(· exact (by (simp only [iY]);have:=z.size;omega));(· exact x));replace z:=z.ao x;replace g1:=g1.over x;replace ob:=ob.over x;replace qd:=qd.over x;rw [aw h'])
 clear hp
 simp only [aa,seval,pE,gV,FP,FN]
 have tV:(r.body.take j).length<=1000:=by rw [gR];omega
 refine ni (by have:=z.size;omega) (by omega) ?_
 simp only [cm,seval,pE,jF,Q5]
 refine te (i:=0) (cs:=(fN b).cells) (x:=fN b) bZ sV rfl (by decide) (by rfl) g1.size ob rfl (by rw [gw];omega) (by rw [gw];omega) (λw3 h3 A3 jS eU jM=>?_)
 have hfB:=ob.fresh
 have ER:=z.size
 have xa:=g1.size
 refine iL (A:=B) (by kernel_rfl) (by have:=z.size;rw [bh];omega) (by omega) (by simpa only [bY,bh,bC,ek,db,gx] using eU) ?_
 have ak6:=qd.lt
 replace qd:=qd.br eU (Ne.symm hBD)
 replace z:=z.bV eU (by omega) (by omega)
 replace g1:=g1.bV eU hfB
 rw [aw h3]
 simp only [aa,seval,pE]
 obtain ⟨a3,m3,tC,rfl⟩:=jS.slice
 refine j4 (n:=1) (o:=11) (vs:=[.slice a3 m3 tC]) qd (by kernel_rfl) rfl rfl (by rw [QC];decide) rfl (λh4 q4 lC=>?_)
 refine iL (A:=AD) (by kernel_rfl) (by have:=z.size;rw [bh];omega) (by omega) lC ?_
 have AU:=Ow.eV (λ_ _ _ _ h=>h) (by simp) (jS.mono (bN.lay h3 [] (h3.size+0))) lC (by rcases jM with e|e <;> omega)
 have aln:=z.size
 have alo:=g1.size
 replace z:=z.bV lC (by omega) (by omega)
 replace g1:=g1.bV lC (by omega)
 clear ob jS qd
 have q4:Holds h4 AD (.row ((fN r.head).cells++[.slice a3 m3 tC]) 35 false):=q4
 have pg:(r.body.take j).map fN++[fN b]=(r.body.take (j+1)).map fN:=by rw [lr,lU,sf];rfl
 rw [pg] at AU
 rw [aw h4]
 simp only [cm,seval,pE]
 ((with_reducible refine ⟨z.cU.lay _ _,?_⟩);(intro _ h' zz x _);(simp only [bY,bC] at x);replace g1:=g1.over x;replace q4:=q4.over x;replace AU:=AU.over x;(replace z:=zz);(clear zz);rw [aw h'])
 simp only [aa,seval,pE]
 rw [pK]
 (rw [eu];with_reducible refine cF (m:=_) ?_ ⟨j+1,_,A3,_,rfl,z,⟨rfl,by omega,g1,AU,by rcases jM with e|e <;> omega,q4⟩,bo⟩;omega)
def ZJ:=bI f28
def x28:=PLift.up (by have c:=bM ZJ f28;simp only [aO,f28,seval] at c;exact nd c <| @Si)
theorem c28:type_of% x28.down:=x28.down
def N69:=bI f69
def x69:=PLift.up (by have c:=bM N69 f69;simp only [aO,f69,seval] at c;exact nd c <| nd @Zq <| nd @Wb <| nd @zEc <| nd @Fg <| nd @Fh <| @SX)
theorem c69:type_of% x69.down:=x69.down
def Z2:=bI f56
def x56:=PLift.up (by have c:=bM Z2 f56;simp only [aO,f56,seval] at c;exact nd c <| nd @RD <| nd @YU <| nd @zAq <| nd @zCP <| nd @Zq <| nd @cq <| nd @Ff <| nd @Fg <| nd @Fh <| @SJ)
theorem pY:type_of% x56.down:=x56.down
def Z3:=bI f57
def x57:=PLift.up (by have c:=bM Z3 f57;simp only [aO,f57,seval] at c;exact nd c <| nd @kH <| nd @YU <| nd @cq <| @SK)
theorem RN:type_of% x57.down:=x57.down
def ZN:=bI f33
def x33:=PLift.up (by have c:=bM ZN f33;simp only [aO,f33,seval] at c;exact nd c <| nd @zws <| nd @iX <| @Sq)
theorem RH:type_of% x33.down:=x33.down
def ZO:=bI f34
def x34:=PLift.up (by have c:=bM ZO f34;simp only [aO,f34,seval] at c;exact nd c <| nd @Zq <| nd @Fg <| nd @Fh <| @Sr)
theorem c34:type_of% x34.down:=x34.down
def N90:=bI f90
def x90:=PLift.up (by have c:=bM N90 f90;simp only [aO,f90,seval] at c;exact nd c <| nd @rB <| nd @YU <| nd @zws <| nd @zBo <| nd @zCQ <| nd @iX <| nd @cq <| nd @ng <| nd @Ff <| nd @ij <| @Tl)
theorem kL:type_of% x90.down:=x90.down
def N91:=bI f91
def x91:=PLift.up (by have c:=bM N91 f91;simp only [aO,f91,seval] at c;exact nd c <| nd @zwt <| nd @xo <| @Tm)
theorem RR:type_of% x91.down:=x91.down
def N66:=bI f66
def x66:=PLift.up (by have c:=bM N66 f66;simp only [aO,f66,seval] at c;exact nd c <| nd @Dy <| nd @zwt <| nd @xo <| @SU)
theorem GB:type_of% x66.down:=x66.down
def N89:=bI f89
def x89:=PLift.up (by have c:=bM N89 f89;simp only [aO,f89,seval] at c;exact nd c <| nd @zAq <| nd @cq <| nd @Ff <| @Tk)
theorem BQ:type_of% x89.down:=x89.down
def IH:=bI f121
def L6:=PLift.up (by have c:=bM IH f121;simp only [aO,f121,seval] at c;exact nd c <| nd @Dy <| @zDN)
theorem zw:type_of% L6.down:=L6.down
def N96:=bI f96
def x96:=PLift.up (by have c:=bM N96 f96;simp only [aO,f96,seval] at c;exact nd c <| @Ts)
theorem RS:type_of% x96.down:=x96.down
def IJ:=bI f123
def A6:=PLift.up (by have c:=bM IJ f123;simp only [aO,f123,seval] at c;exact nd c <| nd @Ld <| nd @ng <| nd @Li <| @zDP)
theorem zx:type_of% A6.down:=A6.down
def ZM:=bI f31
def x31:=PLift.up (by have c:=bM ZM f31;simp only [aO,f31,seval] at c;exact nd c <| nd @zCM <| nd @QP <| nd @ng <| @Sn)
theorem DG:type_of% x31.down:=x31.down
def Z7:=bI f61
def x61:=PLift.up (by have c:=bM Z7 f61;simp only [aO,f61,seval] at c;exact nd c <| nd @RC <| nd @Dy <| nd @QP <| nd @zAm <| nd @Zp <| nd @ng <| nd @Lf <| nd @xo <| nd @Wi <| nd @SO <| @Tz)
theorem yi:type_of% x61.down:=x61.down
def Z5:=bI f59
def x59:=PLift.up (by have c:=bM Z5 f59;simp only [aO,f59,seval] at c;exact nd c <| nd @zCs <| nd @RB <| nd @QP <| nd @QQ <| nd @Zp <| nd @zAn <| nd @zCN <| nd @zAo <| nd @cq <| nd @ng <| nd @AL <| nd @AM <| nd @We <| nd @xo <| nd @Fe <| nd @SM <| @Ty)
theorem fQ:type_of% x59.down:=x59.down
def N64:=bI f64
def x64:=PLift.up (by have c:=bM N64 f64;simp only [aO,f64,seval] at c;exact nd c <| nd @zwr <| nd @Bu <| nd @kp <| @SR)
theorem c64:type_of% x64.down:=x64.down
end Go.Proofs.YtnkmeidmdaidhaaGreatDoor

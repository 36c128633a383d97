/- Frames beside blocks that another thing turns. No condition. -/
import Derived.Test.YtiapegieocgmfaaGreatDoorG33
import Derived.Test.YtiapegieocgmfaaGreatDoorG35
set_option linter.unusedSimpArgs false
set_option linter.unusedVariables false
set_option maxRecDepth 100000
set_option maxHeartbeats 0
namespace Go.Am
theorem SM:∀ (D X:List Nat) (h:Heap),aG (D++X) h=aG D (aG X h)
 | [],_,_=>rfl
 |A::D,X,h=>by
  show kill A (aG (D++X) h)=kill A (aG D (aG X h))
  rw [SM D X h]
section
variable {D E X:List Nat} {a b h:Heap} {B:Nat} {k:ba}
theorem aL.kill (f:aL D a b) (X:List Nat):aL D (aG X a) (aG X b):=by
 refine ⟨by rw [iC,iC];exact f.size,λB hB hn=>?_⟩
 rw [iC] at hB
 by_cases hx:B∈X
 .rw [Ar hx hB,Ar hx (dB hB f.size)]
 .rw [oS hx,oS hx]
  exact f.get B hB hn
theorem aL.dead (X:List Nat) (h:Heap):aL X h (aG X h):=⟨by rw [iC];exact bj _,λB _ hn=>oS hn⟩
theorem aL.iR (X:List Nat) (h:Heap):aL X (aG X h) h:=⟨by rw [iC];exact bj _,λB _ hn=>(oS hn).symm⟩
theorem Holds.alive (q:Holds (aG X h) B k) (hk:k≠.dead):B ∉ X:=λhx=>by
 have h1:=q.lt
 rw [iC] at h1
 have h2:=q.get
 rw [Ar hx h1] at h2
 cases h2
 exact hk rfl
theorem Holds.kg (q:Holds h B k) (hB:B ∉ X):Holds (aG X h) B k:=q.bN (aL.dead X h) hB
theorem zC2 (E X:List Nat) (h:Heap):bL (aG E (aG X h)) (aG E h):=by
 refine ⟨by rw [iC,iC,iC];exact bj _,λB hB hd=>?_⟩
 rw [iC,iC] at hB
 have hE:B ∉ E:=λhh=>hd (Ar hh (by rw [iC];exact hB))
 have hX:B ∉ X:=λhh=>hd (by rw [oS hE];exact Ar hh hB)
 rw [oS hE,oS hE,oS hX]
end
end Go.Am
namespace Go.Proofs.YtiapegieocgmfaaGreatDoor
open Go.Am Tryz
def HI (T0:Nat) (v0 v1:ab) (q:Int) (NM:Nat):List ab:=[.pointer (some ⟨T0,0,none⟩),v0,v1,.slice none 0 0,.int .i64 q,.int .i64 0,.slice none 0 0,.slice none 0 0,.map (some NM)]
def nV (N b:Nat) (h:Heap) (S0:Nat) (E:List Nat) (d:aq) (q:Int) (facts:au->aS) (aI:au->Nat) (us:au->Nat):Prop :=
 ∃ T0 D NM v0 v1 nv,E=NM::D/\Holds h S0 (.row (HI T0 v0 v1 q NM) 81 false)/\dY N b h D T0 us/\dq h NM nv/\Sl aM.str (aG E h) v0 d.ah/\Sl aM.pred (aG E h) v1 d.bZ /\
   (∀ who,dE nv who=none->facts who=[]/\aI who=0)/\(∀ who x,dE nv who=some x->∃ s,x=.agg #[s,.int .u64 (aI who:Int)]/\Sl aM.atom (aG E h) s (facts who))/\S0 ∉ E/\NM ∉ D/\N<=S0/\N<=NM
def eC (X:List Nat) (N b:Nat) (h:Heap) (S0:Nat) (E:List Nat) (d:aq) (q:Int) (facts:au->aS) (aI:au->Nat) (us:au->Nat):Prop:=nV N b (aG X h) S0 E d q facts aI us/\(∀ B∈E,B ∉ X)/\∀ B∈X,B < h.size
theorem zCh (A:Nat):qp aD 78 [(0,.pointer (some ⟨A,0,none⟩))]=some (.agg #[.pointer (some ⟨A,0,none⟩)]):=by kernel_rfl
theorem zCg (A M:Nat) (a0 a1) (n0 n1 c0 c1:Nat) (q:Int):qp aD 81 [(0,.agg #[.pointer (some ⟨A,0,none⟩)]),(1,fI (.slice a0 n0 c0) (.slice a1 n1 c1) (.slice none 0 0) (.slice none 0 0) (.slice none 0 0) q 0),(2,.map (some M))]=some (.agg ⟨HI A (.slice a0 n0 c0) (.slice a1 n1 c1) q M⟩):=by kernel_rfl
theorem rG {Z:Type} {r:aM Z} {h:Heap} {v:ab} {l:List Z} (f:Sl r h v l):∃ a n c,v=.slice a n c:=by
 rcases f with ⟨rfl,_⟩|⟨A,o,c,row,u,ro,rfl,_⟩ <;> exact ⟨_,_,_,rfl⟩
theorem zyX (N:Nat) (d:aq) (v0 v1:ab) (q:Int) (h:Heap) (G0:Nat) (hN:N<=h.size) (hG:N<=G0/\G0 < h.size) (X:List Nat) (hX:∀ B∈X,B < N) (s0:Sl aM.str (aG [G0] (aG X h)) v0 d.ah) (s1:Sl aM.pred (aG [G0] (aG X h)) v1 d.bZ) (K:aF)
 (hk:∀ h' S0 E,Ext h h'->eC X N 0 h' S0 E d q (λ_=>[]) (λ_=>0) (λ_=>0)->K (.pointer (some ⟨S0,0,none⟩)) h'):Ok prog aD ov 26 [fI v0 v1 (.slice none 0 0) (.slice none 0 0) (.slice none 0 0) q 0] h K:=by
 have Ac:=rG s0
 have sV:=rG s1
 obtain ⟨a0,n0,c0,rfl⟩:=Ac
 obtain ⟨a1,n1,c1,rfl⟩:=sV
 rw [ao h]
 have z:=Ext.refl h
 refine Ok.aw 8 (bq Us) ?_
 simp only [aa,seval,tS,gZ]
 with_reducible first|refine dL (by simp only [tS]) z.aA ?_
 simp only [aa,seval,tS,gZ]
 refine zBp N _ h.size G0 ⟨hN,by rw [bc];simp⟩ ⟨hG.1,by rw [bc];omega⟩ (by omega) _ (λh' T0 FM x st hT hF=>?_)
 have q0:=Holds.top (i:=0) x rfl
 rw [bc] at hT hF
 simp only [dn,dN] at hT hF
 (((with_reducible refine cU ?_ ?_ ?_);(· exact (by (simp only [ck]);have:=z.size;omega));(· exact x));replace z:=z.an x;rw [ao h'])
 simp only [aa,seval,tS,q0.lay,gZ,↓fA,eV,eI,zCh,j6,Hv]
 have hz:=z.size
 refine w8 (by omega) (by omega) ?_
 simp only [aa,seval,tS,zCg,j6]
 refine zhL (by simp) (by omega) (by simp) ?_
 simp only [aa,seval,tS]
 ((with_reducible refine ⟨z.cn.lay _ _,?_⟩);(intro _ h4 zz x _);(simp only [bM,bu] at x))
 have fr:aL [] h' h4:=(aL.refl [] h').over x
 have qm:=Holds.top (i:=0) x rfl
 have qs:=Holds.top (i:=1) x rfl
 have mD:=st.hi
 replace st:=st.over x
 clear z
 have z:=zz
 rw [ao h4]
 simp only [aa,seval,tS,cd]
 have Xz:=fr.size
 have cW:aL [G0] h h4:=z.bN [G0]
 have hE:∀ B∈[h'.size+0,T0,h.size,G0,FM],B∈[G0]\/h.size<=B:=by
  intro B hB
  simp only [dh,tL,or_false] at hB ⊢
  omega
 have hS:h'.size+1 ∉ [h'.size+0,T0,h.size,G0,FM]:=by
  simp only [dh,tL,or_false]
  omega
 have FJ:h'.size+0 ∉ [T0,h.size,G0,FM]:=by
  simp only [dh,tL,or_false]
  omega
 have hI:=((cW.trans (aL.lay h4 [] h4.low []) (λ_ h=>nomatch h)).kill X).inc (D':=[h'.size+0,T0,h.size,G0,FM]) (λB hB=>by rw [iC];exact hE B hB)
 have dt:∀ B∈[h'.size+0,T0,h.size,G0,FM],N<=B:=by
  intro B hB
  simp only [dh,tL,or_false] at hB
  omega
 have jV:∀ B∈[h'.size+0,T0,h.size,G0,FM],B ∉ X:=λB hB hx=>by
  have h1:=dt B hB
  have h2:=hX B hx
  omega
 have Br:h'.size+1 ∉ X:=λhx=>by
  have h2:=hX _ hx
  omega
 have oK:=z.size
 exact hk _ (h'.size+1) [h'.size+0,T0,h.size,G0,FM] z.aA ⟨⟨T0,[T0,h.size,G0,FM],h'.size+0,_,_,[],rfl,(qs.on _ _).kg Br,dY.bN (D:=[T0,h.size,G0,FM]) ⟨h.size,G0,FM,[],[],[],rfl,st.lay _ _,db.empty,bj 0,bj 0⟩ (aL.dead X _) (λB hB=>jV B (fB _ hB)),(dq.new (qm.on _ _)).hold (λ_ q=>q.kg (jV _ (by simp))),s0.mono hI,s1.mono hI,λ_ _=>⟨rfl,rfl⟩,λwho x hx=>by simp [dE] at hx,hS,FJ,by omega,by omega⟩,jV,λB hB=>by have:=hX B hB;rw [bc];omega⟩
theorem nV.bN {N b:Nat} {h h2:Heap} {S0:Nat} {E:List Nat} {d:aq} {q:Int} {facts:au->aS} {aI us:au->Nat} (s:nV N b h S0 E d q facts aI us) (f:aL [] h h2):nV N b h2 S0 E d q facts aI us:=by
 obtain ⟨T0,D,NM,v0,v1,nv,rfl,g1,g2,g3,g4,g5,g6,g7,g8⟩:=s
 have hi:bL (aG (NM::D) h) (aG (NM::D) h2):=(f.mono (D':=NM::D) (λ_ h=>nomatch h)).inc (λB hB=>.inl hB)
 exact ⟨T0,D,NM,v0,v1,nv,rfl,g1.bN f (by simp),g2.bN f (λB hB=>by simp),g3.hold (λb q=>q.bN f (by simp)),g4.mono hi,g5.mono hi,g6,λwho x hx=>(g7 who x hx).imp λs hs=>⟨hs.1,hs.2.mono hi⟩,g8⟩
theorem nV.lay {N b:Nat} {h:Heap} {S0:Nat} {E:List Nat} {d:aq} {q:Int} {facts:au->aS} {aI us:au->Nat} (s:nV N b h S0 E d q facts aI us) (bs:List ba) (w:Nat):nV N b (h.lay bs w) S0 E d q facts aI us:=s.bN (aL.lay _ _ _ _)
theorem nV.over {N b:Nat} {h h2:Heap} {bs:List ba} {w:Nat} {S0:Nat} {E:List Nat} {d:aq} {q:Int} {facts:au->aS} {aI us:au->Nat} (s:nV N b h S0 E d q facts aI us) (x:Ext (h.lay bs w) h2):nV N b h2 S0 E d q facts aI us:=s.bN ((aL.refl [] h).over x)
section
variable {X:List Nat} {N b:Nat} {h h2:Heap} {S0:Nat} {E:List Nat} {d:aq} {q:Int} {facts:au->aS} {aI us:au->Nat}
theorem eC.bN (s:eC X N b h S0 E d q facts aI us) (f:aL [] h h2):eC X N b h2 S0 E d q facts aI us:=⟨s.1.bN (f.kill X),s.2.1,λB hB=>dB (s.2.2 B hB) f.size⟩
theorem eC.lay (s:eC X N b h S0 E d q facts aI us) (bs:List ba) (w:Nat):eC X N b (h.lay bs w) S0 E d q facts aI us:=s.bN (aL.lay _ _ _ _)
theorem eC.over {bs:List ba} {w:Nat} (s:eC X N b h S0 E d q facts aI us) (x:Ext (h.lay bs w) h2):eC X N b h2 S0 E d q facts aI us:=s.bN ((aL.refl [] h).over x)
theorem eC.un (s:eC X N b h S0 E d q facts aI us):nV N b h S0 E d q facts aI us:=by
 obtain ⟨⟨T0,D,NM,v0,v1,nv,rfl,g1,g2,g3,g4,g5,g6,g7,g8⟩,jV,hX⟩:=s
 have u:=aL.iR X h
 have hi:=zC2 (NM::D) X h
 exact ⟨T0,D,NM,v0,v1,nv,rfl,g1.bN u (g1.alive (by simp)),g2.bN u (λB hB=>jV B (fB _ hB)),g3.hold (λb q=>q.bN u (jV _ (by simp))),g4.mono hi,g5.mono hi,g6,λwho x hx=>(g7 who x hx).imp λs hs=>⟨hs.1,hs.2.mono hi⟩,g8⟩
theorem eC.lt (s:eC X N b h S0 E d q facts aI us):S0 < h.size/\∀ B∈E,N<=B/\B < h.size:=by
 obtain ⟨T0,D,NM,v0,v1,nv,rfl,g1,g2,g3,g4,g5,g6,g7,g8,g9,g10,g11⟩:=s.un
 refine ⟨g1.lt,λB hB=>?_⟩
 rcases dh.1 hB with rfl|hB
 .exact ⟨g11,g3.lt⟩
 .exact g2.lo B hB
theorem eC.by (s:eC X N b h S0 E d q facts aI us) (f:aL X h h2):eC [] N b h2 S0 E d q facts aI us:=by
 obtain ⟨⟨T0,D,NM,v0,v1,nv,rfl,g1,g2,g3,g4,g5,g6,g7,g8⟩,jV,hX⟩:=s
 have u:aL X (aG X h) h2:=(aL.iR X h).trans f (λB hB=>.inl hB)
 have hi:bL (aG (NM::D) (aG X h)) (aG (NM::D) h2):=by
  rw [<- SM]
  exact (aL.mono f (D':=(NM::D)++X) (λB hB=>TL _ hB)).inc (λB hB=>.inl (List.mem_append_left _ hB))
 exact ⟨⟨T0,D,NM,v0,v1,nv,rfl,g1.bN u (g1.alive (by simp)),g2.bN u (λB hB=>jV B (fB _ hB)),g3.hold (λb q=>q.bN u (jV _ (by simp))),g4.mono hi,g5.mono hi,g6,λwho x hx=>(g7 who x hx).imp λs hs=>⟨hs.1,hs.2.mono hi⟩,g8⟩,λ_ _=>by simp,λ_ h=>by simp at h⟩
end
theorem zBq (d:aq) (p0 p1 p2 p5 p6:ab) (q b:Int) (h:Heap) (cG:bd 1 h) (bf:(du p0 p1 p2 p5 p6 q b).all Am.one=true) (hd:dR h p0 p1 p2 p5 p6 d) (hq:d.i6=q) (hb:d.fE=b) (hn:AX d) (oF:d.ah.length<=100000) (IG:d.bZ.length<=100000) (X:List Nat) (hX:∀ B∈X,B < h.size) (K:aF)
 (yv:zy d≠0->∀ h',Ext h h'->K (.tuple #[.pointer none,.int .i64 (zy d)]) h')
 (gz:zy d=0->∀ h' S0 E,Ext h h'->eC X h.size 0 h' S0 E d q (λ_=>[]) (λ_=>0) (λ_=>0)->K (.tuple #[.pointer (some ⟨S0,0,none⟩),.int .i64 0]) h'):Ok prog aD ov 22 [fI p0 p1 p2 p5 p6 q b] h K:=by
 rw [ao h]
 have z:=Ext.refl h
 refine Ok.aw 12 (bq N22) ?_
 simp only [aa,seval,Ii,gZ,↓fA,eV,eI]
 refine zwE d p0 p1 p2 p5 p6 q b _ (cG.lay _ _) bf (hd.lay _ _) hq hb hn _ (λh' x=>?_)
 have q0:=Holds.top (i:=0) x rfl
 (replace z:=z.an x;replace hd:=hd.over x;rw [ao h'])
 simp only [aa,seval,Ii,bO]
 refine gg (λaQ=>?_) (λheq=>?_)
 .simp only [aa,seval,Ii,bO]
  exact yv aQ _ z.aA
 simp only [aa,seval,Ii,q0.lay,gZ,↓fA,eV,eI]
 have hq0:=q0.lt
 refine zwT d p0 p1 p2 p5 p6 q b _ bf (hd.lay _ _).s0 (hd.lay _ _).s1 oF IG _ (λh' v0 v1 A0 A1 x o0 o1=>?_)
 have Dd:∀ B∈h.size::X,B < h.size+1:=λB hB=>by
  rcases dh.1 hB with rfl|hB
  .omega
  .have:=hX B hB;omega
 have s0:=(o0.lay [] h'.low).aG (D:=h.size::X) (λ_ _ _ _ q=>q) (by decide) (λB hB=>by have:=Dd B hB;rw [bc];simp only [dn,dN];omega)
 have s1:=(o1.lay [] h'.low).aG (D:=h.size::X) (λ_ _ _ _ q=>q) (by decide) (λB hB=>by have:=Dd B hB;rw [bc];simp only [dn,dN];omega)
 (replace z:=z.an x;replace q0:=q0.over x;replace hd:=hd.over x;rw [ao h'])
 have hq1:=q0.lt
 simp only [aa,seval,Ii,eI]
 refine zyX h.size d v0 v1 q _ h.size (by rw [bc];omega) ⟨bj _,by rw [bc];omega⟩ X hX s0 s1 _ (λh' S0 E x dz=>?_)
 (replace z:=z.an x;replace q0:=q0.over x;replace hd:=hd.over x;rw [ao h'])
 simp only [aa,seval,Ii,cd,bO]
 exact gz heq _ S0 E z.aA (dz.lay _ _)
end Go.Proofs.YtiapegieocgmfaaGreatDoor
namespace Go.Am
variable {Z:Type} {w:au}
open Classical in
noncomputable def tJ (o:Z) (L:List au) (f:au->Z):au->Z:=λw=>if w∈L then f w else o
theorem zjP (o:Z) (f:au->Z):tJ o [] f=λ_=>o:=by funext w;simp [tJ]
theorem Ty {o:Z} {L:List au} {f:au->Z} (h:w∈L):tJ o L f w=f w:=aE h
theorem zjQ {o:Z} {L:List au} {f:au->Z} (h:w ∉ L):tJ o L f w=o:=az h
theorem zlJ (o:Z) (L:List au) (f:au->Z) (s:au):tJ o (s::L) f=λx=>if x=s then f s else tJ o L f x:=by
 funext w
 by_cases hw:w=s
 .rw [aE hw,Ty (by rw [hw];exact jm),hw]
 .rw [az hw]
  by_cases hl:w∈L
  .rw [Ty (fB _ hl),Ty hl]
  .rw [zjQ (λh=>(dh.1 h).elim hw hl),zjQ hl]
theorem zpr {o:Z} {L:List au} {f:au->Z} (h:∀ w,w ∉ L->f w=o):tJ o L f=f:=by
 funext w
 by_cases hl:w∈L
 .exact Ty hl
 .rw [zjQ hl,h w hl]
theorem zj1 {f:au->Nat}:∀ {L P:List au},L.Nodup->(∀ w∈L,f w≠0->w∈P)->(L.map f).sum<=(P.map f).sum
 | [],P,_,_=>by simp
 |w::L,P,hn,h=>by
  rw [tN] at hn
  rw [lD,CQ]
  by_cases hf:f w=0
  .rw [hf,jo]
   exact zj1 hn.2 λx hx=>h x (fB _ hx)
  .obtain ⟨P1,P2,rfl⟩:=List.append_of_mem (h w jm hf)
   have ih:=zj1 (P:=P1++P2) hn.2 λx hx YR=>by
    have h1:=h x (fB _ hx) YR
    rw [mj,dh] at h1
    rw [mj]
    rcases h1 with h1|h1|h1
    .exact .inl h1
    .exact absurd (by rw [<- h1];exact hx) hn.1
    .exact .inr h1
   rw [zL,List.sum_append] at ih
   rw [zL,List.sum_append,lD,CQ]
   omega
theorem zsX {f:au->Nat} {k:Nat} (h:∀ w,f w<=k):∀ P:List au,(P.map f).sum<=P.length*k
 | []=>by simp
 |w::P=>by
  have:=zsX h P
  have:=h w
  rw [lD,CQ,dn,qx]
  omega
theorem cZ.sum {d:aq} {k:Nat} {facts:au->aS} {aI us:au->Nat} (i:cZ d k facts aI us) {L:List au} (hL:L.Nodup):(L.map λw=>(facts w).length).sum<=d.ah.length*k :=
 gn (zj1 hL λw _ hw=>by
  cases hf:facts w with
  |nil=>rw [hf] at hw;exact absurd rfl hw
  |cons a r=>exact dw.1 (Cr (i.ok w a (by rw [hf];exact jm))).1) (zsX i.len _)
theorem zqT {Z β:Type} {f:Z->β}:∀ {l:List Z},(l.map f).Nodup->∀ x∈l,∀ y∈l,f x=f y->x=y
 |a::l,hn,x,hx,y,hy,e=>by
  rw [lD,tN] at hn
  rcases dh.1 hx with hx|hx
  .rcases dh.1 hy with hy|hy
   .rw [hx,hy]
   .exact absurd (by rw [<- hx,e];exact oY.2 ⟨y,hy,rfl⟩) hn.1
  .rcases dh.1 hy with hy|hy
   .exact absurd (by rw [<- hy,<- e];exact oY.2 ⟨x,hx,rfl⟩) hn.1
   .exact zqT hn.2 x hx y hy e
theorem zst:∀ {nv:List (au × ab)},(nv.map Prod.fst).Nodup->∀ p∈nv,dE nv p.1=some p.2
 |q::nv,hn,p,hp=>by
  rw [lD,tN] at hn
  rw [vW]
  rcases dh.1 hp with rfl|hp
  .exact aE rfl
  .rw [az (λe=>hn.1 (by rw [<- e];exact oY.2 ⟨p,hp,rfl⟩))]
   exact zst hn.2 p hp
theorem zsu:∀ {nv:List (au × ab)} {w:au} {v:ab},dE nv w=some v->(w,v)∈nv
 |q::nv,w,v,h=>by
  rw [vW] at h
  split at h
  .rename_i e
   cases h
   rw [e]
   exact jm
  .exact fB _ (zsu h)
structure CW (es:List MapEntry) (nv:List (au × ab)) (seen:List Nat) (L:List au):Prop where
 keys:es.map (λx:MapEntry=>(x.key,x.val))=nv.map (λp=>(Value.string p.1,p.2))
 one:(nv.map Prod.fst).Nodup
 born:(es.map (·.born)).Nodup
 nodup:L.Nodup
 iff:∀ y∈es,∀ w,y.key=.string w->(y.born∈seen↔w∈L)
section
variable {es:List MapEntry} {nv:List (au × ab)} {seen:List Nat} {L:List au}
theorem CW.start (h1:es.map (λx:MapEntry=>(x.key,x.val))=nv.map (λp=>(Value.string p.1,p.2))) (h2:(nv.map Prod.fst).Nodup) (h3:(es.map (·.born)).Nodup):CW es nv [] []:=⟨h1,h2,h3,List.nodup_nil,λy _ w _=>by simp⟩
theorem CW.step (v:CW es nv seen L) {y:MapEntry} (hy:y∈es) (hs:y.born ∉ seen):∃ w,y.key=.string w/\dE nv w=some y.val/\w ∉ L/\CW es nv (seen++[y.born]) (w::L):=by
 have hm:(y.key,y.val)∈nv.map (λp=>(Value.string p.1,p.2)):=by rw [<- v.keys];exact oY.2 ⟨y,hy,rfl⟩
 obtain ⟨p,hp,he⟩:=oY.1 hm
 simp only [cV] at he
 have gU:y.key=.string p.1:=he.1.symm
 have hk:(es.map (·.key)).Nodup:=by
  have e1:es.map (·.key)=(nv.map Prod.fst).map Value.string:=by
   have:=congrArg (List.map Prod.fst) v.keys
   rw [CR,CR] at this
   rw [CR]
   exact this
  rw [e1]
  exact List.Pairwise.map _ (λa b u9 e=>u9 (by injection e)) v.one
 refine ⟨p.1,gU,by rw [<- he.2];exact zst v.one p hp,λhl=>hs ((v.iff y hy _ gU).2 hl),v.keys,v.one,v.born,tN.2 ⟨λhl=>hs ((v.iff y hy _ gU).2 hl),v.nodup⟩,λy' Ak w hw=>?_⟩
 rw [mj,hU,dh,v.iff y' Ak w hw]
 constructor
 .rintro (h|h)
  .exact .inr h
  .have:=zqT v.born y' Ak y hy h
   subst this
   rw [gU] at hw
   exact .inl (by injection hw with hw;exact hw.symm)
 .rintro (h|h)
  .subst h
   exact .inr (by rw [zqT hk y' Ak y hy (hw.trans gU.symm)])
  .exact .inl h
theorem CW.all (v:CW es nv seen L) (h:∀ y∈es,y.born∈seen) {x:ab} (hl:dE nv w=some x):w∈L:=by
 have hm:(Value.string w,x)∈es.map (λx:MapEntry=>(x.key,x.val)):=by rw [v.keys];exact oY.2 ⟨(w,x),zsu hl,rfl⟩
 obtain ⟨y,hy,he⟩:=oY.1 hm
 simp only [cV] at he
 exact (v.iff y hy w he.1).1 (h y hy)
def Uf (es:List MapEntry) (seen:List Nat):Nat:=(es.filter λy => !seen.contains y.born).length
theorem zwp {y:MapEntry} (hy:y∈es) (hs:y.born ∉ seen):Uf es (seen++[y.born]) < Uf es seen :=
 filter_lt (λx:MapEntry => !seen.contains x.born) (λx => !(seen++[y.born]).contains x.born) (λx hx=>by
  simp only [Bool.not_eq_eq_eq_not,fQ,List.contains_eq_mem,decide_eq_false_iff_not,mj,hU,not_or] at hx ⊢
  exact hx.1) y (by simpa using hs) (by simp) es hy
end
end Go.Am
namespace Go.Proofs.YtiapegieocgmfaaGreatDoor
open Go.Am Tryz
def qR (X:List Nat) (N:Nat) (h:Heap) (C0:Nat) (d:aq) (q:Int):Prop:=∀ h2 FE,aL [] h h2->h.size<=FE->FE < h2.size->∃ E,eC X N 0 h2 C0 E d q (λ_=>[]) (λ_=>0) (λ_=>0)
theorem qR.bN {X:List Nat} {N:Nat} {h h2:Heap} {C0:Nat} {d:aq} {q:Int} (s:qR X N h C0 d q) (f:aL [] h h2):qR X N h2 C0 d q:=λh3 FE f3 h1 h4=>s h3 FE (f.trans f3 (λ_ h=>nomatch h)) (gn f.size h1) h4
theorem eC.zero {X:List Nat} {N b:Nat} {h:Heap} {S0:Nat} {E:List Nat} {d:aq} {q:Int} {facts:au->aS} {aI us:au->Nat} (s:eC X N b h S0 E d q facts aI us):eC X 0 b h S0 E d q facts aI us:=by
 obtain ⟨⟨T0,D,NM,v0,v1,nv,rfl,g1,⟨FI,FE,FM,free,aY,kv,rfl,⟨t1,t2,t3,t4,t5⟩,p⟩,g3,g4,g5,g6,g7,g8,g9,_,_⟩,jV,hX⟩:=s
 exact ⟨⟨T0,_,NM,v0,v1,nv,rfl,g1,⟨FI,FE,FM,free,aY,kv,rfl,⟨t1,t2,t3,⟨lE _,lE _,lE _,lE _⟩,t5⟩,p⟩,g3,g4,g5,g6,g7,g8,g9,lE _,lE _⟩,jV,hX⟩
theorem zBo (h:Heap) (K:aF) (hk:∀ h' T0 FM,Ext h h'->(∀ N h2 FI FE,aL [] h' h2->N<=h.size->N<=FI->N<=FE->FI < h2.size->FE < h2.size->FI≠FE->FI≠T0->FI≠FM->FE≠T0->FE≠FM->eH N h2 T0 FI FE FM [] [] [])->h.size<=T0->h.size<=FM->T0 < h'.size->FM < h'.size->T0≠FM->K (.pointer (some ⟨T0,0,none⟩)) h'):Ok prog aD ov 52 [] h K:=by
 have z:=Ext.refl h
 rw [ao h]
 refine Ok.aw 4 (bq Uv) ?_
 simp only [aa,seval,c52,mN,Lm,j6,Hv]
 have hs:(h.lay [ba.map [] 0,ba.row [Value.slice none 0 0,Value.slice none 0 0,Value.map (some (h.size+0))] 147 false] h.low).size=h.size+2:=by rw [bc];rfl
 refine hk _ (h.size+1) (h.size+0) z.aA (λN h2 FI FE f n1 n2 n3 n4 n5 n6 n7 n8 n9 n10=>?_) (by omega) (by omega) (by omega) (by omega) (by omega)
 have hf:=f.size
 exact ⟨⟨_,_,Holds.di ⟨by omega,by rw [iB];rfl⟩ f,.nil,.nil⟩,(dq.new (A:=h.size+0) ⟨by omega,by rw [iB];rfl⟩).hold (λ_ q=>q.di f),⟨by omega,by omega,by omega,by omega,by omega,by omega⟩,⟨by omega,by omega,by omega,by omega⟩,⟨by omega,by omega,by omega,by omega⟩⟩
theorem zyW (d:aq) (v0 v1:ab) (q:Int) (h:Heap) (G0:Nat) (hG:G0 < h.size) (X:List Nat) (hX:∀ B∈X,B < h.size) (WV:G0 ∉ X) (s0:Sl aM.str (aG [G0] (aG X h)) v0 d.ah) (s1:Sl aM.pred (aG [G0] (aG X h)) v1 d.bZ) (K:aF)
 (hk:∀ h' S0,Ext h h'->(∃ E,eC X 0 0 h' S0 E d q (λ_=>[]) (λ_=>0) (λ_=>0))->qR X h.size h' S0 d q->K (.pointer (some ⟨S0,0,none⟩)) h'):Ok prog aD ov 26 [fI v0 v1 (.slice none 0 0) (.slice none 0 0) (.slice none 0 0) q 0] h K:=by
 have Ac:=rG s0
 have sV:=rG s1
 obtain ⟨a0,n0,c0,rfl⟩:=Ac
 obtain ⟨a1,n1,c1,rfl⟩:=sV
 rw [ao h]
 have z:=Ext.refl h
 refine Ok.aw 8 (bq Us) ?_
 simp only [aa,seval,tS,gZ]
 with_reducible first|refine dL (by simp only [tS]) z.aA ?_
 simp only [aa,seval,tS,gZ]
 refine zBo _ _ (λh' T0 FM x st hT hF hT2 RW hTF=>?_)
 have q0:=Holds.top (i:=0) x rfl
 rw [bc] at hT hF
 simp only [dn,dN] at hT hF
 ((first|((with_reducible refine cU ?_ ?_ ?_);(· exact (by (try simp only [ck]);have:=z.size;omega));(· first|exact x|simpa only [oN] using x))|skip);replace z:=z.ec x (by (try simp only [ck]);omega);rw [ao h'])
 simp only [aa,seval,tS,q0.lay,gZ,↓fA,eV,eI,zCh,j6,Hv]
 have hz:=z.size
 refine w8 (by omega) (by omega) ?_
 simp only [aa,seval,tS,zCg,j6]
 refine zhL (by simp) (by omega) (by simp) ?_
 simp only [aa,seval,tS]
 ((with_reducible refine ⟨z.cn.lay _ _,?_⟩);(intro _ h4 zz x _);(try simp only [bM,bu] at x))
 have fr:aL [] h' h4:=(aL.refl [] h').over x
 have qm:=Holds.top (i:=0) x rfl
 have qs:=Holds.top (i:=1) x rfl
 clear z
 have z:=zz
 rw [ao h4]
 simp only [aa,seval,tS,cd]
 have Xz:=fr.size
 have td:=qs.lt
 have cW:aL [] h h4:=z.bN []
 have oK:=z.size
 have hXo:∀ B,h.size<=B->B ∉ X:=λB hB hx=>by have:=hX B hx;omega
 -- with any block as the Am.one that the entries aog not lie in
 have make:∀ (N:Nat) (h2:Heap) (FE:Nat),aL [] (h4.lay [] h4.low) h2->N<=FE->FE < h2.size->N<=h.size->(h4.size<=FE\/FE=G0)->eC X N 0 h2 (h'.size+1) [h'.size+0,T0,h.size,FE,FM] d q (λ_=>[]) (λ_=>0) (λ_=>0):=λN h2 FE f2 hN1 R0 W0 hFE=>by
  have gV:=f2.size
  rw [bc] at gV
  simp only [dN,iU] at gV
  have hE:∀ B∈[h'.size+0,T0,h.size,FE,FM],B∈[G0]\/h.size<=B:=by
   intro B hB
   simp only [dh,tL,or_false] at hB ⊢
   omega
  have hS:h'.size+1 ∉ [h'.size+0,T0,h.size,FE,FM]:=by
   simp only [dh,tL,or_false]
   omega
  have FJ:h'.size+0 ∉ [T0,h.size,FE,FM]:=by
   simp only [dh,tL,or_false]
   omega
  have hI:=(((cW.trans (aL.lay h4 [] h4.low []) (λ_ h=>nomatch h)).trans f2 (λ_ h=>nomatch h)).mono (D':=[G0]) (λ_ h=>nomatch h) |>.kill X).inc (D':=[h'.size+0,T0,h.size,FE,FM]) (λB hB=>by rw [iC];exact hE B hB)
  have jV:∀ B∈[h'.size+0,T0,h.size,FE,FM],B ∉ X:=λB hB hx=>by
   have h2:=hX B hx
   have h3:¬ B=G0:=λe=>WV (by rw [<- e];exact hx)
   simp only [dh,tL,or_false] at hB
   omega
  have Br:h'.size+1 ∉ X:=hXo _ (by omega)
  have tb:eH N h2 T0 h.size FE FM [] [] []:=st N h2 h.size FE ((fr.trans (aL.lay h4 [] h4.low []) (λ_ h=>nomatch h)).trans f2 (λ_ h=>nomatch h)) (by rw [bc];omega) (by omega) (by omega) (by omega) (by omega) (by omega) (by omega) (by omega) (by omega) (by omega)
  exact ⟨⟨T0,[T0,h.size,FE,FM],h'.size+0,_,_,[],rfl,((qs.on _ _).di f2).kg Br,dY.bN (D:=[T0,h.size,FE,FM]) ⟨h.size,FE,FM,[],[],[],rfl,tb,db.empty,bj 0,bj 0⟩ (aL.dead X _) (λB hB=>jV B (fB _ hB)),(dq.new ((qm.on _ _).di f2)).hold (λ_ q=>q.kg (jV _ (by simp))),s0.mono hI,s1.mono hI,λ_ _=>⟨rfl,rfl⟩,λwho x hx=>by simp [dE] at hx,hS,FJ,by omega,by omega⟩,jV,λB hB=>by have:=hX B hB;omega⟩
 exact hk _ (h'.size+1) z.aA ⟨_,make 0 _ G0 (aL.refl _ _) (lE _) (by rw [bc];omega) (lE _) (.inr rfl)⟩ (λh2 FE f2 h5 h6=>⟨_,make h.size h2 FE f2 (by rw [bc] at h5;simp only [dN] at h5;omega) h6 (bj _) (.inl (by rw [bc] at h5;simpa using h5))⟩)
end Go.Proofs.YtiapegieocgmfaaGreatDoor

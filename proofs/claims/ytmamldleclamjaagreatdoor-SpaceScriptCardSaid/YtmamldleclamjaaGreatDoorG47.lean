/- A copy that is made entry by entry, in whatever order: what stands of it. No condition. -/
import Derived.Test.YtmamldleclamjaaGreatDoorG41
set_option linter.unusedSimpArgs false
set_option linter.unusedVariables false
namespace Go.Am
variable {Z:Type} {w:au}
open Classical in
noncomputable def tD (o:Z) (L:List au) (f:au->Z):au->Z:=λw=>if w∈L then f w else o
theorem zkn (o:Z) (f:au->Z):tD o [] f=λ_=>o:=by funext w;simp [tD]
theorem Th {o:Z} {L:List au} {f:au->Z} (h:w∈L):tD o L f w=f w:=aB h
theorem zko {o:Z} {L:List au} {f:au->Z} (h:w ∉ L):tD o L f w=o:=aA h
theorem zlX (o:Z) (L:List au) (f:au->Z) (s:au):tD o (s::L) f=λx=>if x=s then f s else tD o L f x:=by
 funext w
 by_cases hw:w=s
 .rw [aB hw,Th (by rw [hw];exact fZ),hw]
 .rw [aA hw]
  by_cases hl:w∈L
  .rw [Th (eQ _ hl),Th hl]
  .rw [zko (λh=>(cJ.1 h).elim hw hl),zko hl]
theorem zpy {o:Z} {L:List au} {f:au->Z} (h:∀ w,w ∉ L->f w=o):tD o L f=f:=by
 funext w
 by_cases hl:w∈L
 .exact Th hl
 .rw [zko hl,h w hl]
theorem zkN {f:au->Nat}:∀ {L P:List au},L.Nodup->(∀ w∈L,f w≠0->w∈P)->(L.map f).sum<=(P.map f).sum
 | [],P,_,_=>by simp
 |w::L,P,hn,h=>by
  rw [wg] at hn
  rw [lA,Au]
  by_cases hf:f w=0
  .rw [hf,j3]
   exact zkN hn.2 λx hx=>h x (eQ _ hx)
  .obtain ⟨P1,P2,rfl⟩:=List.append_of_mem (h w fZ hf)
   have ih:=zkN (P:=P1++P2) hn.2 λx hx YK=>by
    have h1:=h x (eQ _ hx) YK
    rw [iA,cJ] at h1
    rw [iA]
    rcases h1 with h1|h1|h1
    .exact .inl h1
    .exact absurd (by rw [<- h1];exact hx) hn.1
    .exact .inr h1
   rw [Ar,List.sum_append] at ih
   rw [Ar,List.sum_append,lA,Au]
   omega
theorem zs1 {f:au->Nat} {k:Nat} (h:∀ w,f w<=k):∀ P:List au,(P.map f).sum<=P.length*k
 | []=>by simp
 |w::P=>by
  have:=zs1 h P
  have:=h w
  rw [lA,Au,dY,rF]
  omega
theorem de.sum {d:aq} {k:Nat} {facts:au->aN} {az us:au->Nat} (i:de d k facts az us) {L:List au} (hL:L.Nodup):(L.map λw=>(facts w).length).sum<=d.ab.length*k :=
 hY (zkN hL λw _ hw=>by
  cases hf:facts w with
  |nil=>rw [hf] at hw;exact absurd rfl hw
  |cons a r=>exact cC.1 (Dy (i.ok w a (by rw [hf];exact fZ))).1) (zs1 i.len _)
theorem zqX {Z β:Type} {f:Z->β}:∀ {l:List Z},(l.map f).Nodup->∀ x∈l,∀ y∈l,f x=f y->x=y
 |a::l,hn,x,hx,y,hy,e=>by
  rw [lA,wg] at hn
  rcases cJ.1 hx with hx|hx
  .rcases cJ.1 hy with hy|hy
   .rw [hx,hy]
   .exact absurd (by rw [<- hx,e];exact nD.2 ⟨y,hy,rfl⟩) hn.1
  .rcases cJ.1 hy with hy|hy
   .exact absurd (by rw [<- hy,<- e];exact nD.2 ⟨x,hx,rfl⟩) hn.1
   .exact zqX hn.2 x hx y hy e
theorem zsv:∀ {nv:List (au × ah)},(nv.map Prod.fst).Nodup->∀ p∈nv,dq nv p.1=some p.2
 |q::nv,hn,p,hp=>by
  rw [lA,wg] at hn
  rw [vJ]
  rcases cJ.1 hp with rfl|hp
  .exact aB rfl
  .rw [aA (λe=>hn.1 (by rw [<- e];exact nD.2 ⟨p,hp,rfl⟩))]
   exact zsv hn.2 p hp
theorem zsx:∀ {nv:List (au × ah)} {w:au} {v:ah},dq nv w=some v->(w,v)∈nv
 |q::nv,w,v,h=>by
  rw [vJ] at h
  split at h
  .rename_i e
   cases h
   rw [e]
   exact fZ
  .exact eQ _ (zsx h)
structure Ck (es:List MapEntry) (nv:List (au × ah)) (seen:List Nat) (L:List au):Prop where
 keys:es.map (λx:MapEntry=>(x.key,x.val))=nv.map (λp=>(Value.string p.1,p.2))
 one:(nv.map Prod.fst).Nodup
 born:(es.map (·.born)).Nodup
 nodup:L.Nodup
 iff:∀ y∈es,∀ w,y.key=.string w->(y.born∈seen↔w∈L)
section
variable {es:List MapEntry} {nv:List (au × ah)} {seen:List Nat} {L:List au}
theorem Ck.start (h1:es.map (λx:MapEntry=>(x.key,x.val))=nv.map (λp=>(Value.string p.1,p.2))) (h2:(nv.map Prod.fst).Nodup) (h3:(es.map (·.born)).Nodup):Ck es nv [] []:=⟨h1,h2,h3,List.nodup_nil,λy _ w _=>by simp⟩
theorem Ck.step (v:Ck es nv seen L) {y:MapEntry} (hy:y∈es) (hs:y.born ∉ seen):∃ w,y.key=.string w/\dq nv w=some y.val/\w ∉ L/\Ck es nv (seen++[y.born]) (w::L):=by
 have hm:(y.key,y.val)∈nv.map (λp=>(Value.string p.1,p.2)):=by rw [<- v.keys];exact nD.2 ⟨y,hy,rfl⟩
 obtain ⟨p,hp,he⟩:=nD.1 hm
 simp only [da] at he
 have gV:y.key=.string p.1:=he.1.symm
 have hk:(es.map (·.key)).Nodup:=by
  have e1:es.map (·.key)=(nv.map Prod.fst).map Value.string:=by
   have:=congrArg (List.map Prod.fst) v.keys
   rw [List.map_map,List.map_map] at this
   rw [List.map_map]
   exact this
  rw [e1]
  exact List.Pairwise.map _ (λa b tS e=>tS (by injection e)) v.one
 refine ⟨p.1,gV,by rw [<- he.2];exact zsv v.one p hp,λhl=>hs ((v.iff y hy _ gV).2 hl),v.keys,v.one,v.born,wg.2 ⟨λhl=>hs ((v.iff y hy _ gV).2 hl),v.nodup⟩,λy' zN w hw=>?_⟩
 rw [iA,fH,cJ,v.iff y' zN w hw]
 constructor
 .rintro (h|h)
  .exact .inr h
  .have:=zqX v.born y' zN y hy h
   subst this
   rw [gV] at hw
   exact .inl (by injection hw with hw;exact hw.symm)
 .rintro (h|h)
  .subst h
   exact .inr (by rw [zqX hk y' zN y hy (hw.trans gV.symm)])
  .exact .inl h
theorem Ck.all (v:Ck es nv seen L) (h:∀ y∈es,y.born∈seen) {x:ah} (hl:dq nv w=some x):w∈L:=by
 have hm:(Value.string w,x)∈es.map (λx:MapEntry=>(x.key,x.val)):=by rw [v.keys];exact nD.2 ⟨(w,x),zsx hl,rfl⟩
 obtain ⟨y,hy,he⟩:=nD.1 hm
 simp only [da] at he
 exact (v.iff y hy w he.1).1 (h y hy)
def TY (es:List MapEntry) (seen:List Nat):Nat:=(es.filter λy => !seen.contains y.born).length
theorem zwJ {y:MapEntry} (hy:y∈es) (hs:y.born ∉ seen):TY es (seen++[y.born]) < TY es seen :=
 filter_lt (λx:MapEntry => !seen.contains x.born) (λx => !(seen++[y.born]).contains x.born) (λx hx=>by
  simp only [Bool.not_eq_eq_eq_not,Bool.not_true,List.contains_eq_mem,decide_eq_false_iff_not,iA,fH,not_or] at hx ⊢
  exact hx.1) y (by simpa using hs) (by simp) es hy
end
end Go.Am
namespace Go.Proofs.YtmamldleclamjaaGreatDoor
open Go.Am Tryz
set_option maxRecDepth 100000
set_option maxHeartbeats 0
def qF (X:List Nat) (N:Nat) (h:Heap) (C0:Nat) (d:aq) (q:Int):Prop:=∀ h2 FE,aM [] h h2->h.size<=FE->FE < h2.size->∃ E,eH X N 0 h2 C0 E d q (λ_=>[]) (λ_=>0) (λ_=>0)
theorem qF.cT {X:List Nat} {N:Nat} {h h2:Heap} {C0:Nat} {d:aq} {q:Int} (s:qF X N h C0 d q) (f:aM [] h h2):qF X N h2 C0 d q:=λh3 FE f3 h1 h4=>s h3 FE (f.trans f3 (λ_ h=>nomatch h)) (hY f.size h1) h4
theorem eH.zero {X:List Nat} {N b:Nat} {h:Heap} {S0:Nat} {E:List Nat} {d:aq} {q:Int} {facts:au->aN} {az us:au->Nat} (s:eH X N b h S0 E d q facts az us):eH X 0 b h S0 E d q facts az us:=by
 obtain ⟨⟨T0,D,NM,v0,v1,nv,rfl,g1,⟨FI,FE,FM,free,aV,kv,rfl,⟨t1,t2,t3,t4,t5⟩,p⟩,g3,g4,g5,g6,g7,g8,g9,_,_⟩,jR,hX⟩:=s
 exact ⟨⟨T0,_,NM,v0,v1,nv,rfl,g1,⟨FI,FE,FM,free,aV,kv,rfl,⟨t1,t2,t3,⟨i6 _,i6 _,i6 _,i6 _⟩,t5⟩,p⟩,g3,g4,g5,g6,g7,g8,g9,i6 _,i6 _⟩,jR,hX⟩
theorem zB0 (h:Heap) (K:aI) (hk:∀ h' T0 FM,Ext h h'->(∀ N h2 FI FE,aM [] h' h2->N<=h.size->N<=FI->N<=FE->FI < h2.size->FE < h2.size->FI≠FE->FI≠T0->FI≠FM->FE≠T0->FE≠FM->eu N h2 T0 FI FE FM [] [] [])->h.size<=T0->h.size<=FM->T0 < h'.size->FM < h'.size->T0≠FM->K (.pointer (some ⟨T0,0,none⟩)) h'):Ok prog aG ov 54 [] h K:=by
 have z:=Ext.refl h
 rw [ao h]
 refine Ok.aw 4 (bu Uc) ?_
 simp only [aa,seval,c54,kE,K7,vE,G4]
 have hs:(h.lay [ba.map [] 0,ba.row [Value.slice none 0 0,Value.slice none 0 0,Value.map (some (h.size+0))] 118 false] h.low).size=h.size+2:=by rw [bd];rfl
 refine hk _ (h.size+1) (h.size+0) z.aC (λN h2 FI FE f n1 n2 n3 n4 n5 n6 n7 n8 n9 n10=>?_) (by omega) (by omega) (by omega) (by omega) (by omega)
 have hf:=f.size
 exact ⟨⟨_,_,Holds.cY ⟨by omega,by rw [iB];rfl⟩ f,.nil,.nil⟩,(dn.new (A:=h.size+0) ⟨by omega,by rw [iB];rfl⟩).hold (λ_ q=>q.cY f),⟨by omega,by omega,by omega,by omega,by omega,by omega⟩,⟨by omega,by omega,by omega,by omega⟩,⟨by omega,by omega,by omega,by omega⟩⟩
theorem zzn (d:aq) (v0 v1:ah) (q:Int) (h:Heap) (G0:Nat) (hG:G0 < h.size) (X:List Nat) (hX:∀ B∈X,B < h.size) (WK:G0 ∉ X) (s0:Sl aK.str (aD [G0] (aD X h)) v0 d.ab) (s1:Sl aK.pred (aD [G0] (aD X h)) v1 d.bJ) (K:aI)
 (hk:∀ h' S0,Ext h h'->(∃ E,eH X 0 0 h' S0 E d q (λ_=>[]) (λ_=>0) (λ_=>0))->qF X h.size h' S0 d q->K (.pointer (some ⟨S0,0,none⟩)) h'):Ok prog aG ov 31 [hU v0 v1 (.slice none 0 0) (.slice none 0 0) (.slice none 0 0) q 0] h K:=by
 have zD:=nq s0
 have uZ:=nq s1
 obtain ⟨a0,n0,c0,rfl⟩:=zD
 obtain ⟨a1,n1,c1,rfl⟩:=uZ
 rw [ao h]
 have z:=Ext.refl h
 refine Ok.aw 8 (bu Ua) ?_
 simp only [aa,seval,tL,kG]
 with_reducible first|refine dL (by simp only [tL]) z.aC ?_
 simp only [aa,seval,tL,kG]
 refine zB0 _ _ (λh' T0 FM x st hT hF hT2 Rr hTF=>?_)
 have q0:=Holds.top (i:=0) x rfl
 rw [bd] at hT hF
 simp only [dY,dK] at hT hF
 ((first|((with_reducible refine cW ?_ ?_ ?_);(· exact (by (try simp only [cV]);have:=z.size;omega));(· first|exact x|simpa only [Y1] using x))|skip);replace z:=z.rf x (by (try simp only [cV]);omega);rw [ao h'])
 simp only [aa,seval,tL,q0.lay,kG,↓iR,gO,fY,zCY,vE,G4]
 have hz:=z.size
 refine vN (by omega) (by omega) ?_
 simp only [aa,seval,tL,zCX,vE]
 refine zhN (by simp) (by omega) (by simp) ?_
 simp only [aa,seval,tL]
 ((with_reducible refine ⟨z.cK.lay _ _,?_⟩);(intro _ h4 zz x _);(try simp only [b9,bG] at x))
 have fr:aM [] h' h4:=(aM.refl [] h').over x
 have qm:=Holds.top (i:=0) x rfl
 have qs:=Holds.top (i:=1) x rfl
 clear z
 have z:=zz
 rw [ao h4]
 simp only [aa,seval,tL,NT]
 have Ic:=fr.size
 have td:=qs.lt
 have cQ:aM [] h h4:=z.cT []
 have yA:=z.size
 have hXo:∀ B,h.size<=B->B ∉ X:=λB hB hx=>by have:=hX B hx;omega
 -- with any block as the Am.one that the entries aoR not lie in
 have make:∀ (N:Nat) (h2:Heap) (FE:Nat),aM [] (h4.lay [] h4.low) h2->N<=FE->FE < h2.size->N<=h.size->(h4.size<=FE\/FE=G0)->eH X N 0 h2 (h'.size+1) [h'.size+0,T0,h.size,FE,FM] d q (λ_=>[]) (λ_=>0) (λ_=>0):=λN h2 FE f2 hN1 Rv HZ hFE=>by
  have gG:=f2.size
  rw [bd] at gG
  simp only [dK,i0] at gG
  have hE:∀ B∈[h'.size+0,T0,h.size,FE,FM],B∈[G0]\/h.size<=B:=by
   intro B hB
   simp only [cJ,we,or_false] at hB ⊢
   omega
  have hS:h'.size+1 ∉ [h'.size+0,T0,h.size,FE,FM]:=by
   simp only [cJ,we,or_false]
   omega
  have E8:h'.size+0 ∉ [T0,h.size,FE,FM]:=by
   simp only [cJ,we,or_false]
   omega
  have hI:=(((cQ.trans (aM.lay h4 [] h4.low []) (λ_ h=>nomatch h)).trans f2 (λ_ h=>nomatch h)).mono (D':=[G0]) (λ_ h=>nomatch h) |>.kill X).inc (D':=[h'.size+0,T0,h.size,FE,FM]) (λB hB=>by rw [fX];exact hE B hB)
  have jR:∀ B∈[h'.size+0,T0,h.size,FE,FM],B ∉ X:=λB hB hx=>by
   have h2:=hX B hx
   have h3:¬ B=G0:=λe=>WK (by rw [<- e];exact hx)
   simp only [cJ,we,or_false] at hB
   omega
  have AY:h'.size+1 ∉ X:=hXo _ (by omega)
  have tb:eu N h2 T0 h.size FE FM [] [] []:=st N h2 h.size FE ((fr.trans (aM.lay h4 [] h4.low []) (λ_ h=>nomatch h)).trans f2 (λ_ h=>nomatch h)) (by rw [bd];omega) (by omega) (by omega) (by omega) (by omega) (by omega) (by omega) (by omega) (by omega) (by omega)
  exact ⟨⟨T0,[T0,h.size,FE,FM],h'.size+0,_,_,[],rfl,((qs.on _ _).cY f2).iU AY,dZ.cT (D:=[T0,h.size,FE,FM]) ⟨h.size,FE,FM,[],[],[],rfl,tb,df.empty,bo 0,bo 0⟩ (aM.dead X _) (λB hB=>jR B (eQ _ hB)),(dn.new ((qm.on _ _).cY f2)).hold (λ_ q=>q.iU (jR _ (by simp))),s0.mono hI,s1.mono hI,λ_ _=>⟨rfl,rfl⟩,λaR x hx=>by simp [dq] at hx,hS,E8,by omega,by omega⟩,jR,λB hB=>by have:=hX B hB;omega⟩
 exact hk _ (h'.size+1) z.aC ⟨_,make 0 _ G0 (aM.refl _ _) (i6 _) (by rw [bd];omega) (i6 _) (.inr rfl)⟩ (λh2 FE f2 h5 h6=>⟨_,make h.size h2 FE f2 (by rw [bd] at h5;simp only [dK] at h5;omega) h6 (bo _) (.inl (by rw [bd] at h5;simpa using h5))⟩)
end Go.Proofs.YtmamldleclamjaaGreatDoor

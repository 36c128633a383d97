/- slices.Sort of strings, in place of its text. No condition. -/
import Derived.Test.YtiapegieocgmfaaGreatDoorG11
import Derived.Shelf.Sort.Plain
import Derived.Shelf.Slices.In.SortNone
import Derived.Shelf.Slices.CompactS
import Derived.Lib.Bytealg
set_option linter.unusedSimpArgs false
set_option linter.unusedVariables false
namespace Go.Am
open Go.RowKit Go.Sort Go.Proofs
def EC (xs:List au):List au:=((xs.map (·.data.toList)).mergeSort λx y=>decide (x<=y)).map λl=>⟨l.toArray⟩
theorem PY (xs:List au):(EC xs).length=xs.length:=by simp [EC]
theorem zlO (xs:List au):(EC xs).Perm xs:=by
 have h:=(List.mergeSort_perm (xs.map (·.data.toList)) (λx y=>decide (x<=y))).map (λl:List UInt8=>(⟨l.toArray⟩:au))
 rw [CR] at h
 have e:(λl:List UInt8=>(⟨l.toArray⟩:au))∘(λx:au=>x.data.toList)=id:=by
  funext x
  exact CE (by simp)
 rw [e,List.map_id] at h
 exact h
def HW (args:List ab) (h:Heap):Option (ab × Heap):=match args with
 | [.slice a n _] =>
  if n=0 then some (.tuple #[],h) else
  match a with
  |some ⟨A,o,none⟩=>(gD A o n h).bind λl=>(strs l).bind λxs =>
   if n < 4611686018427387904 then (ki A o ((EC xs).map Value.string) h).map λh'=>(.tuple #[],h') else none
  |_=>none
 |_=>none
theorem zjZ:∀ (l:List ab) (xs:List au),strs l=some xs->l=xs.map Value.string
 | [],xs,hx=>by simp only [strs,dO] at hx;subst hx;rfl
 |v::l,xs,hx=>by
  cases v with
  |string s =>
   simp only [strs,cA] at hx
   obtain ⟨ys,hy,rfl⟩:=hx
   rw [zjZ l ys hy]
   rfl
  |_=>simp [strs] at hx
theorem zks {ρ:cm}:∀ (xs:List au) (m:List ab),cu ρ (xs.map Value.string) m->m=xs.map Value.string
 | [],m,h=>h.of_nil
 |x::xs,m,h=>by
  obtain ⟨y,m',rfl,hy,h'⟩:=cu.of_cons h
  cases hy
  rw [zks xs m' h']
  rfl
section
variable {P:Program} {gs:List Nat}
theorem zjL (off:Nat) (ss:List (List UInt8)) (c:Array ab) (h:off+ss.length<=c.size):(putCells encStr off ss.toArray c).toList=aB c.toList off (ss.map encStr):=by
 apply qN
 intro k
 rw [bG _ _ _ _ (by simpa using h)]
 simp only [putCells,TM,Array.getElem?_mapIdx,gi,Ey]
 by_cases h1:k < off
 .rw [aE h1]
  cases hc:c[k]? with
  |none=>rfl
  |some x=>simp only [jn];rw [az (by omega)]
 .rw [az h1]
  by_cases h2:k < off+ss.length
  .rw [aE h2]
   have hk:k < c.size:=by omega
   rw [xl hk,jn,aE ⟨by omega,h2⟩,lC]
   have h3:k - off < ss.length:=by omega
   rw [gF h3,jn]
   simp [h3]
  .rw [az h2]
   cases hc:c[k]? with
   |none=>rfl
   |some x=>simp only [jn];rw [az (by omega)]
theorem zlG {ρ:cm} {h:Heap} {w:World} (hs:bP ρ h w) {A o n:Nat} {L:Loc} {cs:List ab} {e:TypeId} {xs ys:List au} (hA:ρ A=some L) (hg:h.get A=some (.row cs e false)) (hl:cut cs o n=some (xs.map Value.string)) (hy:ys.length=n) :
 xs.length=n/\Go.Sort.Holds encStr w L.b (L.s+o) (xs.map (·.data.toList)).toArray/\∀ (zs:List (List UInt8)),zs.map encStr=ys.map Value.string->∀ (q:Nat) (os:Array Obj),
  Fr ρ ρ h (h.set A (.row (aB cs o (ys.map Value.string)) e false)) w (grow (putRow encStr (Go.Sort.ahead w q) L.b (L.s+o) zs.toArray) os)/\bP ρ (h.set A (.row (aB cs o (ys.map Value.string)) e false)) (grow (putRow encStr (Go.Sort.ahead w q) L.b (L.s+o) zs.toArray) os):=by
 have hb:=hs.ff A L hA
 rw [hg] at hb
 obtain ⟨cur,fz,gr,ob,nJ,m,hm,vF⟩:=hb
 obtain ⟨k1,k2,k3⟩:=qo hm
 obtain ⟨l1,l2,l3⟩:=qo hl
 have vI:xs.length=n:=by rw [<- l2,gi]
 obtain ⟨d,sV,jv⟩:=vF.cut hl
 have wJ:=zks xs d jv
 obtain ⟨d1,d2,d3⟩:=qo sV
 have k1':L.s+cs.length<=cur.size:=by simpa only [qM] using k1
 have eD:∀ j (x:au),xs[j]? = some x->cur[L.s+o+j]? = some (.string x):=by
  intro j x hj
  have MY:j < n:=by rw [<- vI];exact (dP.1 hj).1
  have e1:=d3 j MY
  rw [wJ,lC,hj,k3 (o+j) (by omega),TM] at e1
  rw [pF]
  exact e1.symm
 refine ⟨vI,?_,?_⟩
 .intro j hj
  rw [Ey,gi] at hj
  have hx:=eD j _ (gF hj)
  have aO:=(mQ.1 hx).1
  have he:encStr ((xs.map (·.data.toList)).toArray)[j]! = .string xs[j]:=by
   have:((xs.map (·.data.toList)).toArray)[j]! = xs[j].data.toList:=by simp [hj]
   rw [this]
  refine ⟨?_,?_⟩
  .rw [he]
   simp only [World.cell?,gr]
   simpa using hx
  .have h0:=ob.YX _ aO
   obtain ⟨lo,mV⟩:=fz
   simp only [World.frozen?,gr,QR,decide_eq_false_iff_not]
   simp only at h0
   omega
 .intro zs hz q os
  have vJ:zs.length=n:=by have:=congrArg List.length hz;rw [gi,gi] at this;omega
  let W:=putRow encStr w L.b (L.s+o) zs.toArray
  have MK:W.heap[L.b]? = some (.cells (putCells encStr (L.s+o) zs.toArray cur) e fz):=by
   simp only [W,putRow,mapBlock,Array.getElem?_modify,if_true,gr,jn,onCells]
  have cG:=zjL (L.s+o) zs cur (by rw [vJ];omega)
  rw [hz] at cG
  have dx:(putCells encStr (L.s+o) zs.toArray cur).size=cur.size:=by simp [putCells]
  have iu:cu ρ (ys.map Value.string) (ys.map Value.string):=cu.plain ρ (by rw [List.all_map];exact iT.2 (λ_ _=>rfl))
  obtain ⟨f1,f2⟩:=Jf (W:=W) (b':=.row (aB cs o (ys.map Value.string)) e false) hs hA hg (by simp) (by simp) rfl rfl rfl (by simp [W])
   (λk hk=>by simp only [W,putRow,mapBlock,Array.getElem?_modify];rw [az (λh=>hk h.symm)])
   ⟨_,fz,MK,by rw [dx];exact ob,by rw [dx];exact nJ,aB m o (ys.map Value.string),by
    rw [cG,oR (by rw [gi,hy];omega)]
    exact zlf hm (by rw [gi,hy];omega),vF.aB o iu⟩
  have MB:Below W.heap.size W (grow (putRow encStr (Go.Sort.ahead w q) L.b (L.s+o) zs.toArray) os):=by
   refine ⟨rfl,rfl,rfl,?_,λk hk=>?_⟩
   .rw [size_grow];simp [W]
   .show ((putRow encStr w L.b (L.s+o) _).heap++os)[k]? = _
    rw [Array.getElem?_append_left hk]
  exact ⟨f1.trans (.nN ρ _ MB),f2.below MB⟩
theorem zza {f:FuncId} (dj:∀ aK w,(callFunc f aK).run P w=.ok (.enter f aK) w)
 (h0:∀ (a:Option Addr) (c:Nat) (w:World),Calls P f #[.slice a 0 c] w λe w'=>e=.returned (.tuple #[])/\w'=w)
 (hS:∀ (ff off cap:Nat) (ss:List (List UInt8)) (w:World),Go.Sort.Holds encStr w ff off ss.toArray->ff < w.heap.size->ss.length < 4611686018427387904 ->
  Calls P f #[.slice (some ⟨ff,off,none⟩) ss.length cap] w λe w'=>e=.returned (.tuple #[])/\∃ n os,w'=grow (putRow encStr (Go.Sort.ahead w n) ff off (ss.mergeSort λx y=>decide (x<=y)).toArray) os):AV P gs f HW:=by
 intro args h v h' aj
 unfold HW at aj
 split at aj
 rotate_left
 .cases aj
 rename_i a n c
 split at aj
 .rename_i hn
  cases aj
  subst hn
  refine ⟨.refl _,λρ w aK _ hs bW hv=>.inr ⟨dj aK w,?_⟩⟩
  obtain ⟨x,m,h1,hx,hv⟩:=hv.of_cons
  have:=hv.of_nil
  subst this
  have lJ:∃ a' c',x=.slice a' 0 c':=by cases hx <;> exact ⟨_,_,rfl⟩
  obtain ⟨a',c',rfl⟩:=lJ
  have mC:aK=#[.slice a' 0 c']:=by rw [<- AQ];exact h1
  subst mC
  refine (h0 a' c' w).mono ?_
  rintro e w' ⟨rfl,rfl⟩
  exact ⟨ρ,.tuple #[],rfl,.refl ρ h w',hs,.tuple rfl (λi x y hx=>by simp at hx)⟩
 .rename_i hn
  split at aj
  rotate_left
  .cases aj
  rename_i A o
  simp only [cH] at aj
  obtain ⟨l,hl,xs,lJ,aj⟩:=aj
  split at aj
  rotate_left
  .cases aj
  rename_i Yd
  simp only [cA,cV] at aj
  obtain ⟨h2,hw,rfl,rfl⟩:=aj
  refine ⟨I6 hw,λρ w aK _ hs bW hv=>.inr ⟨dj aK w,?_⟩⟩
  obtain ⟨x,m0,h1,hx,hv⟩:=hv.of_cons
  have:=hv.of_nil
  subst this
  have key:∃ L c',ρ A=some L/\x=.slice (some ⟨L.b,L.s+o,none⟩) n c':=by
   cases hx with
   |slice hA hc pn en=>exact ⟨_,_,hA,by rw [en (by omega)]⟩
   |b9 hA hc dt pn hk hm en=>exact ⟨_,_,hA,by rw [(en (by omega)).1]⟩
  obtain ⟨L,c',hA,rfl⟩:=key
  have mC:aK=#[.slice (some ⟨L.b,L.s+o,none⟩) n c']:=by rw [<- AQ];exact h1
  subst mC
  unfold ki at hw
  split at hw
  rotate_left
  .cases hw
  rename_i cs e hg
  split at hw
  rotate_left
  .cases hw
  cases hw
  simp only [gD,hg] at hl
  obtain ⟨l1,l2,l3⟩:=qo hl
  have hle:=zjZ l xs lJ
  rw [hle] at hl
  have oa:=PY xs
  have vI:xs.length=n:=by rw [<- l2,hle,gi]
  obtain ⟨_,hH,iq⟩:=zlG hs hA hg hl (ys:=EC xs) (by omega)
  have iW:=hS L.b (L.s+o) c' (xs.map (·.data.toList)) w hH (hs.lt hA) (by rw [gi];omega)
  rw [gi,vI] at iW
  refine iW.mono ?_
  rintro e' w' ⟨rfl,nn,os,rfl⟩
  obtain ⟨f1,f2⟩:=iq ((xs.map (·.data.toList)).mergeSort λx y=>decide (x<=y)) (by simp only [EC,CR];rfl) nn os
  exact ⟨ρ,.tuple #[],rfl,f1,f2,.tuple rfl (λi x y hx=>by simp at hx)⟩
def zI (xs:List au):List au:=(Lib.compact (xs.map (·.data.toList))).map λl=>⟨l.toArray⟩
def H4 (xs:List au):List au:=zI xs++List.replicate (xs.length - (zI xs).length) ⟨#[]⟩
def HP (args:List ab) (h:Heap):Option (ab × Heap):=match args with
 | [.slice a n c] =>
  if n=0 then some (.slice a n c,h) else
  match a with
  |some ⟨A,o,none⟩=>(gD A o n h).bind λl=>(strs l).bind λxs =>
   if n<=9223372036854775807/\(zI xs).length<=xs.length then (ki A o ((H4 xs).map Value.string) h).map λh'=>(.slice a (zI xs).length c,h') else none
  |_=>none
 |_=>none
theorem zpf {f:FuncId} (dj:∀ aK w,(callFunc f aK).run P w=.ok (.enter f aK) w)
 (h0:∀ (a:Option Addr) (c:Nat) (w:World),Calls P f #[.slice a 0 c] w λe w'=>e=.returned (.slice a 0 c)/\w'=w)
 (hS:∀ (ff off cap:Nat) (ss:List (List UInt8)) (w:World),Go.Sort.Holds encStr w ff off ss.toArray->ss.length<=9223372036854775807->ss.length<=cap ->
  Calls P f #[.slice (some ⟨ff,off,none⟩) ss.length cap] w λe w'=>e=.returned (.slice (some ⟨ff,off,none⟩) (Lib.compact ss).length cap)/\∃ q,w'=putRow encStr (Go.Sort.ahead w q) ff off (Lib.compact ss++List.replicate (ss.length - (Lib.compact ss).length) []).toArray):AV P gs f HP:=by
 intro args h v h' aj
 unfold HP at aj
 split at aj
 rotate_left
 .cases aj
 rename_i a n c
 split at aj
 .rename_i hn
  cases aj
  subst hn
  refine ⟨.refl _,λρ w aK _ hs bW hv=>.inr ⟨dj aK w,?_⟩⟩
  obtain ⟨x,m,h1,hx,hv⟩:=hv.of_cons
  have:=hv.of_nil
  subst this
  have lJ:∃ a' c',x=.slice a' 0 c':=by cases hx <;> exact ⟨_,_,rfl⟩
  obtain ⟨a',c',rfl⟩:=lJ
  have mC:aK=#[.slice a' 0 c']:=by rw [<- AQ];exact h1
  subst mC
  refine (h0 a' c' w).mono ?_
  rintro e w' ⟨rfl,rfl⟩
  exact ⟨ρ,_,rfl,.refl ρ h w',hs,hx⟩
 .rename_i hn
  split at aj
  rotate_left
  .cases aj
  rename_i A o
  simp only [cH] at aj
  obtain ⟨l,hl,xs,lJ,aj⟩:=aj
  split at aj
  rotate_left
  .cases aj
  rename_i Yd
  simp only [cA,cV] at aj
  obtain ⟨h2,hw,rfl,rfl⟩:=aj
  refine ⟨I6 hw,λρ w aK _ hs bW hv=>.inr ⟨dj aK w,?_⟩⟩
  obtain ⟨x,m0,h1,hx,hv⟩:=hv.of_cons
  have:=hv.of_nil
  subst this
  unfold ki at hw
  split at hw
  rotate_left
  .cases hw
  rename_i cs e hg
  split at hw
  rotate_left
  .cases hw
  cases hw
  simp only [gD,hg] at hl
  obtain ⟨l1,l2,l3⟩:=qo hl
  have hle:=zjZ l xs lJ
  rw [hle] at hl
  have vI:xs.length=n:=by rw [<- l2,hle,gi]
  have key:∃ L c',ρ A=some L/\x=.slice (some ⟨L.b,L.s+o,none⟩) n c'/\n<=c'/\VR ρ (.slice (some ⟨A,o,none⟩) (zI xs).length c) (.slice (some ⟨L.b,L.s+o,none⟩) (zI xs).length c'):=by
   cases hx with
   |slice hA hc pn en =>
    have FP:=en (by omega)
    subst FP
    exact ⟨_,_,hA,rfl,pn,.slice hA hc (by omega) en⟩
   |b9 hA hc dt pn hk hm en =>
    have FP:=(en (by omega)).1
    subst FP
    exact ⟨_,_,hA,rfl,by omega,.b9 hA hc dt (by omega) hk hm en⟩
  obtain ⟨L,c',hA,rfl,pn,oc⟩:=key
  have mC:aK=#[.slice (some ⟨L.b,L.s+o,none⟩) n c']:=by rw [<- AQ];exact h1
  subst mC
  have lI:(H4 xs).length=n:=by simp only [H4,dy,HY];omega
  obtain ⟨_,hH,iq⟩:=zlG hs hA hg hl (ys:=H4 xs) lI
  have iW:=hS L.b (L.s+o) c' (xs.map (·.data.toList)) w hH (by rw [gi];omega) (by rw [gi];omega)
  rw [gi,vI] at iW
  have hlen:(zI xs).length=(Lib.compact (xs.map (·.data.toList))).length:=by simp [zI]
  refine iW.mono ?_
  rintro e' w' ⟨rfl,q,rfl⟩
  obtain ⟨f1,f2⟩:=iq (Lib.compact (xs.map (·.data.toList))++List.replicate (n - (Lib.compact (xs.map (·.data.toList))).length) []) (by
   rw [<- hlen,<- vI]
   simp only [H4,zI,zL,CR,List.map_replicate,gi]
   rfl) q #[]
  rw [grow_empty] at f1 f2
  rw [<- hlen]
  rw [hlen]
  exact ⟨ρ,_,rfl,f1,f2,by rw [<- hlen];exact oc⟩
end
end Go.Am
namespace Go.Am
open Go.Lib
abbrev Bs:=List UInt8
theorem zfz (a:UInt8):¬ a < a:=by rw [UInt8.lt_iff_toNat_lt];omega
theorem zsZ {a b:UInt8} (h1:¬ a < b) (h2:¬ b < a):a=b:=by
 rw [UInt8.lt_iff_toNat_lt] at h1 h2
 exact UInt8.toNat_inj.1 (by omega)
theorem Ql:∀ a:Bs,compareBytes a a=0
 | []=>rfl
 |a::al=>by rw [compareBytes,az (zfz a),az (zfz a)];exact Ql al
theorem Jo:∀ {a b:Bs},compareBytes a b=0->a=b
 | [],[],_=>rfl
 | [],_::_,h=>by simp [compareBytes] at h
 |_::_,[],h=>by simp [compareBytes] at h
 |a::al,b::bs,h=>by
  rw [compareBytes] at h
  split at h
  .simp at h
  .rename_i h1
   split at h
   .simp at h
   .rename_i h2
    rw [zsZ h1 h2,Jo h]
theorem zmw:∀ a b:Bs,compareBytes a b = - compareBytes b a
 | [],[]=>rfl
 | [],_::_=>rfl
 |_::_,[]=>rfl
 |a::al,b::bs=>by
  rw [compareBytes,compareBytes]
  by_cases h1:a < b
  .have h2:¬ b < a:=by rw [UInt8.lt_iff_toNat_lt] at h1 ⊢;omega
   rw [aE h1,az h2,aE h1]
  .rw [az h1]
   by_cases h2:b < a
   .rw [aE h2,aE h2];rfl
   .rw [az h2,az h2,az h1];exact zmw al bs
theorem zoh:∀ a b:Bs,compareBytes a b = -1\/compareBytes a b=0\/compareBytes a b=1
 | [],[]=>.inr (.inl rfl)
 | [],_::_=>.inl rfl
 |_::_,[]=>.inr (.inr rfl)
 |a::al,b::bs=>by
  rw [compareBytes]
  split
  .exact .inl rfl
  .split
   .exact .inr (.inr rfl)
   .exact zoh al bs
theorem zoi:∀ {a b c:Bs},compareBytes a b < 0->compareBytes b c < 0->compareBytes a c < 0
 | [],[],_,h,_=>by simp [compareBytes] at h
 | [],_::_,[],_,h=>by simp [compareBytes] at h
 | [],_::_,_::_,_,_=>by simp [compareBytes]
 |_::_,[],_,h,_=>by simp [compareBytes] at h
 |_::_,_::_,[],_,h=>by simp [compareBytes] at h
 |a::al,b::bs,c::cs,h,k=>by
  rw [compareBytes] at h k ⊢
  simp only [UInt8.lt_iff_toNat_lt] at h k ⊢
  by_cases h1:a.toNat < b.toNat
  .by_cases h2:b.toNat < c.toNat
   .rw [aE (by omega)];decide
   .rw [az h2] at k
    split at k
    .simp at k
    .rw [aE (by omega)];decide
  .rw [az h1] at h
   split at h
   .simp at h
   .by_cases h2:b.toNat < c.toNat
    .rw [aE (by omega)];decide
    .rw [az h2] at k
     split at k
     .simp at k
     .rw [az (by omega),az (by omega)]
      exact zoi h k

def pD (c:UInt8):Prop:=c.toNat≠32/\c.toNat≠40/\c.toNat≠41/\c.toNat≠44
def Word (s:Bs):Prop:=∀ c∈s,pD c
theorem Hj:∀ {s t x y:Bs} {c d:UInt8},Word s->Word t->¬ pD c->¬ pD d->s++c::x=t++d::y->s=t/\c=d/\x=y
 | [],[],x,y,c,d,_,_,_,_,h=>by simp at h;exact ⟨rfl,h.1,h.2⟩
 | [],b::t,x,y,c,d,_,ht,hc,_,h=>by
  simp at h
  exact (hc (by rw [h.1];exact ht b (by simp))).elim
 |a::s,[],x,y,c,d,hs,_,_,hd,h=>by
  simp at h
  exact (hd (by rw [<- h.1];exact hs a (by simp))).elim
 |a::s,b::t,x,y,c,d,hs,ht,hc,hd,h=>by
  simp at h
  obtain ⟨h1,h2,h3⟩:=Hj (λq hq=>hs q (by simp [hq])) (λq hq=>ht q (by simp [hq])) hc hd h.2
  exact ⟨by rw [h.1,h1],h2,h3⟩
theorem znl:∀ {s t y:Bs} {d:UInt8},Word s->¬ pD d->s≠t++d::y
 | [],t,y,d,_,_,h=>by cases t <;> simp at h
 |a::s,[],y,d,hs,hd,h=>by
  simp at h
  exact hd (by rw [<- h.1];exact hs a (by simp))
 |a::s,b::t,y,d,hs,hd,h=>by
  simp at h
  exact znl (λq hq=>hs q (by simp [hq])) hd h.2
def J6 (names:List Bs):Bs:=match names with
 | []=>[]
 |n::ns=>40::(join (n::ns) [44,32]++[41])
def Rx (says pred:Bs) (names:List Bs):Bs:=says++[32,115,97,121,115,32]++pred++J6 names
theorem Td (n m:Bs) (ns:List Bs):join (n::m::ns) [44,32]=n++(44::32::join (m::ns) [44,32]):=by
 simp [join,List.intercalate]
theorem zsq:∀ {l m:List Bs},(∀ n∈l,Word n)->(∀ n∈m,Word n)->l≠[]->m≠[]->join l [44,32]++[41]=join m [44,32]++[41]->l=m
 | [],_,_,_,h,_,_=>(h rfl).elim
 |_::_,[],_,_,_,h,_=>(h rfl).elim
 | [a],[b],ha,hb,_,_,h=>by
  rw [join_one,join_one] at h
  rw [(Hj (ha a (by simp)) (hb b (by simp)) (by simp [pD]) (by simp [pD]) h).1]
 | [a],b::c::m,ha,hb,_,_,h=>by
  rw [join_one,Td] at h
  simp only [j7,xz] at h
  have:=(Hj (ha a (by simp)) (hb b (by simp)) (by simp [pD]) (by simp [pD]) h).2.1
  simp at this
 |a::c::l,[b],ha,hb,_,_,h=>by
  rw [join_one,Td] at h
  simp only [j7,xz] at h
  have:=(Hj (ha a (by simp)) (hb b (by simp)) (by simp [pD]) (by simp [pD]) h).2.1
  simp at this
 |a::c::l,b::d::m,ha,hb,_,_,h=>by
  rw [Td,Td] at h
  simp only [j7,xz] at h
  obtain ⟨h1,_,h3⟩:=Hj (ha a (by simp)) (hb b (by simp)) (by simp [pD]) (by simp [pD]) h
  simp only [List.cons.injEq,true_and] at h3
  have:=zsq (λn hn=>ha n (by simp at hn ⊢;exact .inr hn)) (λn hn=>hb n (by simp at hn ⊢;exact .inr hn)) (by simp) (by simp) h3
  rw [h1,this]
theorem zzC {s s' p p':Bs} {l l':List Bs} (hs:Word s) (kS:Word s') (hp:Word p) (pZ:Word p') (hl:∀ n∈l,Word n) (BC:∀ n∈l',Word n) (h:Rx s p l=Rx s' p' l'):s=s'/\p=p'/\l=l':=by
 unfold Rx at h
 simp only [j7,xz,pE] at h
 obtain ⟨h1,_,h2⟩:=Hj hs kS (by simp [pD]) (by simp [pD]) h
 simp only [List.cons.injEq,true_and] at h2
 cases l with
 |nil =>
  cases l' with
  |nil=>simp only [J6,bu] at h2;exact ⟨h1,h2,rfl⟩
  |cons n' ns' =>
   simp only [J6,bu] at h2
   exact (znl hp (by simp [pD]) h2).elim
 |cons n ns =>
  cases l' with
  |nil =>
   simp only [J6,bu] at h2
   exact (znl pZ (by simp [pD]) h2.symm).elim
  |cons n' ns' =>
   simp only [J6] at h2
   obtain ⟨h3,_,h4⟩:=Hj hp pZ (by simp [pD]) (by simp [pD]) h2
   exact ⟨h1,h3,zsq hl BC (by simp) (by simp) h4⟩
end Go.Am
namespace Go.Am
variable {b x:ak} {a i j k m:Nat} {cur l l1 new t:aS}
def aP (l:aS):List ab:=l.flatMap ak.cells
theorem od (l:aS):(aP l).length=l.length*11:=by
 unfold aP
 induction l with
 |nil=>rfl
 |cons x l ih=>rw [Ew,dy,ih,dn];show 11+_=_;omega
theorem zsQ (h:l[i]? = some x):cut (aP l) (i*11) 11=some x.cells:=by
 have hi:=(dP.1 h).1
 unfold cut
 rw [aE (by rw [od];omega)]
 congr 1
 unfold aP
 induction l generalizing i with
 |nil=>simp at h
 |cons y l ih =>
  cases i with
  |zero =>
   simp at h
   subst h
   rfl
  |succ i =>
   rw [Ew,show (i+1)*11=y.cells.length+i*11 by show _=11+_;omega,QX]
   have h2:y.cells.drop (y.cells.length+i*11)=[]:=zG (by omega)
   rw [h2,pE,TD]
   exact ih (by simpa using h) (by simpa using hi)
theorem zsR (hi:i < l.length):aB (aP l) (i*11) x.cells=aP (l.set i x):=by
 unfold aB
 have hx:x.cells.length=11:=rfl
 rw [hx]
 unfold aP
 induction l generalizing i with
 |nil=>simp at hi
 |cons y l ih =>
  have hy:y.cells.length=11:=rfl
  cases i with
  |zero =>
   rw [oV,Ew,Ew,Nat.zero_mul,xB,pE,jo,QX,zG (by omega),hy]
   simp
  |succ i =>
   rw [JT,Ew,Ew,<- ih (i:=i) (by simpa using hi)]
   rw [show (i+1)*11=y.cells.length+i*11 by omega,List.take_append,gE (by omega),TD,show y.cells.length+i*11+11=y.cells.length+(i*11+11) by omega,QX,zG (by omega),TD]
   simp
theorem Cp {T:bI} {t u:TypeId} {A:Nat} {h1:Heap} {bs:List ba} {w:Nat} {K:aF} (q:Holds h1 A (.row (aP l) u false)) (hs:dg T t=some 11) (hi:i < l.length)
 (hK:∀ h',Holds h' A (.row (aP (l.set i x)) u false)->eG A (h1.lay bs w) h'->K undef h'):iv (iH T t (.pointer (some ⟨A,i*11,none⟩)) x.val (h1.lay bs w)) K:=by
 have hg:(h1.lay bs w).get A=some (.row (aP l) u false):=q.lay bs w
 have hA:A < (h1.lay bs w).size:=(q.on bs w).lt
 have he:iH T t (.pointer (some ⟨A,i*11,none⟩)) x.val (h1.lay bs w)=some ((h1.lay bs w).set A (.row (aP (l.set i x)) u false)):=by
  unfold iH
  simp only [hs,dM]
  have h1:x.val.cells.toList=x.cells:=rfl
  have h2:x.val.cells.size=11:=rfl
  have h3:x.cells.length=11:=rfl
  have h4:x.cells.all one=true:=rfl
  rw [aE h2,h1]
  unfold ki
  rw [hg]
  simp only
  rw [aE (by simp only [ep,jH];exact ⟨by rw [od,h3];omega,h4⟩),zsR hi]
 rw [he]
 refine hK _ ⟨by rw [Heap.size_set];exact hA,by rw [Heap.aJ _ _ _ _ hA,aE rfl]⟩ ⟨by rw [Heap.size_set];exact bj _,λB hB aQ=>by rw [Heap.aJ _ _ _ _ hA,az aQ],by rw [Heap.bQ];omega⟩
theorem oQ {u:TypeId} {A:Nat} {ro:Bool} {h1:Heap} {bs:List ba} {w:Nat} (q:Holds h1 A (.row (aP l) u ro)) (hx:l[i]? = some x):Bp ((h1.lay bs w).get A) (i*11) 11=some x.val:=by
 have hh:(h1.lay bs w).get A=some (.row (aP l) u ro):=q.lay bs w
 rw [hh]
 show (cut (aP l) (i*11) 11).map _=_
 rw [zsQ hx]
 rfl
def lA (l:aS) (i j:Nat):aS:=(l.set i (l.getD j ae)).set j (l.getD i ae)
theorem zh7 (l:aS) (i j:Nat):(lA l i j).length=l.length:=by unfold lA;rw [nT,nT]
theorem jM (h:i < l.length):l[i]? = some (l.getD i ae):=by
 rw [lB,gF h]
 rfl
theorem D8 (hi:i < l.length) (hj:j < l.length) (k:Nat):(lA l i j).getD k ae=if k=j then l.getD i ae else if k=i then l.getD j ae else l.getD k ae:=by
 unfold lA
 rw [lB,sA,nT]
 by_cases h1:j=k
 .subst h1
  rw [aE rfl,aE hj,aE rfl]
  rfl
 .rw [az h1,az (λe=>h1 e.symm),sA]
  by_cases h2:i=k
  .subst h2
   rw [aE rfl,aE hi,aE rfl]
   rfl
  .rw [az h2,az (λe=>h2 e.symm),lB]
theorem zhD (hi:i < l.length) (hj:j < l.length):(lA l i j).Perm l:=by
 unfold lA
 have e1:l.getD i ae=l[i]:=by rw [lB,gF hi];rfl
 have e2:l.getD j ae=l[j]:=by rw [lB,gF hj];rfl
 rw [e1,e2]
 exact List.set_set_perm hi hj
theorem wZ (a b:ak):aX a b = - aX b a:=zmw _ _
theorem Jy {a:ak} (h:¬ aX a b < 0):aX b a<=0:=by
 rw [wZ b a]
 omega
theorem Hk {a c:ak} (h1:aX a b<=0) (h2:aX b c<=0):aX a c<=0:=by
 by_cases e1:aX a b=0
 .have:=Jo e1
  unfold aX at *
  rw [this]
  exact h2
 .by_cases e2:aX b c=0
  .have:=Jo e2
   unfold aX at *
   rw [<- this]
   exact h1
  .have h3:aX a b < 0:=by omega
   have h4:aX b c < 0:=by omega
   exact Int.le_of_lt (zoi h3 h4)
def iA (l:aS) (a b:Nat):Prop:=∀ k,a < k->k < b->aX (l.getD (k - 1) ae) (l.getD k ae)<=0
def Hy (l l':aS) (a b:Nat):Prop:=∀ k,k < a\/b<=k->l'.getD k ae=l.getD k ae
def Rr (l:aS) (a i j:Nat):Prop:=(∀ k,a < k->k<=i->k≠j->aX (l.getD (k - 1) ae) (l.getD k ae)<=0)/\(a < j->j < i->aX (l.getD (j - 1) ae) (l.getD (j+1) ae)<=0)
theorem zrp (h:iA l a i):Rr l a i i:=⟨λk h1 h2 h3=>h k h1 (by omega),λ_ h=>by omega⟩
theorem zpC (h:Rr l a i j) (hj:j<=i) (he:a < j->aX (l.getD (j - 1) ae) (l.getD j ae)<=0):iA l a (i+1):=by
 intro k h1 h2
 by_cases hkj:k=j
 .subst hkj
  exact he h1
 .exact h.1 k h1 (by omega) hkj
theorem zuG (h:Rr l a i j) (Xf:a < j) (kQ:j<=i) (hi:i < l.length) (aT:aX (l.getD j ae) (l.getD (j - 1) ae) < 0):Rr (lA l j (j - 1)) a i (j - 1):=by
 have g:=λk=>D8 (l:=l) (i:=j) (j:=j - 1) (by omega) (by omega) k
 refine ⟨λk h1 h2 h3=>?_,λh1 h2=>?_⟩
 .rw [g,g]
  by_cases e1:k=j
  .subst e1
   rw [aE rfl,az (by omega),aE rfl]
   omega
  .by_cases e2:k=j+1
   .subst e2
    rw [az (by omega),aE (by omega),az (by omega),az (by omega)]
    have:=h.2 Xf (by omega)
    exact this
   .rw [az (by omega),az (by omega),az (by omega),az (by omega)]
    exact h.1 k h1 h2 (by omega)
 .rw [g,g]
  rw [az (by omega),az (by omega),az (by omega),aE (by omega)]
  exact h.1 (j - 1) h1 (by omega) (by omega)
theorem zpz (h:Hy l l1 a (i+1)) (Xf:a < j) (kQ:j<=i) (hi:i < l1.length):Hy l (lA l1 j (j - 1)) a (i+1):=by
 intro k hk
 rw [D8 (by omega) (by omega),az (by omega),az (by omega)]
 exact h k hk
theorem D4 (h:∀ x∈l,x.aW=true) (p:l1.Perm l):∀ x∈l1,x.aW=true:=λx hx=>h x (p.mem_iff.1 hx)
theorem se (h:∀ x∈l,x.aW=true) (hk:k < l.length):(l.getD k ae).aW=true:=h _ (ic (jM hk))
def Eh (l l':aS) (a b n:Nat):Prop:=∀ k,l'.getD k ae=if a<=k/\k < a+n then l.getD (k - a+b) ae else if b<=k/\k < b+n then l.getD (k - b+a) ae else l.getD k ae
theorem zrC (l:aS) (a b:Nat):Eh l l a b 0:=by
 intro k
 rw [az (by omega),az (by omega)]
theorem zrB {b n:Nat} (h:Eh l l1 a b i) (hd:a+n<=b) (hi:i < n) (hb:b+n<=l1.length):Eh l (lA l1 (a+i) (b+i)) a b (i+1):=by
 intro k
 rw [D8 (by omega) (by omega),h,h,h]
 repeat' split
 all_goals first|rfl|(exfalso;omega)|(congr 1;omega)
def H7 (t cur:aS) (m i j:Nat):Prop:=∀ k,t.getD k ae=if m - i<=k/\k < m+j then (if k < m - i+j then cur.getD (k+i) ae else cur.getD (k - j) ae) else cur.getD k ae
theorem zu5 (h:H7 t cur m i j) (vt:i<=m) (dK:j < i) (hs:Eh cur new (m - i) m j):H7 t new m (i - j) j:=by
 intro k
 rw [h k,hs k,hs (k+(i - j)),hs (k - j)]
 repeat' split
 all_goals first|rfl|(exfalso;omega)|(congr 1;omega)
theorem zrJ (h:H7 t cur m i j) (vt:i<=m) (dK:i < j) (hs:Eh cur new (m - i) (m+j - i) i):H7 t new m i (j - i):=by
 intro k
 rw [h k,hs k,hs (k+i),hs (k - (j - i))]
 repeat' split
 all_goals first|rfl|(exfalso;omega)|(congr 1;omega)
theorem zxR (h:H7 t cur m i i) (vt:i<=m) (hs:Eh cur new (m - i) m i):∀ k,t.getD k ae=new.getD k ae:=by
 intro k
 rw [h k,hs k]
 repeat' split
 all_goals first|rfl|(exfalso;omega)|(congr 1;omega)
theorem zmF {m:aS} (hl:l.length=m.length) (h:∀ k,l.getD k ae=m.getD k ae):l=m:=by
 apply List.ext_getElem hl
 intro k h1 h2
 have:=h k
 rw [lB,lB,gF h1,gF h2] at this
 exact this
def AN (l:aS) (a m b:Nat):aS:=(List.range l.length).map λk=>if a<=k/\k < b then (if k < a+(b - m) then l.getD (k+(m - a)) ae else l.getD (k - (b - m)) ae) else l.getD k ae
theorem zh8 (l:aS) (a m b:Nat):(AN l a m b).length=l.length:=by unfold AN;rw [gi,List.length_range]
theorem zsm (h:l.length<=k):l.getD k ae=ae:=by
 rw [lB,CH h]
 rfl
theorem Tn {b:Nat} (hb:b<=l.length) (k:Nat):(AN l a m b).getD k ae=if a<=k/\k < b then (if k < a+(b - m) then l.getD (k+(m - a)) ae else l.getD (k - (b - m)) ae) else l.getD k ae:=by
 by_cases hk:k < l.length
 .rw [lB]
  unfold AN
  rw [lC,List.getElem?_range hk]
  rfl
 .rw [zsm (by rw [zh8];omega),az (by omega),zsm (by omega)]
theorem zrK {b:Nat} (Bv:a<=m) (BE:m<=b) (hb:b<=l.length):H7 (AN l a m b) l m (m - a) (b - m):=by
 intro k
 rw [Tn hb]
 repeat' split
 all_goals first|rfl|(exfalso;omega)|(congr 1;omega)
def fb (l l':aS):Prop:=∀ t:List UInt8,l'.filter (λx=>cL x == t)=l.filter (λx=>cL x == t)
theorem fb.refl (l:aS):fb l l:=λ_=>rfl
theorem fb.trans {l l1 l2:aS} (x:fb l l1) (y:fb l1 l2):fb l l2:=λt=>(y t).trans (x t)
theorem Jt {a:ak} (h:aX a b < 0):cL a≠cL b:=by
 intro e
 unfold aX at h
 rw [e,Ql] at h
 omega
theorem zjY:∀ {l:aS} {k:Nat},k+1 < l.length->cL (l.getD k ae)≠cL (l.getD (k+1) ae)->fb l (lA l k (k+1))
 | [],k,hk,_=>by simp at hk
 | [x],k,hk,_=>by simp at hk
 |x::y::r,0,_,aQ=>by
  intro t
  have e:lA (x::y::r) 0 1=y::x::r:=rfl
  rw [e]
  have Ye:cL x≠cL y:=aQ
  by_cases hx:cL x=t
  .have hy:¬ cL y=t:=λh=>Ye (hx.trans h.symm)
   simp [HZ,hx,hy]
  .simp [HZ,hx]
 |x::y::r,k+1,hk,aQ=>by
  intro t
  have e:lA (x::y::r) (k+1) (k+1+1)=x::lA (y::r) k (k+1):=rfl
  rw [e,HZ,HZ,zjY (l:=y::r) (k:=k) (by simpa using hk) aQ t]
theorem zuO (hi:i < l.length) (hj:j < l.length):lA l i j=lA l j i:=by
 refine zmF (by rw [zh7,zh7]) (λk=>?_)
 rw [D8 hi hj,D8 hj hi]
 repeat' split
 all_goals first|rfl|(subst_vars;rfl)
theorem zpI (h0:0 < j) (hj:j < l.length) (aT:aX (l.getD j ae) (l.getD (j - 1) ae) < 0):fb l (lA l j (j - 1)):=by
 rw [zuO hj (by omega)]
 have:=zjY (l:=l) (k:=j - 1) (by omega) (by rw [show j - 1+1=j by omega];exact λe=>Jt aT e.symm)
 rwa [show j - 1+1=j by omega] at this
theorem zBB (hk:k+1 < l.length) (aT:aX (l.getD (k+1) ae) (l.getD k ae) < 0):fb l (lA l k (k+1)):=zjY hk (λe=>Jt aT e.symm)
end Go.Am

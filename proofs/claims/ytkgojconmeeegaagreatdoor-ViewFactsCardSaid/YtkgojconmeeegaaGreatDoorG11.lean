/- Walks: maps of atoms. No condition. -/
import Derived.Test.YtkgojconmeeegaaGreatDoorG10
import Derived.Test.YtkgojconmeeegaaGreatDoorG6
import Derived.Shelf.Sort.Plain
import Derived.Shelf.Slices.In.SortNone
import Derived.Shelf.Slices.CompactS
set_option linter.unusedSimpArgs false
set_option linter.unusedVariables false
namespace Go.Am
section
variable {P:Program} {T:bL} {ov:Ov} {d:Option Tmp} {ty:TypeId} {pos:String} {af:Array Edge} {g:Option (Nat × Bool)} {e:Env} {h:Heap} {K:aG}
theorem Rj (t:TypeId):cy P T ov ⟨d,.makeMap t none,ty,pos,af,g⟩ e h K=K (.map (some h.size)) (h.push (.map [] 0)):=rfl
theorem CL (t:TypeId) (x k:Operand) (ok:Bool):cy P T ov ⟨d,.lookup t x k ok,ty,pos,af,g⟩ e h K=aD (CR T t (bz e x) (bz e k) ok h) h K:=by rw [<- wV];rfl
theorem T8 (t:TypeId) (m k x:Operand):cy P T ov ⟨d,.mapUpdate t m k x,ty,pos,af,g⟩ e h K=iH (rT T t (bz e m) (bz e k) (bz e x) h) K:=by
 show dx ((rT T t (bz e m) (bz e k) (bz e x) h).map λh'=>(undef,h')) K=_
 cases rT T t (bz e m) (bz e k) (bz e x) h <;> rfl
end
section
variable {T:bL} {t kt et:TypeId} {A:Nat} {met:aW} {a:ak} {h1:Heap} {bs:List bh} {w:Nat} {K:aG} {z:ae}
end
theorem HG {T:bL} {t u:TypeId} {A n:Nat} {cs:List ae} {v:ae} {h1:Heap} {bs:List bh} {w:Nat} {K:aG} (q:Holds h1 A (.row cs u false)) (hs:cN T t=some n) (hv:v.cells.toList.length=n) (hl:cs.length=n) (bD:v.cells.toList.all one=true)
 (hK:∀ h',Holds h' A (.row v.cells.toList u false)->fB A (h1.lay bs w) h'->K undef h'):iH (iS T t (.pointer (some ⟨A,0,none⟩)) v (h1.lay bs w)) K:=by
 have hg:(h1.lay bs w).get A=some (.row cs u false):=q.lay bs w
 have hA:A < (h1.lay bs w).size:=(q.on bs w).lt
 have dS:v.cells.size=n:=by rw [<- hv];simp
 have hw:kH A 0 v.cells.toList (h1.lay bs w)=some ((h1.lay bs w).set A (.row v.cells.toList u false)):=by
  unfold kH
  rw [hg]
  simp only
  rw [aE (by simp only [dP,gY];exact ⟨by omega,bD⟩)]
  congr 2
  unfold aF
  rw [zP,qu,zE (by omega),bu]
 have he:iS T t (.pointer (some ⟨A,0,none⟩)) v (h1.lay bs w)=some ((h1.lay bs w).set A (.row v.cells.toList u false)):=by
  unfold iS
  simp only [hs,dX]
  rw [aE dS]
  exact hw
 rw [he]
 refine hK _ ⟨by rw [Heap.size_set];exact hA,by rw [Heap.aR _ _ _ _ hA,aE rfl]⟩ ⟨by rw [Heap.size_set];exact bo _,λB hB ba=>by rw [Heap.aR _ _ _ _ hA,az ba],by rw [Heap.bX];omega⟩
theorem ztG {Z:Type} {r:aJ Z} {h:Heap} {v:ae} {l:List Z} (f:Sl r h v l):v.cells.toList=[v]:=by
 rcases f with ⟨rfl,_⟩|⟨A,o,c,row,u,ro,rfl,_⟩ <;> rfl
theorem ztN (v:ae) (h:Heap) (K:aG):aD (some v) h K=K v h:=rfl
theorem En (t:aH):t.val.cells.toList=t.cells:=rfl
end Go.Am
namespace Go.Am
variable {a:ak}
def Kj:List UInt8:=[32,115,97,121,115,32]
def dB:List UInt8:=[44,32]
def jJ (a:ak):List (List UInt8):=a.args.map λt=>t.s.data.toList
def cF (a:ak):List UInt8:=a.says.data.toList++Kj++a.pred.data.toList++(if a.args=[] then [] else [40]++Lib.join (jJ a) dB++[41])
def aT (a b:ak):Int:=Lib.compareBytes (cF a) (cF b)
theorem w7 (a b:aB):(a++b).data.toList=a.data.toList++b.data.toList:=by
 rw [ByteArray.data_append,JQ]
theorem Fi (x:aB):x.data.toList.length=x.size:=by rw [qR];rfl
theorem zyN {row:List ae}:∀ (xs:List aB) (o:Nat),(∀ (i:Nat) (x:aB),xs[i]? = some x->cut row (o+i) 1=some [.string x])->cut row o xs.length=some (xs.map Value.string)\/xs=[]
 | [],o,h=>.inr rfl
 |x::xs,o,h=>by
  left
  have h0:=h 0 x rfl
  rw [jh] at h0
  have hr:=zyN xs (o+1) (λi y hy=>by
   have:=h (i+1) y hy
   rwa [show o+(i+1)=o+1+i by omega] at this)
  unfold cut at h0 hr ⊢
  split at h0
  .rename_i hle
   simp only [dY] at h0
   rcases hr with hr|rfl
   .split at hr
    .rename_i aok
     simp only [dY] at hr
     rw [aE (by simp only [de];omega)]
     simp only [de,mZ,dY]
     have e1:(row.drop o).take (xs.length+1)=(row.drop o).take 1++((row.drop o).drop 1).take xs.length:=by
      rw [Nat.add_comm,List.take_add]
     rw [e1,h0,Dd,hr]
     rfl
    .cases hr
   .rw [aE (by simp only [de,dr];omega)]
    simp only [de,dr,mZ,List.map_nil]
    rw [h0]
  .cases h0
theorem zAS (xs:List aB):strs (xs.map Value.string)=some xs:=by
 induction xs with
 |nil=>rfl
 |cons x xs ih=>simp only [mZ,strs,ih,jZ]
theorem zCF {h:Heap} {v:ae} {xs:List aB} {sep:aB} (f:Sl aJ.str h v xs) (ba:xs≠[]) (hl:xs.length<=1000) (hj:(Lib.join (xs.map (·.data.toList)) sep.data.toList).length<=100000) :
 Ib [v,.string sep] h=some (.string ⟨(Lib.join (xs.map (·.data.toList)) sep.data.toList).toArray⟩,h):=by
 rcases f with ⟨_,e⟩|⟨A,o,c,row,u,ro,rfl,_,_,_,hg,uA⟩
 .exact absurd e ba
 .have jS:xs.length≠0:=λe=>ba (zG.1 e)
  have hc:cut row o xs.length=some (xs.map Value.string):=by
   rcases zyN (row:=row) xs o (λi x hx=>by
    obtain ⟨cs,g1,g2⟩:=uA i x hx
    have g2':cs=[.string x]:=g2
    rw [g2'] at g1
    have g1':cut row (o+i*1) 1=some [.string x]:=g1
    rwa [Dg] at g1') with h1|h1
   .exact h1
   .exact absurd h1 ba
  unfold Ib
  simp only [jS,if_false,gS,hg,hc,dX,zAS]
  rw [aE ⟨by omega,by omega⟩]
theorem zCA {a b d:Heap} {A:Nat} (i:b8 a b) (c:fB A b d) (hA:a.size<=A):b8 a d:=⟨il i.size c.size,λB hB hd=>(c.get B (eW hB i.size) (by omega)).trans (i.get B hB hd)⟩
theorem zy0 (h:a.args.length=0):cF a=a.says.data.toList++Kj++a.pred.data.toList:=by
 have:a.args=[]:=zG.1 h
 unfold cF
 rw [aE this,bu]
theorem zBX {s:aB} {l:List UInt8} (h:s.data.toList=l):s=⟨l.toArray⟩:=by
 apply AF
 rw [h]
theorem ztf:∀ (l:List (List UInt8)) (m:Nat),(∀ x∈l,x.length<=m)->(Lib.join l dB).length<=l.length*(m+2)
 | [],m,_=>by simp [Lib.join]
 | [x],m,h=>by
  rw [Lib.join_one]
  have:=h x (by simp)
  simp
  omega
 |x::y::l,m,h=>by
  have e:(Lib.join (x::y::l) dB).length=x.length+dB.length+(Lib.join (y::l) dB).length:=by simp [Lib.join,List.intercalate];omega
  have h1:=ztf (y::l) m (λz hz=>h z (by simp only [dG] at hz ⊢;exact .inr hz))
  have h2:=h x (by simp)
  have h3:dB.length=2:=rfl
  rw [e]
  simp only [de,r9] at h1 ⊢
  omega
theorem zuM (h:a.aV=true):∀ t∈a.args,t.s.size<=300:=by
 intro t ht
 have h1:=List.mem_of_mem_take ht
 simp only [dG,xk,or_false] at h1
 rcases h1 with rfl|rfl|rfl|rfl
 .exact Rl h 0
 .exact Rl h 1
 .exact Rl h 2
 .exact Rl h 3
theorem zuE (h:a.aV=true):(Lib.join (jJ a) dB).length<=1300:=by
 have h1:=ztf (jJ a) 300 (λx hx=>by
  unfold jJ at hx
  obtain ⟨t,ht,rfl⟩:=ud.1 hx
  rw [Fi]
  exact zuM h t ht)
 have h2:(jJ a).length<=4:=by
  unfold jJ
  rw [fV,wU]
  unfold ak.cU
  omega
 have h3:(jJ a).length*(300+2)<=4*302:=py _ h2
 omega
theorem zy2 (h:¬ a.args.length=0):cF a=a.says.data.toList++Kj++a.pred.data.toList++[40]++Lib.join (jJ a) dB++[41]:=by
 have:a.args≠[]:=λe=>h (by rw [e];rfl)
 unfold cF
 rw [az this]
 simp only [jD]
end Go.Am
namespace Go.Am
open Go.RowKit Go.Sort Go.Proofs
def AM (xs:List aB):List aB:=((xs.map (·.data.toList)).mergeSort λx y=>decide (x<=y)).map λl=>⟨l.toArray⟩
theorem Q7 (xs:List aB):(AM xs).length=xs.length:=by simp [AM]
theorem zlU (xs:List aB):(AM xs).Perm xs:=by
 have h:=(List.mergeSort_perm (xs.map (·.data.toList)) (λx y=>decide (x<=y))).map (λl:List UInt8=>(⟨l.toArray⟩:aB))
 rw [Ij] at h
 have e:(λl:List UInt8=>(⟨l.toArray⟩:aB))∘(λx:aB=>x.data.toList)=id:=by
  funext x
  exact AF (by simp)
 rw [e,List.map_id] at h
 exact h
def H4 (args:List ae) (h:Heap):Option (ae × Heap):=match args with
 | [.slice a n _] =>
  if n=0 then some (.tuple #[],h) else
  match a with
  |some ⟨A,o,none⟩=>(gS A o n h).bind λl=>(strs l).bind λxs =>
   if n < 4611686018427387904 then (kH A o ((AM xs).map Value.string) h).map λh'=>(.tuple #[],h') else none
  |_=>none
 |_=>none
theorem zke:∀ (l:List ae) (xs:List aB),strs l=some xs->l=xs.map Value.string
 | [],xs,hx=>by simp only [strs,dY] at hx;subst hx;rfl
 |v::l,xs,hx=>by
  cases v with
  |string s =>
   simp only [strs,cC] at hx
   obtain ⟨ys,hy,rfl⟩:=hx
   rw [zke l ys hy]
   rfl
  |_=>simp [strs] at hx
theorem zkl {ρ:cI}:∀ (xs:List aB) (m:List ae),cB ρ (xs.map Value.string) m->m=xs.map Value.string
 | [],m,h=>h.of_nil
 |x::xs,m,h=>by
  obtain ⟨y,m',rfl,hy,h'⟩:=cB.of_cons h
  cases hy
  rw [zkl xs m' h']
  rfl
section
variable {P:Program} {gs:List Nat}
theorem zj0 (off:Nat) (ss:List (List UInt8)) (c:Array ae) (h:off+ss.length<=c.size):(putCells encStr off ss.toArray c).toList=aF c.toList off (ss.map encStr):=by
 apply r8
 intro k
 rw [bN _ _ _ _ (by simpa using h)]
 simp only [putCells,UN,Array.getElem?_mapIdx,fV,H8]
 by_cases h1:k < off
 .rw [aE h1]
  cases hc:c[k]? with
  |none=>rfl
  |some x=>simp only [jZ];rw [az (by omega)]
 .rw [az h1]
  by_cases h2:k < off+ss.length
  .rw [aE h2]
   have hk:k < c.size:=by omega
   rw [HO hk,jZ,aE ⟨by omega,h2⟩,lB]
   have h3:k - off < ss.length:=by omega
   rw [gI h3,jZ]
   simp [h3]
  .rw [az h2]
   cases hc:c[k]? with
   |none=>rfl
   |some x=>simp only [jZ];rw [az (by omega)]
theorem zlN {ρ:cI} {h:Heap} {w:World} (hs:bT ρ h w) {A o n:Nat} {L:Loc} {cs:List ae} {e:TypeId} {xs ys:List aB} (hA:ρ A=some L) (hg:h.get A=some (.row cs e false)) (hl:cut cs o n=some (xs.map Value.string)) (hy:ys.length=n) :
 xs.length=n/\Go.Sort.Holds encStr w L.b (L.s+o) (xs.map (·.data.toList)).toArray/\∀ (zs:List (List UInt8)),zs.map encStr=ys.map Value.string->∀ (q:Nat) (os:Array Obj),
  Fr ρ ρ h (h.set A (.row (aF cs o (ys.map Value.string)) e false)) w (grow (putRow encStr (Go.Sort.ahead w q) L.b (L.s+o) zs.toArray) os)/\bT ρ (h.set A (.row (aF cs o (ys.map Value.string)) e false)) (grow (putRow encStr (Go.Sort.ahead w q) L.b (L.s+o) zs.toArray) os):=by
 have hb:=hs.fL A L hA
 rw [hg] at hb
 obtain ⟨cur,fz,gl,nY,nD,m,hm,IQ⟩:=hb
 obtain ⟨k1,k2,k3⟩:=qk hm
 obtain ⟨l1,l2,l3⟩:=qk hl
 have vL:xs.length=n:=by rw [<- l2,fV]
 obtain ⟨d,vx,js⟩:=IQ.cut hl
 have wG:=zkl xs d js
 obtain ⟨d1,d2,d3⟩:=qk vx
 have k1':L.s+cs.length<=cur.size:=by simpa only [qR] using k1
 have eV:∀ j (x:aB),xs[j]? = some x->cur[L.s+o+j]? = some (.string x):=by
  intro j x hj
  have NA:j < n:=by rw [<- vL];exact (dz.1 hj).1
  have e1:=d3 j NA
  rw [wG,lB,hj,k3 (o+j) (by omega),UN] at e1
  rw [oW]
  exact e1.symm
 refine ⟨vL,?_,?_⟩
 .intro j hj
  rw [H8,fV] at hj
  have hx:=eV j _ (gI hj)
  have aK:=(mY.1 hx).1
  have he:encStr ((xs.map (·.data.toList)).toArray)[j]! = .string xs[j]:=by
   have:((xs.map (·.data.toList)).toArray)[j]! = xs[j].data.toList:=by simp [hj]
   rw [this]
  refine ⟨?_,?_⟩
  .rw [he]
   simp only [World.cell?,gl]
   simpa using hx
  .have h0:=nY.ZQ _ aK
   obtain ⟨lo,qz⟩:=fz
   simp only [World.frozen?,gl,RW,decide_eq_false_iff_not]
   simp only at h0
   omega
 .intro zs hz q os
  have vM:zs.length=n:=by have:=congrArg List.length hz;rw [fV,fV] at this;omega
  let W:=putRow encStr w L.b (L.s+o) zs.toArray
  have Ni:W.heap[L.b]? = some (.cells (putCells encStr (L.s+o) zs.toArray cur) e fz):=by
   simp only [W,putRow,mapBlock,Array.getElem?_modify,if_true,gl,jZ,onCells]
  have cP:=zj0 (L.s+o) zs cur (by rw [vM];omega)
  rw [hz] at cP
  have dS:(putCells encStr (L.s+o) zs.toArray cur).size=cur.size:=by simp [putCells]
  have hZ:cB ρ (ys.map Value.string) (ys.map Value.string):=cB.plain ρ (by rw [List.all_map];exact gK.2 (λ_ _=>rfl))
  obtain ⟨f1,f2⟩:=Jl (W:=W) (b':=.row (aF cs o (ys.map Value.string)) e false) hs hA hg (by simp) (by simp) rfl rfl rfl (by simp [W])
   (λk hk=>by simp only [W,putRow,mapBlock,Array.getElem?_modify];rw [az (λh=>hk h.symm)])
   ⟨_,fz,Ni,by rw [dS];exact nY,by rw [dS];exact nD,aF m o (ys.map Value.string),by
    rw [cP,oS (by rw [fV,hy];omega)]
    exact zlo hm (by rw [fV,hy];omega),IQ.aF o hZ⟩
  have M9:Below W.heap.size W (grow (putRow encStr (Go.Sort.ahead w q) L.b (L.s+o) zs.toArray) os):=by
   refine ⟨rfl,rfl,rfl,?_,λk hk=>?_⟩
   .rw [size_grow];simp [W]
   .show ((putRow encStr w L.b (L.s+o) _).heap++os)[k]? = _
    rw [Array.getElem?_append_left hk]
  exact ⟨f1.trans (.nG ρ _ M9),f2.below M9⟩
theorem zAv {f:FuncId} (dh:∀ aL w,(callFunc f aL).run P w=.ok (.enter f aL) w)
 (h0:∀ (a:Option Addr) (c:Nat) (w:World),Calls P f #[.slice a 0 c] w λe w'=>e=.returned (.tuple #[])/\w'=w)
 (hS:∀ (fL off cap:Nat) (ss:List (List UInt8)) (w:World),Go.Sort.Holds encStr w fL off ss.toArray->fL < w.heap.size->ss.length < 4611686018427387904 ->
  Calls P f #[.slice (some ⟨fL,off,none⟩) ss.length cap] w λe w'=>e=.returned (.tuple #[])/\∃ n os,w'=grow (putRow encStr (Go.Sort.ahead w n) fL off (ss.mergeSort λx y=>decide (x<=y)).toArray) os):AZ P gs f H4:=by
 intro args h v h' an
 unfold H4 at an
 split at an
 rotate_left
 .cases an
 rename_i a n c
 split at an
 .rename_i hn
  cases an
  subst hn
  refine ⟨.refl _,λρ w aL _ hs bR hv=>.inr ⟨dh aL w,?_⟩⟩
  obtain ⟨x,m,h1,hx,hv⟩:=hv.of_cons
  have:=hv.of_nil
  subst this
  have lr:∃ a' c',x=.slice a' 0 c':=by cases hx <;> exact ⟨_,_,rfl⟩
  obtain ⟨a',c',rfl⟩:=lr
  have kE:aL=#[.slice a' 0 c']:=by rw [<- AR];exact h1
  subst kE
  refine (h0 a' c' w).mono ?_
  rintro e w' ⟨rfl,rfl⟩
  exact ⟨ρ,.tuple #[],rfl,.refl ρ h w',hs,.tuple rfl (λi x y hx=>by simp at hx)⟩
 .rename_i hn
  split at an
  rotate_left
  .cases an
  rename_i A o
  simp only [cH] at an
  obtain ⟨l,hl,xs,lr,an⟩:=an
  split at an
  rotate_left
  .cases an
  rename_i Y1
  simp only [cC,df] at an
  obtain ⟨h2,hw,rfl,rfl⟩:=an
  refine ⟨Jd hw,λρ w aL _ hs bR hv=>.inr ⟨dh aL w,?_⟩⟩
  obtain ⟨x,m0,h1,hx,hv⟩:=hv.of_cons
  have:=hv.of_nil
  subst this
  have key:∃ L c',ρ A=some L/\x=.slice (some ⟨L.b,L.s+o,none⟩) n c':=by
   cases hx with
   |slice hA hc qD ez=>exact ⟨_,_,hA,by rw [ez (by omega)]⟩
   |cm hA hc cM qD hk hm ez=>exact ⟨_,_,hA,by rw [(ez (by omega)).1]⟩
  obtain ⟨L,c',hA,rfl⟩:=key
  have kE:aL=#[.slice (some ⟨L.b,L.s+o,none⟩) n c']:=by rw [<- AR];exact h1
  subst kE
  unfold kH at hw
  split at hw
  rotate_left
  .cases hw
  rename_i cs e hg
  split at hw
  rotate_left
  .cases hw
  cases hw
  simp only [gS,hg] at hl
  obtain ⟨l1,l2,l3⟩:=qk hl
  have hle:=zke l xs lr
  rw [hle] at hl
  have mF:=Q7 xs
  have vL:xs.length=n:=by rw [<- l2,hle,fV]
  obtain ⟨_,hH,i7⟩:=zlN hs hA hg hl (ys:=AM xs) (by omega)
  have iK:=hS L.b (L.s+o) c' (xs.map (·.data.toList)) w hH (hs.lt hA) (by rw [fV];omega)
  rw [fV,vL] at iK
  refine iK.mono ?_
  rintro e' w' ⟨rfl,nn,os,rfl⟩
  obtain ⟨f1,f2⟩:=i7 ((xs.map (·.data.toList)).mergeSort λx y=>decide (x<=y)) (by simp only [AM,Ij];rfl) nn os
  exact ⟨ρ,.tuple #[],rfl,f1,f2,.tuple rfl (λi x y hx=>by simp at hx)⟩
def zI (xs:List aB):List aB:=(Lib.compact (xs.map (·.data.toList))).map λl=>⟨l.toArray⟩
def Ic (xs:List aB):List aB:=zI xs++List.replicate (xs.length - (zI xs).length) ⟨#[]⟩
def HU (args:List ae) (h:Heap):Option (ae × Heap):=match args with
 | [.slice a n c] =>
  if n=0 then some (.slice a n c,h) else
  match a with
  |some ⟨A,o,none⟩=>(gS A o n h).bind λl=>(strs l).bind λxs =>
   if n<=9223372036854775807/\(zI xs).length<=xs.length then (kH A o ((Ic xs).map Value.string) h).map λh'=>(.slice a (zI xs).length c,h') else none
  |_=>none
 |_=>none
theorem zpQ {f:FuncId} (dh:∀ aL w,(callFunc f aL).run P w=.ok (.enter f aL) w)
 (h0:∀ (a:Option Addr) (c:Nat) (w:World),Calls P f #[.slice a 0 c] w λe w'=>e=.returned (.slice a 0 c)/\w'=w)
 (hS:∀ (fL off cap:Nat) (ss:List (List UInt8)) (w:World),Go.Sort.Holds encStr w fL off ss.toArray->ss.length<=9223372036854775807->ss.length<=cap ->
  Calls P f #[.slice (some ⟨fL,off,none⟩) ss.length cap] w λe w'=>e=.returned (.slice (some ⟨fL,off,none⟩) (Lib.compact ss).length cap)/\∃ q,w'=putRow encStr (Go.Sort.ahead w q) fL off (Lib.compact ss++List.replicate (ss.length - (Lib.compact ss).length) []).toArray):AZ P gs f HU:=by
 intro args h v h' an
 unfold HU at an
 split at an
 rotate_left
 .cases an
 rename_i a n c
 split at an
 .rename_i hn
  cases an
  subst hn
  refine ⟨.refl _,λρ w aL _ hs bR hv=>.inr ⟨dh aL w,?_⟩⟩
  obtain ⟨x,m,h1,hx,hv⟩:=hv.of_cons
  have:=hv.of_nil
  subst this
  have lr:∃ a' c',x=.slice a' 0 c':=by cases hx <;> exact ⟨_,_,rfl⟩
  obtain ⟨a',c',rfl⟩:=lr
  have kE:aL=#[.slice a' 0 c']:=by rw [<- AR];exact h1
  subst kE
  refine (h0 a' c' w).mono ?_
  rintro e w' ⟨rfl,rfl⟩
  exact ⟨ρ,_,rfl,.refl ρ h w',hs,hx⟩
 .rename_i hn
  split at an
  rotate_left
  .cases an
  rename_i A o
  simp only [cH] at an
  obtain ⟨l,hl,xs,lr,an⟩:=an
  split at an
  rotate_left
  .cases an
  rename_i Y1
  simp only [cC,df] at an
  obtain ⟨h2,hw,rfl,rfl⟩:=an
  refine ⟨Jd hw,λρ w aL _ hs bR hv=>.inr ⟨dh aL w,?_⟩⟩
  obtain ⟨x,m0,h1,hx,hv⟩:=hv.of_cons
  have:=hv.of_nil
  subst this
  unfold kH at hw
  split at hw
  rotate_left
  .cases hw
  rename_i cs e hg
  split at hw
  rotate_left
  .cases hw
  cases hw
  simp only [gS,hg] at hl
  obtain ⟨l1,l2,l3⟩:=qk hl
  have hle:=zke l xs lr
  rw [hle] at hl
  have vL:xs.length=n:=by rw [<- l2,hle,fV]
  have key:∃ L c',ρ A=some L/\x=.slice (some ⟨L.b,L.s+o,none⟩) n c'/\n<=c'/\VR ρ (.slice (some ⟨A,o,none⟩) (zI xs).length c) (.slice (some ⟨L.b,L.s+o,none⟩) (zI xs).length c'):=by
   cases hx with
   |slice hA hc qD ez =>
    have F4:=ez (by omega)
    subst F4
    exact ⟨_,_,hA,rfl,qD,.slice hA hc (by omega) ez⟩
   |cm hA hc cM qD hk hm ez =>
    have F4:=(ez (by omega)).1
    subst F4
    exact ⟨_,_,hA,rfl,by omega,.cm hA hc cM (by omega) hk hm ez⟩
  obtain ⟨L,c',hA,rfl,qD,oJ⟩:=key
  have kE:aL=#[.slice (some ⟨L.b,L.s+o,none⟩) n c']:=by rw [<- AR];exact h1
  subst kE
  have mS:(Ic xs).length=n:=by simp only [Ic,cW,H6];omega
  obtain ⟨_,hH,i7⟩:=zlN hs hA hg hl (ys:=Ic xs) mS
  have iK:=hS L.b (L.s+o) c' (xs.map (·.data.toList)) w hH (by rw [fV];omega) (by rw [fV];omega)
  rw [fV,vL] at iK
  have hlen:(zI xs).length=(Lib.compact (xs.map (·.data.toList))).length:=by simp [zI]
  refine iK.mono ?_
  rintro e' w' ⟨rfl,q,rfl⟩
  obtain ⟨f1,f2⟩:=i7 (Lib.compact (xs.map (·.data.toList))++List.replicate (n - (Lib.compact (xs.map (·.data.toList))).length) []) (by
   rw [<- hlen,<- vL]
   simp only [Ic,zI,AU,Ij,List.map_replicate,fV]
   rfl) q #[]
  rw [grow_empty] at f1 f2
  rw [<- hlen]
  rw [hlen]
  exact ⟨ρ,_,rfl,f1,f2,by rw [<- hlen];exact oJ⟩
end
end Go.Am

/- Requests written are read as they were. No condition. -/
import Derived.Test.YtjildadoepadeaaGreatDoorG43
set_option linter.unusedSimpArgs false
set_option linter.unusedVariables false
namespace Go.Am
variable {j o:Nat} {s x y:aA} {a:ae}
def lF (s:aA) (o:Nat) (x:aA):Prop:=o+x.size<=s.size/\∀ j,j < x.size->dm s (o+j)=dm x j
theorem zpH (h:j < x.size):dm (x++y) j=dm x j:=by
 unfold dm
 rw [getElem?_pos (x++y) j (by rw [ByteArray.size_append];omega),getElem?_pos x j h,ByteArray.getElem_append_left h]
theorem Ze (h:j < y.size):dm (x++y) (x.size+j)=dm y j:=by
 unfold dm
 rw [getElem?_pos (x++y) (x.size+j) (by rw [ByteArray.size_append];omega),getElem?_pos y j h,ByteArray.getElem_append_right (by omega)]
 simp
theorem lF.left (h:lF s o (x++y)):lF s o x:=⟨by have:=h.1;rw [ByteArray.size_append] at this;omega,λj hj=>by rw [h.2 j (by rw [ByteArray.size_append];omega),zpH hj]⟩
theorem lF.right (h:lF s o (x++y)):lF s (o+x.size) y:=⟨by have:=h.1;rw [ByteArray.size_append] at this;omega,λj hj=>by rw [jN,h.2 (x.size+j) (by rw [ByteArray.size_append];omega),Ze hj]⟩
theorem lF.cut (h:lF s o x):s.extract o (o+x.size)=x:=by
 have hs:(s.extract o (o+x.size)).size=x.size:=by rw [ByteArray.size_extract];have:=h.1;omega
 refine ByteArray.ext_getElem hs λi hi Ha=>?_
 have h1:=h.2 i Ha
 have h2:=Hu (s:=s) (o:=o) (p:=o+x.size) (i:=i) (by have:=h.1;omega)
 rw [<- h2] at h1
 unfold dm at h1
 rw [getElem?_pos _ i hi,getElem?_pos x i Ha] at h1
 exact UInt8.toNat_inj.1 h1
theorem pz (l:List Nat):(kQ l).size=l.length:=by
 show (l.map UInt8.ofNat).toArray.size=_
 simp
theorem Tk {l:List Nat} (hl:∀ x∈l,x < 256) (hj:j < l.length):dm (kQ l) j=l[j]:=by
 unfold dm
 rw [getElem?_pos (kQ l) j (by rw [pz];exact hj)]
 have e:(kQ l)[j]'(by rw [pz];exact hj)=UInt8.ofNat l[j]:=by
  show ((l.map UInt8.ofNat).toArray)[j]'(by simpa using hj)=_
  simp
 rw [zzo,e,UInt8.toNat_ofNat']
 exact mX (hl _ (List.getElem_mem hj))
theorem zqj:∀ (n:Nat),∃ l b,cJ n=l++[b]/\(∀ x∈l,128<=x)/\b < 128:=by
 intro n
 induction n using Nat.strongRecOn with
 |ind n ih =>
  by_cases hn:n < 128
  .exact ⟨[],n,pw hn,by simp,hn⟩
  .obtain ⟨l,b,h1,h2,h3⟩:=ih (n / 128) (by omega)
   refine ⟨(n % 128+128)::l,b,by rw [qb hn,h1];rfl,λx hx=>?_,h3⟩
   rcases i0.1 hx with rfl|hx
   .omega
   .exact h2 x hx
theorem ZN:∀ (n:Nat),wq (cJ n)=n:=by
 intro n
 induction n using Nat.strongRecOn with
 |ind n ih =>
  by_cases hn:n < 128
  .rw [pw hn];show n % 128+128*0=n;omega
  .rw [qb hn]
   show (n % 128+128) % 128+128*wq (cJ (n / 128))=n
   rw [ih (n / 128) (by omega)]
   omega
theorem S5 {n:Nat} (h:n<=4294967295):(cJ n).length<=5:=by
 by_cases h0:n < 128
 .rw [pw h0];simp
 rw [qb h0,nW]
 by_cases h1:n / 128 < 128
 .rw [pw h1];simp
 rw [qb h1,nW]
 by_cases h2:n / 128 / 128 < 128
 .rw [pw h2];simp
 rw [qb h2,nW]
 by_cases h3:n / 128 / 128 / 128 < 128
 .rw [pw h3];simp
 rw [qb h3,nW,pw (by omega)]
 simp
theorem UA {n:Nat} (hn:n<=4294967295) (h:lF s o (kQ (cJ n))):c7 s o=some (n,o+(cJ n).length):=by
 obtain ⟨l,b,h1,h2,h3⟩:=zqj n
 have sI:=S5 hn
 have cA:(kQ (cJ n)).size=(cJ n).length:=pz _
 have nD:=h.1
 rw [cA] at nD
 have hlen:(cJ n).length=l.length+1:=by rw [h1];simp
 have vh:∀ j,j < l.length+1->∃ x,(cJ n)[j]? = some x/\dm (s.extract o s.size) j=x:=by
  intro j hj
  have xU:j < (cJ n).length:=by omega
  refine ⟨(cJ n)[j],lD xU,?_⟩
  rw [Hu (by omega),h.2 j (by rw [cA];exact xU),Tk (zwn n) xU]
 have js:∀ j,j < l.length->128<=dm (s.extract o s.size) j:=by
  intro j hj
  obtain ⟨x,g1,g2⟩:=vh j (by omega)
  rw [g2]
  rw [h1,kR hj] at g1
  exact h2 x (ig g1)
 have hb:dm (s.extract o s.size) l.length=b:=by
  obtain ⟨x,g1,g2⟩:=vh l.length (by omega)
  rw [g2]
  rw [h1,lS (bg _)] at g1
  simp at g1
  exact g1.symm
 have zQ:wi (s.extract o s.size) (l.length+1)=cJ n:=by
  apply uO
  intro j
  unfold wi
  by_cases hj:j < l.length+1
  .obtain ⟨x,g1,g2⟩:=vh j hj
   rw [g1,lE,List.getElem?_range hj,gJ,g2]
  .rw [wx (by simp;omega),wx (by omega)]
 have P2:iO (s.extract o s.size) (l.length+1)=n:=by rw [T6,zQ,ZN]
 have gx:lW (s.extract o s.size)=some l.length:=Ts (by rw [ByteArray.size_extract];omega) js (by rw [hb];exact h3)
 unfold c7 gV
 rw [gx]
 simp only
 rw [P2,ay (by
  rintro (g|⟨g1,g2⟩)
  .omega
  .rw [hb] at g2
   rcases zsp n l b h1 with e|e
   .rw [e] at g1;simp at g1
   .exact e g2)]
 simp only [gJ]
 rw [hlen]
def jK (x:aA):aA:=kQ (cJ x.size)++x
theorem S3 (x:aA):(jK x).size=(cJ x.size).length+x.size:=by unfold jK;rw [ByteArray.size_append,pz]
theorem Oj (hx:x.size<=4294967295) (h:lF s o (jK x)):eJ s o=some (x,o+(jK x).size):=by
 have h1:=UA hx h.left
 have h2:=h.right
 rw [pz] at h2
 unfold eJ
 rw [h1]
 simp only [cM]
 have:=h2.1
 rw [aC (by omega),h2.cut,S3,jN]
def so (b:Bool):aA:=if b then ⟨#[1]⟩ else ⟨#[0]⟩
theorem zwd {b:Bool} (h:lF s o (so b)):gH s o=some (b,o+1):=by
 have h1:=h.1
 have h2:=h.2 0
 cases b
 .have e:dm s (o+0)=0:=h2 (by decide)
  have l:o+1<=s.size:=h1
  rw [iN] at e
  unfold gH
  rw [aC (by omega),e]
  rfl
 .have e:dm s (o+0)=1:=h2 (by decide)
  have l:o+1<=s.size:=h1
  rw [iN] at e
  unfold gH
  rw [aC (by omega),e]
  rfl
theorem FY (b:Bool):(so b).size=1:=by cases b <;> rfl
def jT (a:ae):Nat->aA
 |0=>(jK a.says++jK a.pred)++kQ (cJ a.n.toNat)
 |i+1=>(jT a i++so (a.arg i).v)++jK (a.arg i).s
def we (a:ae):aA:=jT a a.bR
def OQ (b a:ae):Nat->ae
 |0=>b
 |i+1=>(OQ b a i).put i (a.arg i)
theorem Uc {s:aA} {a b:ae} {o o3:Nat} (hb:∀ i,i < 4->(a.arg i).s.size<=4294967295) (ho:o3=o+(jT a 0).size):∀ i,i<=4->lF s o (jT a i)->gC s b o3 i=some (OQ b a i,o+(jT a i).size)
 |0,_,_=>by rw [ho];rfl
 |i+1,hi,h=>by
  have e:gC s b o3 (i+1)=(gC s b o3 i).bind λx=>(dQ s x.2).map λy=>(x.1.put i y.1,y.2):=rfl
  have h1:lF s o (jT a i):=h.left.left
  have h2:lF s (o+(jT a i).size) (so (a.arg i).v):=h.left.right
  have h3:=h.right
  rw [ByteArray.size_append,FY] at h3
  rw [e,Uc hb ho i (by omega) h1]
  simp only [cM]
  unfold dQ
  rw [zwd h2]
  simp only [cM]
  rw [Oj (hb i (by omega)) (by rw [jN];exact h3)]
  simp only [gJ]
  have hz:(jT a (i+1)).size=(jT a i).size+1+(jK (a.arg i).s).size:=by
   show ((jT a i++so (a.arg i).v)++jK (a.arg i).s).size=_
   rw [ByteArray.size_append,ByteArray.size_append,FY]
  rw [hz]
  congr 2
  omega
theorem zqH (h:bu a):({ OQ { aw with says:=a.says,pred:=a.pred } a a.bR with n:=(a.bR:Int) }:ae)=a:=by
 have h0:=h.lo
 have h4:=h.hi
 have hc:(a.bR:Int)=a.n:=by unfold ae.bR;omega
 have hr:=h.rest
 obtain ⟨sa,pr,n,t0,t1,t2,t3⟩:=a
 simp only at h0 h4
 have hn:n=0\/n=1\/n=2\/n=3\/n=4:=by omega
 rcases hn with rfl|rfl|rfl|rfl|rfl
 .have r0:=hr 0 (by simp) (by omega)
  have r1:=hr 1 (by simp) (by omega)
  have r2:=hr 2 (by simp) (by omega)
  have r3:=hr 3 (by simp) (by omega)
  simp only [ae.arg] at r0 r1 r2 r3
  subst r0 r1 r2 r3
  rfl
 .have r1:=hr 1 (by simp) (by omega)
  have r2:=hr 2 (by simp) (by omega)
  have r3:=hr 3 (by simp) (by omega)
  simp only [ae.arg] at r1 r2 r3
  subst r1 r2 r3
  rfl
 .have r2:=hr 2 (by simp) (by omega)
  have r3:=hr 3 (by simp) (by omega)
  simp only [ae.arg] at r2 r3
  subst r2 r3
  rfl
 .have r3:=hr 3 (by simp) (by omega)
  simp only [ae.arg] at r3
  subst r3
  rfl
 .rfl
theorem zvy (hv:bu a) (h:lF s o (we a)):ie s o=some (a,o+(we a).size):=by
 have aS:=hv.dF
 have hi:=hv.hi
 have Vg:=hv.lo
 have oS:a.n.toNat=a.bR:=by unfold ae.bR;omega
 have vj:a.bR<=4:=by unfold ae.bR;omega
 have cA:a.says.size<=300/\a.pred.size<=300/\∀ i,i < 4->(a.arg i).s.size<=300:=by
  unfold ae.dF at aS
  simp only [cY,jW] at aS
  refine ⟨by omega,by omega,λi hi=>?_⟩
  have:i=0\/i=1\/i=2\/i=3:=by omega
  rcases this with rfl|rfl|rfl|rfl <;> (simp only [ae.arg];omega)
 have hz:∀ i,lF s o (jT a i)->lF s o (jT a 0):=by
  intro i
  induction i with
  |zero=>exact id
  |succ i ih=>exact λh=>ih h.left.left
 have hA:=hz _ h
 have t1:=Oj (by omega) hA.left.left
 have t2:=Oj (by omega) hA.left.right
 have t3:=UA (by omega) hA.right
 rw [ByteArray.size_append] at t3
 have e3:o+(jT a 0).size=o+((jK a.says).size+(jK a.pred).size)+(cJ a.n.toNat).length:=by
  show o+((jK a.says++jK a.pred)++kQ (cJ a.n.toNat)).size=_
  rw [ByteArray.size_append,ByteArray.size_append,pz]
  omega
 have t4:=Uc (s:=s) (a:=a) (b:={ aw with says:=a.says,pred:=a.pred }) (o:=o) (λi hi=>by have:=cA.2.2 i hi;omega) rfl a.bR vj h
 rw [e3] at t4
 unfold ie
 rw [t1]
 simp only [cM]
 rw [t2]
 simp only [cM]
 rw [jN,t3]
 simp only [cM]
 rw [oS] at t4
 rw [aC (by omega),oS,t4]
 simp only [cM]
 rw [zqH hv,aC hv]
 rfl
def kj (k:Nat) (a:ae):aA:=kQ [k]++we a
theorem zxg {k:Nat} (hv:bu a) (h1:1<=k) (h3:k<=3) (hs:(kj k a).size<=4096):eM (kj k a)=some (k,a):=by
 have hz:(kj k a).size=1+(we a).size:=by unfold kj;rw [ByteArray.size_append,pz];rfl
 have hA:lF (kj k a) 0 (kQ [k]++we a):=⟨by rw [jX];exact bg _,λj hj=>by rw [jX];rfl⟩
 have h2:=hA.right
 rw [pz,jX] at h2
 have hb:dm (kj k a) 0=k:=by
  have:=hA.left.2 0 (by rw [pz];exact Nat.zero_lt_one)
  rw [jX] at this
  rw [this,Tk (by intro x hx;rw [td.1 hx];omega) (show 0 < [k].length from Nat.zero_lt_one)]
  rfl
 have h4:=zvy hv h2
 unfold eM
 rw [aC (by omega),show ie (kj k a) 1=_ from h4]
 simp only [cM]
 rw [hb,aC ⟨by rw [hz];rfl,h1,h3⟩]
section
variable {P:Program} {T:bm} {ov:Ov} {d:Option Tmp} {ty:TypeId} {pos:String} {af:Array Edge} {g:Option (Nat × Bool)} {e:Env} {K:aF}
theorem zuQ {h1:Heap} {u s t eb:TypeId} {ro:Bool} {x:Operand} {A m c:Nat} (hs:T.desc s=some (.slice u)) (hu:T.desc u=some (.int .u8)) (ht:T.desc t=some .string) (mn:kP T s=true) (q:Holds h1 A (.row [.int .u8 (m:Int)] eb ro)) (hx:aX e x=.slice (some ⟨A,0,none⟩) 1 c)
 (hK:K (.string (kQ [m])) h1):bL P T ov ⟨d,.convert s t x,ty,pos,af,g⟩ e h1 K:=by
 have hb:sX T s t (.slice (some ⟨A,0,none⟩) 1 c) h1=some (.string (kQ [m])):=by
  unfold sX
  simp only [hs,ht,hu]
  have hc:lO (.slice (some ⟨A,0,none⟩) 1 c) 1 h1=some [.int .u8 (m:Int)]:=by
   unfold lO
   simp only
   rw [ay (by omega)]
   unfold ia
   rw [q.get]
   rfl
  rw [hc]
  rfl
 show cK (if kP T s then (sX T s t (aX e x) h1).map λr=>(r,h1) else if kP T t then (if AG T s then vZ T t (aX e x) h1 else none) else eP P e ⟨d,.convert s t x,ty,pos,af,g⟩ h1) K
 rw [mn,aC rfl,hx,hb]
 exact hK
end
end Go.Am
namespace Go.Proofs.YtjildadoepadeaaGreatDoor
open Go.Am Tryz
set_option maxRecDepth 100000
set_option maxHeartbeats 0
theorem Si (a:Int):dX prog (Next.value <$> convert 3 144 (.int .i64 a))=some (Next.value (.int .u32 (IntKind.u32.wrap a))):=by rfl
theorem zqG (a:Int):dX prog (Next.value <$> convert 3 5 (.int .i64 a))=some (Next.value (.int .u8 (IntKind.u8.wrap a))):=by rfl
theorem Ie {n:Nat} (h:n<=100000):(cJ n).length<=5:=S5 (by omega)
theorem zvN (a:ae) (i:Nat) (hi:i < 4):a.cells[3+i*2+0]? = some (.bool (a.arg i).v):=by
 have:i=0\/i=1\/i=2\/i=3:=by omega
 rcases this with rfl|rfl|rfl|rfl <;> rfl
theorem zvO (a:ae) (i:Nat) (hi:i < 4):a.cells[3+i*2+1]? = some (.string (a.arg i).s):=by
 have:i=0\/i=1\/i=2\/i=3:=by omega
 rcases this with rfl|rfl|rfl|rfl <;> rfl
theorem NJ {a:ae} (aS:a.dF=true):a.says.size<=300/\a.pred.size<=300/\∀ i,i < 4->(a.arg i).s.size<=300:=by
 unfold ae.dF at aS
 simp only [cY,jW] at aS
 refine ⟨by omega,by omega,λi hi=>?_⟩
 have:i=0\/i=1\/i=2\/i=3:=by omega
 rcases this with rfl|rfl|rfl|rfl <;> (simp only [ae.arg];omega)
theorem AJ {x:aA} (h:x.size<=300):(jK x).size<=305:=by
 rw [S3]
 have:=Ie (n:=x.size) (by omega)
 omega
theorem Nn {a:ae} (hv:bu a):∀ i,i<=4->(jT a i).size<=615+306*i
 |0,_=>by
  have h:=NJ hv.dF
  have h1:=AJ h.1
  have h2:=AJ h.2.1
  have h3:=Ie (n:=a.n.toNat) (by have:=hv.hi;omega)
  show ((jK a.says++jK a.pred)++kQ (cJ a.n.toNat)).size<=_
  rw [ByteArray.size_append,ByteArray.size_append,pz]
  omega
 |i+1,hi=>by
  have h:=(NJ hv.dF).2.2 i (by omega)
  have h1:=AJ h
  have h2:=Nn hv i (by omega)
  show ((jT a i++so (a.arg i).v)++jK (a.arg i).s).size<=_
  rw [ByteArray.size_append,ByteArray.size_append,FY]
  omega
theorem H2 (x0:aA) (hx0:x0.size<=300) (h:Heap) (K:aF) (hk:∀ h',Ext h h'->K (.string (jK x0)) h'):Ok prog az ov 156 [.string x0] h K:=by
 rw [ak h]
 have z:=Ext.refl h
 have b9:∀ (s:aA) (h:Heap) (K:aF),aE (some (.string s)) h K=K (.string s) h:=λ_ _ _=>rfl
 refine Ok.au 8 (br BI) ?_
 simp only [aa,seval,wX]
 rw [lB rfl rfl rfl (Si _) rfl,F8 (by omega) (by omega)]
 simp only [aa,seval,wX]
 refine SU x0.size (by omega) _ _ (λh' x=>?_)
 (replace z:=z.aj x;rw [ak h'])
 have h5:=Ie (n:=x0.size) (by omega)
 have xC:=AO (P:=prog) (T:=az) (t:=9) (a:=kQ (cJ x0.size)) (b:=x0) (by rw [pz];omega)
 simp only [aa,seval,wX,b9,xC]
 exact hk _ z.ao
theorem zqk (a:ae) (hv:bu a) (h:Heap) (K:aF) (hk:∀ h',Ext h h'->K (.string (we a)) h'):Ok prog az ov 90 [a.val] h K:=by
 rw [ak h]
 have z:=Ext.refl h
 have b9:∀ (s:aA) (h:Heap) (K:aF),aE (some (.string s)) h K=K (.string s) h:=λ_ _ _=>rfl
 have cA:=NJ hv.dF
 have Vg:=hv.lo
 have h4n:=hv.hi
 have l1:=AJ cA.1
 have l2:=AJ cA.2.1
 have l3:=Ie (n:=a.n.toNat) (by omega)
 have c0:a.cells[0]? = some (.string a.says):=rfl
 have c1:a.cells[1]? = some (.string a.pred):=rfl
 have PK:a.cells[2]? = some (.int .i64 a.n):=rfl
 refine Ok.au 43 (br Pt) ?_
 simp only [aa,seval,oa,e9]
 refine ko (λh' x hq=>?_)
 have q0:=hq 0 _ rfl
 clear hq
 (replace z:=z.aj x;rw [ak h'])
 obtain ⟨P0,G1⟩:∃ P0,P0=h.size+0:=⟨_,rfl⟩
 rw [<- G1] at q0 ⊢
 have Ae:=z.size
 with_reducible first|refine hH (by simp only [oa]) z.ao ?_
 repeat' (simp only [aa,seval,oa,q0.lay,c0,b9])
 refine H2 a.says cA.1 _ _ (λh' x=>?_)
 (((with_reducible refine eu ?_ ?_ ?_);(· exact (by (simp only [ep]);have:=z.size;omega));(· exact x));replace z:=z.aj x;replace q0:=q0.over x;rw [ak h'])
 repeat' (simp only [aa,seval,oa,q0.lay,c1,b9])
 refine H2 a.pred cA.2.1 _ _ (λh' x=>?_)
 (((with_reducible refine eu ?_ ?_ ?_);(· exact (by (simp only [ep]);have:=z.size;omega));(· exact x));replace z:=z.aj x;replace q0:=q0.over x;rw [ak h'])
 have qQ:=AO (P:=prog) (T:=az) (t:=9) (a:=jK a.says) (b:=jK a.pred) (by omega)
 repeat' (simp only [aa,seval,oa,q0.lay,PK,b9,qQ])
 rw [lB rfl rfl rfl (Si _) rfl,F8 (by omega) (by omega)]
 refine yO (by have:=z.size;omega) (by omega) ?_
 repeat' (simp only [aa,seval,oa])
 have Wl:a.n=((a.n.toNat:Nat):Int):=by omega
 have key:=SU a.n.toNat (by omega)
 rw [<- Wl] at key
 refine key _ _ (λh' x=>?_)
 (((with_reducible refine eu ?_ ?_ ?_);(· exact (by (simp only [ep]);have:=z.size;omega));(· exact x));replace z:=z.aj x;replace q0:=q0.over x;rw [ak h'])
 have xz:bD prog az .add 9 (.string (jK a.says++jK a.pred)) (.string (kQ (cJ a.n.toNat)))=some (.string (jT a 0)):=AO (by rw [ByteArray.size_append,pz];omega)
 repeat' (first|simp only [aa,seval,oa,b9,xz]|((with_reducible refine ⟨z.eD.lay _ _,?_⟩);(intro _ h' zz x _);(simp only [dy,cU] at x);replace q0:=q0.over x;(replace z:=zz);(clear zz);rw [ak h']))
 have oS:a.bR=a.n.toNat:=by unfold ae.bR;omega
 obtain ⟨I1,aU⟩:∃ I:Nat->Env->Heap->Prop,I=(λn e h'=>∃ (i:Nat) (h1:Heap),h'=h1.lay [] h1.low/\Ext h h1/\(n=a.bR - i/\i<=a.bR/\Holds h1 P0 (.row a.cells 41 false))/\∃ J:Nat->ai,e=(J 0::.pointer (some ⟨P0,0,none⟩)::J 2::.string (jT a i)::.int .i64 i::jr J 5 39 ([]))):=⟨_,rfl⟩
 refine dK I1 _ (by rw [aU];exact ⟨0,_,rfl,z,⟨rfl,by omega,q0⟩,bx⟩) ?_
 intro n e h' aR
 rw [aU] at aR
 obtain ⟨i,b8,rfl,z,hinv,J,rfl⟩:=aR
 clear q0
 obtain ⟨rfl,hi,q0⟩:=hinv
 have j9:=ec i (by omega)
 simp only [aa,seval,oa,q0.lay,PK]
 refine bp (λaS=>?_) (λaS=>?_)
 .simp only [aa,seval,oa]
  refine bp (λWb=>?_) (λhx=>absurd (by omega) hx)
  have q7:(0:Int)<=(i:Int)/\(i:Int) < 4:=by omega
  have xx:=zvN a i (by omega)
  have P4:=zvO a i (by omega)
  have mu:=cA.2.2 i (by omega)
  have l4:=AJ mu
  have l5:=Nn hv i (by omega)
  have sE:bD prog az .add 9 (.string (jT a i)) (.string (so (a.arg i).v))=some (.string (jT a i++so (a.arg i).v)):=AO (by rw [FY];omega)
  have vj:bD prog az .add 9 (.string (jT a i++so (a.arg i).v)) (.string (jK (a.arg i).s))=some (.string (jT a (i+1))):=AO (by rw [ByteArray.size_append,FY];omega)
  cases xy:(a.arg i).v
  .rw [xy] at xx sE vj
   have Hd:so false=⟨#[0]⟩:=rfl
   rw [Hd] at sE vj
   repeat' (simp only [aa,seval,oa,q0.lay,b9,q7,xx,P4,sE])
   refine H2 _ mu _ _ (λh' x=>?_)
   (replace z:=z.aj x;replace q0:=q0.over x;rw [ak h'])
   repeat' (simp only [aa,seval,oa,b9,vj])
   rw [j9]
   (rw [aU];with_reducible refine db (m:=_) ?_ ⟨i+1,_,rfl,z,⟨rfl,by omega,q0⟩,bx⟩;omega)
  .rw [xy] at xx sE vj
   have Hd:so true=⟨#[1]⟩:=rfl
   rw [Hd] at sE vj
   repeat' (simp only [aa,seval,oa,q0.lay,b9,q7,xx,P4,sE])
   refine H2 _ mu _ _ (λh' x=>?_)
   (replace z:=z.aj x;replace q0:=q0.over x;rw [ak h'])
   repeat' (simp only [aa,seval,oa,b9,vj])
   rw [j9]
   (rw [aU];with_reducible refine db (m:=_) ?_ ⟨i+1,_,rfl,z,⟨rfl,by omega,q0⟩,bx⟩;omega)
 .have:i=a.bR:=by omega
  subst this
  repeat' (simp only [aa,seval,oa])
  exact hk _ z.ao
theorem zst (a:ae) (hv:bu a) (h:Heap) (K:aF) (hk:∀ h',Ext h h'->K (.tuple #[.string (we a),.int .i64 0]) h'):Ok prog az ov 45 [a.val] h K:=by
 rw [ak h]
 have z:=Ext.refl h
 refine Ok.au 8 (br O6) ?_
 simp only [aa,seval,Jz,e9,↓eZ,dO,dx]
 refine S7 a _ _ (λ_ h' x=>?_) (λo7=>absurd hv o7)
 have q0:=Holds.top (i:=0) x rfl
 (replace z:=z.aj x;rw [ak h'])
 repeat' (simp only [aa,seval,Jz,bne_self_eq_false,q0.lay,↓eZ,dO,dx])
 refine zqk a hv _ _ (λh' x=>?_)
 (replace z:=z.aj x;rw [ak h'])
 repeat' (simp only [aa,seval,Jz])
 exact hk _ z.ao
theorem Zn (k:Int) (a:ae) (h:Heap) (K:aF)
 (ea:∀ m:Nat,k=m->1<=m->m<=3->bu a->(kj m a).size<=4096->∀ h',Ext h h'->K (.tuple #[.string (kj m a),.int .i64 0]) h')
 (dZ:∀ h' c,c≠0->Ext h h'->K (.tuple #[.string ⟨#[]⟩,.int .i64 c]) h'):Ok prog az ov 21 [jI k a] h K:=by
 rw [ak h]
 have z:=Ext.refl h
 have b9:∀ (s:aA) (h:Heap) (K:aF),aE (some (.string s)) h K=K (.string s) h:=λ_ _ _=>rfl
 have xH:cut (fw k a) 1 11=some a.cells:=rfl
 have kE:(fw k a)[0]? = some (.int .i64 k):=rfl
 refine Ok.au 26 (br OW) ?_
 simp only [aa,seval,sA,mG,↓mK,mI,gZ]
 refine zqv k a _ _ (λg1 g2 g3 h' x=>?_) (λg h' x=>?_)
 .have q0:=Holds.top (i:=0) x rfl
  (replace z:=z.aj x;rw [ak h'])
  obtain ⟨m,rfl⟩:=H6 (show 0<=k by omega)
  simp only [aa,seval,sA]
  (with_reducible apply bK);(· rfl)
  repeat' (simp only [aa,seval,sA,q0.lay,↓xH,dO,dx])
  refine zst a g3 _ _ (λh' x=>?_)
  (replace z:=z.aj x;replace q0:=q0.over x;rw [ak h'])
  have hz:=z.size
  repeat' (simp only [aa,seval,sA,b9,q0.lay,kE])
  rw [lB rfl rfl rfl (zqG _) rfl,AL (by omega) (by omega)]
  repeat' (simp only [aa,seval,sA])
  refine zuQ (u:=5) (m:=m) GJ PL zI rfl ⟨by rw [cF];simp,by rw [iL];rfl⟩ rfl ?_
  have l5:=Nn g3 a.bR (by unfold ae.bR;omega)
  have xC:bD prog az .add 9 (.string (kQ [m])) (.string (we a))=some (.string (kj m a)):=AO (by rw [pz];show 1+(jT a a.bR).size<=_;unfold ae.bR at *;omega)
  simp only [aa,seval,sA,b9,xC]
  refine bp (λnz=>?_) (λnz=>?_)
  .simp only [aa,seval,sA]
   exact dZ _ 4 (by decide) z.ao
  .simp only [aa,seval,sA]
   exact ea m rfl (by omega) (by omega) g3 (by omega) _ z.ao
 ·(replace z:=z.aj x;rw [ak h'])
  simp only [aa,seval,sA]
  (with_reducible apply bK);(· rfl)
  repeat' (simp only [aa,seval,sA])
  exact dZ _ 2 (by decide) z.ao
end Go.Proofs.YtjildadoepadeaaGreatDoor

/- Functions of the library with a contract of the kit's, for the plain machine. No condition. -/
import Derived.Shelf.Small.Strs
import Derived.Lib.Join
import Derived.Lib.Fields
import Derived.Lib.LaidTab
import Derived.MakeChecks
import Derived.Lay
import Derived.Test.YtnkmeidmdaidhaaGreatDoorG5
set_option linter.unusedSimpArgs false
namespace Go.Am
open Go.RowKit
variable {f:FuncId}
section
variable {P:Program} {gs:List Nat} {ρ:cI} {h:Heap} {w w':World}

theorem bT.below (hs:bT ρ h w) (hb:Below w.heap.size w w'):bT ρ h w' :=
 ⟨λA L hA=>(hs.lR A L hA).keep (λ_ _ h=>h) hb.size (λ_=>hb.block _ (hs.lt hA)),hs.inj⟩
theorem Fr.qD (ρ:cI) (h:Heap) (hb:Below w.heap.size w w'):Fr ρ ρ h h w w' :=
 ⟨λ_ _ h=>h,λA L h1 h2=>(by rw [h1] at h2;cases h2),hb.os,hb.tape,hb.output,hb.size,aR _,aR _,λb hl _=>hb.block b hl,λ_ _ _=>rfl⟩

theorem FO {T:bJ} (hT:T.Fits P) {fn:Func} (hf:T.fn f=some fn) {c:Code} (hc:fn.body=some c) (aL:Array ai) (w:World):(callFunc f aL).run P w=.ok (.enter f aL) w:=by
 obtain ⟨hP,iU,_⟩:=hT.fn f fn hf
 have fK:¬ fn.name="runtime.NumGoroutine":=by simpa using iU
 simp [callFunc,hP,fK,hc]

def Jb (P:Program) (gs:List Nat) (f:FuncId) (g:List ai->Heap->Option (ai × Heap)):Prop :=
 ∀ args h v h',g args h=some (v,h')->bt h h'/\∀ ρ w (aL:Array ai),cY gs ρ->bT ρ h w->fA ρ h h'->cL ρ args aL.toList->WW P ρ h h' w v f aL

theorem zsX {g:List ai->Heap->Option (ai × Heap)} (eO:∀ aL w,(callFunc f aL).run P w=.ok (.enter f aL) w)
 (hg:∀ args h v h',g args h=some (v,h')->h'=h/\plain v=true/\∀ ρ w (aL:Array ai),bT ρ h w->cL ρ args aL.toList->Calls P f aL w λe w'=>e=.returned v/\Below w.heap.size w w'):Jb P gs f g:=by
 intro args h v h' aj
 obtain ⟨rfl,hp,hc⟩:=hg args h v h' aj
 refine ⟨.refl _,λρ w aL _ hs _ hv=>.inr ⟨eO aL w,(hc ρ w aL hs hv).mono ?_⟩⟩
 rintro e w' ⟨rfl,hb⟩
 exact ⟨ρ,v,rfl,.qD ρ _ hb,hs.below hb,.dm ρ hp⟩

def strs:List ai->Option (List aU)
 | []=>some []
 | .string s::l=>(strs l).map (s::·)
 |_=>none

def Gp (args:List ai) (h:Heap):Option (ai × Heap):=match args with
 | [.slice a n _,.string sep] =>
  if n=0 then some (.string ⟨#[]⟩,h) else
  match a with
  |some ⟨A,o,none⟩=>(kY A o n h).bind λl=>(strs l).bind λxs =>
   if n<=140737488355328/\(Lib.join (xs.map (·.data.toList)) sep.data.toList).length<=140737488355328 then some (.string ⟨(Lib.join (xs.map (·.data.toList)) sep.data.toList).toArray⟩,h) else none
  |_=>none
 |_=>none

def Ng (args:List ai) (h:Heap):Option (ai × Heap):=match args with
 | [.string a,.string b]=>some (.int .i64 (Lib.compareBytes a.data.toList b.data.toList),h)
 |_=>none

theorem ztb:∀ (l:List ai) (xs:List aU),strs l=some xs->xs.length=l.length/\∀ (j:Nat) (x:aU),xs[j]? = some x->l[j]? = some (.string x)
 | [],xs,hx=>by simp only [strs,eh] at hx;subst hx;exact ⟨rfl,λj x hj=>by simp at hj⟩
 |v::l,xs,hx=>by
  cases v with
  |string s =>
   simp only [strs,ct] at hx
   obtain ⟨ys,hy,rfl⟩:=hx
   obtain ⟨h1,h2⟩:=ztb l ys hy
   refine ⟨by simp [h1],λj x hj=>?_⟩
   cases j with
   |zero=>simp at hj;simp [hj]
   |succ j=>simpa using h2 j x (by simpa using hj)
  |_=>simp [strs] at hx

theorem zjW (eO:∀ aL w,(callFunc f aL).run P w=.ok (.enter f aL) w)
 (hc:∀ a b w,Calls P f #[.string a,.string b] w λe w'=>e=.returned (.int .i64 (Lib.compareBytes a.data.toList b.data.toList))/\w'=w):Jb P gs f Ng:=by
 refine zsX eO λargs h v h' aj=>?_
 unfold Ng at aj
 split at aj
 .rename_i a b
  cases aj
  refine ⟨rfl,rfl,λρ w aL hs hv=>?_⟩
  obtain ⟨x,m,h1,hx,hv⟩:=hv.of_cons
  obtain ⟨y,m',h2,hy,hv⟩:=hv.of_cons
  have:=hv.of_nil
  subst this
  cases hx
  cases hy
  subst h2
  have jq:aL=#[.string a,.string b]:=by rw [<- NO];exact h1
  subst jq
  refine (hc a b w).mono ?_
  rintro e w' ⟨rfl,rfl⟩
  exact ⟨rfl,.refl _ _⟩
 .cases aj

theorem zsW (eO:∀ aL w,(callFunc f aL).run P w=.ok (.enter f aL) w)
 (h0:∀ a c sep w,Calls P f #[.slice a 0 c,.string sep] w λe w'=>e=.returned (.string ⟨#[]⟩)/\w'=w)
 (hj:∀ (bk o c:Nat) (xs:List aU) (sep:aU) (w:World),(∀ (j:Nat) x,xs[j]? = some x->w.cell? ⟨bk,o+j,none⟩=some (.string x))->bk < w.heap.size->xs.length<=140737488355328->xs.length<=c->(Lib.join (xs.map (·.data.toList)) sep.data.toList).length<=140737488355328 ->
  Calls P f #[.slice (some ⟨bk,o,none⟩) xs.length c,.string sep] w λe w'=>e=.returned (.string ⟨(Lib.join (xs.map (·.data.toList)) sep.data.toList).toArray⟩)/\Below w.heap.size w w'):Jb P gs f Gp:=by
 refine zsX eO λargs h v h' aj=>?_
 unfold Gp at aj
 split at aj
 .rename_i a n c sep
  split at aj
  .rename_i hn
   cases aj
   subst hn
   refine ⟨rfl,rfl,λρ w aL hs hv=>?_⟩
   obtain ⟨x,m,h1,hx,hv⟩:=hv.of_cons
   obtain ⟨y,m',h2,hy,hv⟩:=hv.of_cons
   have:=hv.of_nil
   subst this
   cases hy
   subst h2
   have oB:∃ a' c',x=.slice a' 0 c':=by cases hx <;> exact ⟨_,_,rfl⟩
   obtain ⟨a',c',rfl⟩:=oB
   have jq:aL=#[.slice a' 0 c',.string sep]:=by rw [<- NO];exact h1
   subst jq
   refine (h0 a' c' sep w).mono ?_
   rintro e w' ⟨rfl,rfl⟩
   exact ⟨rfl,.refl _ _⟩
  .rename_i hn
   split at aj
   .rename_i A o
    simp only [cG] at aj
    obtain ⟨l,hl,xs,oB,aj⟩:=aj
    split at aj
    .rename_i hle
     cases aj
     refine ⟨rfl,rfl,λρ w aL hs hv=>?_⟩
     obtain ⟨x,m,h1,hx,hv⟩:=hv.of_cons
     obtain ⟨y,m',h2,hy,hv⟩:=hv.of_cons
     have:=hv.of_nil
     subst this
     cases hy
     subst h2
     have key:∃ L c',ρ A=some L/\n<=c'/\x=.slice (some ⟨L.b,L.s+o,none⟩) n c':=by
      cases hx with
      |slice hA hc Ev fR=>exact ⟨_,_,hA,Ev,by rw [fR (by omega)]⟩
      |da hA hc gJ Ev hk hm fR=>exact ⟨_,_,hA,eA Ev gJ,by rw [(fR (by omega)).1]⟩
     obtain ⟨L,c',hA,Ev,rfl⟩:=key
     have jq:aL=#[.slice (some ⟨L.b,L.s+o,none⟩) n c',.string sep]:=by rw [<- NO];exact h1
     subst jq
     obtain ⟨ms,G1,Kz,EG⟩:=PI hs hA hl
     obtain ⟨V2,hxg⟩:=ztb l xs oB
     have Ey:xs.length=n:=by rw [V2,G1.1,Kz]
     have:=hj L.b (L.s+o) c' xs sep w (λj x hx=>by
      obtain ⟨y,hy,cS⟩:=G1.get (hxg j x hx)
      cases cS
      exact EG j _ hy) (hs.lt hA) (by omega) (by omega) hle.2
     rw [Ey] at this
     exact this
    .cases aj
   .cases aj
 .cases aj
end
end Go.Am
namespace Go.Am
open Go.RowKit
variable {g:Nat} {f:FuncId}
section
variable {P:Program} {gs:List Nat} {ρ:cI} {h:Heap} {w:World}

def uv (g:Nat):Heap:=⟨g+1,(Tr.set (g+1) .nil g (.row u6 uY true)),g+1⟩
def uA (g:Nat):cI:=λA=>if A=g then some ⟨g,0,0⟩ else none
theorem Xg (g A:Nat):(uv g).get A=if A=g then some (.row u6 uY true) else none:=by
 unfold Heap.get uv
 simp only [Tr.aG _ _ _ _ _ (ri g),Tr.get_nil]
 by_cases h1:A=g
 .subst h1;simp
 .simp [h1]
theorem zu4 (ht:∀ c,c < 256->w.cell? ⟨g,c,none⟩=some (.int .u8 (Lib.asciiSpaceTab.getD c 0))) (i:Nat) (v:ai) (hv:u6[i]? = some v):w.cell? ⟨g,i,none⟩=some v/\plain v=true:=by
 unfold u6 at hv
 rw [lP,ct] at hv
 obtain ⟨z,hz,rfl⟩:=hv
 have hi:i < 256:=by have:=(fG.1 hz).1;rw [Lib.asciiSpaceTab_length] at this;exact this
 refine ⟨?_,rfl⟩
 rw [ht i hi]
 simp [List.getD,hz]
theorem zpC (ht:∀ c,c < 256->w.cell? ⟨g,c,none⟩=some (.int .u8 (Lib.asciiSpaceTab.getD c 0))):bT (uA g) (uv g) w:=by
 have aT:g < w.heap.size:=by
  have:=ht 0 (by omega)
  unfold World.cell? at this
  split at this
  .rename_i c _ _ hh;exact (mU.1 hh).1
  .cases this
 refine ⟨λA L hA=>?_,λA A' L L' hA fk aM _=>?_⟩
 .unfold uA at hA
  split at hA
  .rename_i e
   cases hA
   rw [Xg,aD e]
   refine ⟨⟨aT,λ_=>rfl⟩,λi v hv=>?_⟩
   obtain ⟨h1,h2⟩:=zu4 ht i v hv
   exact ⟨v,by simpa using h1,.dm _ h2⟩
  .cases hA
 .unfold uA at hA fk
  split at hA
  .split at fk
   .omega
   .cases fk
  .cases hA

theorem zoV {l:List (String × DataW Unit)} {n:String} {d:DataW Unit}:∀ {ps:List MemPlace},DataW.LaidVars P w l ps->(n,d)∈l ->
 ∃ g t cs fuel p,P.globalNamed n=some g/\(P.globals[g]?).map (·.type)=some t/\w.var? P n=some cs/\DataW.trod (λ_=>()) P w 0 (λ_=>true) false fuel t cs.toList=some (d,p):=by
 induction l with
 |nil=>intro ps _ hm;cases hm
 |cons x l ih =>
  intro ps hl hm
  obtain ⟨m,e⟩:=x
  obtain ⟨g,t,cs,fuel,p,q,h1,h2,h3,h4,h5,_⟩:=hl
  rcases df.1 hm with h6|h6
  .cases h6;exact ⟨g,t,cs,fuel,p,h1,h2,h3,h4⟩
  .exact ih h5 h6
theorem zne {l:List (String × DataW Unit)} {d:DataW Unit} {t e:TypeId} (hL:laidMetH P l w) (hp:(l.all λx=>x.2.handleName?.isNone)=true) (hm:("strings.asciiSpace",d)∈l) (hd:d=Lib.tabData .u8 Lib.asciiSpaceTab)
 (hg:P.globalNamed "strings.asciiSpace"=some g) (EU:(P.globals[g]?).map (·.type)=some t) (ht:P.underlying t=some (.array 256 e)) (he:P.underlying e=some (.int .u8)) (GQ:P.cellsOf e=1) (Kd:P.cellsOf t=256) :
 ∀ c,c < 256->w.cell? ⟨g,c,none⟩=some (.int .u8 (Lib.asciiSpaceTab.getD c 0)):=by
 rw [MakeChecks.laidMetH_plain _ _ _ hp] at hL
 obtain ⟨ps,hl,_⟩:=hL
 obtain ⟨g',t',cs,fuel,p,wA,ht',VI,hx⟩:=zoV hl hm
 subst hd
 obtain rfl:=Option.some.inj (hg.symm.trans wA)
 obtain rfl:=Option.some.inj (EU.symm.trans ht')
 have hT:Lib.TabIs P w "strings.asciiSpace" .u8 Lib.asciiSpaceTab:=by
  unfold Lib.TabIs
  rw [VI,<- Lib.cells_of_tab ht he GQ Kd hx]
 exact λc hc=>hT.cell hg c (by rw [Lib.asciiSpaceTab_length];exact hc)

def sW (s:List UInt8):List ai:=(Lib.fields s).map λl=>Value.string ⟨l.toArray⟩
def F3 (g:Nat) (st:TypeId) (args:List ai) (h:Heap):Option (ai × Heap):=match args with
 | [.string s]=>(match h.get g with
  |some (.row _ e true) =>
   if Nat.beq e uY && s.data.toList.all (λb=>Nat.blt b.toNat 128) && Nat.blt s.size 4294967281 && Nat.blt (sW s.data.toList).length 4294967281 then
    some (.slice (some ⟨h.size,0,none⟩) (sW s.data.toList).length (sW s.data.toList).length,h.push (.row (sW s.data.toList) st false))
   else none
  |_=>none)
 |_=>none
theorem zlF {st:TypeId} (tO:g∈gs) (eO:∀ aL w,(callFunc f aL).run P w=.ok (.enter f aL) w)
 (hf:∀ (s:aU) (w:World),s.size < 4294967281->(∀ (j:Nat) b,s.data.toList[j]? = some b->b.toNat < 128)->(∀ c:Nat,c < 256->w.cell? ⟨g,c,none⟩=some (.int .u8 (if Lib.isSp (UInt8.ofNat c) then 1 else 0))) ->
  Calls P f #[.string s] w λe w' =>
   e=.returned (.slice (some ⟨w.heap.size,0,none⟩) (Lib.fields s.data.toList).length (Lib.fields s.data.toList).length)/\w'=w.alloc (.cells ((Lib.fields s.data.toList).map λl=>Value.string ⟨l.toArray⟩).toArray st)):Jb P gs f (F3 g st):=by
 intro args h v h' aj
 unfold F3 at aj
 split at aj
 .rename_i s
  split at aj
  .rename_i cs e hg
   split at aj
   .rename_i hc
    simp only [dK,iM] at hc
    obtain ⟨⟨⟨hm,Ug⟩,dS⟩,Kk⟩:=hc
    cases aj
    refine ⟨.push _ _,λρ w aL hG hs cj hv=>.inr ⟨eO aL w,?_⟩⟩
    obtain ⟨y,m,he,h1,h2⟩:=hv.of_cons
    cases h1
    have wJ:=h2.of_nil
    subst wJ
    have D4:aL=#[.string s]:=by apply Array.ext';simpa using he
    subst D4
    obtain ⟨t,hρ⟩:=hG g tO
    have hb:=hs.lR g _ hρ
    rw [hg] at hb
    have rH:=hb.1.2 (Nat.eq_of_beq_eq_true hm)
    have gI:∀ c:Nat,c < 256->w.cell? ⟨g,c,none⟩=some (.int .u8 (if Lib.isSp (UInt8.ofNat c) then 1 else 0)):=by
     intro c hc
     have hx:cs[c]? = some (.int .u8 (Lib.asciiSpaceTab.getD c 0)):=by
      rw [rH]
      unfold u6
      rw [lP]
      have:c < Lib.asciiSpaceTab.length:=by rw [Lib.asciiSpaceTab_length];exact hc
      simp [List.getD,this]
     obtain ⟨u,hu,pJ⟩:=hb.2 c _ hx
     have:=pJ.bK rfl
     subst this
     rw [Lib.asciiSpaceTab_at c hc] at hu
     simpa using hu
    have gK:ρ h.size=none:=cj h.size (aR _) (ri _)
    have Vy:s.size < 4294967281:=by simpa [Nat.blt_eq] using dS
    have J4:∀ (j:Nat) b,s.data.toList[j]? = some b->b.toNat < 128:=λj b hb=>by
     have:=Ug b (en hb)
     simpa [Nat.blt_eq] using this
    refine (hf s w Vy J4 gI).mono ?_
    rintro e w' ⟨rfl,rfl⟩
    have Az:(sW s.data.toList).all lM=true:=by
     unfold sW
     rw [List.all_map,iM]
     intro x _
     rfl
    have hlen:(sW s.data.toList).length=(Lib.fields s.data.toList).length:=by simp [sW]
    obtain ⟨ρ',xk,dL,eC⟩:=Hp (W:=w.alloc (.cells ((Lib.fields s.data.toList).map λl=>Value.string ⟨l.toArray⟩).toArray st)) (cs:=sW s.data.toList) (m:=sW s.data.toList) (e:=st) hs gK rfl rfl rfl rfl
     (by refine uC (by simp [sW]) rfl (λj _=>by rw [iA];rfl)) (cL.plain ρ Az)
    refine ⟨ρ',_,rfl,dL,eC,?_⟩
    have UB:(sW s.data.toList).length < 4294967281:=by simpa [Nat.blt_eq] using Kk
    rw [hlen] at UB ⊢
    exact VR.slice (o:=0) xk (by unfold G;omega) (aR _) (λ_=>rfl)
   .cases aj
  .cases aj
 .cases aj
def zoR (n:Nat):FK:=λv h=>match v with
 | .bool b=>(match b with|true=>Nat.ble n h.low|false=>false)
 |_=>false
def Yc (n:Nat) (r:Option (ai × Heap)):Bool:=match r with
 |some x=>zoR n x.1 x.2
 |none=>false
theorem zru {T:bJ} {ov:Ov} (kV:P.follows .mixedOrders=true) (hT:T.Fits P) (tO:T.gs=[g]) (jP:BJ P T.gs ov) {n:Nat} (hf:ov f=none) (eg:Yc (g+1) (call P T ov n (.func f) [] (uv g))=true) (w:World)
 (ht:∀ c,c < 256->w.cell? ⟨g,c,none⟩=some (.int .u8 (Lib.asciiSpaceTab.getD c 0))) :
 Calls P f #[] w λe w'=>e=.returned (.bool true)/\Below w.heap.size w w':=by
 match hc:call P T ov n (.func f) [] (uv g),eg with
 |some (v,h'),hk =>
  simp only [Yc] at hk
  unfold zoR at hk
  split at hk
  .rename_i b
   split at hk
   .refine zyA kV hT jP hf hc w (uA g) (by rw [tO];intro q hq;simp at hq;subst hq;exact ⟨0,by simp [uA]⟩) (zpC ht) ?_ ?_
    .intro A hA
     unfold uA
     rw [az]
     have:g+1<=A:=hA
     omega
    .intro A L hA
     unfold uA at hA
     split at hA
     .have:=Nat.le_of_ble_eq_true hk;omega
     .cases hA
   .cases hk
  .cases hk
end
theorem zrV {H:Type} {enc:TypeId × ai->H} {C:Checked} {os:Os} {fn:Func} {s:ChangeSpec} {conds:List PathCond} {apart:Bool} {X:World->Array ai->Prop} (w0:World) (args:Array ai) (fuel:Nat) (wO:w0.os=os)
 (hv:(w0.forCall (λ_ _=>0) ⟨#[],args,[]⟩).variablesZipB C.prog=true)
 (hr:((w0.forCall (λ_ _=>0) ⟨#[],args,[]⟩).heap.toList.drop C.prog.globals.size).take ((begin C.prog (λ_ _=>0) default).world.heap.size - C.prog.globals.size) =
  (begin C.prog (λ_ _=>0) default).world.heap.toList.drop C.prog.globals.size)
 (cV:Input.okWideB C.prog (w0.forCall (λ_ _=>0) ⟨#[],args,[]⟩) f ⟨#[],args,[]⟩=true)
 (mG:s.preB enc C.prog fn conds apart (w0.forCall (λ_ _=>0) ⟨#[],args,[]⟩).memory args fuel=true)
 (dS:s.sizedB enc C.prog fn apart (w0.forCall (λ_ _=>0) ⟨#[],args,[]⟩).memory args fuel=true)
 (hx:X (w0.forCall (λ_ _=>0) ⟨#[],args,[]⟩).memory args) :
 ∃ (w:World) (tape:Tape) (i:Input),w.os=os/\(w.forCall tape i).Shaped C.prog/\i.vars=[]/\Input.okWide C.prog (w.forCall tape i) .any w.heap.size f i /\
   ((s.pre enc C.prog fn conds apart (w.forCall tape i).memory i.args/\X (w.forCall tape i).memory i.args)/\sizedMet enc C.prog fn (OpenSpec.ofChange s) apart (w.forCall tape i).memory i.args)/\({}:Assume).holds C.prog (lone (Frame.enter C.prog f i.args .normal) [] (w.forCall tape i)) :=
 ⟨w0,λ_ _=>0,⟨#[],args,[]⟩,wO,World.shaped_of_ZipB hv hr,(Input.okWide_of_okWideB (base:=0) cV).1,(Input.okWide_of_okWideB cV).2,⟨⟨ChangeSpec.pre_of_preB mG,hx⟩,sizedMet_of_sizedB dS⟩,by
  simp only [Assume.holds]
  exact ⟨by simp,by simp,λh=>by simp at h,by simp,by simp⟩⟩
end Go.Am
namespace Go.Am
open Go.RowKit Go.ChangeShapes Go.WideShapes Go.ChangeAt
variable {g:Nat}
section
variable {P:Program} {T:bJ} {ov:Ov} {W:World} {H:Type} {enc:TypeId × ai->H}
theorem zmI (kV:P.follows .mixedOrders=true) (hT:T.Fits P) (tO:T.gs=[g]) (jP:BJ P T.gs ov) {k:FuncId} {fn:Func} {s:ChangeSpec} {n boolT:Nat} {apart fresh handsOn again:Bool} {base:Nat} {args:Array ai} {ds gs:List (DataW H)} {before:List MemPlace}
 (hk:ov k=none) (ht:∀ c,c < 256->W.cell? ⟨g,c,none⟩=some (.int .u8 (Lib.asciiSpaceTab.getD c 0))) (hl:laidOutB P=true) (qz:s.vars=[]) (kj:fn.resultTypes.toList=[boolT]) (EI:fn.resultTypes.size=1) (Cb:P.underlying boolT=some .bool)
 (Us:fn.params.toList.all (xU P n)=true) (oh:fn.params.toList.all (λt=>P.readableRec t && decide (t < P.types.size))=true)
 (lf:∀ ds:List (DataW H),ds.length=fn.params.size->s.fn H ds={ results:=[.lit (.bool true)],args:=ds })
 (cV:∀ (h:Heap) (args:List ai),h.low=h.size->Holds h g (.row u6 uY true)->yR P h n fn.params.toList args->Ok P T ov k args h λv h'=>v=.bool true/\Ext h h')
 (fo:∀ (j:Nat) t v,fn.params[j]? = some t->args[j]? = some v->Value.okWide P W .any base t v)
 (hW:DataW.Whole enc P fn.params.toList s.vars apart W args.toList ds gs before) :
 Calls P k args W λe W'=>∃ v,e=.returned v/\s.post enc P fn apart fresh handsOn again W args v W':=by
 have hS:0 < W.heap.size:=by
  have:=ht 0 (by omega)
  unfold World.cell? at this
  split at this
  .rename_i c _ _ hh
   have:=(mU.1 hh).1
   omega
  .cases this
 obtain ⟨M,vW⟩:=zrU W
 have hM:0 < M:=Nat.lt_of_le_of_lt (iN _) (vW 0 hS)
 have hW':=hW
 obtain ⟨p,q,hA,hV,rfl,Cf,O6⟩:=hW
 rw [qz] at hV
 obtain ⟨rfl,rfl⟩:=trodVars_none hV
 have hlen:∀ (ts:List TypeId) (vs:List ai) (ds:List (DataW H)) (ps:List MemPlace),DataW.TrodAll enc P W 0 (λ_=>true) true ts vs ds ps->ds.length=ts.length:=by
  intro ts
  induction ts with
  |nil=>intro vs ds ps h;cases vs <;> cases ds <;> first|rfl|cases h
  |cons t ts ih =>
   intro vs ds ps h
   cases vs with
   |nil=>cases h
   |cons v vs =>
    cases ds with
    |nil=>cases h
    |cons d ds=>obtain ⟨_,_,_,h2,_⟩:=h;simp [ih vs ds _ h2]
 have hdl:=hlen _ _ _ _ hA
 have dS:(uv g).size=g+1:=rfl
 have dL:∀ A,(uv g).size<=A->uA g A=none:=λA hA=>by
  rw [dS] at hA
  unfold uA
  rw [az (by omega)]
 obtain ⟨yB,Vu⟩:=zpm (h:=uv g) (ρ:=uA g) (n:=n) (base:=base) hS vW fn.params.toList args.toList ds p Us (λj t v h1 h2=>fo j t v (by simpa using h1) (by simpa using h2)) hA
 have eC:=zzs (W:=W) (h:=uv g) (ρ:=uA g) (M:=M) (zpC ht) dL (λA L hA=>by
  unfold uA at hA
  split at hA
  .rename_i e
   rw [e]
   exact ⟨u6,uY,by rw [Xg,aD rfl]⟩
  .cases hA) hM
 have ki:(uz W (uv g) M).low=(uz W (uv g) M).size:=by rw [MC];rfl
 have dD:Holds (uz W (uv g) M) g (.row u6 uY true):=⟨by rw [MC,dS];omega,by rw [Xl (by rw [dS];omega),Xg,aD rfl]⟩
 refine (ztT kV hT jP hk ?_ eC (λA fk=>?_) ki yB (cV _ _ ki dD Vu)).mono λe W' ⟨he,hb⟩=>?_
 .rw [tO]
  intro x hx
  obtain rfl:x=g:=by simpa using hx
  refine ⟨0,?_⟩
  unfold qI
  rw [az (by rw [dS];omega)]
  unfold uA
  rw [aD rfl]
 .rw [MC] at fk
  unfold qI
  rw [az (by omega)]
  exact dL A (by omega)
 .subst he
  have Ed:=lf (ds++[]) (by rw [bC,hdl];simp)
  refine ⟨_,rfl,zyO (pa:=p) (pv:=[]) hW' (λb sp hd=>?_) (λsp dD=>?_) (λsp _=>?_) (by simp) hb (λj t r h1 h2=>?_)⟩
  .rw [kj,EI,Ed]
   exact trodAll_mk1 (shut_bool Cb true)
  .rw [Ed]
   rw [bC]
   exact zhl hl hb sp _ _ _ _ oh (λx hx=>hW'.lt x (by simp [hx])) (λx hx=>dD x (by simp [hx])) hA
  .rw [qz,Ed]
   rfl
  .rw [EI] at h2
   have hj:fn.resultTypes[j]? = some t:=h1
   have h3:fn.resultTypes.toList[j]? = some t:=by simpa using hj
   rw [kj] at h3
   cases j with
   |zero =>
    simp at h3 h2
    subst h3
    have:r=.bool true:=by simpa [Value.resultList] using h2.symm
    subst this
    exact okWide_bool_mk Cb true
   |succ j=>simp at h3
def Iq (g:Nat) (args:List ai) (h:Heap):Option (ai × Heap):=match args with
 | []=>(match h.get g with
  |some (.row _ e true)=>if Nat.beq e uY then some (.bool true,h) else none
  |_=>none)
 |_=>none
theorem zxz {gs:List Nat} {f:FuncId} (tO:g∈gs) (eO:∀ aL w,(callFunc f aL).run P w=.ok (.enter f aL) w) (hc:∀ w,(∀ c,c < 256->w.cell? ⟨g,c,none⟩=some (.int .u8 (Lib.asciiSpaceTab.getD c 0)))->Calls P f #[] w λe w'=>e=.returned (.bool true)/\Below w.heap.size w w'):Jb P gs f (Iq g):=by
 intro args h v h' aj
 unfold Iq at aj
 split at aj
 .split at aj
  .rename_i cs e hg
   split at aj
   .rename_i hm
    cases aj
    refine ⟨.refl _,λρ w aL hG hs cj hv=>.inr ⟨eO aL w,?_⟩⟩
    have jq:aL=#[]:=by rw [<- NO];exact hv.of_nil
    subst jq
    obtain ⟨t,hρ⟩:=hG g tO
    have hb:=hs.lR g _ hρ
    rw [hg] at hb
    have rH:=hb.1.2 (Nat.eq_of_beq_eq_true hm)
    refine (hc w (λc hc=>?_)).mono ?_
    .have hx:cs[c]? = some (.int .u8 (Lib.asciiSpaceTab.getD c 0)):=by
      rw [rH]
      unfold u6
      rw [lP]
      have:c < Lib.asciiSpaceTab.length:=by rw [Lib.asciiSpaceTab_length];exact hc
      simp [List.getD,this]
     obtain ⟨u,hu,pJ⟩:=hb.2 c _ hx
     have:=pJ.bK rfl
     subst this
     simpa using hu
    .rintro e w' ⟨rfl,iB⟩
     exact ⟨ρ,.bool true,rfl,.qD ρ _ iB,hs.below iB,.dm ρ rfl⟩
   .cases aj
  .cases aj
 .cases aj
def bl (g:Nat) (h:Heap):Prop:=Holds h g (.row u6 uY true)
theorem zzS {h:Heap} (hs:bl g h):Iq g [] h=some (.bool true,h):=by
 unfold Iq
 rw [hs.get]
 rfl
end
end Go.Am

/- Functions of the library with a contract of the kit's, for the plain machine. No condition. -/
import Derived.Shelf.Small.Strs
import Derived.Lib.Join
import Derived.Lib.Fields
import Derived.Lib.LaidTab
import Derived.MakeChecks
import Derived.Lay
import Derived.Test.YtiapegieocgmfaaGreatDoorG5
set_option linter.unusedSimpArgs false
namespace Go.Am
open Go.RowKit
variable {f:FuncId}
section
variable {P:Program} {gs:List Nat} {ρ:cm} {h:Heap} {w w':World}

theorem bP.below (hs:bP ρ h w) (hb:Below w.heap.size w w'):bP ρ h w' :=
 ⟨λA L hA=>(hs.ff A L hA).keep (λ_ _ h=>h) hb.size (λ_=>hb.block _ (hs.lt hA)),hs.inj⟩
theorem Fr.nN (ρ:cm) (h:Heap) (hb:Below w.heap.size w w'):Fr ρ ρ h h w w' :=
 ⟨λ_ _ h=>h,λA L h1 h2=>(by rw [h1] at h2;cases h2),hb.os,hb.tape,hb.output,hb.size,bj _,bj _,λb hl _=>hb.block b hl,λ_ _ _=>rfl⟩

theorem Ax {T:bI} (hT:T.Fits P) {fn:Func} (hf:T.fn f=some fn) {c:Code} (hc:fn.body=some c) (aK:Array ab) (w:World):(callFunc f aK).run P w=.ok (.enter f aK) w:=by
 obtain ⟨hP,jy,_⟩:=hT.fn f fn hf
 have fV:¬ fn.name="runtime.NumGoroutine":=by simpa using jy
 simp [callFunc,hP,fV,hc]

def AV (P:Program) (gs:List Nat) (f:FuncId) (g:List ab->Heap->Option (ab × Heap)):Prop :=
 ∀ args h v h',g args h=some (v,h')->bx h h'/\∀ ρ w (aK:Array ab),cX gs ρ->bP ρ h w->fJ ρ h h'->cu ρ args aK.toList->ZZ P ρ h h' w v f aK

theorem zsL {g:List ab->Heap->Option (ab × Heap)} (dj:∀ aK w,(callFunc f aK).run P w=.ok (.enter f aK) w)
 (hg:∀ args h v h',g args h=some (v,h')->h'=h/\plain v=true/\∀ ρ w (aK:Array ab),bP ρ h w->cu ρ args aK.toList->Calls P f aK w λe w'=>e=.returned v/\Below w.heap.size w w'):AV P gs f g:=by
 intro args h v h' aj
 obtain ⟨rfl,hp,hc⟩:=hg args h v h' aj
 refine ⟨.refl _,λρ w aK _ hs _ hv=>.inr ⟨dj aK w,(hc ρ w aK hs hv).mono ?_⟩⟩
 rintro e w' ⟨rfl,hb⟩
 exact ⟨ρ,v,rfl,.nN ρ _ hb,hs.below hb,.dH ρ hp⟩

def strs:List ab->Option (List au)
 | []=>some []
 | .string s::l=>(strs l).map (s::·)
 |_=>none

def H5 (args:List ab) (h:Heap):Option (ab × Heap):=match args with
 | [.slice a n _,.string sep] =>
  if n=0 then some (.string ⟨#[]⟩,h) else
  match a with
  |some ⟨A,o,none⟩=>(gD A o n h).bind λl=>(strs l).bind λxs =>
   if n<=140737488355328/\(Lib.join (xs.map (·.data.toList)) sep.data.toList).length<=140737488355328 then some (.string ⟨(Lib.join (xs.map (·.data.toList)) sep.data.toList).toArray⟩,h) else none
  |_=>none
 |_=>none

def Qn (args:List ab) (h:Heap):Option (ab × Heap):=match args with
 | [.string a,.string b]=>some (.int .i64 (Lib.compareBytes a.data.toList b.data.toList),h)
 |_=>none

theorem zsV:∀ (l:List ab) (xs:List au),strs l=some xs->xs.length=l.length/\∀ (j:Nat) (x:au),xs[j]? = some x->l[j]? = some (.string x)
 | [],xs,hx=>by simp only [strs,dO] at hx;subst hx;exact ⟨rfl,λj x hj=>by simp at hj⟩
 |v::l,xs,hx=>by
  cases v with
  |string s =>
   simp only [strs,cA] at hx
   obtain ⟨ys,hy,rfl⟩:=hx
   obtain ⟨h1,h2⟩:=zsV l ys hy
   refine ⟨by simp [h1],λj x hj=>?_⟩
   cases j with
   |zero=>simp at hj;simp [hj]
   |succ j=>simpa using h2 j x (by simpa using hj)
  |_=>simp [strs] at hx

theorem zjy (dj:∀ aK w,(callFunc f aK).run P w=.ok (.enter f aK) w)
 (hc:∀ a b w,Calls P f #[.string a,.string b] w λe w'=>e=.returned (.int .i64 (Lib.compareBytes a.data.toList b.data.toList))/\w'=w):AV P gs f Qn:=by
 refine zsL dj λargs h v h' aj=>?_
 unfold Qn at aj
 split at aj
 .rename_i a b
  cases aj
  refine ⟨rfl,rfl,λρ w aK hs hv=>?_⟩
  obtain ⟨x,m,h1,hx,hv⟩:=hv.of_cons
  obtain ⟨y,m',h2,hy,hv⟩:=hv.of_cons
  have:=hv.of_nil
  subst this
  cases hx
  cases hy
  subst h2
  have mC:aK=#[.string a,.string b]:=by rw [<- AQ];exact h1
  subst mC
  refine (hc a b w).mono ?_
  rintro e w' ⟨rfl,rfl⟩
  exact ⟨rfl,.refl _ _⟩
 .cases aj

theorem zsK (dj:∀ aK w,(callFunc f aK).run P w=.ok (.enter f aK) w)
 (h0:∀ a c sep w,Calls P f #[.slice a 0 c,.string sep] w λe w'=>e=.returned (.string ⟨#[]⟩)/\w'=w)
 (hj:∀ (bk o c:Nat) (xs:List au) (sep:au) (w:World),(∀ (j:Nat) x,xs[j]? = some x->w.cell? ⟨bk,o+j,none⟩=some (.string x))->bk < w.heap.size->xs.length<=140737488355328->xs.length<=c->(Lib.join (xs.map (·.data.toList)) sep.data.toList).length<=140737488355328 ->
  Calls P f #[.slice (some ⟨bk,o,none⟩) xs.length c,.string sep] w λe w'=>e=.returned (.string ⟨(Lib.join (xs.map (·.data.toList)) sep.data.toList).toArray⟩)/\Below w.heap.size w w'):AV P gs f H5:=by
 refine zsL dj λargs h v h' aj=>?_
 unfold H5 at aj
 split at aj
 .rename_i a n c sep
  split at aj
  .rename_i hn
   cases aj
   subst hn
   refine ⟨rfl,rfl,λρ w aK hs hv=>?_⟩
   obtain ⟨x,m,h1,hx,hv⟩:=hv.of_cons
   obtain ⟨y,m',h2,hy,hv⟩:=hv.of_cons
   have:=hv.of_nil
   subst this
   cases hy
   subst h2
   have lJ:∃ a' c',x=.slice a' 0 c':=by cases hx <;> exact ⟨_,_,rfl⟩
   obtain ⟨a',c',rfl⟩:=lJ
   have mC:aK=#[.slice a' 0 c',.string sep]:=by rw [<- AQ];exact h1
   subst mC
   refine (h0 a' c' sep w).mono ?_
   rintro e w' ⟨rfl,rfl⟩
   exact ⟨rfl,.refl _ _⟩
  .rename_i hn
   split at aj
   .rename_i A o
    simp only [cH] at aj
    obtain ⟨l,hl,xs,lJ,aj⟩:=aj
    split at aj
    .rename_i hle
     cases aj
     refine ⟨rfl,rfl,λρ w aK hs hv=>?_⟩
     obtain ⟨x,m,h1,hx,hv⟩:=hv.of_cons
     obtain ⟨y,m',h2,hy,hv⟩:=hv.of_cons
     have:=hv.of_nil
     subst this
     cases hy
     subst h2
     have key:∃ L c',ρ A=some L/\n<=c'/\x=.slice (some ⟨L.b,L.s+o,none⟩) n c':=by
      cases hx with
      |slice hA hc pn en=>exact ⟨_,_,hA,pn,by rw [en (by omega)]⟩
      |b9 hA hc dt pn hk hm en=>exact ⟨_,_,hA,gn pn dt,by rw [(en (by omega)).1]⟩
     obtain ⟨L,c',hA,pn,rfl⟩:=key
     have mC:aK=#[.slice (some ⟨L.b,L.s+o,none⟩) n c',.string sep]:=by rw [<- AQ];exact h1
     subst mC
     obtain ⟨ms,hms,Nf,Gv⟩:=SR hs hA hl
     obtain ⟨vI,hxg⟩:=zsV l xs lJ
     have Gp:xs.length=n:=by rw [vI,hms.1,Nf]
     have:=hj L.b (L.s+o) c' xs sep w (λj x hx=>by
      obtain ⟨y,hy,dp⟩:=hms.get (hxg j x hx)
      cases dp
      exact Gv j _ hy) (hs.lt hA) (by omega) (by omega) hle.2
     rw [Gp] at this
     exact this
    .cases aj
   .cases aj
 .cases aj
end
end Go.Am
namespace Go.Am
open Go.RowKit
variable {g:Nat} {f:FuncId}
section
variable {P:Program} {gs:List Nat} {ρ:cm} {h:Heap} {w:World}

def vU (g:Nat):Heap:=⟨g+1,(Tr.set (g+1) .nil g (.row wX wV true)),g+1⟩
def we (g:Nat):cm:=λA=>if A=g then some ⟨g,0,0⟩ else none
theorem zeM (g A:Nat):(vU g).get A=if A=g then some (.row wX wV true) else none:=by
 unfold Heap.get vU
 simp only [Tr.aJ _ _ _ _ _ (wt g),Tr.get_nil]
 by_cases h1:A=g
 .subst h1;simp
 .simp [h1]
theorem zuI (ht:∀ c,c < 256->w.cell? ⟨g,c,none⟩=some (.int .u8 (Lib.asciiSpaceTab.getD c 0))) (i:Nat) (v:ab) (hv:wX[i]? = some v):w.cell? ⟨g,i,none⟩=some v/\plain v=true:=by
 unfold wX at hv
 rw [lC,cA] at hv
 obtain ⟨z,hz,rfl⟩:=hv
 have hi:i < 256:=by have:=(dP.1 hz).1;rw [Lib.asciiSpaceTab_length] at this;exact this
 refine ⟨?_,rfl⟩
 rw [ht i hi]
 simp [List.getD,hz]
theorem zpH (ht:∀ c,c < 256->w.cell? ⟨g,c,none⟩=some (.int .u8 (Lib.asciiSpaceTab.getD c 0))):bP (we g) (vU g) w:=by
 have aT:g < w.heap.size:=by
  have:=ht 0 (by omega)
  unfold World.cell? at this
  split at this
  .rename_i c _ _ hh;exact (mQ.1 hh).1
  .cases this
 refine ⟨λA L hA=>?_,λA A' L L' hA dS aQ _=>?_⟩
 .unfold we at hA
  split at hA
  .rename_i e
   cases hA
   rw [zeM,aE e]
   refine ⟨⟨aT,λ_=>rfl⟩,λi v hv=>?_⟩
   obtain ⟨h1,h2⟩:=zuI ht i v hv
   exact ⟨v,by simpa using h1,.dH _ h2⟩
  .cases hA
 .unfold we at hA dS
  split at hA
  .split at dS
   .omega
   .cases dS
  .cases hA

theorem zoQ {l:List (String × DataW Unit)} {n:String} {d:DataW Unit}:∀ {ps:List MemPlace},DataW.LaidVars P w l ps->(n,d)∈l ->
 ∃ g t cs fuel p,P.globalNamed n=some g/\(P.globals[g]?).map (·.type)=some t/\w.var? P n=some cs/\DataW.trod (λ_=>()) P w 0 (λ_=>true) false fuel t cs.toList=some (d,p):=by
 induction l with
 |nil=>intro ps _ hm;cases hm
 |cons x l ih =>
  intro ps hl hm
  obtain ⟨m,e⟩:=x
  obtain ⟨g,t,cs,fuel,p,q,h1,h2,h3,h4,h5,_⟩:=hl
  rcases dh.1 hm with h6|h6
  .cases h6;exact ⟨g,t,cs,fuel,p,h1,h2,h3,h4⟩
  .exact ih h5 h6
theorem zne {l:List (String × DataW Unit)} {d:DataW Unit} {t e:TypeId} (hL:laidMetH P l w) (hp:(l.all λx=>x.2.handleName?.isNone)=true) (hm:("strings.asciiSpace",d)∈l) (hd:d=Lib.tabData .u8 Lib.asciiSpaceTab)
 (hg:P.globalNamed "strings.asciiSpace"=some g) (GF:(P.globals[g]?).map (·.type)=some t) (ht:P.underlying t=some (.array 256 e)) (he:P.underlying e=some (.int .u8)) (Dh:P.cellsOf e=1) (hct:P.cellsOf t=256) :
 ∀ c,c < 256->w.cell? ⟨g,c,none⟩=some (.int .u8 (Lib.asciiSpaceTab.getD c 0)):=by
 rw [MakeChecks.laidMetH_plain _ _ _ hp] at hL
 obtain ⟨ps,hl,_⟩:=hL
 obtain ⟨g',t',cs,fuel,p,XI,ht',YF,hx⟩:=zoQ hl hm
 subst hd
 obtain rfl:=Option.some.inj (hg.symm.trans XI)
 obtain rfl:=Option.some.inj (GF.symm.trans ht')
 have hT:Lib.TabIs P w "strings.asciiSpace" .u8 Lib.asciiSpaceTab:=by
  unfold Lib.TabIs
  rw [YF,<- Lib.cells_of_tab ht he Dh hct hx]
 exact λc hc=>hT.cell hg c (by rw [Lib.asciiSpaceTab_length];exact hc)

def uC (s:List UInt8):List ab:=(Lib.fields s).map λl=>Value.string ⟨l.toArray⟩
def HD (g:Nat) (st:TypeId) (args:List ab) (h:Heap):Option (ab × Heap):=match args with
 | [.string s]=>(match h.get g with
  |some (.row _ e true) =>
   if Nat.beq e wV && s.data.toList.all (λb=>Nat.blt b.toNat 128) && Nat.blt s.size 4294967281 && Nat.blt (uC s.data.toList).length 4294967281 then
    some (.slice (some ⟨h.size,0,none⟩) (uC s.data.toList).length (uC s.data.toList).length,h.push (.row (uC s.data.toList) st false))
   else none
  |_=>none)
 |_=>none
theorem zlF {st:TypeId} (BA:g∈gs) (dj:∀ aK w,(callFunc f aK).run P w=.ok (.enter f aK) w)
 (hf:∀ (s:au) (w:World),s.size < 4294967281->(∀ (j:Nat) b,s.data.toList[j]? = some b->b.toNat < 128)->(∀ c:Nat,c < 256->w.cell? ⟨g,c,none⟩=some (.int .u8 (if Lib.isSp (UInt8.ofNat c) then 1 else 0))) ->
  Calls P f #[.string s] w λe w' =>
   e=.returned (.slice (some ⟨w.heap.size,0,none⟩) (Lib.fields s.data.toList).length (Lib.fields s.data.toList).length)/\w'=w.alloc (.cells ((Lib.fields s.data.toList).map λl=>Value.string ⟨l.toArray⟩).toArray st)):AV P gs f (HD g st):=by
 intro args h v h' aj
 unfold HD at aj
 split at aj
 .rename_i s
  split at aj
  .rename_i cs e hg
   split at aj
   .rename_i hc
    simp only [ep,iT] at hc
    obtain ⟨⟨⟨hm,Xi⟩,dx⟩,ud⟩:=hc
    cases aj
    refine ⟨.push _ _,λρ w aK hG hs bW hv=>.inr ⟨dj aK w,?_⟩⟩
    obtain ⟨y,m,he,h1,h2⟩:=hv.of_cons
    cases h1
    have wO:=h2.of_nil
    subst wO
    have FT:aK=#[.string s]:=by apply Array.ext';simpa using he
    subst FT
    obtain ⟨t,hρ⟩:=hG g BA
    have hb:=hs.ff g _ hρ
    rw [hg] at hb
    have lS:=hb.1.2 (Nat.eq_of_beq_eq_true hm)
    have eD:∀ c:Nat,c < 256->w.cell? ⟨g,c,none⟩=some (.int .u8 (if Lib.isSp (UInt8.ofNat c) then 1 else 0)):=by
     intro c hc
     have hx:cs[c]? = some (.int .u8 (Lib.asciiSpaceTab.getD c 0)):=by
      rw [lS]
      unfold wX
      rw [lC]
      have:c < Lib.asciiSpaceTab.length:=by rw [Lib.asciiSpaceTab_length];exact hc
      simp [List.getD,this]
     obtain ⟨u,hu,lZ⟩:=hb.2 c _ hx
     have:=lZ.bD rfl
     subst this
     rw [Lib.asciiSpaceTab_at c hc] at hu
     simpa using hu
    have fW:ρ h.size=none:=bW h.size (bj _) (wt _)
    have Yw:s.size < 4294967281:=by simpa [Nat.blt_eq] using dx
    have Mw:∀ (j:Nat) b,s.data.toList[j]? = some b->b.toNat < 128:=λj b hb=>by
     have:=Xi b (ic hb)
     simpa [Nat.blt_eq] using this
    refine (hf s w Yw Mw eD).mono ?_
    rintro e w' ⟨rfl,rfl⟩
    have mn:(uC s.data.toList).all mO=true:=by
     unfold uC
     rw [List.all_map,iT]
     intro x _
     rfl
    have hlen:(uC s.data.toList).length=(Lib.fields s.data.toList).length:=by simp [uC]
    obtain ⟨ρ',y6,cW,dV⟩:=Jd (W:=w.alloc (.cells ((Lib.fields s.data.toList).map λl=>Value.string ⟨l.toArray⟩).toArray st)) (cs:=uC s.data.toList) (m:=uC s.data.toList) (e:=st) hs fW rfl rfl rfl rfl
     (by refine sq (by simp [uC]) rfl (λj _=>by rw [jo];rfl)) (cu.plain ρ mn)
    refine ⟨ρ',_,rfl,cW,dV,?_⟩
    have XD:(uC s.data.toList).length < 4294967281:=by simpa [Nat.blt_eq] using ud
    rw [hlen] at XD ⊢
    exact VR.slice (o:=0) y6 (by unfold G;omega) (bj _) (λ_=>rfl)
   .cases aj
  .cases aj
 .cases aj
def zoK (n:Nat):FK:=λv h=>match v with
 | .bool b=>(match b with|true=>Nat.ble n h.low|false=>false)
 |_=>false
def zi2 (n:Nat) (r:Option (ab × Heap)):Bool:=match r with
 |some x=>zoK n x.1 x.2
 |none=>false
theorem zrr {T:bI} {ov:Ov} (nF:P.follows .mixedOrders=true) (hT:T.Fits P) (BA:T.gs=[g]) (r6:CV P T.gs ov) {n:Nat} (hf:ov f=none) (ey:zi2 (g+1) (call P T ov n (.func f) [] (vU g))=true) (w:World)
 (ht:∀ c,c < 256->w.cell? ⟨g,c,none⟩=some (.int .u8 (Lib.asciiSpaceTab.getD c 0))) :
 Calls P f #[] w λe w'=>e=.returned (.bool true)/\Below w.heap.size w w':=by
 match hc:call P T ov n (.func f) [] (vU g),ey with
 |some (v,h'),hk =>
  simp only [zi2] at hk
  unfold zoK at hk
  split at hk
  .rename_i b
   split at hk
   .refine zye nF hT r6 hf hc w (we g) (by rw [BA];intro q hq;simp at hq;subst hq;exact ⟨0,by simp [we]⟩) (zpH ht) ?_ ?_
    .intro A hA
     unfold we
     rw [az]
     have:g+1<=A:=hA
     omega
    .intro A L hA
     unfold we at hA
     split at hA
     .have:=Nat.le_of_ble_eq_true hk;omega
     .cases hA
   .cases hk
  .cases hk
end
theorem zrR {H:Type} {enc:TypeId × ab->H} {C:Checked} {os:Os} {fn:Func} {s:ChangeSpec} {conds:List PathCond} {apart:Bool} {X:World->Array ab->Prop} (w0:World) (args:Array ab) (fuel:Nat) (vx:w0.os=os)
 (hv:(w0.forCall (λ_ _=>0) ⟨#[],args,[]⟩).variablesZipB C.prog=true)
 (hr:((w0.forCall (λ_ _=>0) ⟨#[],args,[]⟩).heap.toList.drop C.prog.globals.size).take ((begin C.prog (λ_ _=>0) default).world.heap.size - C.prog.globals.size) =
  (begin C.prog (λ_ _=>0) default).world.heap.toList.drop C.prog.globals.size)
 (cE:Input.okWideB C.prog (w0.forCall (λ_ _=>0) ⟨#[],args,[]⟩) f ⟨#[],args,[]⟩=true)
 (nH:s.preB enc C.prog fn conds apart (w0.forCall (λ_ _=>0) ⟨#[],args,[]⟩).memory args fuel=true)
 (dx:s.sizedB enc C.prog fn apart (w0.forCall (λ_ _=>0) ⟨#[],args,[]⟩).memory args fuel=true)
 (hx:X (w0.forCall (λ_ _=>0) ⟨#[],args,[]⟩).memory args) :
 ∃ (w:World) (tape:Tape) (i:Input),w.os=os/\(w.forCall tape i).Shaped C.prog/\i.vars=[]/\Input.okWide C.prog (w.forCall tape i) .any w.heap.size f i /\
   ((s.pre enc C.prog fn conds apart (w.forCall tape i).memory i.args/\X (w.forCall tape i).memory i.args)/\sizedMet enc C.prog fn (OpenSpec.ofChange s) apart (w.forCall tape i).memory i.args)/\({}:Assume).holds C.prog (lone (Frame.enter C.prog f i.args .normal) [] (w.forCall tape i)) :=
 ⟨w0,λ_ _=>0,⟨#[],args,[]⟩,vx,World.shaped_of_ZipB hv hr,(Input.okWide_of_okWideB (base:=0) cE).1,(Input.okWide_of_okWideB cE).2,⟨⟨ChangeSpec.pre_of_preB nH,hx⟩,sizedMet_of_sizedB dx⟩,by
  simp only [Assume.holds]
  exact ⟨by simp,by simp,λh=>by simp at h,by simp,by simp⟩⟩
end Go.Am
namespace Go.Am
open Go.RowKit Go.ChangeShapes Go.WideShapes Go.ChangeAt
section
variable {P:Program} {T:bI} {ov:Ov} {W:World} {H:Type} {enc:TypeId × ab->H}
def J3 (g:Nat) (args:List ab) (h:Heap):Option (ab × Heap):=match args with
 | []=>(match h.get g with
  |some (.row _ e true)=>if Nat.beq e wV then some (.bool true,h) else none
  |_=>none)
 |_=>none
theorem zxf {gs:List Nat} {f:FuncId} {g:Nat} (BA:g∈gs) (dj:∀ aK w,(callFunc f aK).run P w=.ok (.enter f aK) w) (hc:∀ w,(∀ c,c < 256->w.cell? ⟨g,c,none⟩=some (.int .u8 (Lib.asciiSpaceTab.getD c 0)))->Calls P f #[] w λe w'=>e=.returned (.bool true)/\Below w.heap.size w w'):AV P gs f (J3 g):=by
 intro args h v h' aj
 unfold J3 at aj
 split at aj
 .split at aj
  .rename_i cs e hg
   split at aj
   .rename_i hm
    cases aj
    refine ⟨.refl _,λρ w aK hG hs bW hv=>.inr ⟨dj aK w,?_⟩⟩
    have mC:aK=#[]:=by rw [<- AQ];exact hv.of_nil
    subst mC
    obtain ⟨t,hρ⟩:=hG g BA
    have hb:=hs.ff g _ hρ
    rw [hg] at hb
    have lS:=hb.1.2 (Nat.eq_of_beq_eq_true hm)
    refine (hc w (λc hc=>?_)).mono ?_
    .have hx:cs[c]? = some (.int .u8 (Lib.asciiSpaceTab.getD c 0)):=by
      rw [lS]
      unfold wX
      rw [lC]
      have:c < Lib.asciiSpaceTab.length:=by rw [Lib.asciiSpaceTab_length];exact hc
      simp [List.getD,this]
     obtain ⟨u,hu,lZ⟩:=hb.2 c _ hx
     have:=lZ.bD rfl
     subst this
     simpa using hu
    .rintro e w' ⟨rfl,qA⟩
     exact ⟨ρ,.bool true,rfl,.nN ρ _ qA,hs.below qA,.dH ρ rfl⟩
   .cases aj
  .cases aj
 .cases aj
def bd (g:Nat) (h:Heap):Prop:=Holds h g (.row wX wV true)
theorem zzD {g:Nat} {h:Heap} (hs:bd g h):J3 g [] h=some (.bool true,h):=by
 unfold J3
 rw [hs.get]
 rfl
end
end Go.Am

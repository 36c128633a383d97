/- Functions of the library with a contract of the kit's, for the plain machine. No condition. -/
import Derived.Shelf.Small.Strs
import Derived.Lib.Join
import Derived.Lib.Fields
import Derived.Lib.LaidTab
import Derived.MakeChecks
import Derived.Lay
import Derived.Test.YtmamldleclamjaaGreatDoorG5
set_option linter.unusedSimpArgs false
namespace Go.Am
open Go.RowKit
variable {f:FuncId}
section
variable {P:Program} {gs:List Nat} {ρ:cn} {h:Heap} {w w':World}

theorem bR.below (hs:bR ρ h w) (hb:Below w.heap.size w w'):bR ρ h w' :=
 ⟨λA L hA=>(hs.j5 A L hA).keep (λ_ _ h=>h) hb.size (λ_=>hb.block _ (hs.lt hA)),hs.inj⟩
theorem Fr.re (ρ:cn) (h:Heap) (hb:Below w.heap.size w w'):Fr ρ ρ h h w w' :=
 ⟨λ_ _ h=>h,λA L h1 h2=>(by rw [h1] at h2;cases h2),hb.os,hb.tape,hb.output,hb.size,bo _,bo _,λb hl _=>hb.block b hl,λ_ _ _=>rfl⟩

theorem Dv {T:bO} (hT:T.Fits P) {fn:Func} (hf:T.fn f=some fn) {c:Code} (hc:fn.body=some c) (aO:Array ah) (w:World):(callFunc f aO).run P w=.ok (.enter f aO) w:=by
 obtain ⟨hP,ju,_⟩:=hT.fn f fn hf
 have gh:¬ fn.name="runtime.NumGoroutine":=by simpa using ju
 simp [callFunc,hP,gh,hc]

def Ee (P:Program) (gs:List Nat) (f:FuncId) (g:List ah->Heap->Option (ah × Heap)):Prop :=
 ∀ args h v h',g args h=some (v,h')->bA h h'/\∀ ρ w (aO:Array ah),cX gs ρ->bR ρ h w->fQ ρ h h'->cx ρ args aO.toList->ZD P ρ h h' w v f aO

theorem zsO {g:List ah->Heap->Option (ah × Heap)} (ez:∀ aO w,(callFunc f aO).run P w=.ok (.enter f aO) w)
 (hg:∀ args h v h',g args h=some (v,h')->h'=h/\plain v=true/\∀ ρ w (aO:Array ah),bR ρ h w->cx ρ args aO.toList->Calls P f aO w λe w'=>e=.returned v/\Below w.heap.size w w'):Ee P gs f g:=by
 intro args h v h' ak
 obtain ⟨rfl,hp,hc⟩:=hg args h v h' ak
 refine ⟨.refl _,λρ w aO _ hs _ hv=>.inr ⟨ez aO w,(hc ρ w aO hs hv).mono ?_⟩⟩
 rintro e w' ⟨rfl,hb⟩
 exact ⟨ρ,v,rfl,.re ρ _ hb,hs.below hb,.dC ρ hp⟩

def strs:List ah->Option (List au)
 | []=>some []
 | .string s::l=>(strs l).map (s::·)
 |_=>none

def HE (args:List ah) (h:Heap):Option (ah × Heap):=match args with
 | [.slice a n _,.string sep] =>
  if n=0 then some (.string ⟨#[]⟩,h) else
  match a with
  |some ⟨A,o,none⟩=>(iQ A o n h).bind λl=>(strs l).bind λxs =>
   if n<=140737488355328/\(Lib.join (xs.map (·.data.toList)) sep.data.toList).length<=140737488355328 then some (.string ⟨(Lib.join (xs.map (·.data.toList)) sep.data.toList).toArray⟩,h) else none
  |_=>none
 |_=>none

def PV (args:List ah) (h:Heap):Option (ah × Heap):=match args with
 | [.string a,.string b]=>some (.int .i64 (Lib.compareBytes a.data.toList b.data.toList),h)
 |_=>none

theorem zsZ:∀ (l:List ah) (xs:List au),strs l=some xs->xs.length=l.length/\∀ (j:Nat) (x:au),xs[j]? = some x->l[j]? = some (.string x)
 | [],xs,hx=>by simp only [strs,eh] at hx;subst hx;exact ⟨rfl,λj x hj=>by simp at hj⟩
 |v::l,xs,hx=>by
  cases v with
  |string s =>
   simp only [strs,cD] at hx
   obtain ⟨ys,hy,rfl⟩:=hx
   obtain ⟨h1,h2⟩:=zsZ l ys hy
   refine ⟨by simp [h1],λj x hj=>?_⟩
   cases j with
   |zero=>simp at hj;simp [hj]
   |succ j=>simpa using h2 j x (by simpa using hj)
  |_=>simp [strs] at hx

theorem zj7 (ez:∀ aO w,(callFunc f aO).run P w=.ok (.enter f aO) w)
 (hc:∀ a b w,Calls P f #[.string a,.string b] w λe w'=>e=.returned (.int .i64 (Lib.compareBytes a.data.toList b.data.toList))/\w'=w):Ee P gs f PV:=by
 refine zsO ez λargs h v h' ak=>?_
 unfold PV at ak
 split at ak
 .rename_i a b
  cases ak
  refine ⟨rfl,rfl,λρ w aO hs hv=>?_⟩
  obtain ⟨x,m,h1,hx,hv⟩:=hv.of_cons
  obtain ⟨y,m',h2,hy,hv⟩:=hv.of_cons
  have:=hv.of_nil
  subst this
  cases hx
  cases hy
  subst h2
  have rM:aO=#[.string a,.string b]:=by rw [<- JI];exact h1
  subst rM
  refine (hc a b w).mono ?_
  rintro e w' ⟨rfl,rfl⟩
  exact ⟨rfl,.refl _ _⟩
 .cases ak

theorem zsN (ez:∀ aO w,(callFunc f aO).run P w=.ok (.enter f aO) w)
 (h0:∀ a c sep w,Calls P f #[.slice a 0 c,.string sep] w λe w'=>e=.returned (.string ⟨#[]⟩)/\w'=w)
 (hj:∀ (bk o c:Nat) (xs:List au) (sep:au) (w:World),(∀ (j:Nat) x,xs[j]? = some x->w.cell? ⟨bk,o+j,none⟩=some (.string x))->bk < w.heap.size->xs.length<=140737488355328->xs.length<=c->(Lib.join (xs.map (·.data.toList)) sep.data.toList).length<=140737488355328 ->
  Calls P f #[.slice (some ⟨bk,o,none⟩) xs.length c,.string sep] w λe w'=>e=.returned (.string ⟨(Lib.join (xs.map (·.data.toList)) sep.data.toList).toArray⟩)/\Below w.heap.size w w'):Ee P gs f HE:=by
 refine zsO ez λargs h v h' ak=>?_
 unfold HE at ak
 split at ak
 .rename_i a n c sep
  split at ak
  .rename_i hn
   cases ak
   subst hn
   refine ⟨rfl,rfl,λρ w aO hs hv=>?_⟩
   obtain ⟨x,m,h1,hx,hv⟩:=hv.of_cons
   obtain ⟨y,m',h2,hy,hv⟩:=hv.of_cons
   have:=hv.of_nil
   subst this
   cases hy
   subst h2
   have o8:∃ a' c',x=.slice a' 0 c':=by cases hx <;> exact ⟨_,_,rfl⟩
   obtain ⟨a',c',rfl⟩:=o8
   have rM:aO=#[.slice a' 0 c',.string sep]:=by rw [<- JI];exact h1
   subst rM
   refine (h0 a' c' sep w).mono ?_
   rintro e w' ⟨rfl,rfl⟩
   exact ⟨rfl,.refl _ _⟩
  .rename_i hn
   split at ak
   .rename_i A o
    simp only [cL] at ak
    obtain ⟨l,hl,xs,o8,ak⟩:=ak
    split at ak
    .rename_i hle
     cases ak
     refine ⟨rfl,rfl,λρ w aO hs hv=>?_⟩
     obtain ⟨x,m,h1,hx,hv⟩:=hv.of_cons
     obtain ⟨y,m',h2,hy,hv⟩:=hv.of_cons
     have:=hv.of_nil
     subst this
     cases hy
     subst h2
     have key:∃ L c',ρ A=some L/\n<=c'/\x=.slice (some ⟨L.b,L.s+o,none⟩) n c':=by
      cases hx with
      |slice hA hc ua ft=>exact ⟨_,_,hA,ua,by rw [ft (by omega)]⟩
      |cA hA hc dj ua hk hm ft=>exact ⟨_,_,hA,hY ua dj,by rw [(ft (by omega)).1]⟩
     obtain ⟨L,c',hA,ua,rfl⟩:=key
     have rM:aO=#[.slice (some ⟨L.b,L.s+o,none⟩) n c',.string sep]:=by rw [<- JI];exact h1
     subst rM
     obtain ⟨ms,hms,MP,FW⟩:=Sx hs hA hl
     obtain ⟨YM,hxg⟩:=zsZ l xs o8
     have MS:xs.length=n:=by rw [YM,hms.1,MP]
     have:=hj L.b (L.s+o) c' xs sep w (λj x hx=>by
      obtain ⟨y,hy,dm⟩:=hms.get (hxg j x hx)
      cases dm
      exact FW j _ hy) (hs.lt hA) (by omega) (by omega) hle.2
     rw [MS] at this
     exact this
    .cases ak
   .cases ak
 .cases ak
end
end Go.Am
namespace Go.Am
open Go.RowKit
variable {g:Nat} {f:FuncId}
section
variable {P:Program} {gs:List Nat} {ρ:cn} {h:Heap} {w:World}

def vM (g:Nat):Heap:=⟨g+1,(Tr.set (g+1) .nil g (.row wN wL true)),g+1⟩
def vR (g:Nat):cn:=λA=>if A=g then some ⟨g,0,0⟩ else none
theorem Z4 (g A:Nat):(vM g).get A=if A=g then some (.row wN wL true) else none:=by
 unfold Heap.get vM
 simp only [Tr.aJ _ _ _ _ _ (so g),Tr.get_nil]
 by_cases h1:A=g
 .subst h1;simp
 .simp [h1]
theorem zuU (ht:∀ c,c < 256->w.cell? ⟨g,c,none⟩=some (.int .u8 (Lib.asciiSpaceTab.getD c 0))) (i:Nat) (v:ah) (hv:wN[i]? = some v):w.cell? ⟨g,i,none⟩=some v/\plain v=true:=by
 unfold wN at hv
 rw [lS,cD] at hv
 obtain ⟨z,hz,rfl⟩:=hv
 have hi:i < 256:=by have:=(dH.1 hz).1;rw [Lib.asciiSpaceTab_length] at this;exact this
 refine ⟨?_,rfl⟩
 rw [ht i hi]
 simp [List.getD,hz]
theorem zpN (ht:∀ c,c < 256->w.cell? ⟨g,c,none⟩=some (.int .u8 (Lib.asciiSpaceTab.getD c 0))):bR (vR g) (vM g) w:=by
 have aW:g < w.heap.size:=by
  have:=ht 0 (by omega)
  unfold World.cell? at this
  split at this
  .rename_i c _ _ hh;exact (mO.1 hh).1
  .cases this
 refine ⟨λA L hA=>?_,λA A' L L' hA dO aS _=>?_⟩
 .unfold vR at hA
  split at hA
  .rename_i e
   cases hA
   rw [Z4,aB e]
   refine ⟨⟨aW,λ_=>rfl⟩,λi v hv=>?_⟩
   obtain ⟨h1,h2⟩:=zuU ht i v hv
   exact ⟨v,by simpa using h1,.dC _ h2⟩
  .cases hA
 .unfold vR at hA dO
  split at hA
  .split at dO
   .omega
   .cases dO
  .cases hA

theorem zo1 {l:List (String × DataW Unit)} {n:String} {d:DataW Unit}:∀ {ps:List MemPlace},DataW.LaidVars P w l ps->(n,d)∈l ->
 ∃ g t cs fuel p,P.globalNamed n=some g/\(P.globals[g]?).map (·.type)=some t/\w.var? P n=some cs/\DataW.trod (λ_=>()) P w 0 (λ_=>true) false fuel t cs.toList=some (d,p):=by
 induction l with
 |nil=>intro ps _ hm;cases hm
 |cons x l ih =>
  intro ps hl hm
  obtain ⟨m,e⟩:=x
  obtain ⟨g,t,cs,fuel,p,q,h1,h2,h3,h4,h5,_⟩:=hl
  rcases cJ.1 hm with h6|h6
  .cases h6;exact ⟨g,t,cs,fuel,p,h1,h2,h3,h4⟩
  .exact ih h5 h6
theorem znl {l:List (String × DataW Unit)} {d:DataW Unit} {t e:TypeId} (hL:laidMetH P l w) (hp:(l.all λx=>x.2.handleName?.isNone)=true) (hm:("strings.asciiSpace",d)∈l) (hd:d=Lib.tabData .u8 Lib.asciiSpaceTab)
 (hg:P.globalNamed "strings.asciiSpace"=some g) (F8:(P.globals[g]?).map (·.type)=some t) (ht:P.underlying t=some (.array 256 e)) (he:P.underlying e=some (.int .u8)) (CH:P.cellsOf e=1) (hct:P.cellsOf t=256) :
 ∀ c,c < 256->w.cell? ⟨g,c,none⟩=some (.int .u8 (Lib.asciiSpaceTab.getD c 0)):=by
 rw [MakeChecks.laidMetH_plain _ _ _ hp] at hL
 obtain ⟨ps,hl,_⟩:=hL
 obtain ⟨g',t',cs,fuel,p,u6,ht',Yx,hx⟩:=zo1 hl hm
 subst hd
 obtain rfl:=Option.some.inj (hg.symm.trans u6)
 obtain rfl:=Option.some.inj (F8.symm.trans ht')
 have hT:Lib.TabIs P w "strings.asciiSpace" .u8 Lib.asciiSpaceTab:=by
  unfold Lib.TabIs
  rw [Yx,<- Lib.cells_of_tab ht he CH hct hx]
 exact λc hc=>hT.cell hg c (by rw [Lib.asciiSpaceTab_length];exact hc)

def uq (s:List UInt8):List ah:=(Lib.fields s).map λl=>Value.string ⟨l.toArray⟩
def He (g:Nat) (st:TypeId) (args:List ah) (h:Heap):Option (ah × Heap):=match args with
 | [.string s]=>(match h.get g with
  |some (.row _ e true) =>
   if Nat.beq e wL && s.data.toList.all (λb=>Nat.blt b.toNat 128) && Nat.blt s.size 4294967281 && Nat.blt (uq s.data.toList).length 4294967281 then
    some (.slice (some ⟨h.size,0,none⟩) (uq s.data.toList).length (uq s.data.toList).length,h.push (.row (uq s.data.toList) st false))
   else none
  |_=>none)
 |_=>none
theorem zlU {st:TypeId} (u7:g∈gs) (ez:∀ aO w,(callFunc f aO).run P w=.ok (.enter f aO) w)
 (hf:∀ (s:au) (w:World),s.size < 4294967281->(∀ (j:Nat) b,s.data.toList[j]? = some b->b.toNat < 128)->(∀ c:Nat,c < 256->w.cell? ⟨g,c,none⟩=some (.int .u8 (if Lib.isSp (UInt8.ofNat c) then 1 else 0))) ->
  Calls P f #[.string s] w λe w' =>
   e=.returned (.slice (some ⟨w.heap.size,0,none⟩) (Lib.fields s.data.toList).length (Lib.fields s.data.toList).length)/\w'=w.alloc (.cells ((Lib.fields s.data.toList).map λl=>Value.string ⟨l.toArray⟩).toArray st)):Ee P gs f (He g st):=by
 intro args h v h' ak
 unfold He at ak
 split at ak
 .rename_i s
  split at ak
  .rename_i cs e hg
   split at ak
   .rename_i hc
    simp only [eo,jh] at hc
    obtain ⟨⟨⟨hm,Fc⟩,dF⟩,zF⟩:=hc
    cases ak
    refine ⟨.push _ _,λρ w aO hG hs cp hv=>.inr ⟨ez aO w,?_⟩⟩
    obtain ⟨y,m,he,h1,h2⟩:=hv.of_cons
    cases h1
    have wz:=h2.of_nil
    subst wz
    have Fg:aO=#[.string s]:=by apply Array.ext';simpa using he
    subst Fg
    obtain ⟨t,hρ⟩:=hG g u7
    have hb:=hs.j5 g _ hρ
    rw [hg] at hb
    have mj:=hb.1.2 (Nat.eq_of_beq_eq_true hm)
    have eY:∀ c:Nat,c < 256->w.cell? ⟨g,c,none⟩=some (.int .u8 (if Lib.isSp (UInt8.ofNat c) then 1 else 0)):=by
     intro c hc
     have hx:cs[c]? = some (.int .u8 (Lib.asciiSpaceTab.getD c 0)):=by
      rw [mj]
      unfold wN
      rw [lS]
      have:c < Lib.asciiSpaceTab.length:=by rw [Lib.asciiSpaceTab_length];exact hc
      simp [List.getD,this]
     obtain ⟨u,hu,mL⟩:=hb.2 c _ hx
     have:=mL.bI rfl
     subst this
     rw [Lib.asciiSpaceTab_at c hc] at hu
     simpa using hu
    have gi:ρ h.size=none:=cp h.size (bo _) (so _)
    have Ym:s.size < 4294967281:=by simpa [Nat.blt_eq] using dF
    have Mf:∀ (j:Nat) b,s.data.toList[j]? = some b->b.toNat < 128:=λj b hb=>by
     have:=Fc b (fW hb)
     simpa [Nat.blt_eq] using this
    refine (hf s w Ym Mf eY).mono ?_
    rintro e w' ⟨rfl,rfl⟩
    have k0:(uq s.data.toList).all mz=true:=by
     unfold uq
     rw [List.all_map,jh]
     intro x _
     rfl
    have hlen:(uq s.data.toList).length=(Lib.fields s.data.toList).length:=by simp [uq]
    obtain ⟨ρ',yB,cQ,dR⟩:=IK (W:=w.alloc (.cells ((Lib.fields s.data.toList).map λl=>Value.string ⟨l.toArray⟩).toArray st)) (cs:=uq s.data.toList) (m:=uq s.data.toList) (e:=st) hs gi rfl rfl rfl rfl
     (by refine se (by simp [uq]) rfl (λj _=>by rw [j3];rfl)) (cx.plain ρ k0)
    refine ⟨ρ',_,rfl,cQ,dR,?_⟩
    have Xs:(uq s.data.toList).length < 4294967281:=by simpa [Nat.blt_eq] using zF
    rw [hlen] at Xs ⊢
    exact VR.slice (o:=0) yB (by unfold G;omega) (bo _) (λ_=>rfl)
   .cases ak
  .cases ak
 .cases ak
def zoT (n:Nat):FK:=λv h=>match v with
 | .bool b=>(match b with|true=>Nat.ble n h.low|false=>false)
 |_=>false
def zjv (n:Nat) (r:Option (ah × Heap)):Bool:=match r with
 |some x=>zoT n x.1 x.2
 |none=>false
theorem zru {T:bO} {ov:Ov} (na:P.follows .mixedOrders=true) (hT:T.Fits P) (u7:T.gs=[g]) (rS:Cj P T.gs ov) {n:Nat} (hf:ov f=none) (eC:zjv (g+1) (call P T ov n (.func f) [] (vM g))=true) (w:World)
 (ht:∀ c,c < 256->w.cell? ⟨g,c,none⟩=some (.int .u8 (Lib.asciiSpaceTab.getD c 0))) :
 Calls P f #[] w λe w'=>e=.returned (.bool true)/\Below w.heap.size w w':=by
 match hc:call P T ov n (.func f) [] (vM g),eC with
 |some (v,h'),hk =>
  simp only [zjv] at hk
  unfold zoT at hk
  split at hk
  .rename_i b
   split at hk
   .refine zyD na hT rS hf hc w (vR g) (by rw [u7];intro q hq;simp at hq;subst hq;exact ⟨0,by simp [vR]⟩) (zpN ht) ?_ ?_
    .intro A hA
     unfold vR
     rw [aA]
     have:g+1<=A:=hA
     omega
    .intro A L hA
     unfold vR at hA
     split at hA
     .have:=Nat.le_of_ble_eq_true hk;omega
     .cases hA
   .cases hk
  .cases hk
end
theorem zrT {H:Type} {enc:TypeId × ah->H} {C:Checked} {os:Os} {fn:Func} {s:ChangeSpec} {conds:List PathCond} {apart:Bool} {X:World->Array ah->Prop} (w0:World) (args:Array ah) (fuel:Nat) (vo:w0.os=os)
 (hv:(w0.forCall (λ_ _=>0) ⟨#[],args,[]⟩).variablesZipB C.prog=true)
 (hr:((w0.forCall (λ_ _=>0) ⟨#[],args,[]⟩).heap.toList.drop C.prog.globals.size).take ((begin C.prog (λ_ _=>0) default).world.heap.size - C.prog.globals.size) =
  (begin C.prog (λ_ _=>0) default).world.heap.toList.drop C.prog.globals.size)
 (cE:Input.okWideB C.prog (w0.forCall (λ_ _=>0) ⟨#[],args,[]⟩) f ⟨#[],args,[]⟩=true)
 (nc:s.preB enc C.prog fn conds apart (w0.forCall (λ_ _=>0) ⟨#[],args,[]⟩).memory args fuel=true)
 (dF:s.sizedB enc C.prog fn apart (w0.forCall (λ_ _=>0) ⟨#[],args,[]⟩).memory args fuel=true)
 (hx:X (w0.forCall (λ_ _=>0) ⟨#[],args,[]⟩).memory args) :
 ∃ (w:World) (tape:Tape) (i:Input),w.os=os/\(w.forCall tape i).Shaped C.prog/\i.vars=[]/\Input.okWide C.prog (w.forCall tape i) .any w.heap.size f i /\
   ((s.pre enc C.prog fn conds apart (w.forCall tape i).memory i.args/\X (w.forCall tape i).memory i.args)/\sizedMet enc C.prog fn (OpenSpec.ofChange s) apart (w.forCall tape i).memory i.args)/\({}:Assume).holds C.prog (lone (Frame.enter C.prog f i.args .normal) [] (w.forCall tape i)) :=
 ⟨w0,λ_ _=>0,⟨#[],args,[]⟩,vo,World.shaped_of_ZipB hv hr,(Input.okWide_of_okWideB (base:=0) cE).1,(Input.okWide_of_okWideB cE).2,⟨⟨ChangeSpec.pre_of_preB nc,hx⟩,sizedMet_of_sizedB dF⟩,by
  simp only [Assume.holds]
  exact ⟨by simp,by simp,λh=>by simp at h,by simp,by simp⟩⟩
end Go.Am
namespace Go.Am
open Go.RowKit Go.ChangeShapes Go.WideShapes Go.ChangeAt
section
variable {P:Program} {T:bO} {ov:Ov} {W:World} {H:Type} {enc:TypeId × ah->H}
def JR (g:Nat) (args:List ah) (h:Heap):Option (ah × Heap):=match args with
 | []=>(match h.get g with
  |some (.row _ e true)=>if Nat.beq e wL then some (.bool true,h) else none
  |_=>none)
 |_=>none
theorem zxx {gs:List Nat} {f:FuncId} {g:Nat} (u7:g∈gs) (ez:∀ aO w,(callFunc f aO).run P w=.ok (.enter f aO) w) (hc:∀ w,(∀ c,c < 256->w.cell? ⟨g,c,none⟩=some (.int .u8 (Lib.asciiSpaceTab.getD c 0)))->Calls P f #[] w λe w'=>e=.returned (.bool true)/\Below w.heap.size w w'):Ee P gs f (JR g):=by
 intro args h v h' ak
 unfold JR at ak
 split at ak
 .split at ak
  .rename_i cs e hg
   split at ak
   .rename_i hm
    cases ak
    refine ⟨.refl _,λρ w aO hG hs cp hv=>.inr ⟨ez aO w,?_⟩⟩
    have rM:aO=#[]:=by rw [<- JI];exact hv.of_nil
    subst rM
    obtain ⟨t,hρ⟩:=hG g u7
    have hb:=hs.j5 g _ hρ
    rw [hg] at hb
    have mj:=hb.1.2 (Nat.eq_of_beq_eq_true hm)
    refine (hc w (λc hc=>?_)).mono ?_
    .have hx:cs[c]? = some (.int .u8 (Lib.asciiSpaceTab.getD c 0)):=by
      rw [mj]
      unfold wN
      rw [lS]
      have:c < Lib.asciiSpaceTab.length:=by rw [Lib.asciiSpaceTab_length];exact hc
      simp [List.getD,this]
     obtain ⟨u,hu,mL⟩:=hb.2 c _ hx
     have:=mL.bI rfl
     subst this
     simpa using hu
    .rintro e w' ⟨rfl,nF⟩
     exact ⟨ρ,.bool true,rfl,.re ρ _ nF,hs.below nF,.dC ρ rfl⟩
   .cases ak
  .cases ak
 .cases ak
def bc (g:Nat) (h:Heap):Prop:=Holds h g (.row wN wL true)
theorem zz2 {g:Nat} {h:Heap} (hs:bc g h):JR g [] h=some (.bool true,h):=by
 unfold JR
 rw [hs.get]
 rfl
end
end Go.Am

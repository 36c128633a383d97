/- Functions of the library with a contract of the kit's, for the plain machine. No condition. -/
import Derived.Shelf.Small.Strs
import Derived.Lib.Join
import Derived.Lib.Fields
import Derived.Lib.LaidTab
import Derived.MakeChecks
import Derived.Lay
import Derived.Test.YtkgojconmeeegaaGreatDoorG5
set_option linter.unusedSimpArgs false
namespace Go.Am
open Go.RowKit
variable {f:FuncId}
section
variable {P:Program} {gs:List Nat} {ρ:cI} {h:Heap} {w w':World}

theorem bT.below (hs:bT ρ h w) (hb:Below w.heap.size w w'):bT ρ h w' :=
 ⟨λA L hA=>(hs.fL A L hA).keep (λ_ _ h=>h) hb.size (λ_=>hb.block _ (hs.lt hA)),hs.inj⟩
theorem Fr.nG (ρ:cI) (h:Heap) (hb:Below w.heap.size w w'):Fr ρ ρ h h w w' :=
 ⟨λ_ _ h=>h,λA L h1 h2=>(by rw [h1] at h2;cases h2),hb.os,hb.tape,hb.output,hb.size,bo _,bo _,λb hl _=>hb.block b hl,λ_ _ _=>rfl⟩

theorem Ax {T:bL} (hT:T.Fits P) {fn:Func} (hf:T.fn f=some fn) {c:Code} (hc:fn.body=some c) (aL:Array ae) (w:World):(callFunc f aL).run P w=.ok (.enter f aL) w:=by
 obtain ⟨hP,jw,_⟩:=hT.fn f fn hf
 have fZ:¬ fn.name="runtime.NumGoroutine":=by simpa using jw
 simp [callFunc,hP,fZ,hc]

def AZ (P:Program) (gs:List Nat) (f:FuncId) (g:List ae->Heap->Option (ae × Heap)):Prop :=
 ∀ args h v h',g args h=some (v,h')->bA h h'/\∀ ρ w (aL:Array ae),dt gs ρ->bT ρ h w->fO ρ h h'->cB ρ args aL.toList->zBG P ρ h h' w v f aL

theorem ztz {g:List ae->Heap->Option (ae × Heap)} (dh:∀ aL w,(callFunc f aL).run P w=.ok (.enter f aL) w)
 (hg:∀ args h v h',g args h=some (v,h')->h'=h/\plain v=true/\∀ ρ w (aL:Array ae),bT ρ h w->cB ρ args aL.toList->Calls P f aL w λe w'=>e=.returned v/\Below w.heap.size w w'):AZ P gs f g:=by
 intro args h v h' an
 obtain ⟨rfl,hp,hc⟩:=hg args h v h' an
 refine ⟨.refl _,λρ w aL _ hs _ hv=>.inr ⟨dh aL w,(hc ρ w aL hs hv).mono ?_⟩⟩
 rintro e w' ⟨rfl,hb⟩
 exact ⟨ρ,v,rfl,.nG ρ _ hb,hs.below hb,.dM ρ hp⟩

def strs:List ae->Option (List aB)
 | []=>some []
 | .string s::l=>(strs l).map (s::·)
 |_=>none

def Ib (args:List ae) (h:Heap):Option (ae × Heap):=match args with
 | [.slice a n _,.string sep] =>
  if n=0 then some (.string ⟨#[]⟩,h) else
  match a with
  |some ⟨A,o,none⟩=>(gS A o n h).bind λl=>(strs l).bind λxs =>
   if n<=140737488355328/\(Lib.join (xs.map (·.data.toList)) sep.data.toList).length<=140737488355328 then some (.string ⟨(Lib.join (xs.map (·.data.toList)) sep.data.toList).toArray⟩,h) else none
  |_=>none
 |_=>none

def RB (args:List ae) (h:Heap):Option (ae × Heap):=match args with
 | [.string a,.string b]=>some (.int .i64 (Lib.compareBytes a.data.toList b.data.toList),h)
 |_=>none

theorem ztI:∀ (l:List ae) (xs:List aB),strs l=some xs->xs.length=l.length/\∀ (j:Nat) (x:aB),xs[j]? = some x->l[j]? = some (.string x)
 | [],xs,hx=>by simp only [strs,dY] at hx;subst hx;exact ⟨rfl,λj x hj=>by simp at hj⟩
 |v::l,xs,hx=>by
  cases v with
  |string s =>
   simp only [strs,cC] at hx
   obtain ⟨ys,hy,rfl⟩:=hx
   obtain ⟨h1,h2⟩:=ztI l ys hy
   refine ⟨by simp [h1],λj x hj=>?_⟩
   cases j with
   |zero=>simp at hj;simp [hj]
   |succ j=>simpa using h2 j x (by simpa using hj)
  |_=>simp [strs] at hx

theorem zjP (dh:∀ aL w,(callFunc f aL).run P w=.ok (.enter f aL) w)
 (hc:∀ a b w,Calls P f #[.string a,.string b] w λe w'=>e=.returned (.int .i64 (Lib.compareBytes a.data.toList b.data.toList))/\w'=w):AZ P gs f RB:=by
 refine ztz dh λargs h v h' an=>?_
 unfold RB at an
 split at an
 .rename_i a b
  cases an
  refine ⟨rfl,rfl,λρ w aL hs hv=>?_⟩
  obtain ⟨x,m,h1,hx,hv⟩:=hv.of_cons
  obtain ⟨y,m',h2,hy,hv⟩:=hv.of_cons
  have:=hv.of_nil
  subst this
  cases hx
  cases hy
  subst h2
  have kE:aL=#[.string a,.string b]:=by rw [<- AR];exact h1
  subst kE
  refine (hc a b w).mono ?_
  rintro e w' ⟨rfl,rfl⟩
  exact ⟨rfl,.refl _ _⟩
 .cases an

theorem zty (dh:∀ aL w,(callFunc f aL).run P w=.ok (.enter f aL) w)
 (h0:∀ a c sep w,Calls P f #[.slice a 0 c,.string sep] w λe w'=>e=.returned (.string ⟨#[]⟩)/\w'=w)
 (hj:∀ (bk o c:Nat) (xs:List aB) (sep:aB) (w:World),(∀ (j:Nat) x,xs[j]? = some x->w.cell? ⟨bk,o+j,none⟩=some (.string x))->bk < w.heap.size->xs.length<=140737488355328->xs.length<=c->(Lib.join (xs.map (·.data.toList)) sep.data.toList).length<=140737488355328 ->
  Calls P f #[.slice (some ⟨bk,o,none⟩) xs.length c,.string sep] w λe w'=>e=.returned (.string ⟨(Lib.join (xs.map (·.data.toList)) sep.data.toList).toArray⟩)/\Below w.heap.size w w'):AZ P gs f Ib:=by
 refine ztz dh λargs h v h' an=>?_
 unfold Ib at an
 split at an
 .rename_i a n c sep
  split at an
  .rename_i hn
   cases an
   subst hn
   refine ⟨rfl,rfl,λρ w aL hs hv=>?_⟩
   obtain ⟨x,m,h1,hx,hv⟩:=hv.of_cons
   obtain ⟨y,m',h2,hy,hv⟩:=hv.of_cons
   have:=hv.of_nil
   subst this
   cases hy
   subst h2
   have lr:∃ a' c',x=.slice a' 0 c':=by cases hx <;> exact ⟨_,_,rfl⟩
   obtain ⟨a',c',rfl⟩:=lr
   have kE:aL=#[.slice a' 0 c',.string sep]:=by rw [<- AR];exact h1
   subst kE
   refine (h0 a' c' sep w).mono ?_
   rintro e w' ⟨rfl,rfl⟩
   exact ⟨rfl,.refl _ _⟩
  .rename_i hn
   split at an
   .rename_i A o
    simp only [cH] at an
    obtain ⟨l,hl,xs,lr,an⟩:=an
    split at an
    .rename_i hle
     cases an
     refine ⟨rfl,rfl,λρ w aL hs hv=>?_⟩
     obtain ⟨x,m,h1,hx,hv⟩:=hv.of_cons
     obtain ⟨y,m',h2,hy,hv⟩:=hv.of_cons
     have:=hv.of_nil
     subst this
     cases hy
     subst h2
     have key:∃ L c',ρ A=some L/\n<=c'/\x=.slice (some ⟨L.b,L.s+o,none⟩) n c':=by
      cases hx with
      |slice hA hc qD ez=>exact ⟨_,_,hA,qD,by rw [ez (by omega)]⟩
      |cm hA hc cM qD hk hm ez=>exact ⟨_,_,hA,il qD cM,by rw [(ez (by omega)).1]⟩
     obtain ⟨L,c',hA,qD,rfl⟩:=key
     have kE:aL=#[.slice (some ⟨L.b,L.s+o,none⟩) n c',.string sep]:=by rw [<- AR];exact h1
     subst kE
     obtain ⟨ms,NP,NN,GK⟩:=TY hs hA hl
     obtain ⟨vL,hxg⟩:=ztI l xs lr
     have GC:xs.length=n:=by rw [vL,NP.1,NN]
     have:=hj L.b (L.s+o) c' xs sep w (λj x hx=>by
      obtain ⟨y,hy,dj⟩:=NP.get (hxg j x hx)
      cases dj
      exact GK j _ hy) (hs.lt hA) (by omega) (by omega) hle.2
     rw [GC] at this
     exact this
    .cases an
   .cases an
 .cases an
end
end Go.Am
namespace Go.Am
open Go.RowKit
variable {g:Nat} {f:FuncId}
section
variable {P:Program} {gs:List Nat} {ρ:cI} {h:Heap} {w:World}

def vT (g:Nat):Heap:=⟨g+1,(Tr.set (g+1) .nil g (.row wQ wP true)),g+1⟩
def v7 (g:Nat):cI:=λA=>if A=g then some ⟨g,0,0⟩ else none
theorem ze6 (g A:Nat):(vT g).get A=if A=g then some (.row wQ wP true) else none:=by
 unfold Heap.get vT
 simp only [Tr.aR _ _ _ _ _ (xl g),Tr.get_nil]
 by_cases h1:A=g
 .subst h1;simp
 .simp [h1]
theorem zvJ (ht:∀ c,c < 256->w.cell? ⟨g,c,none⟩=some (.int .u8 (Lib.asciiSpaceTab.getD c 0))) (i:Nat) (v:ae) (hv:wQ[i]? = some v):w.cell? ⟨g,i,none⟩=some v/\plain v=true:=by
 unfold wQ at hv
 rw [lB,cC] at hv
 obtain ⟨z,hz,rfl⟩:=hv
 have hi:i < 256:=by have:=(dz.1 hz).1;rw [Lib.asciiSpaceTab_length] at this;exact this
 refine ⟨?_,rfl⟩
 rw [ht i hi]
 simp [List.getD,hz]
theorem zqh (ht:∀ c,c < 256->w.cell? ⟨g,c,none⟩=some (.int .u8 (Lib.asciiSpaceTab.getD c 0))):bT (v7 g) (vT g) w:=by
 have aP:g < w.heap.size:=by
  have:=ht 0 (by omega)
  unfold World.cell? at this
  split at this
  .rename_i c _ _ hh;exact (mY.1 hh).1
  .cases this
 refine ⟨λA L hA=>?_,λA A' L L' hA eH ba _=>?_⟩
 .unfold v7 at hA
  split at hA
  .rename_i e
   cases hA
   rw [ze6,aE e]
   refine ⟨⟨aP,λ_=>rfl⟩,λi v hv=>?_⟩
   obtain ⟨h1,h2⟩:=zvJ ht i v hv
   exact ⟨v,by simpa using h1,.dM _ h2⟩
  .cases hA
 .unfold v7 at hA eH
  split at hA
  .split at eH
   .omega
   .cases eH
  .cases hA

theorem zpk {l:List (String × DataW Unit)} {n:String} {d:DataW Unit}:∀ {ps:List MemPlace},DataW.LaidVars P w l ps->(n,d)∈l ->
 ∃ g t cs fuel p,P.globalNamed n=some g/\(P.globals[g]?).map (·.type)=some t/\w.var? P n=some cs/\DataW.trod (λ_=>()) P w 0 (λ_=>true) false fuel t cs.toList=some (d,p):=by
 induction l with
 |nil=>intro ps _ hm;cases hm
 |cons x l ih =>
  intro ps hl hm
  obtain ⟨m,e⟩:=x
  obtain ⟨g,t,cs,fuel,p,q,h1,h2,h3,h4,h5,_⟩:=hl
  rcases dG.1 hm with h6|h6
  .cases h6;exact ⟨g,t,cs,fuel,p,h1,h2,h3,h4⟩
  .exact ih h5 h6
theorem znh {l:List (String × DataW Unit)} {d:DataW Unit} {t e:TypeId} (hL:laidMetH P l w) (hp:(l.all λx=>x.2.handleName?.isNone)=true) (hm:("strings.asciiSpace",d)∈l) (hd:d=Lib.tabData .u8 Lib.asciiSpaceTab)
 (hg:P.globalNamed "strings.asciiSpace"=some g) (GV:(P.globals[g]?).map (·.type)=some t) (ht:P.underlying t=some (.array 256 e)) (he:P.underlying e=some (.int .u8)) (DD:P.cellsOf e=1) (hct:P.cellsOf t=256) :
 ∀ c,c < 256->w.cell? ⟨g,c,none⟩=some (.int .u8 (Lib.asciiSpaceTab.getD c 0)):=by
 rw [MakeChecks.laidMetH_plain _ _ _ hp] at hL
 obtain ⟨ps,hl,_⟩:=hL
 obtain ⟨g',t',cs,fuel,p,hg',ht',Zx,hx⟩:=zpk hl hm
 subst hd
 obtain rfl:=Option.some.inj (hg.symm.trans hg')
 obtain rfl:=Option.some.inj (GV.symm.trans ht')
 have hT:Lib.TabIs P w "strings.asciiSpace" .u8 Lib.asciiSpaceTab:=by
  unfold Lib.TabIs
  rw [Zx,<- Lib.cells_of_tab ht he DD hct hx]
 exact λc hc=>hT.cell hg c (by rw [Lib.asciiSpaceTab_length];exact hc)

def uO (s:List UInt8):List ae:=(Lib.fields s).map λl=>Value.string ⟨l.toArray⟩
def HH (g:Nat) (st:TypeId) (args:List ae) (h:Heap):Option (ae × Heap):=match args with
 | [.string s]=>(match h.get g with
  |some (.row _ e true) =>
   if Nat.beq e wP && s.data.toList.all (λb=>Nat.blt b.toNat 128) && Nat.blt s.size 4294967281 && Nat.blt (uO s.data.toList).length 4294967281 then
    some (.slice (some ⟨h.size,0,none⟩) (uO s.data.toList).length (uO s.data.toList).length,h.push (.row (uO s.data.toList) st false))
   else none
  |_=>none)
 |_=>none
theorem zlM {st:TypeId} (BM:g∈gs) (dh:∀ aL w,(callFunc f aL).run P w=.ok (.enter f aL) w)
 (hf:∀ (s:aB) (w:World),s.size < 4294967281->(∀ (j:Nat) b,s.data.toList[j]? = some b->b.toNat < 128)->(∀ c:Nat,c < 256->w.cell? ⟨g,c,none⟩=some (.int .u8 (if Lib.isSp (UInt8.ofNat c) then 1 else 0))) ->
  Calls P f #[.string s] w λe w' =>
   e=.returned (.slice (some ⟨w.heap.size,0,none⟩) (Lib.fields s.data.toList).length (Lib.fields s.data.toList).length)/\w'=w.alloc (.cells ((Lib.fields s.data.toList).map λl=>Value.string ⟨l.toArray⟩).toArray st)):AZ P gs f (HH g st):=by
 intro args h v h' an
 unfold HH at an
 split at an
 .rename_i s
  split at an
  .rename_i cs e hg
   split at an
   .rename_i hc
    simp only [dP,gK] at hc
    obtain ⟨⟨⟨hm,Yc⟩,dS⟩,so⟩:=hc
    cases an
    refine ⟨.push _ _,λρ w aL hG hs bR hv=>.inr ⟨dh aL w,?_⟩⟩
    obtain ⟨y,m,he,h1,h2⟩:=hv.of_cons
    cases h1
    have yz:=h2.of_nil
    subst yz
    have F8:aL=#[.string s]:=by apply Array.ext';simpa using he
    subst F8
    obtain ⟨t,hρ⟩:=hG g BM
    have hb:=hs.fL g _ hρ
    rw [hg] at hb
    have lL:=hb.1.2 (Nat.eq_of_beq_eq_true hm)
    have eV:∀ c:Nat,c < 256->w.cell? ⟨g,c,none⟩=some (.int .u8 (if Lib.isSp (UInt8.ofNat c) then 1 else 0)):=by
     intro c hc
     have hx:cs[c]? = some (.int .u8 (Lib.asciiSpaceTab.getD c 0)):=by
      rw [lL]
      unfold wQ
      rw [lB]
      have:c < Lib.asciiSpaceTab.length:=by rw [Lib.asciiSpaceTab_length];exact hc
      simp [List.getD,this]
     obtain ⟨u,hu,n8⟩:=hb.2 c _ hx
     have:=n8.bQ rfl
     subst this
     rw [Lib.asciiSpaceTab_at c hc] at hu
     simpa using hu
    have gf:ρ h.size=none:=bR h.size (bo _) (xl _)
    have Zn:s.size < 4294967281:=by simpa [Nat.blt_eq] using dS
    have M8:∀ (j:Nat) b,s.data.toList[j]? = some b->b.toNat < 128:=λj b hb=>by
     have:=Yc b (ig hb)
     simpa [Nat.blt_eq] using this
    refine (hf s w Zn M8 eV).mono ?_
    rintro e w' ⟨rfl,rfl⟩
    have kT:(uO s.data.toList).all mN=true:=by
     unfold uO
     rw [List.all_map,gK]
     intro x _
     rfl
    have hlen:(uO s.data.toList).length=(Lib.fields s.data.toList).length:=by simp [uO]
    obtain ⟨ρ',yX,dC,dZ⟩:=Jj (W:=w.alloc (.cells ((Lib.fields s.data.toList).map λl=>Value.string ⟨l.toArray⟩).toArray st)) (cs:=uO s.data.toList) (m:=uO s.data.toList) (e:=st) hs gf rfl rfl rfl rfl
     (by refine sQ (by simp [uO]) rfl (λj _=>by rw [iu];rfl)) (cB.plain ρ kT)
    refine ⟨ρ',_,rfl,dC,dZ,?_⟩
    have Yv:(uO s.data.toList).length < 4294967281:=by simpa [Nat.blt_eq] using so
    rw [hlen] at Yv ⊢
    exact VR.slice (o:=0) yX (by unfold G;omega) (bo _) (λ_=>rfl)
   .cases an
  .cases an
 .cases an
def zpd (n:Nat):FK:=λv h=>match v with
 | .bool b=>(match b with|true=>Nat.ble n h.low|false=>false)
 |_=>false
def zjn (n:Nat) (r:Option (ae × Heap)):Bool:=match r with
 |some x=>zpd n x.1 x.2
 |none=>false
theorem zsi {T:bL} {ov:Ov} (lP:P.follows .mixedOrders=true) (hT:T.Fits P) (BM:T.gs=[g]) (qE:Di P T.gs ov) {n:Nat} (hf:ov f=none) (eu:zjn (g+1) (call P T ov n (.func f) [] (vT g))=true) (w:World)
 (ht:∀ c,c < 256->w.cell? ⟨g,c,none⟩=some (.int .u8 (Lib.asciiSpaceTab.getD c 0))) :
 Calls P f #[] w λe w'=>e=.returned (.bool true)/\Below w.heap.size w w':=by
 match hc:call P T ov n (.func f) [] (vT g),eu with
 |some (v,h'),hk =>
  simp only [zjn] at hk
  unfold zpd at hk
  split at hk
  .rename_i b
   split at hk
   .refine zzw lP hT qE hf hc w (v7 g) (by rw [BM];intro q hq;simp at hq;subst hq;exact ⟨0,by simp [v7]⟩) (zqh ht) ?_ ?_
    .intro A hA
     unfold v7
     rw [az]
     have:g+1<=A:=hA
     omega
    .intro A L hA
     unfold v7 at hA
     split at hA
     .have:=Nat.le_of_ble_eq_true hk;omega
     .cases hA
   .cases hk
  .cases hk
end
theorem zsJ {H:Type} {enc:TypeId × ae->H} {C:Checked} {os:Os} {fn:Func} {s:ChangeSpec} {conds:List PathCond} {apart:Bool} {X:World->Array ae->Prop} (w0:World) (args:Array ae) (fuel:Nat) (vC:w0.os=os)
 (hv:(w0.forCall (λ_ _=>0) ⟨#[],args,[]⟩).variablesZipB C.prog=true)
 (hr:((w0.forCall (λ_ _=>0) ⟨#[],args,[]⟩).heap.toList.drop C.prog.globals.size).take ((begin C.prog (λ_ _=>0) default).world.heap.size - C.prog.globals.size) =
  (begin C.prog (λ_ _=>0) default).world.heap.toList.drop C.prog.globals.size)
 (dU:Input.okWideB C.prog (w0.forCall (λ_ _=>0) ⟨#[],args,[]⟩) f ⟨#[],args,[]⟩=true)
 (nC:s.preB enc C.prog fn conds apart (w0.forCall (λ_ _=>0) ⟨#[],args,[]⟩).memory args fuel=true)
 (dS:s.sizedB enc C.prog fn apart (w0.forCall (λ_ _=>0) ⟨#[],args,[]⟩).memory args fuel=true)
 (hx:X (w0.forCall (λ_ _=>0) ⟨#[],args,[]⟩).memory args) :
 ∃ (w:World) (tape:Tape) (i:Input),w.os=os/\(w.forCall tape i).Shaped C.prog/\i.vars=[]/\Input.okWide C.prog (w.forCall tape i) .any w.heap.size f i /\
   ((s.pre enc C.prog fn conds apart (w.forCall tape i).memory i.args/\X (w.forCall tape i).memory i.args)/\sizedMet enc C.prog fn (OpenSpec.ofChange s) apart (w.forCall tape i).memory i.args)/\({}:Assume).holds C.prog (lone (Frame.enter C.prog f i.args .normal) [] (w.forCall tape i)) :=
 ⟨w0,λ_ _=>0,⟨#[],args,[]⟩,vC,World.shaped_of_ZipB hv hr,(Input.okWide_of_okWideB (base:=0) dU).1,(Input.okWide_of_okWideB dU).2,⟨⟨ChangeSpec.pre_of_preB nC,hx⟩,sizedMet_of_sizedB dS⟩,by
  simp only [Assume.holds]
  exact ⟨by simp,by simp,λh=>by simp at h,by simp,by simp⟩⟩
end Go.Am
namespace Go.Am
open Go.RowKit Go.ChangeShapes Go.WideShapes Go.ChangeAt
variable {g:Nat}
section
variable {P:Program} {T:bL} {ov:Ov} {W:World} {H:Type} {enc:TypeId × ae->H}
theorem zmU (lP:P.follows .mixedOrders=true) (hT:T.Fits P) (BM:T.gs=[g]) (qE:Di P T.gs ov) {k:FuncId} {fn:Func} {s:ChangeSpec} {n boolT:Nat} {apart fresh handsOn again:Bool} {base:Nat} {args:Array ae} {ds gs:List (DataW H)} {before:List MemPlace}
 (hk:ov k=none) (ht:∀ c,c < 256->W.cell? ⟨g,c,none⟩=some (.int .u8 (Lib.asciiSpaceTab.getD c 0))) (hl:laidOutB P=true) (rG:s.vars=[]) (i7:fn.resultTypes.toList=[boolT]) (TA:fn.resultTypes.size=1) (DC:P.underlying boolT=some .bool)
 (Yk:fn.params.toList.all (zC P n)=true) (pg:fn.params.toList.all (λt=>P.readableRec t && decide (t < P.types.size))=true)
 (vz:∀ ds:List (DataW H),ds.length=fn.params.size->s.fn H ds={ results:=[.lit (.bool true)],args:=ds })
 (dU:∀ (h:Heap) (args:List ae),h.low=h.size->Holds h g (.row wQ wP true)->Ay P h n fn.params.toList args->Ok P T ov k args h λv h'=>v=.bool true/\Ext h h')
 (eE:∀ (j:Nat) t v,fn.params[j]? = some t->args[j]? = some v->Value.okWide P W .any base t v)
 (hW:DataW.Whole enc P fn.params.toList s.vars apart W args.toList ds gs before) :
 Calls P k args W λe W'=>∃ v,e=.returned v/\s.post enc P fn apart fresh handsOn again W args v W':=by
 have hS:0 < W.heap.size:=by
  have:=ht 0 (by omega)
  unfold World.cell? at this
  split at this
  .rename_i c _ _ hh
   have:=(mY.1 hh).1
   omega
  .cases this
 obtain ⟨M,xV⟩:=zsI W
 have hM:0 < M:=Nat.lt_of_le_of_lt (sg _) (xV 0 hS)
 have hW':=hW
 obtain ⟨p,q,hA,hV,rfl,Nt,i6⟩:=hW
 rw [rG] at hV
 obtain ⟨rfl,rfl⟩:=trodVars_none hV
 have hlen:∀ (ts:List TypeId) (vs:List ae) (ds:List (DataW H)) (ps:List MemPlace),DataW.TrodAll enc P W 0 (λ_=>true) true ts vs ds ps->ds.length=ts.length:=by
  intro ts
  induction ts with
  |nil=>intro vs ds ps h;cases vs <;> cases ds <;> first|rfl|cases h
  |cons t ts ih =>
   intro vs ds ps h
   cases vs with
   |nil=>cases h
   |cons v vs =>
    cases ds with
    |nil=>cases h
    |cons d ds=>obtain ⟨_,_,_,h2,_⟩:=h;simp [ih vs ds _ h2]
 have rn:=hlen _ _ _ _ hA
 have dS:(vT g).size=g+1:=rfl
 have dC:∀ A,(vT g).size<=A->v7 g A=none:=λA hA=>by
  rw [dS] at hA
  unfold v7
  rw [az (by omega)]
 obtain ⟨oJ,Zj⟩:=zpP (h:=vT g) (ρ:=v7 g) (n:=n) (base:=base) hS xV fn.params.toList args.toList ds p Yk (λj t v h1 h2=>eE j t v (by simpa using h1) (by simpa using h2)) hA
 have dZ:=zAu (W:=W) (h:=vT g) (ρ:=v7 g) (M:=M) (zqh ht) dC (λA L hA=>by
  unfold v7 at hA
  split at hA
  .rename_i e
   rw [e]
   exact ⟨wQ,wP,by rw [ze6,aE rfl]⟩
  .cases hA) hM
 have iY:(vZ W (vT g) M).low=(vZ W (vT g) M).size:=by rw [Q1];rfl
 have cP:Holds (vZ W (vT g) M) g (.row wQ wP true):=⟨by rw [Q1,dS];omega,by rw [zfR (by rw [dS];omega),ze6,aE rfl]⟩
 refine (zue lP hT qE hk ?_ dZ (λA eH=>?_) iY oJ (dU _ _ iY cP Zj)).mono λe W' ⟨he,hb⟩=>?_
 .rw [BM]
  intro x hx
  obtain rfl:x=g:=by simpa using hx
  refine ⟨0,?_⟩
  unfold rS
  rw [az (by rw [dS];omega)]
  unfold v7
  rw [aE rfl]
 .rw [Q1] at eH
  unfold rS
  rw [az (by omega)]
  exact dC A (by omega)
 .subst he
  have Gl:=vz (ds++[]) (by rw [bu,rn];simp)
  refine ⟨_,rfl,zzD (pa:=p) (pv:=[]) hW' (λb sp hd=>?_) (λsp cP=>?_) (λsp _=>?_) (by simp) hb (λj t r h1 h2=>?_)⟩
  .rw [i7,TA,Gl]
   exact trodAll_mk1 (shut_bool DC true)
  .rw [Gl]
   rw [bu]
   exact zhp hl hb sp _ _ _ _ pg (λx hx=>hW'.lt x (by simp [hx])) (λx hx=>cP x (by simp [hx])) hA
  .rw [rG,Gl]
   rfl
  .rw [TA] at h2
   have hj:fn.resultTypes[j]? = some t:=h1
   have h3:fn.resultTypes.toList[j]? = some t:=by simpa using hj
   rw [i7] at h3
   cases j with
   |zero =>
    simp at h3 h2
    subst h3
    have:r=.bool true:=by simpa [Value.resultList] using h2.symm
    subst this
    exact okWide_bool_mk DC true
   |succ j=>simp at h3
def Ki (g:Nat) (args:List ae) (h:Heap):Option (ae × Heap):=match args with
 | []=>(match h.get g with
  |some (.row _ e true)=>if Nat.beq e wP then some (.bool true,h) else none
  |_=>none)
 |_=>none
theorem zyt {gs:List Nat} {f:FuncId} (BM:g∈gs) (dh:∀ aL w,(callFunc f aL).run P w=.ok (.enter f aL) w) (hc:∀ w,(∀ c,c < 256->w.cell? ⟨g,c,none⟩=some (.int .u8 (Lib.asciiSpaceTab.getD c 0)))->Calls P f #[] w λe w'=>e=.returned (.bool true)/\Below w.heap.size w w'):AZ P gs f (Ki g):=by
 intro args h v h' an
 unfold Ki at an
 split at an
 .split at an
  .rename_i cs e hg
   split at an
   .rename_i hm
    cases an
    refine ⟨.refl _,λρ w aL hG hs bR hv=>.inr ⟨dh aL w,?_⟩⟩
    have kE:aL=#[]:=by rw [<- AR];exact hv.of_nil
    subst kE
    obtain ⟨t,hρ⟩:=hG g BM
    have hb:=hs.fL g _ hρ
    rw [hg] at hb
    have lL:=hb.1.2 (Nat.eq_of_beq_eq_true hm)
    refine (hc w (λc hc=>?_)).mono ?_
    .have hx:cs[c]? = some (.int .u8 (Lib.asciiSpaceTab.getD c 0)):=by
      rw [lL]
      unfold wQ
      rw [lB]
      have:c < Lib.asciiSpaceTab.length:=by rw [Lib.asciiSpaceTab_length];exact hc
      simp [List.getD,this]
     obtain ⟨u,hu,n8⟩:=hb.2 c _ hx
     have:=n8.bQ rfl
     subst this
     simpa using hu
    .rintro e w' ⟨rfl,qw⟩
     exact ⟨ρ,.bool true,rfl,.nG ρ _ qw,hs.below qw,.dM ρ rfl⟩
   .cases an
  .cases an
 .cases an
def bl (g:Nat) (h:Heap):Prop:=Holds h g (.row wQ wP true)
theorem zA4 {h:Heap} (hs:bl g h):Ki g [] h=some (.bool true,h):=by
 unfold Ki
 rw [hs.get]
 rfl
end
end Go.Am

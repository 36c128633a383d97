/- Functions of the library with a contract of the kit's, for the plain machine. No condition. -/
import Derived.Shelf.Small.Strs
import Derived.Lib.Join
import Derived.Lib.Fields
import Derived.Lib.LaidTab
import Derived.MakeChecks
import Derived.Lay
import Derived.Test.YtnkmeidmdaidhaaGreatDoorG5
set_option linter.unusedSimpArgs false
namespace Go.Am
open Go.RowKit
variable {f:FuncId}
section
variable {P:Program} {gs:List Nat} {ρ:ct} {h:Heap} {w w':World}

theorem bM.below (hs:bM ρ h w) (hb:Below w.heap.size w w'):bM ρ h w' :=
 ⟨λA L hA=>(hs.lx A L hA).fN (λ_ _ h=>h) hb.size (λ_=>hb.block _ (hs.lt hA)),hs.inj⟩
theorem Fr.pR (ρ:ct) (h:Heap) (hb:Below w.heap.size w w'):Fr ρ ρ h h w w' :=
 ⟨λ_ _ h=>h,λA L h1 h2=>(by rw [h1] at h2;cases h2),hb.os,hb.tape,hb.output,hb.size,aQ _,aQ _,λb hl _=>hb.block b hl,λ_ _ _=>rfl⟩

theorem EE {T:bN} (hT:T.Fits P) {fn:Func} (hf:T.fn f=some fn) {c:Code} (hc:fn.body=some c) (aK:Array ai) (w:World):(callFunc f aK).run P w=.ok (.enter f aK) w:=by
 obtain ⟨hP,iD,_⟩:=hT.fn f fn hf
 have fD:¬ fn.name="runtime.NumGoroutine":=by simpa using iD
 simp [callFunc,hP,fD,hc]

def HD (P:Program) (gs:List Nat) (f:FuncId) (g:List ai->Heap->Option (ai × Heap)):Prop :=
 ∀ args h v h',g args h=some (v,h')->bq h h'/\∀ ρ w (aK:Array ai),cU gs ρ->bM ρ h w->fj ρ h h'->cz ρ args aK.toList->XA P ρ h h' w v f aK

theorem zsg {g:List ai->Heap->Option (ai × Heap)} (eK:∀ aK w,(callFunc f aK).run P w=.ok (.enter f aK) w)
 (hg:∀ args h v h',g args h=some (v,h')->h'=h/\plain v=true/\∀ ρ w (aK:Array ai),bM ρ h w->cz ρ args aK.toList->Calls P f aK w λe w'=>e=.returned v/\Below w.heap.size w w'):HD P gs f g:=by
 intro args h v h' aj
 obtain ⟨rfl,hp,hc⟩:=hg args h v h' aj
 refine ⟨.refl _,λρ w aK _ hs _ hv=>.inr ⟨eK aK w,(hc ρ w aK hs hv).mono ?_⟩⟩
 rintro e w' ⟨rfl,hb⟩
 exact ⟨ρ,v,rfl,.pR ρ _ hb,hs.below hb,.dj ρ hp⟩

def strs:List ai->Option (List aV)
 | []=>some []
 | .string s::l=>(strs l).map (s::·)
 |_=>none

def Fm (args:List ai) (h:Heap):Option (ai × Heap):=match args with
 | [.slice a n _,.string sep] =>
  if n=0 then some (.string ⟨#[]⟩,h) else
  match a with
  |some ⟨A,o,none⟩=>(kA A o n h).bind λl=>(strs l).bind λxs =>
   if n<=140737488355328/\(Lib.join (xs.map (·.data.toList)) sep.data.toList).length<=140737488355328 then some (.string ⟨(Lib.join (xs.map (·.data.toList)) sep.data.toList).toArray⟩,h) else none
  |_=>none
 |_=>none

def Ly (args:List ai) (h:Heap):Option (ai × Heap):=match args with
 | [.string a,.string b]=>some (.int .i64 (Lib.compareBytes a.data.toList b.data.toList),h)
 |_=>none

theorem zsv:∀ (l:List ai) (xs:List aV),strs l=some xs->xs.length=l.length/\∀ (j:Nat) (x:aV),xs[j]? = some x->l[j]? = some (.string x)
 | [],xs,hx=>by simp only [strs,dR] at hx;subst hx;exact ⟨rfl,λj x hj=>by simp at hj⟩
 |v::l,xs,hx=>by
  cases v with
  |string s =>
   simp only [strs,cn] at hx
   obtain ⟨ys,hy,rfl⟩:=hx
   obtain ⟨h1,h2⟩:=zsv l ys hy
   refine ⟨by simp [h1],λj x hj=>?_⟩
   cases j with
   |zero=>simp at hj;simp [hj]
   |succ j=>simpa using h2 j x (by simpa using hj)
  |_=>simp [strs] at hx

theorem zjJ (eK:∀ aK w,(callFunc f aK).run P w=.ok (.enter f aK) w)
 (hc:∀ a b w,Calls P f #[.string a,.string b] w λe w'=>e=.returned (.int .i64 (Lib.compareBytes a.data.toList b.data.toList))/\w'=w):HD P gs f Ly:=by
 refine zsg eK λargs h v h' aj=>?_
 unfold Ly at aj
 split at aj
 .rename_i a b
  cases aj
  refine ⟨rfl,rfl,λρ w aK hs hv=>?_⟩
  obtain ⟨x,m,h1,hx,hv⟩:=hv.of_cons
  obtain ⟨y,m',h2,hy,hv⟩:=hv.of_cons
  have:=hv.of_nil
  subst this
  cases hx
  cases hy
  subst h2
  have kP:aK=#[.string a,.string b]:=by rw [<- Md];exact h1
  subst kP
  refine (hc a b w).mono ?_
  rintro e w' ⟨rfl,rfl⟩
  exact ⟨rfl,.refl _ _⟩
 .cases aj

theorem zsf (eK:∀ aK w,(callFunc f aK).run P w=.ok (.enter f aK) w)
 (h0:∀ a c sep w,Calls P f #[.slice a 0 c,.string sep] w λe w'=>e=.returned (.string ⟨#[]⟩)/\w'=w)
 (hj:∀ (bk o c:Nat) (xs:List aV) (sep:aV) (w:World),(∀ (j:Nat) x,xs[j]? = some x->w.cell? ⟨bk,o+j,none⟩=some (.string x))->bk < w.heap.size->xs.length<=140737488355328->xs.length<=c->(Lib.join (xs.map (·.data.toList)) sep.data.toList).length<=140737488355328 ->
  Calls P f #[.slice (some ⟨bk,o,none⟩) xs.length c,.string sep] w λe w'=>e=.returned (.string ⟨(Lib.join (xs.map (·.data.toList)) sep.data.toList).toArray⟩)/\Below w.heap.size w w'):HD P gs f Fm:=by
 refine zsg eK λargs h v h' aj=>?_
 unfold Fm at aj
 split at aj
 .rename_i a n c sep
  split at aj
  .rename_i hn
   cases aj
   subst hn
   refine ⟨rfl,rfl,λρ w aK hs hv=>?_⟩
   obtain ⟨x,m,h1,hx,hv⟩:=hv.of_cons
   obtain ⟨y,m',h2,hy,hv⟩:=hv.of_cons
   have:=hv.of_nil
   subst this
   cases hy
   subst h2
   have nG:∃ a' c',x=.slice a' 0 c':=by cases hx <;> exact ⟨_,_,rfl⟩
   obtain ⟨a',c',rfl⟩:=nG
   have kP:aK=#[.slice a' 0 c',.string sep]:=by rw [<- Md];exact h1
   subst kP
   refine (h0 a' c' sep w).mono ?_
   rintro e w' ⟨rfl,rfl⟩
   exact ⟨rfl,.refl _ _⟩
  .rename_i hn
   split at aj
   .rename_i A o
    simp only [cy] at aj
    obtain ⟨l,hl,xs,nG,aj⟩:=aj
    split at aj
    .rename_i hle
     cases aj
     refine ⟨rfl,rfl,λρ w aK hs hv=>?_⟩
     obtain ⟨x,m,h1,hx,hv⟩:=hv.of_cons
     obtain ⟨y,m',h2,hy,hv⟩:=hv.of_cons
     have:=hv.of_nil
     subst this
     cases hy
     subst h2
     have key:∃ L c',ρ A=some L/\n<=c'/\x=.slice (some ⟨L.b,L.s+o,none⟩) n c':=by
      cases hx with
      |slice hA hc Dx fK=>exact ⟨_,_,hA,Dx,by rw [fK (by omega)]⟩
      |cW hA hc gx Dx hk hm fK=>exact ⟨_,_,hA,dZ Dx gx,by rw [(fK (by omega)).1]⟩
     obtain ⟨L,c',hA,Dx,rfl⟩:=key
     have kP:aK=#[.slice (some ⟨L.b,L.s+o,none⟩) n c',.string sep]:=by rw [<- Md];exact h1
     subst kP
     obtain ⟨ms,FQ,Jf,DG⟩:=NV hs hA hl
     obtain ⟨Ue,hxg⟩:=zsv l xs nG
     have Dz:xs.length=n:=by rw [Ue,FQ.1,Jf]
     have:=hj L.b (L.s+o) c' xs sep w (λj x hx=>by
      obtain ⟨y,hy,cN⟩:=FQ.get (hxg j x hx)
      cases cN
      exact DG j _ hy) (hs.lt hA) (by omega) (by omega) hle.2
     rw [Dz] at this
     exact this
    .cases aj
   .cases aj
 .cases aj
end
end Go.Am
namespace Go.Am
open Go.RowKit
variable {g:Nat} {f:FuncId}
section
variable {P:Program} {gs:List Nat} {ρ:ct} {h:Heap} {w:World}

def tB (g:Nat):Heap:=⟨g+1,(Tr.set (g+1) .nil g (.row uo uk true)),g+1⟩
def tG (g:Nat):ct:=λA=>if A=g then some ⟨g,0,0⟩ else none
theorem Vk (g A:Nat):(tB g).get A=if A=g then some (.row uo uk true) else none:=by
 unfold Heap.get tB
 simp only [Tr.aH _ _ _ _ _ (nj g),Tr.get_nil]
 by_cases h1:A=g
 .subst h1;simp
 .simp [h1]
theorem zug (ht:∀ c,c < 256->w.cell? ⟨g,c,none⟩=some (.int .u8 (Lib.asciiSpaceTab.getD c 0))) (i:Nat) (v:ai) (hv:uo[i]? = some v):w.cell? ⟨g,i,none⟩=some v/\plain v=true:=by
 unfold uo at hv
 rw [lk,cn] at hv
 obtain ⟨z,hz,rfl⟩:=hv
 have hi:i < 256:=by have:=(fR.1 hz).1;rw [Lib.asciiSpaceTab_length] at this;exact this
 refine ⟨?_,rfl⟩
 rw [ht i hi]
 simp [List.getD,hz]
theorem zph (ht:∀ c,c < 256->w.cell? ⟨g,c,none⟩=some (.int .u8 (Lib.asciiSpaceTab.getD c 0))):bM (tG g) (tB g) w:=by
 have bc:g < w.heap.size:=by
  have:=ht 0 (by omega)
  unfold World.cell? at this
  split at this
  .rename_i c _ _ hh;exact (my.1 hh).1
  .cases this
 refine ⟨λA L hA=>?_,λA A' L L' hA fw aL _=>?_⟩
 .unfold tG at hA
  split at hA
  .rename_i e
   cases hA
   rw [Vk,aB e]
   refine ⟨⟨bc,λ_=>rfl⟩,λi v hv=>?_⟩
   obtain ⟨h1,h2⟩:=zug ht i v hv
   exact ⟨v,by simpa using h1,.dj _ h2⟩
  .cases hA
 .unfold tG at hA fw
  split at hA
  .split at fw
   .omega
   .cases fw
  .cases hA

theorem zoF {l:List (String × DataW Unit)} {n:String} {d:DataW Unit}:∀ {ps:List MemPlace},DataW.LaidVars P w l ps->(n,d)∈l ->
 ∃ g t cs fuel p,P.globalNamed n=some g/\(P.globals[g]?).map (·.type)=some t/\w.var? P n=some cs/\DataW.trod (λ_=>()) P w 0 (λ_=>true) false fuel t cs.toList=some (d,p):=by
 induction l with
 |nil=>intro ps _ hm;cases hm
 |cons x l ih =>
  intro ps hl hm
  obtain ⟨m,e⟩:=x
  obtain ⟨g,t,cs,fuel,p,q,h1,h2,h3,h4,h5,_⟩:=hl
  rcases db.1 hm with h6|h6
  .cases h6;exact ⟨g,t,cs,fuel,p,h1,h2,h3,h4⟩
  .exact ih h5 h6
theorem zm0 {l:List (String × DataW Unit)} {d:DataW Unit} {t e:TypeId} (hL:laidMetH P l w) (hp:(l.all λx=>x.2.handleName?.isNone)=true) (hm:("strings.asciiSpace",d)∈l) (hd:d=Lib.tabData .u8 Lib.asciiSpaceTab)
 (hg:P.globalNamed "strings.asciiSpace"=some g) (DR:(P.globals[g]?).map (·.type)=some t) (ht:P.underlying t=some (.array 256 e)) (he:P.underlying e=some (.int .u8)) (FH:P.cellsOf e=1) (IE:P.cellsOf t=256) :
 ∀ c,c < 256->w.cell? ⟨g,c,none⟩=some (.int .u8 (Lib.asciiSpaceTab.getD c 0)):=by
 rw [MakeChecks.laidMetH_plain _ _ _ hp] at hL
 obtain ⟨ps,hl,_⟩:=hL
 obtain ⟨g',t',cs,fuel,p,vA,ht',TU,hx⟩:=zoF hl hm
 subst hd
 obtain rfl:=Option.some.inj (hg.symm.trans vA)
 obtain rfl:=Option.some.inj (DR.symm.trans ht')
 have hT:Lib.TabIs P w "strings.asciiSpace" .u8 Lib.asciiSpaceTab:=by
  unfold Lib.TabIs
  rw [TU,<- Lib.cells_of_tab ht he FH IE hx]
 exact λc hc=>hT.cell hg c (by rw [Lib.asciiSpaceTab_length];exact hc)

def sf (s:List UInt8):List ai:=(Lib.fields s).map λl=>Value.string ⟨l.toArray⟩
def ER (g:Nat) (st:TypeId) (args:List ai) (h:Heap):Option (ai × Heap):=match args with
 | [.string s]=>(match h.get g with
  |some (.row _ e true) =>
   if Nat.beq e uk && s.data.toList.all (λb=>Nat.blt b.toNat 128) && Nat.blt s.size 4294967281 && Nat.blt (sf s.data.toList).length 4294967281 then
    some (.slice (some ⟨h.size,0,none⟩) (sf s.data.toList).length (sf s.data.toList).length,h.push (.row (sf s.data.toList) st false))
   else none
  |_=>none)
 |_=>none
theorem zlr {st:TypeId} (tc:g∈gs) (eK:∀ aK w,(callFunc f aK).run P w=.ok (.enter f aK) w)
 (hf:∀ (s:aV) (w:World),s.size < 4294967281->(∀ (j:Nat) b,s.data.toList[j]? = some b->b.toNat < 128)->(∀ c:Nat,c < 256->w.cell? ⟨g,c,none⟩=some (.int .u8 (if Lib.isSp (UInt8.ofNat c) then 1 else 0))) ->
  Calls P f #[.string s] w λe w' =>
   e=.returned (.slice (some ⟨w.heap.size,0,none⟩) (Lib.fields s.data.toList).length (Lib.fields s.data.toList).length)/\w'=w.alloc (.cells ((Lib.fields s.data.toList).map λl=>Value.string ⟨l.toArray⟩).toArray st)):HD P gs f (ER g st):=by
 intro args h v h' aj
 unfold ER at aj
 split at aj
 .rename_i s
  split at aj
  .rename_i cs e hg
   split at aj
   .rename_i hc
    simp only [dW,jE] at hc
    obtain ⟨⟨⟨hm,Sk⟩,dV⟩,IP⟩:=hc
    cases aj
    refine ⟨.push _ _,λρ w aK hG hs b8 hv=>.inr ⟨eK aK w,?_⟩⟩
    obtain ⟨y,m,he,h1,h2⟩:=hv.of_cons
    cases h1
    have vN:=h2.of_nil
    subst vN
    have C4:aK=#[.string s]:=by apply Array.ext';simpa using he
    subst C4
    obtain ⟨t,hρ⟩:=hG g tc
    have hb:=hs.lx g _ hρ
    rw [hg] at hb
    have qV:=hb.1.2 (Nat.eq_of_beq_eq_true hm)
    have gw:∀ c:Nat,c < 256->w.cell? ⟨g,c,none⟩=some (.int .u8 (if Lib.isSp (UInt8.ofNat c) then 1 else 0)):=by
     intro c hc
     have hx:cs[c]? = some (.int .u8 (Lib.asciiSpaceTab.getD c 0)):=by
      rw [qV]
      unfold uo
      rw [lk]
      have:c < Lib.asciiSpaceTab.length:=by rw [Lib.asciiSpaceTab_length];exact hc
      simp [List.getD,this]
     obtain ⟨u,hu,o9⟩:=hb.2 c _ hx
     have:=o9.bG rfl
     subst this
     rw [Lib.asciiSpaceTab_at c hc] at hu
     simpa using hu
    have gy:ρ h.size=none:=b8 h.size (aQ _) (nj _)
    have TL:s.size < 4294967281:=by simpa [Nat.blt_eq] using dV
    have Iw:∀ (j:Nat) b,s.data.toList[j]? = some b->b.toNat < 128:=λj b hb=>by
     have:=Sk b (ek hb)
     simpa [Nat.blt_eq] using this
    refine (hf s w TL Iw gw).mono ?_
    rintro e w' ⟨rfl,rfl⟩
    have zj:(sf s.data.toList).all ld=true:=by
     unfold sf
     rw [List.all_map,jE]
     intro x _
     rfl
    have hlen:(sf s.data.toList).length=(Lib.fields s.data.toList).length:=by simp [sf]
    obtain ⟨ρ',wD,dI,ei⟩:=Gp (W:=w.alloc (.cells ((Lib.fields s.data.toList).map λl=>Value.string ⟨l.toArray⟩).toArray st)) (cs:=sf s.data.toList) (m:=sf s.data.toList) (e:=st) hs gy rfl rfl rfl rfl
     (by refine uz (by simp [sf]) rfl (λj _=>by rw [i5];rfl)) (cz.plain ρ zj)
    refine ⟨ρ',_,rfl,dI,ei,?_⟩
    have SH:(sf s.data.toList).length < 4294967281:=by simpa [Nat.blt_eq] using IP
    rw [hlen] at SH ⊢
    exact VR.slice (o:=0) wD (by unfold G;omega) (aQ _) (λ_=>rfl)
   .cases aj
  .cases aj
 .cases aj
def zoB (n:Nat):FK:=λv h=>match v with
 | .bool b=>(match b with|true=>Nat.ble n h.low|false=>false)
 |_=>false
def Wg (n:Nat) (r:Option (ai × Heap)):Bool:=match r with
 |some x=>zoB n x.1 x.2
 |none=>false
theorem zqW {T:bN} {ov:Ov} (ko:P.follows .mixedOrders=true) (hT:T.Fits P) (tc:T.gs=[g]) (jg:Ax P T.gs ov) {n:Nat} (hf:ov f=none) (ey:Wg (g+1) (call P T ov n (.func f) [] (tB g))=true) (w:World)
 (ht:∀ c,c < 256->w.cell? ⟨g,c,none⟩=some (.int .u8 (Lib.asciiSpaceTab.getD c 0))) :
 Calls P f #[] w λe w'=>e=.returned (.bool true)/\Below w.heap.size w w':=by
 match hc:call P T ov n (.func f) [] (tB g),ey with
 |some (v,h'),hk =>
  simp only [Wg] at hk
  unfold zoB at hk
  split at hk
  .rename_i b
   split at hk
   .refine zxB ko hT jg hf hc w (tG g) (by rw [tc];intro q hq;simp at hq;subst hq;exact ⟨0,by simp [tG]⟩) (zph ht) ?_ ?_
    .intro A hA
     unfold tG
     rw [aA]
     have:g+1<=A:=hA
     omega
    .intro A L hA
     unfold tG at hA
     split at hA
     .have:=Nat.le_of_ble_eq_true hk;omega
     .cases hA
   .cases hk
  .cases hk
end
theorem zrl {H:Type} {enc:TypeId × ai->H} {C:Checked} {os:Os} {fn:Func} {s:ChangeSpec} {conds:List PathCond} {apart:Bool} {X:World->Array ai->Prop} (w0:World) (args:Array ai) (fuel:Nat) (vR:w0.os=os)
 (hv:(w0.forCall (λ_ _=>0) ⟨#[],args,[]⟩).variablesZipB C.prog=true)
 (hr:((w0.forCall (λ_ _=>0) ⟨#[],args,[]⟩).heap.toList.drop C.prog.globals.size).take ((begin C.prog (λ_ _=>0) default).world.heap.size - C.prog.globals.size) =
  (begin C.prog (λ_ _=>0) default).world.heap.toList.drop C.prog.globals.size)
 (df:Input.okWideB C.prog (w0.forCall (λ_ _=>0) ⟨#[],args,[]⟩) f ⟨#[],args,[]⟩=true)
 (mg:s.preB enc C.prog fn conds apart (w0.forCall (λ_ _=>0) ⟨#[],args,[]⟩).memory args fuel=true)
 (dV:s.sizedB enc C.prog fn apart (w0.forCall (λ_ _=>0) ⟨#[],args,[]⟩).memory args fuel=true)
 (hx:X (w0.forCall (λ_ _=>0) ⟨#[],args,[]⟩).memory args) :
 ∃ (w:World) (tape:Tape) (i:Input),w.os=os/\(w.forCall tape i).Shaped C.prog/\i.vars=[]/\Input.okWide C.prog (w.forCall tape i) .any w.heap.size f i /\
   ((s.pre enc C.prog fn conds apart (w.forCall tape i).memory i.args/\X (w.forCall tape i).memory i.args)/\sizedMet enc C.prog fn (OpenSpec.ofChange s) apart (w.forCall tape i).memory i.args)/\({}:Assume).holds C.prog (lone (Frame.enter C.prog f i.args .normal) [] (w.forCall tape i)) :=
 ⟨w0,λ_ _=>0,⟨#[],args,[]⟩,vR,World.shaped_of_ZipB hv hr,(Input.okWide_of_okWideB (base:=0) df).1,(Input.okWide_of_okWideB df).2,⟨⟨ChangeSpec.pre_of_preB mg,hx⟩,sizedMet_of_sizedB dV⟩,by
  simp only [Assume.holds]
  exact ⟨by simp,by simp,λh=>by simp at h,by simp,by simp⟩⟩
end Go.Am
namespace Go.Am
open Go.RowKit Go.ChangeShapes Go.WideShapes Go.ChangeAt
variable {g:Nat}
section
variable {P:Program} {T:bN} {ov:Ov} {W:World} {H:Type} {enc:TypeId × ai->H}
theorem zmt (ko:P.follows .mixedOrders=true) (hT:T.Fits P) (tc:T.gs=[g]) (jg:Ax P T.gs ov) {k:FuncId} {fn:Func} {s:ChangeSpec} {n boolT:Nat} {apart fresh handsOn again:Bool} {base:Nat} {args:Array ai} {ds gs:List (DataW H)} {before:List MemPlace}
 (hk:ov k=none) (ht:∀ c,c < 256->W.cell? ⟨g,c,none⟩=some (.int .u8 (Lib.asciiSpaceTab.getD c 0))) (hl:laidOutB P=true) (pN:s.vars=[]) (jV:fn.resultTypes.toList=[boolT]) (DI:fn.resultTypes.size=1) (AX:P.underlying boolT=some .bool)
 (Sy:fn.params.toList.all (xa P n)=true) (nD:fn.params.toList.all (λt=>P.readableRec t && decide (t < P.types.size))=true)
 (kT:∀ ds:List (DataW H),ds.length=fn.params.size->s.fn H ds={ results:=[.lit (.bool true)],args:=ds })
 (df:∀ (h:Heap) (args:List ai),h.low=h.size->ak h g (.row uo uk true)->xV P h n fn.params.toList args->Ok P T ov k args h λv h'=>v=.bool true/\Ext h h')
 (eX:∀ (j:Nat) t v,fn.params[j]? = some t->args[j]? = some v->Value.okWide P W .any base t v)
 (hW:DataW.Whole enc P fn.params.toList s.vars apart W args.toList ds gs before) :
 Calls P k args W λe W'=>∃ v,e=.returned v/\s.post enc P fn apart fresh handsOn again W args v W':=by
 have hS:0 < W.heap.size:=by
  have:=ht 0 (by omega)
  unfold World.cell? at this
  split at this
  .rename_i c _ _ hh
   have:=(my.1 hh).1
   omega
  .cases this
 obtain ⟨M,u9⟩:=zrk W
 have hM:0 < M:=Nat.lt_of_le_of_lt (jl _) (u9 0 hS)
 have Y3:=hW
 obtain ⟨p,q,hA,hV,rfl,IV,Np⟩:=hW
 rw [pN] at hV
 obtain ⟨rfl,rfl⟩:=trodVars_none hV
 have hlen:∀ (ts:List TypeId) (vs:List ai) (ds:List (DataW H)) (ps:List MemPlace),DataW.TrodAll enc P W 0 (λ_=>true) true ts vs ds ps->ds.length=ts.length:=by
  intro ts
  induction ts with
  |nil=>intro vs ds ps h;cases vs <;> cases ds <;> first|rfl|cases h
  |cons t ts ih =>
   intro vs ds ps h
   cases vs with
   |nil=>cases h
   |cons v vs =>
    cases ds with
    |nil=>cases h
    |cons d ds=>obtain ⟨_,_,_,h2,_⟩:=h;simp [ih vs ds _ h2]
 have Zd:=hlen _ _ _ _ hA
 have dV:(tB g).size=g+1:=rfl
 have dI:∀ A,(tB g).size<=A->tG g A=none:=λA hA=>by
  rw [dV] at hA
  unfold tG
  rw [aA (by omega)]
 obtain ⟨FV,TH⟩:=zo1 (h:=tB g) (ρ:=tG g) (n:=n) (base:=base) hS u9 fn.params.toList args.toList ds p Sy (λj t v h1 h2=>eX j t v (by simpa using h1) (by simpa using h2)) hA
 have ei:=zyq (W:=W) (h:=tB g) (ρ:=tG g) (M:=M) (zph ht) dI (λA L hA=>by
  unfold tG at hA
  split at hA
  .rename_i e
   rw [e]
   exact ⟨uo,uk,by rw [Vk,aB rfl]⟩
  .cases hA) hM
 have jT:(tF W (tB g) M).low=(tF W (tB g) M).size:=by rw [K3];rfl
 have dq:ak (tF W (tB g) M) g (.row uo uk true):=⟨by rw [K3,dV];omega,by rw [Vt (by rw [dV];omega),Vk,aB rfl]⟩
 refine (ztc ko hT jg hk ?_ ei (λA fw=>?_) jT FV (df _ _ jT dq TH)).mono λe W' ⟨he,hb⟩=>?_
 .rw [tc]
  intro x hx
  obtain rfl:x=g:=by simpa using hx
  refine ⟨0,?_⟩
  unfold pX
  rw [aA (by rw [dV];omega)]
  unfold tG
  rw [aB rfl]
 .rw [K3] at fw
  unfold pX
  rw [aA (by omega)]
  exact dI A (by omega)
 .subst he
  have Df:=kT (ds++[]) (by rw [bD,Zd];simp)
  refine ⟨_,rfl,zxM (pa:=p) (pv:=[]) Y3 (λb sp hd=>?_) (λsp dq=>?_) (λsp _=>?_) (by simp) hb (λj t r h1 h2=>?_)⟩
  .rw [jV,DI,Df]
   exact trodAll_mk1 (shut_bool AX true)
  .rw [Df]
   rw [bD]
   exact zhc hl hb sp _ _ _ _ nD (λx hx=>Y3.lt x (by simp [hx])) (λx hx=>dq x (by simp [hx])) hA
  .rw [pN,Df]
   rfl
  .rw [DI] at h2
   have hj:fn.resultTypes[j]? = some t:=h1
   have h3:fn.resultTypes.toList[j]? = some t:=by simpa using hj
   rw [jV] at h3
   cases j with
   |zero =>
    simp at h3 h2
    subst h3
    have:r=.bool true:=by simpa [Value.resultList] using h2.symm
    subst this
    exact okWide_bool_mk AX true
   |succ j=>simp at h3
def Ha (g:Nat) (args:List ai) (h:Heap):Option (ai × Heap):=match args with
 | []=>(match h.get g with
  |some (.row _ e true)=>if Nat.beq e uk then some (.bool true,h) else none
  |_=>none)
 |_=>none
theorem zwx {gs:List Nat} {f:FuncId} (tc:g∈gs) (eK:∀ aK w,(callFunc f aK).run P w=.ok (.enter f aK) w) (hc:∀ w,(∀ c,c < 256->w.cell? ⟨g,c,none⟩=some (.int .u8 (Lib.asciiSpaceTab.getD c 0)))->Calls P f #[] w λe w'=>e=.returned (.bool true)/\Below w.heap.size w w'):HD P gs f (Ha g):=by
 intro args h v h' aj
 unfold Ha at aj
 split at aj
 .split at aj
  .rename_i cs e hg
   split at aj
   .rename_i hm
    cases aj
    refine ⟨.refl _,λρ w aK hG hs b8 hv=>.inr ⟨eK aK w,?_⟩⟩
    have kP:aK=#[]:=by rw [<- Md];exact hv.of_nil
    subst kP
    obtain ⟨t,hρ⟩:=hG g tc
    have hb:=hs.lx g _ hρ
    rw [hg] at hb
    have qV:=hb.1.2 (Nat.eq_of_beq_eq_true hm)
    refine (hc w (λc hc=>?_)).mono ?_
    .have hx:cs[c]? = some (.int .u8 (Lib.asciiSpaceTab.getD c 0)):=by
      rw [qV]
      unfold uo
      rw [lk]
      have:c < Lib.asciiSpaceTab.length:=by rw [Lib.asciiSpaceTab_length];exact hc
      simp [List.getD,this]
     obtain ⟨u,hu,o9⟩:=hb.2 c _ hx
     have:=o9.bG rfl
     subst this
     simpa using hu
    .rintro e w' ⟨rfl,ic⟩
     exact ⟨ρ,.bool true,rfl,.pR ρ _ ic,hs.below ic,.dj ρ rfl⟩
   .cases aj
  .cases aj
 .cases aj
def bh (g:Nat) (h:Heap):Prop:=ak h g (.row uo uk true)
theorem zyN {h:Heap} (hs:bh g h):Ha g [] h=some (.bool true,h):=by
 unfold Ha
 rw [hs.get]
 rfl
end
end Go.Am

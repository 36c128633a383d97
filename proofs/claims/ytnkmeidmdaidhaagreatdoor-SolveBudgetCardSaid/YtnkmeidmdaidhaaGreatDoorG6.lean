/- Functions of the library with a contract of the kit's, for the plain machine. No condition. -/
import Derived.Shelf.Small.Strs
import Derived.Lib.Join
import Derived.Lib.Fields
import Derived.Lib.LaidTab
import Derived.MakeChecks
import Derived.Lay
import Derived.Test.YtnkmeidmdaidhaaGreatDoorG5
set_option linter.unusedSimpArgs false
namespace Go.Am
open Go.RowKit
variable {f:FuncId}
section
variable {P:Program} {gs:List Nat} {ρ:cf} {h:Heap} {w w':World}

theorem bB.below (hs:bB ρ h w) (hb:Below w.heap.size w w'):bB ρ h w' :=
 ⟨λA L hA=>(hs.jV A L hA).ft (λ_ _ h=>h) hb.size (λ_=>hb.block _ (hs.lt hA)),hs.inj⟩
theorem Fr.nR (ρ:cf) (h:Heap) (hb:Below w.heap.size w w'):Fr ρ ρ h h w w' :=
 ⟨λ_ _ h=>h,λA L h1 h2=>(by rw [h1] at h2;cases h2),hb.os,hb.tape,hb.output,hb.size,aS _,aS _,λb hl _=>hb.block b hl,λ_ _ _=>rfl⟩

theorem CQ {T:bx} (hT:T.Fits P) {fn:Func} (hf:T.fn f=some fn) {c:Code} (hc:fn.body=some c) (aI:Array ai) (w:World):(callFunc f aI).run P w=.ok (.enter f aI) w:=by
 obtain ⟨hP,gH,_⟩:=hT.fn f fn hf
 have eE:¬ fn.name="runtime.NumGoroutine":=by simpa using gH
 simp [callFunc,hP,eE,hc]

def FP (P:Program) (gs:List Nat) (f:FuncId) (g:List ai->Heap->Option (ai × Heap)):Prop :=
 ∀ args h v h',g args h=some (v,h')->bh h h'/\∀ ρ w (aI:Array ai),cE gs ρ->bB ρ h w->el ρ h h'->cm ρ args aI.toList->Va P ρ h h' w v f aI

theorem zrs {g:List ai->Heap->Option (ai × Heap)} (dR:∀ aI w,(callFunc f aI).run P w=.ok (.enter f aI) w)
 (hg:∀ args h v h',g args h=some (v,h')->h'=h/\plain v=true/\∀ ρ w (aI:Array ai),bB ρ h w->cm ρ args aI.toList->Calls P f aI w λe w'=>e=.returned v/\Below w.heap.size w w'):FP P gs f g:=by
 intro args h v h' aj
 obtain ⟨rfl,hp,hc⟩:=hg args h v h' aj
 refine ⟨.refl _,λρ w aI _ hs _ hv=>.inr ⟨dR aI w,(hc ρ w aI hs hv).mono ?_⟩⟩
 rintro e w' ⟨rfl,hb⟩
 exact ⟨ρ,v,rfl,.nR ρ _ hb,hs.below hb,.cP ρ hp⟩

def strs:List ai->Option (List bf)
 | []=>some []
 | .string s::l=>(strs l).map (s::·)
 |_=>none

def Dw (args:List ai) (h:Heap):Option (ai × Heap):=match args with
 | [.slice a n _,.string sep] =>
  if n=0 then some (.string ⟨#[]⟩,h) else
  match a with
  |some ⟨A,o,none⟩=>(kL A o n h).bind λl=>(strs l).bind λxs =>
   if n<=140737488355328/\(Lib.join (xs.map (·.data.toList)) sep.data.toList).length<=140737488355328 then some (.string ⟨(Lib.join (xs.map (·.data.toList)) sep.data.toList).toArray⟩,h) else none
  |_=>none
 |_=>none

def JI (args:List ai) (h:Heap):Option (ai × Heap):=match args with
 | [.string a,.string b]=>some (.int .i64 (Lib.compareBytes a.data.toList b.data.toList),h)
 |_=>none

theorem zrB:∀ (l:List ai) (xs:List bf),strs l=some xs->xs.length=l.length/\∀ (j:Nat) (x:bf),xs[j]? = some x->l[j]? = some (.string x)
 | [],xs,hx=>by simp only [strs,dy] at hx;subst hx;exact ⟨rfl,λj x hj=>by simp at hj⟩
 |v::l,xs,hx=>by
  cases v with
  |string s =>
   simp only [strs,bX] at hx
   obtain ⟨ys,hy,rfl⟩:=hx
   obtain ⟨h1,h2⟩:=zrB l ys hy
   refine ⟨by simp [h1],λj x hj=>?_⟩
   cases j with
   |zero=>simp at hj;simp [hj]
   |succ j=>simpa using h2 j x (by simpa using hj)
  |_=>simp [strs] at hx

theorem zjr (dR:∀ aI w,(callFunc f aI).run P w=.ok (.enter f aI) w)
 (hc:∀ a b w,Calls P f #[.string a,.string b] w λe w'=>e=.returned (.int .i64 (Lib.compareBytes a.data.toList b.data.toList))/\w'=w):FP P gs f JI:=by
 refine zrs dR λargs h v h' aj=>?_
 unfold JI at aj
 split at aj
 .rename_i a b
  cases aj
  refine ⟨rfl,rfl,λρ w aI hs hv=>?_⟩
  obtain ⟨x,m,h1,hx,hv⟩:=hv.of_cons
  obtain ⟨y,m',h2,hy,hv⟩:=hv.of_cons
  have:=hv.of_nil
  subst this
  cases hx
  cases hy
  subst h2
  have kj:aI=#[.string a,.string b]:=by rw [<- Ke];exact h1
  subst kj
  refine (hc a b w).mono ?_
  rintro e w' ⟨rfl,rfl⟩
  exact ⟨rfl,.refl _ _⟩
 .cases aj

theorem zrr (dR:∀ aI w,(callFunc f aI).run P w=.ok (.enter f aI) w)
 (h0:∀ a c sep w,Calls P f #[.slice a 0 c,.string sep] w λe w'=>e=.returned (.string ⟨#[]⟩)/\w'=w)
 (hj:∀ (bk o c:Nat) (xs:List bf) (sep:bf) (w:World),(∀ (j:Nat) x,xs[j]? = some x->w.cell? ⟨bk,o+j,none⟩=some (.string x))->bk < w.heap.size->xs.length<=140737488355328->xs.length<=c->(Lib.join (xs.map (·.data.toList)) sep.data.toList).length<=140737488355328 ->
  Calls P f #[.slice (some ⟨bk,o,none⟩) xs.length c,.string sep] w λe w'=>e=.returned (.string ⟨(Lib.join (xs.map (·.data.toList)) sep.data.toList).toArray⟩)/\Below w.heap.size w w'):FP P gs f Dw:=by
 refine zrs dR λargs h v h' aj=>?_
 unfold Dw at aj
 split at aj
 .rename_i a n c sep
  split at aj
  .rename_i hn
   cases aj
   subst hn
   refine ⟨rfl,rfl,λρ w aI hs hv=>?_⟩
   obtain ⟨x,m,h1,hx,hv⟩:=hv.of_cons
   obtain ⟨y,m',h2,hy,hv⟩:=hv.of_cons
   have:=hv.of_nil
   subst this
   cases hy
   subst h2
   have mg:∃ a' c',x=.slice a' 0 c':=by cases hx <;> exact ⟨_,_,rfl⟩
   obtain ⟨a',c',rfl⟩:=mg
   have kj:aI=#[.slice a' 0 c',.string sep]:=by rw [<- Ke];exact h1
   subst kj
   refine (h0 a' c' sep w).mono ?_
   rintro e w' ⟨rfl,rfl⟩
   exact ⟨rfl,.refl _ _⟩
  .rename_i hn
   split at aj
   .rename_i A o
    simp only [ck] at aj
    obtain ⟨l,hl,xs,mg,aj⟩:=aj
    split at aj
    .rename_i hle
     cases aj
     refine ⟨rfl,rfl,λρ w aI hs hv=>?_⟩
     obtain ⟨x,m,h1,hx,hv⟩:=hv.of_cons
     obtain ⟨y,m',h2,hy,hv⟩:=hv.of_cons
     have:=hv.of_nil
     subst this
     cases hy
     subst h2
     have key:∃ L c',ρ A=some L/\n<=c'/\x=.slice (some ⟨L.b,L.s+o,none⟩) n c':=by
      cases hx with
      |slice hA hc BG eK=>exact ⟨_,_,hA,BG,by rw [eK (by omega)]⟩
      |cG hA hc fm BG hk hm eK=>exact ⟨_,_,hA,dZ BG fm,by rw [(eK (by omega)).1]⟩
     obtain ⟨L,c',hA,BG,rfl⟩:=key
     have kj:aI=#[.slice (some ⟨L.b,L.s+o,none⟩) n c',.string sep]:=by rw [<- Ke];exact h1
     subst kj
     obtain ⟨ms,DZ,Hd,BR⟩:=LL hs hA hl
     obtain ⟨RX,hxg⟩:=zrB l xs mg
     have BI:xs.length=n:=by rw [RX,DZ.1,Hd]
     have:=hj L.b (L.s+o) c' xs sep w (λj x hx=>by
      obtain ⟨y,hy,cJ⟩:=DZ.get (hxg j x hx)
      cases cJ
      exact BR j _ hy) (hs.lt hA) (by omega) (by omega) hle.2
     rw [BI] at this
     exact this
    .cases aj
   .cases aj
 .cases aj
end
end Go.Am
namespace Go.Am
open Go.RowKit
variable {g:Nat} {f:FuncId}
section
variable {P:Program} {gs:List Nat} {ρ:cf} {h:Heap} {w:World}

def rF (g:Nat):Heap:=⟨g+1,(Tr.set (g+1) .nil g (.row rX rV true)),g+1⟩
def rE (g:Nat):cf:=λA=>if A=g then some ⟨g,0,0⟩ else none
theorem Tc (g A:Nat):(rF g).get A=if A=g then some (.row rX rV true) else none:=by
 unfold Heap.get rF
 simp only [Tr.aM _ _ _ _ _ (pP g),Tr.get_nil]
 by_cases h1:A=g
 .subst h1;simp
 .simp [h1]
theorem zti (ht:∀ c,c < 256->w.cell? ⟨g,c,none⟩=some (.int .u8 (Lib.asciiSpaceTab.getD c 0))) (i:Nat) (v:ai) (hv:rX[i]? = some v):w.cell? ⟨g,i,none⟩=some v/\plain v=true:=by
 unfold rX at hv
 rw [jS,bX] at hv
 obtain ⟨z,hz,rfl⟩:=hv
 have hi:i < 256:=by have:=(fD.1 hz).1;rw [Lib.asciiSpaceTab_length] at this;exact this
 refine ⟨?_,rfl⟩
 rw [ht i hi]
 simp [List.getD,hz]
theorem zoi (ht:∀ c,c < 256->w.cell? ⟨g,c,none⟩=some (.int .u8 (Lib.asciiSpaceTab.getD c 0))):bB (rE g) (rF g) w:=by
 have aW:g < w.heap.size:=by
  have:=ht 0 (by omega)
  unfold World.cell? at this
  split at this
  .rename_i c _ _ hh;exact (kX.1 hh).1
  .cases this
 refine ⟨λA L hA=>?_,λA A' L L' hA eG aO _=>?_⟩
 .unfold rE at hA
  split at hA
  .rename_i e
   cases hA
   rw [Tc,aG e]
   refine ⟨⟨aW,λ_=>rfl⟩,λi v hv=>?_⟩
   obtain ⟨h1,h2⟩:=zti ht i v hv
   exact ⟨v,by simpa using h1,.cP _ h2⟩
  .cases hA
 .unfold rE at hA eG
  split at hA
  .split at eG
   .omega
   .cases eG
  .cases hA

theorem znG {l:List (String × DataW Unit)} {n:String} {d:DataW Unit}:∀ {ps:List MemPlace},DataW.LaidVars P w l ps->(n,d)∈l ->
 ∃ g t cs fuel p,P.globalNamed n=some g/\(P.globals[g]?).map (·.type)=some t/\w.var? P n=some cs/\DataW.trod (λ_=>()) P w 0 (λ_=>true) false fuel t cs.toList=some (d,p):=by
 induction l with
 |nil=>intro ps _ hm;cases hm
 |cons x l ih =>
  intro ps hl hm
  obtain ⟨m,e⟩:=x
  obtain ⟨g,t,cs,fuel,p,q,h1,h2,h3,h4,h5,_⟩:=hl
  rcases dg.1 hm with h6|h6
  .cases h6;exact ⟨g,t,cs,fuel,p,h1,h2,h3,h4⟩
  .exact ih h5 h6
theorem zl8 {l:List (String × DataW Unit)} {d:DataW Unit} {t e:TypeId} (hL:laidMetH P l w) (hp:(l.all λx=>x.2.handleName?.isNone)=true) (hm:("strings.asciiSpace",d)∈l) (hd:d=Lib.tabData .u8 Lib.asciiSpaceTab)
 (hg:P.globalNamed "strings.asciiSpace"=some g) (B5:(P.globals[g]?).map (·.type)=some t) (ht:P.underlying t=some (.array 256 e)) (he:P.underlying e=some (.int .u8)) (DP:P.cellsOf e=1) (GM:P.cellsOf t=256) :
 ∀ c,c < 256->w.cell? ⟨g,c,none⟩=some (.int .u8 (Lib.asciiSpaceTab.getD c 0)):=by
 rw [MakeChecks.laidMetH_plain _ _ _ hp] at hL
 obtain ⟨ps,hl,_⟩:=hL
 obtain ⟨g',t',cs,fuel,p,hg',ht',RC,hx⟩:=znG hl hm
 subst hd
 obtain rfl:=Option.some.inj (hg.symm.trans hg')
 obtain rfl:=Option.some.inj (B5.symm.trans ht')
 have hT:Lib.TabIs P w "strings.asciiSpace" .u8 Lib.asciiSpaceTab:=by
  unfold Lib.TabIs
  rw [RC,<- Lib.cells_of_tab ht he DP GM hx]
 exact λc hc=>hT.cell hg c (by rw [Lib.asciiSpaceTab_length];exact hc)

def qu (s:List UInt8):List ai:=(Lib.fields s).map λl=>Value.string ⟨l.toArray⟩
def CY (g:Nat) (st:TypeId) (args:List ai) (h:Heap):Option (ai × Heap):=match args with
 | [.string s]=>(match h.get g with
  |some (.row _ e true) =>
   if Nat.beq e rV && s.data.toList.all (λb=>Nat.blt b.toNat 128) && Nat.blt s.size 4294967281 && Nat.blt (qu s.data.toList).length 4294967281 then
    some (.slice (some ⟨h.size,0,none⟩) (qu s.data.toList).length (qu s.data.toList).length,h.push (.row (qu s.data.toList) st false))
   else none
  |_=>none)
 |_=>none
theorem zkN {st:TypeId} (wZ:g∈gs) (dR:∀ aI w,(callFunc f aI).run P w=.ok (.enter f aI) w)
 (hf:∀ (s:bf) (w:World),s.size < 4294967281->(∀ (j:Nat) b,s.data.toList[j]? = some b->b.toNat < 128)->(∀ c:Nat,c < 256->w.cell? ⟨g,c,none⟩=some (.int .u8 (if Lib.isSp (UInt8.ofNat c) then 1 else 0))) ->
  Calls P f #[.string s] w λe w' =>
   e=.returned (.slice (some ⟨w.heap.size,0,none⟩) (Lib.fields s.data.toList).length (Lib.fields s.data.toList).length)/\w'=w.alloc (.cells ((Lib.fields s.data.toList).map λl=>Value.string ⟨l.toArray⟩).toArray st)):FP P gs f (CY g st):=by
 intro args h v h' aj
 unfold CY at aj
 split at aj
 .rename_i s
  split at aj
  .rename_i cs e hg
   split at aj
   .rename_i hc
    simp only [dj,gz] at hc
    obtain ⟨⟨⟨hm,Qd⟩,dC⟩,GU⟩:=hc
    cases aj
    refine ⟨.push _ _,λρ w aI hG hs bL hv=>.inr ⟨dR aI w,?_⟩⟩
    obtain ⟨y,m,he,h1,h2⟩:=hv.of_cons
    cases h1
    have tC:=h2.of_nil
    subst tC
    have Bb:aI=#[.string s]:=by apply Array.ext';simpa using he
    subst Bb
    obtain ⟨t,hρ⟩:=hG g wZ
    have hb:=hs.jV g _ hρ
    rw [hg] at hb
    have o0:=hb.1.2 (Nat.eq_of_beq_eq_true hm)
    have gF:∀ c:Nat,c < 256->w.cell? ⟨g,c,none⟩=some (.int .u8 (if Lib.isSp (UInt8.ofNat c) then 1 else 0)):=by
     intro c hc
     have hx:cs[c]? = some (.int .u8 (Lib.asciiSpaceTab.getD c 0)):=by
      rw [o0]
      unfold rX
      rw [jS]
      have:c < Lib.asciiSpaceTab.length:=by rw [Lib.asciiSpaceTab_length];exact hc
      simp [List.getD,this]
     obtain ⟨u,hu,nj⟩:=hb.2 c _ hx
     have:=nj.bt rfl
     subst this
     rw [Lib.asciiSpaceTab_at c hc] at hu
     simpa using hu
    have fo:ρ h.size=none:=bL h.size (aS _) (pP _)
    have Ru:s.size < 4294967281:=by simpa [Nat.blt_eq] using dC
    have GB:∀ (j:Nat) b,s.data.toList[j]? = some b->b.toNat < 128:=λj b hb=>by
     have:=Qd b (fV hb)
     simpa [Nat.blt_eq] using this
    refine (hf s w Ru GB gF).mono ?_
    rintro e w' ⟨rfl,rfl⟩
    have xu:(qu s.data.toList).all jP=true:=by
     unfold qu
     rw [List.all_map,gz]
     intro x _
     rfl
    have hlen:(qu s.data.toList).length=(Lib.fields s.data.toList).length:=by simp [qu]
    obtain ⟨ρ',ui,dm,dH⟩:=Et (W:=w.alloc (.cells ((Lib.fields s.data.toList).map λl=>Value.string ⟨l.toArray⟩).toArray st)) (cs:=qu s.data.toList) (m:=qu s.data.toList) (e:=st) hs fo rfl rfl rfl rfl
     (by refine uP (by simp [qu]) rfl (λj _=>by rw [ia];rfl)) (cm.plain ρ xu)
    refine ⟨ρ',_,rfl,dm,dH,?_⟩
    have Qv:(qu s.data.toList).length < 4294967281:=by simpa [Nat.blt_eq] using GU
    rw [hlen] at Qv ⊢
    exact VR.slice (o:=0) ui (by unfold G;omega) (aS _) (λ_=>rfl)
   .cases aj
  .cases aj
 .cases aj
def znD (n:Nat):FK:=λv h=>match v with
 | .bool b=>(match b with|true=>Nat.ble n h.low|false=>false)
 |_=>false
def TN (n:Nat) (r:Option (ai × Heap)):Bool:=match r with
 |some x=>znD n x.1 x.2
 |none=>false
theorem zp5 {T:bx} {ov:Ov} (jk:P.follows .mixedOrders=true) (hT:T.Fits P) (wZ:T.gs=[g]) (gb:yD P T.gs ov) {n:Nat} (hf:ov f=none) (dN:TN (g+1) (call P T ov n (.func f) [] (rF g))=true) (w:World)
 (ht:∀ c,c < 256->w.cell? ⟨g,c,none⟩=some (.int .u8 (Lib.asciiSpaceTab.getD c 0))) :
 Calls P f #[] w λe w'=>e=.returned (.bool true)/\Below w.heap.size w w':=by
 match hc:call P T ov n (.func f) [] (rF g),dN with
 |some (v,h'),hk =>
  simp only [TN] at hk
  unfold znD at hk
  split at hk
  .rename_i b
   split at hk
   .refine zws jk hT gb hf hc w (rE g) (by rw [wZ];intro q hq;simp at hq;subst hq;exact ⟨0,by simp [rE]⟩) (zoi ht) ?_ ?_
    .intro A hA
     unfold rE
     rw [aA]
     have:g+1<=A:=hA
     omega
    .intro A L hA
     unfold rE at hA
     split at hA
     .have:=Nat.le_of_ble_eq_true hk;omega
     .cases hA
   .cases hk
  .cases hk
end
theorem zqt {H:Type} {enc:TypeId × ai->H} {C:Checked} {os:Os} {fn:Func} {s:ChangeSpec} {conds:List PathCond} {apart:Bool} {X:World->Array ai->Prop} (w0:World) (args:Array ai) (fuel:Nat) (tH:w0.os=os)
 (hv:(w0.forCall (λ_ _=>0) ⟨#[],args,[]⟩).variablesZipB C.prog=true)
 (hr:((w0.forCall (λ_ _=>0) ⟨#[],args,[]⟩).heap.toList.drop C.prog.globals.size).take ((begin C.prog (λ_ _=>0) default).world.heap.size - C.prog.globals.size) =
  (begin C.prog (λ_ _=>0) default).world.heap.toList.drop C.prog.globals.size)
 (cX:Input.okWideB C.prog (w0.forCall (λ_ _=>0) ⟨#[],args,[]⟩) f ⟨#[],args,[]⟩=true)
 (mP:s.preB enc C.prog fn conds apart (w0.forCall (λ_ _=>0) ⟨#[],args,[]⟩).memory args fuel=true)
 (dC:s.sizedB enc C.prog fn apart (w0.forCall (λ_ _=>0) ⟨#[],args,[]⟩).memory args fuel=true)
 (hx:X (w0.forCall (λ_ _=>0) ⟨#[],args,[]⟩).memory args) :
 ∃ (w:World) (tape:Tape) (i:Input),w.os=os/\(w.forCall tape i).Shaped C.prog/\i.vars=[]/\Input.okWide C.prog (w.forCall tape i) .any w.heap.size f i /\
   ((s.pre enc C.prog fn conds apart (w.forCall tape i).memory i.args/\X (w.forCall tape i).memory i.args)/\sizedMet enc C.prog fn (OpenSpec.ofChange s) apart (w.forCall tape i).memory i.args)/\({}:Assume).holds C.prog (lone (Frame.enter C.prog f i.args .normal) [] (w.forCall tape i)) :=
 ⟨w0,λ_ _=>0,⟨#[],args,[]⟩,tH,World.shaped_of_ZipB hv hr,(Input.okWide_of_okWideB (base:=0) cX).1,(Input.okWide_of_okWideB cX).2,⟨⟨ChangeSpec.pre_of_preB mP,hx⟩,sizedMet_of_sizedB dC⟩,by
  simp only [Assume.holds]
  exact ⟨by simp,by simp,λh=>by simp at h,by simp,by simp⟩⟩
end Go.Am
namespace Go.Am
open Go.RowKit Go.ChangeShapes Go.WideShapes Go.ChangeAt
variable {g:Nat}
section
variable {P:Program} {T:bx} {ov:Ov} {W:World} {H:Type} {enc:TypeId × ai->H}
theorem zlJ (jk:P.follows .mixedOrders=true) (hT:T.Fits P) (wZ:T.gs=[g]) (gb:yD P T.gs ov) {k:FuncId} {fn:Func} {s:ChangeSpec} {n boolT:Nat} {apart fresh handsOn again:Bool} {base:Nat} {args:Array ai} {ds gs:List (DataW H)} {before:List MemPlace}
 (hk:ov k=none) (ht:∀ c,c < 256->W.cell? ⟨g,c,none⟩=some (.int .u8 (Lib.asciiSpaceTab.getD c 0))) (hl:laidOutB P=true) (nM:s.vars=[]) (iT:fn.resultTypes.toList=[boolT]) (BT:fn.resultTypes.size=1) (yT:P.underlying boolT=some .bool)
 (Qn:fn.params.toList.all (uO P n)=true) (me:fn.params.toList.all (λt=>P.readableRec t && decide (t < P.types.size))=true)
 (kx:∀ ds:List (DataW H),ds.length=fn.params.size->s.fn H ds={ results:=[.lit (.bool true)],args:=ds })
 (cX:∀ (h:Heap) (args:List ai),h.low=h.size->ak h g (.row rX rV true)->vR P h n fn.params.toList args->Ok P T ov k args h λv h'=>v=.bool true/\Ext h h')
 (eg:∀ (j:Nat) t v,fn.params[j]? = some t->args[j]? = some v->Value.okWide P W .any base t v)
 (hW:DataW.Whole enc P fn.params.toList s.vars apart W args.toList ds gs before) :
 Calls P k args W λe W'=>∃ v,e=.returned v/\s.post enc P fn apart fresh handsOn again W args v W':=by
 have hS:0 < W.heap.size:=by
  have:=ht 0 (by omega)
  unfold World.cell? at this
  split at this
  .rename_i c _ _ hh
   have:=(kX.1 hh).1
   omega
  .cases this
 obtain ⟨M,sZ⟩:=zqs W
 have hM:0 < M:=Nat.lt_of_le_of_lt (jv _) (sZ 0 hS)
 have WQ:=hW
 obtain ⟨p,q,hA,hV,rfl,GX,Li⟩:=hW
 rw [nM] at hV
 obtain ⟨rfl,rfl⟩:=trodVars_none hV
 have hlen:∀ (ts:List TypeId) (vs:List ai) (ds:List (DataW H)) (ps:List MemPlace),DataW.TrodAll enc P W 0 (λ_=>true) true ts vs ds ps->ds.length=ts.length:=by
  intro ts
  induction ts with
  |nil=>intro vs ds ps h;cases vs <;> cases ds <;> first|rfl|cases h
  |cons t ts ih =>
   intro vs ds ps h
   cases vs with
   |nil=>cases h
   |cons v vs =>
    cases ds with
    |nil=>cases h
    |cons d ds=>obtain ⟨_,_,_,h2,_⟩:=h;simp [ih vs ds _ h2]
 have W2:=hlen _ _ _ _ hA
 have dC:(rF g).size=g+1:=rfl
 have dm:∀ A,(rF g).size<=A->rE g A=none:=λA hA=>by
  rw [dC] at hA
  unfold rE
  rw [aA (by omega)]
 obtain ⟨D1,Rq⟩:=zn4 (h:=rF g) (ρ:=rE g) (n:=n) (base:=base) hS sZ fn.params.toList args.toList ds p Qn (λj t v h1 h2=>eg j t v (by simpa using h1) (by simpa using h2)) hA
 have dH:=zxc (W:=W) (h:=rF g) (ρ:=rE g) (M:=M) (zoi ht) dm (λA L hA=>by
  unfold rE at hA
  split at hA
  .rename_i e
   rw [e]
   exact ⟨rX,rV,by rw [Tc,aG rfl]⟩
  .cases hA) hM
 have iS:(rD W (rF g) M).low=(rD W (rF g) M).size:=by rw [Ji];rfl
 have cY:ak (rD W (rF g) M) g (.row rX rV true):=⟨by rw [Ji,dC];omega,by rw [S8 (by rw [dC];omega),Tc,aG rfl]⟩
 refine (zsc jk hT gb hk ?_ dH (λA eG=>?_) iS D1 (cX _ _ iS cY Rq)).mono λe W' ⟨he,hb⟩=>?_
 .rw [wZ]
  intro x hx
  obtain rfl:x=g:=by simpa using hx
  refine ⟨0,?_⟩
  unfold nW
  rw [aA (by rw [dC];omega)]
  unfold rE
  rw [aG rfl]
 .rw [Ji] at eG
  unfold nW
  rw [aA (by omega)]
  exact dm A (by omega)
 .subst he
  have Bo:=kx (ds++[]) (by rw [bu,W2];simp)
  refine ⟨_,rfl,zwB (pa:=p) (pv:=[]) WQ (λb sp hd=>?_) (λsp cY=>?_) (λsp _=>?_) (by simp) hb (λj t r h1 h2=>?_)⟩
  .rw [iT,BT,Bo]
   exact trodAll_mk1 (shut_bool yT true)
  .rw [Bo]
   rw [bu]
   exact ZF hl hb sp _ _ _ _ me (λx hx=>WQ.lt x (by simp [hx])) (λx hx=>cY x (by simp [hx])) hA
  .rw [nM,Bo]
   rfl
  .rw [BT] at h2
   have hj:fn.resultTypes[j]? = some t:=h1
   have h3:fn.resultTypes.toList[j]? = some t:=by simpa using hj
   rw [iT] at h3
   cases j with
   |zero =>
    simp at h3 h2
    subst h3
    have:r=.bool true:=by simpa [Value.resultList] using h2.symm
    subst this
    exact okWide_bool_mk yT true
   |succ j=>simp at h3
def Fk (g:Nat) (args:List ai) (h:Heap):Option (ai × Heap):=match args with
 | []=>(match h.get g with
  |some (.row _ e true)=>if Nat.beq e rV then some (.bool true,h) else none
  |_=>none)
 |_=>none
theorem zvz {gs:List Nat} {f:FuncId} (wZ:g∈gs) (dR:∀ aI w,(callFunc f aI).run P w=.ok (.enter f aI) w) (hc:∀ w,(∀ c,c < 256->w.cell? ⟨g,c,none⟩=some (.int .u8 (Lib.asciiSpaceTab.getD c 0)))->Calls P f #[] w λe w'=>e=.returned (.bool true)/\Below w.heap.size w w'):FP P gs f (Fk g):=by
 intro args h v h' aj
 unfold Fk at aj
 split at aj
 .split at aj
  .rename_i cs e hg
   split at aj
   .rename_i hm
    cases aj
    refine ⟨.refl _,λρ w aI hG hs bL hv=>.inr ⟨dR aI w,?_⟩⟩
    have kj:aI=#[]:=by rw [<- Ke];exact hv.of_nil
    subst kj
    obtain ⟨t,hρ⟩:=hG g wZ
    have hb:=hs.jV g _ hρ
    rw [hg] at hb
    have o0:=hb.1.2 (Nat.eq_of_beq_eq_true hm)
    refine (hc w (λc hc=>?_)).mono ?_
    .have hx:cs[c]? = some (.int .u8 (Lib.asciiSpaceTab.getD c 0)):=by
      rw [o0]
      unfold rX
      rw [jS]
      have:c < Lib.asciiSpaceTab.length:=by rw [Lib.asciiSpaceTab_length];exact hc
      simp [List.getD,this]
     obtain ⟨u,hu,nj⟩:=hb.2 c _ hx
     have:=nj.bt rfl
     subst this
     simpa using hu
    .rintro e w' ⟨rfl,jg⟩
     exact ⟨ρ,.bool true,rfl,.nR ρ _ jg,hs.below jg,.cP ρ rfl⟩
   .cases aj
  .cases aj
 .cases aj
def bj (g:Nat) (h:Heap):Prop:=ak h g (.row rX rV true)
theorem zxA {h:Heap} (hs:bj g h):Fk g [] h=some (.bool true,h):=by
 unfold Fk
 rw [hs.get]
 rfl
end
end Go.Am

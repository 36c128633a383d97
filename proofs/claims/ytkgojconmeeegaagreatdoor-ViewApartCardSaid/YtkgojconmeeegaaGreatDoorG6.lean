/- Functions of the library with a contract of the kit's, for the plain machine. No condition. -/
import Derived.Shelf.Small.Strs
import Derived.Lib.Join
import Derived.Lib.Fields
import Derived.Lib.LaidTab
import Derived.MakeChecks
import Derived.Lay
import Derived.Test.YtkgojconmeeegaaGreatDoorG5
namespace Go.Am
open Go.RowKit
section
variable {P:Program} {gs:List Nat} {ρ:cE} {h:Heap} {w w':World}

theorem bP.below (hs:bP ρ h w) (hb:Below w.heap.size w w'):bP ρ h w' :=
 ⟨fun A L hA=>(hs.fG A L hA).keep (fun _ _ h=>h) hb.size (fun _=>hb.block _ (hs.lt hA)),hs.inj⟩
theorem Fr.mY (ρ:cE) (h:Heap) (hb:Below w.heap.size w w'):Fr ρ ρ h h w w' :=
 ⟨fun _ _ h=>h,fun A L h1 h2=>(by rw [h1] at h2;cases h2),hb.os,hb.tape,hb.output,hb.size,Nat.le_refl _,Nat.le_refl _,fun b hl _=>hb.block b hl,fun _ _ _=>rfl⟩

theorem y5 {T:bK} (hT:T.Fits P) {f:FuncId} {fn:Func} (hf:T.fn f=some fn) {c:Code} (hc:fn.body=some c) (aG:Array Value) (w:World):(callFunc f aG).run P w=.ok (.enter f aG) w:=by
 obtain ⟨hP,fA,_⟩:=hT.fn f fn hf
 have fZ:¬ fn.name="runtime.NumGoroutine":=by simpa using fA
 simp [callFunc,hP,fZ,hc]

def zm (P:Program) (gs:List Nat) (f:FuncId) (g:List Value→Heap→Option (Value × Heap)):Prop :=
 ∀ args h v h',g args h=some (v,h')→bw h h'∧∀ ρ w (aG:Array Value),da gs ρ→bP ρ h w→fI ρ h h'→cD ρ args aG.toList→Ca P ρ h h' w v f aG

theorem zrR {f:FuncId} {g:List Value→Heap→Option (Value × Heap)} (cU:∀ aG w,(callFunc f aG).run P w=.ok (.enter f aG) w)
 (hg:∀ args h v h',g args h=some (v,h')→h'=h∧plain v=true∧∀ ρ w (aG:Array Value),bP ρ h w→cD ρ args aG.toList→Calls P f aG w fun e w'=>e=.returned v∧Below w.heap.size w w'):zm P gs f g:=by
 intro args h v h' ak
 obtain ⟨rfl,hp,hc⟩:=hg args h v h' ak
 refine ⟨.refl _,fun ρ w aG _ hs _ hv=>.inr ⟨cU aG w,(hc ρ w aG hs hv).mono ?_⟩⟩
 rintro e w' ⟨rfl,hb⟩
 exact ⟨ρ,v,rfl,.mY ρ _ hb,hs.below hb,.dr ρ hp⟩

def strs:List Value→Option (List ByteArray)
 | []=>some []
 | .string s::l=>(strs l).map (s::·)
 |_=>none

def Ii (args:List Value) (h:Heap):Option (Value × Heap):=match args with
 | [.slice a n _,.string sep] =>
  if n=0 then some (.string ⟨#[]⟩,h) else
  match a with
  |some ⟨A,o,none⟩=>(gQ A o n h).bind fun l=>(strs l).bind fun xs =>
   if n≤140737488355328∧(Lib.join (xs.map (·.data.toList)) sep.data.toList).length≤140737488355328 then some (.string ⟨(Lib.join (xs.map (·.data.toList)) sep.data.toList).toArray⟩,h) else none
  |_=>none
 |_=>none

def RR (args:List Value) (h:Heap):Option (Value × Heap):=match args with
 | [.string a,.string b]=>some (.int .i64 (Lib.compareBytes a.data.toList b.data.toList),h)
 |_=>none

theorem zrZ:∀ (l:List Value) (xs:List ByteArray),strs l=some xs→xs.length=l.length∧∀ (j:Nat) (x:ByteArray),xs[j]? = some x→l[j]? = some (.string x)
 | [],xs,hx=>by simp only [strs,Option.some.injEq] at hx;subst hx;exact ⟨rfl,fun j x hj=>by simp at hj⟩
 |v::l,xs,hx=>by
  cases v with
  |string s =>
   simp only [strs,Option.map_eq_some_iff] at hx
   obtain ⟨ys,hy,rfl⟩:=hx
   obtain ⟨h1,h2⟩:=zrZ l ys hy
   refine ⟨by simp [h1],fun j x hj=>?_⟩
   cases j with
   |zero=>simp at hj;simp [hj]
   |succ j=>simpa using h2 j x (by simpa using hj)
  |_=>simp [strs] at hx

theorem zjP {f:FuncId} (cU:∀ aG w,(callFunc f aG).run P w=.ok (.enter f aG) w)
 (hc:∀ a b w,Calls P f #[.string a,.string b] w fun e w'=>e=.returned (.int .i64 (Lib.compareBytes a.data.toList b.data.toList))∧w'=w):zm P gs f RR:=by
 refine zrR cU fun args h v h' ak=>?_
 unfold RR at ak
 split at ak
 ·rename_i a b
  cases ak
  refine ⟨rfl,rfl,fun ρ w aG hs hv=>?_⟩
  obtain ⟨x,m,h1,hx,hv⟩:=hv.of_cons
  obtain ⟨y,m',h2,hy,hv⟩:=hv.of_cons
  have:=hv.of_nil
  subst this
  cases hx
  cases hy
  subst h2
  have lN:aG=#[.string a,.string b]:=by rw [← Array.toList_inj];exact h1
  subst lN
  refine (hc a b w).mono ?_
  rintro e w' ⟨rfl,rfl⟩
  exact ⟨rfl,.refl _ _⟩
 ·cases ak

theorem zrQ {f:FuncId} (cU:∀ aG w,(callFunc f aG).run P w=.ok (.enter f aG) w)
 (h0:∀ a c sep w,Calls P f #[.slice a 0 c,.string sep] w fun e w'=>e=.returned (.string ⟨#[]⟩)∧w'=w)
 (hj:∀ (bk o c:Nat) (xs:List ByteArray) (sep:ByteArray) (w:World),(∀ (j:Nat) x,xs[j]? = some x→w.cell? ⟨bk,o+j,none⟩=some (.string x))→bk < w.heap.size→xs.length≤140737488355328→xs.length≤c→(Lib.join (xs.map (·.data.toList)) sep.data.toList).length≤140737488355328 →
  Calls P f #[.slice (some ⟨bk,o,none⟩) xs.length c,.string sep] w fun e w'=>e=.returned (.string ⟨(Lib.join (xs.map (·.data.toList)) sep.data.toList).toArray⟩)∧Below w.heap.size w w'):zm P gs f Ii:=by
 refine zrR cU fun args h v h' ak=>?_
 unfold Ii at ak
 split at ak
 ·rename_i a n c sep
  split at ak
  ·rename_i hn
   cases ak
   subst hn
   refine ⟨rfl,rfl,fun ρ w aG hs hv=>?_⟩
   obtain ⟨x,m,h1,hx,hv⟩:=hv.of_cons
   obtain ⟨y,m',h2,hy,hv⟩:=hv.of_cons
   have:=hv.of_nil
   subst this
   cases hy
   subst h2
   have kT:∃ a' c',x=.slice a' 0 c':=by cases hx <;> exact ⟨_,_,rfl⟩
   obtain ⟨a',c',rfl⟩:=kT
   have lN:aG=#[.slice a' 0 c',.string sep]:=by rw [← Array.toList_inj];exact h1
   subst lN
   refine (h0 a' c' sep w).mono ?_
   rintro e w' ⟨rfl,rfl⟩
   exact ⟨rfl,.refl _ _⟩
  ·rename_i hn
   split at ak
   ·rename_i A o
    simp only [Option.bind_eq_some_iff] at ak
    obtain ⟨l,hl,xs,kT,ak⟩:=ak
    split at ak
    ·rename_i hle
     cases ak
     refine ⟨rfl,rfl,fun ρ w aG hs hv=>?_⟩
     obtain ⟨x,m,h1,hx,hv⟩:=hv.of_cons
     obtain ⟨y,m',h2,hy,hv⟩:=hv.of_cons
     have:=hv.of_nil
     subst this
     cases hy
     subst h2
     have key:∃ L c',ρ A=some L∧n≤c'∧x=.slice (some ⟨L.b,L.s+o,none⟩) n c':=by
      cases hx with
      |slice hA hc pN ea=>exact ⟨_,_,hA,pN,by rw [ea (by omega)]⟩
      |ck hA hc cV pN hk hm ea=>exact ⟨_,_,hA,Nat.le_trans pN cV,by rw [(ea (by omega)).1]⟩
     obtain ⟨L,c',hA,pN,rfl⟩:=key
     have lN:aG=#[.slice (some ⟨L.b,L.s+o,none⟩) n c',.string sep]:=by rw [← Array.toList_inj];exact h1
     subst lN
     obtain ⟨ms,YE,N5,GH⟩:=WB hs hA hl
     obtain ⟨uo,hxg⟩:=zrZ l xs kT
     have Gz:xs.length=n:=by rw [uo,YE.1,N5]
     have:=hj L.b (L.s+o) c' xs sep w (fun j x hx=>by
      obtain ⟨y,hy,cW⟩:=YE.get (hxg j x hx)
      cases cW
      exact GH j _ hy) (hs.lt hA) (by omega) (by omega) hle.2
     rw [Gz] at this
     exact this
    ·cases ak
   ·cases ak
 ·cases ak
end
end Go.Am
namespace Go.Am
open Go.RowKit
section
variable {P:Program} {gs:List Nat} {ρ:cE} {h:Heap} {w:World}

def uE (g:Nat):Heap:=⟨g+1,(Tr.set (g+1) .nil g (.row vA vz true)),g+1⟩
def uJ (g:Nat):cE:=fun A=>if A=g then some ⟨g,0,0⟩ else none
theorem Kr (g A:Nat):(uE g).get A=if A=g then some (.row vA vz true) else none:=by
 unfold Heap.get uE
 simp only [Tr.aD _ _ _ _ _ (Nat.lt_succ_self g),Tr.get_nil]
 by_cases h1:A=g
 ·subst h1;simp
 ·simp [h1]
theorem ztH {g:Nat} (ht:∀ c,c < 256→w.cell? ⟨g,c,none⟩=some (.int .u8 (Lib.asciiSpaceTab.getD c 0))) (i:Nat) (v:Value) (hv:vA[i]? = some v):w.cell? ⟨g,i,none⟩=some v∧plain v=true:=by
 unfold vA at hv
 rw [List.getElem?_map,Option.map_eq_some_iff] at hv
 obtain ⟨z,hz,rfl⟩:=hv
 have hi:i < 256:=by have:=(List.getElem?_eq_some_iff.1 hz).1;rw [Lib.asciiSpaceTab_length] at this;exact this
 refine ⟨?_,rfl⟩
 rw [ht i hi]
 simp [List.getD,hz]
theorem zoZ {g:Nat} (ht:∀ c,c < 256→w.cell? ⟨g,c,none⟩=some (.int .u8 (Lib.asciiSpaceTab.getD c 0))):bP (uJ g) (uE g) w:=by
 have aR:g < w.heap.size:=by
  have:=ht 0 (by omega)
  unfold World.cell? at this
  split at this
  ·rename_i c _ _ hh;exact (Array.getElem?_eq_some_iff.1 hh).1
  ·cases this
 refine ⟨fun A L hA=>?_,fun A A' L L' hA ei aP _=>?_⟩
 ·unfold uJ at hA
  split at hA
  ·rename_i e
   cases hA
   rw [Kr,if_pos e]
   refine ⟨⟨aR,fun _=>rfl⟩,fun i v hv=>?_⟩
   obtain ⟨h1,h2⟩:=ztH ht i v hv
   exact ⟨v,by simpa using h1,.dr _ h2⟩
  ·cases hA
 ·unfold uJ at hA ei
  split at hA
  ·split at ei
   ·omega
   ·cases ei
  ·cases hA

theorem zob {l:List (String × DataW Unit)} {n:String} {d:DataW Unit}:∀ {ps:List MemPlace},DataW.LaidVars P w l ps→(n,d)∈l →
 ∃ g t cs fuel p,P.globalNamed n=some g∧(P.globals[g]?).map (·.type)=some t∧w.var? P n=some cs∧DataW.trod (fun _=>()) P w 0 (fun _=>true) false fuel t cs.toList=some (d,p):=by
 induction l with
 |nil=>intro ps _ hm;cases hm
 |cons x l ih =>
  intro ps hl hm
  obtain ⟨m,e⟩:=x
  obtain ⟨g,t,cs,fuel,p,q,h1,h2,h3,h4,h5,_⟩:=hl
  rcases List.mem_cons.1 hm with h6|h6
  ·cases h6;exact ⟨g,t,cs,fuel,p,h1,h2,h3,h4⟩
  ·exact ih h5 h6
theorem zmI {l:List (String × DataW Unit)} {d:DataW Unit} {g:Nat} {t e:TypeId} (hL:laidMetH P l w) (hp:(l.all fun x=>x.2.handleName?.isNone)=true) (hm:("strings.asciiSpace",d)∈l) (hd:d=Lib.tabData .u8 Lib.asciiSpaceTab)
 (hg:P.globalNamed "strings.asciiSpace"=some g) (GU:(P.globals[g]?).map (·.type)=some t) (ht:P.underlying t=some (.array 256 e)) (he:P.underlying e=some (.int .u8)) (DD:P.cellsOf e=1) (hct:P.cellsOf t=256) :
 ∀ c,c < 256→w.cell? ⟨g,c,none⟩=some (.int .u8 (Lib.asciiSpaceTab.getD c 0)):=by
 rw [MakeChecks.laidMetH_plain _ _ _ hp] at hL
 obtain ⟨ps,hl,_⟩:=hL
 obtain ⟨g',t',cs,fuel,p,hg',ht',ac9,hx⟩:=zob hl hm
 subst hd
 obtain rfl:=Option.some.inj (hg.symm.trans hg')
 obtain rfl:=Option.some.inj (GU.symm.trans ht')
 have hT:Lib.TabIs P w "strings.asciiSpace" .u8 Lib.asciiSpaceTab:=by
  unfold Lib.TabIs
  rw [ac9,← Lib.cells_of_tab ht he DD hct hx]
 exact fun c hc=>hT.cell hg c (by rw [Lib.asciiSpaceTab_length];exact hc)

def s9 (s:List UInt8):List Value:=(Lib.fields s).map fun l=>Value.string ⟨l.toArray⟩
def HG (g:Nat) (st:TypeId) (args:List Value) (h:Heap):Option (Value × Heap):=match args with
 | [.string s]=>(match h.get g with
  |some (.row _ e true) =>
   if Nat.beq e vz && s.data.toList.all (fun b=>Nat.blt b.toNat 128) && Nat.blt s.size 4294967281 && Nat.blt (s9 s.data.toList).length 4294967281 then
    some (.slice (some ⟨h.size,0,none⟩) (s9 s.data.toList).length (s9 s.data.toList).length,h.push (.row (s9 s.data.toList) st false))
   else none
  |_=>none)
 |_=>none
theorem zlo {f:FuncId} {g:Nat} {st:TypeId} (Ac:g∈gs) (cU:∀ aG w,(callFunc f aG).run P w=.ok (.enter f aG) w)
 (hf:∀ (s:ByteArray) (w:World),s.size < 4294967281→(∀ (j:Nat) b,s.data.toList[j]? = some b→b.toNat < 128)→(∀ c:Nat,c < 256→w.cell? ⟨g,c,none⟩=some (.int .u8 (if Lib.isSp (UInt8.ofNat c) then 1 else 0))) →
  Calls P f #[.string s] w fun e w' =>
   e=.returned (.slice (some ⟨w.heap.size,0,none⟩) (Lib.fields s.data.toList).length (Lib.fields s.data.toList).length)∧w'=w.alloc (.cells ((Lib.fields s.data.toList).map fun l=>Value.string ⟨l.toArray⟩).toArray st)):zm P gs f (HG g st):=by
 intro args h v h' ak
 unfold HG at ak
 split at ak
 ·rename_i s
  split at ak
  ·rename_i cs e hg
   split at ak
   ·rename_i hc
    simp only [Bool.and_eq_true,List.all_eq_true] at hc
    obtain ⟨⟨⟨hm,abP⟩,dz⟩,sJ⟩:=hc
    cases ak
    refine ⟨.push _ _,fun ρ w aG hG hs bN hv=>.inr ⟨cU aG w,?_⟩⟩
    obtain ⟨y,m,he,h1,h2⟩:=hv.of_cons
    cases h1
    have wW:=h2.of_nil
    subst wW
    have F7:aG=#[.string s]:=by apply Array.ext';simpa using he
    subst F7
    obtain ⟨t,hρ⟩:=hG g Ac
    have hb:=hs.fG g _ hρ
    rw [hg] at hb
    have k8:=hb.1.2 (Nat.eq_of_beq_eq_true hm)
    have eQ:∀ c:Nat,c < 256→w.cell? ⟨g,c,none⟩=some (.int .u8 (if Lib.isSp (UInt8.ofNat c) then 1 else 0)):=by
     intro c hc
     have hx:cs[c]? = some (.int .u8 (Lib.asciiSpaceTab.getD c 0)):=by
      rw [k8]
      unfold vA
      rw [List.getElem?_map]
      have:c < Lib.asciiSpaceTab.length:=by rw [Lib.asciiSpaceTab_length];exact hc
      simp [List.getD,this]
     obtain ⟨u,hu,lT⟩:=hb.2 c _ hx
     have:=lT.bM rfl
     subst this
     rw [Lib.asciiSpaceTab_at c hc] at hu
     simpa using hu
    have gd:ρ h.size=none:=bN h.size (Nat.le_refl _) (Nat.lt_succ_self _)
    have ac0:s.size < 4294967281:=by simpa [Nat.blt_eq] using dz
    have Nk:∀ (j:Nat) b,s.data.toList[j]? = some b→b.toNat < 128:=fun j b hb=>by
     have:=abP b (List.mem_of_getElem? hb)
     simpa [Nat.blt_eq] using this
    refine (hf s w ac0 Nk eQ).mono ?_
    rintro e w' ⟨rfl,rfl⟩
    have kR:(s9 s.data.toList).all lZ=true:=by
     unfold s9
     rw [List.all_map,List.all_eq_true]
     intro x _
     rfl
    have hlen:(s9 s.data.toList).length=(Lib.fields s.data.toList).length:=by simp [s9]
    obtain ⟨ρ',xv,df,dL⟩:=Jy (W:=w.alloc (.cells ((Lib.fields s.data.toList).map fun l=>Value.string ⟨l.toArray⟩).toArray st)) (cs:=s9 s.data.toList) (m:=s9 s.data.toList) (e:=st) hs gd rfl rfl rfl rfl
     (by refine ru (by simp [s9]) rfl (fun j _=>by rw [Nat.zero_add];rfl)) (cD.plain ρ kR)
    refine ⟨ρ',_,rfl,df,dL,?_⟩
    have ab8:(s9 s.data.toList).length < 4294967281:=by simpa [Nat.blt_eq] using sJ
    rw [hlen] at ab8 ⊢
    exact VR.slice (o:=0) xv (by unfold G;omega) (Nat.le_refl _) (fun _=>rfl)
   ·cases ak
  ·cases ak
 ·cases ak
def zjv (n:Nat):FK:=fun v h=>match v with
 | .bool b=>(match b with|true=>Nat.ble n h.low|false=>false)
 |_=>false
def pR (n:Nat) (r:Option (Value × Heap)):Bool:=match r with
 |some x=>zjv n x.1 x.2
 |none=>false
theorem Rs {T:bK} {ov:Ov} {g:Nat} (lj:P.follows .mixedOrders=true) (hT:T.Fits P) (Ac:T.gs=[g]) (pO:Dk P T.gs ov) {n:Nat} {f:FuncId} (hf:ov f=none) (dX:pR (g+1) (call P T ov n (.func f) [] (uE g))=true) (w:World)
 (ht:∀ c,c < 256→w.cell? ⟨g,c,none⟩=some (.int .u8 (Lib.asciiSpaceTab.getD c 0))) :
 Calls P f #[] w fun e w'=>e=.returned (.bool true)∧Below w.heap.size w w':=by
 match hc:call P T ov n (.func f) [] (uE g),dX with
 |some (v,h'),hk =>
  simp only [pR] at hk
  unfold zjv at hk
  split at hk
  ·rename_i b
   split at hk
   ·refine zyH lj hT pO hf hc w (uJ g) (by rw [Ac];intro q hq;simp at hq;subst hq;exact ⟨0,by simp [uJ]⟩) (zoZ ht) ?_ ?_
    ·intro A hA
     unfold uJ
     rw [if_neg]
     have:g+1≤A:=hA
     omega
    ·intro A L hA
     unfold uJ at hA
     split at hA
     ·have:=Nat.le_of_ble_eq_true hk;omega
     ·cases hA
   ·cases hk
  ·cases hk
end
theorem zrd {H:Type} {enc:TypeId × Value→H} {C:Checked} {os:Os} {f:FuncId} {fn:Func} {s:ChangeSpec} {conds:List PathCond} {apart:Bool} {X:World→Array Value→Prop} (w0:World) (args:Array Value) (fuel:Nat) (tW:w0.os=os)
 (hv:(w0.forCall (fun _ _=>0) ⟨#[],args,[]⟩).variablesZipB C.prog=true)
 (hr:((w0.forCall (fun _ _=>0) ⟨#[],args,[]⟩).heap.toList.drop C.prog.globals.size).take ((begin C.prog (fun _ _=>0) default).world.heap.size - C.prog.globals.size) =
  (begin C.prog (fun _ _=>0) default).world.heap.toList.drop C.prog.globals.size)
 (dy:Input.okWideB C.prog (w0.forCall (fun _ _=>0) ⟨#[],args,[]⟩) f ⟨#[],args,[]⟩=true)
 (mQ:s.preB enc C.prog fn conds apart (w0.forCall (fun _ _=>0) ⟨#[],args,[]⟩).memory args fuel=true)
 (dz:s.sizedB enc C.prog fn apart (w0.forCall (fun _ _=>0) ⟨#[],args,[]⟩).memory args fuel=true)
 (hx:X (w0.forCall (fun _ _=>0) ⟨#[],args,[]⟩).memory args) :
 ∃ (w:World) (tape:Tape) (i:Input),w.os=os∧(w.forCall tape i).Shaped C.prog∧i.vars=[]∧Input.okWide C.prog (w.forCall tape i) .any w.heap.size f i ∧
   ((s.pre enc C.prog fn conds apart (w.forCall tape i).memory i.args∧X (w.forCall tape i).memory i.args)∧sizedMet enc C.prog fn (OpenSpec.ofChange s) apart (w.forCall tape i).memory i.args)∧({}:Assume).holds C.prog (lone (Frame.enter C.prog f i.args .normal) [] (w.forCall tape i)) :=
 ⟨w0,fun _ _=>0,⟨#[],args,[]⟩,tW,World.shaped_of_ZipB hv hr,(Input.okWide_of_okWideB (base:=0) dy).1,(Input.okWide_of_okWideB dy).2,⟨⟨ChangeSpec.pre_of_preB mQ,hx⟩,sizedMet_of_sizedB dz⟩,by
  simp only [Assume.holds]
  exact ⟨by simp,by simp,fun h=>by simp at h,by simp,by simp⟩⟩
end Go.Am
namespace Go.Am
open Go.RowKit Go.ChangeShapes Go.WideShapes Go.ChangeAt
section
variable {P:Program} {T:bK} {ov:Ov} {W:World} {H:Type} {enc:TypeId × Value→H}
theorem zmm (lj:P.follows .mixedOrders=true) (hT:T.Fits P) {g:Nat} (Ac:T.gs=[g]) (pO:Dk P T.gs ov) {k:FuncId} {fn:Func} {s:ChangeSpec} {n boolT:Nat} {apart fresh handsOn again:Bool} {base:Nat} {args:Array Value} {ds gs:List (DataW H)} {before:List MemPlace}
 (hk:ov k=none) (ht:∀ c,c < 256→W.cell? ⟨g,c,none⟩=some (.int .u8 (Lib.asciiSpaceTab.getD c 0))) (hl:laidOutB P=true) (qB:s.vars=[]) (iM:fn.resultTypes.toList=[boolT]) (Tn:fn.resultTypes.size=1) (DC:P.underlying boolT=some .bool)
 (abV:fn.params.toList.all (yc P n)=true) (od:fn.params.toList.all (fun t=>P.readableRec t && decide (t < P.types.size))=true)
 (tP:∀ ds:List (DataW H),ds.length=fn.params.size→s.fn H ds={ results:=[.lit (.bool true)],args:=ds })
 (dy:∀ (h:Heap) (args:List Value),h.low=h.size→Holds h g (.row vA vz true)→y8 P h n fn.params.toList args→Ok P T ov k args h fun v h'=>v=.bool true∧Ext h h')
 (eC:∀ (j:Nat) t v,fn.params[j]? = some t→args[j]? = some v→Value.okWide P W .any base t v)
 (hW:DataW.Whole enc P fn.params.toList s.vars apart W args.toList ds gs before) :
 Calls P k args W fun e W'=>∃ v,e=.returned v∧s.post enc P fn apart fresh handsOn again W args v W':=by
 have hS:0 < W.heap.size:=by
  have:=ht 0 (by omega)
  unfold World.cell? at this
  split at this
  ·rename_i c _ _ hh
   have:=(Array.getElem?_eq_some_iff.1 hh).1
   omega
  ·cases this
 obtain ⟨M,wy⟩:=zrc W
 have hM:0 < M:=Nat.lt_of_le_of_lt (Nat.zero_le _) (wy 0 hS)
 have X4:=hW
 obtain ⟨p,q,hA,hV,rfl,NJ,fU⟩:=hW
 rw [qB] at hV
 obtain ⟨rfl,rfl⟩:=trodVars_none hV
 have hlen:∀ (ts:List TypeId) (vs:List Value) (ds:List (DataW H)) (ps:List MemPlace),DataW.TrodAll enc P W 0 (fun _=>true) true ts vs ds ps→ds.length=ts.length:=by
  intro ts
  induction ts with
  |nil=>intro vs ds ps h;cases vs <;> cases ds <;> first|rfl|cases h
  |cons t ts ih =>
   intro vs ds ps h
   cases vs with
   |nil=>cases h
   |cons v vs =>
    cases ds with
    |nil=>cases h
    |cons d ds=>obtain ⟨_,_,_,h2,_⟩:=h;simp [ih vs ds _ h2]
 have rM:=hlen _ _ _ _ hA
 have dz:(uE g).size=g+1:=rfl
 have df:∀ A,(uE g).size≤A→uJ g A=none:=fun A hA=>by
  rw [dz] at hA
  unfold uJ
  rw [if_neg (by omega)]
 obtain ⟨ph,acW⟩:=zoB (h:=uE g) (ρ:=uJ g) (n:=n) (base:=base) hS wy fn.params.toList args.toList ds p abV (fun j t v h1 h2=>eC j t v (by simpa using h1) (by simpa using h2)) hA
 have dL:=zzJ (W:=W) (h:=uE g) (ρ:=uJ g) (M:=M) (zoZ ht) df (fun A L hA=>by
  unfold uJ at hA
  split at hA
  ·rename_i e
   rw [e]
   exact ⟨vA,vz,by rw [Kr,if_pos rfl]⟩
  ·cases hA) hM
 have tV:(uH W (uE g) M).low=(uH W (uE g) M).size:=by rw [Rb];rfl
 have cF:Holds (uH W (uE g) M) g (.row vA vz true):=⟨by rw [Rb,dz];omega,by rw [Ia (by rw [dz];omega),Kr,if_pos rfl]⟩
 refine (zsn lj hT pO hk ?_ dL (fun A ei=>?_) tV ph (dy _ _ tV cF acW)).mono fun e W' ⟨he,hb⟩=>?_
 ·rw [Ac]
  intro x hx
  obtain rfl:x=g:=by simpa using hx
  refine ⟨0,?_⟩
  unfold qU
  rw [if_neg (by rw [dz];omega)]
  unfold uJ
  rw [if_pos rfl]
 ·rw [Rb] at ei
  unfold qU
  rw [if_neg (by omega)]
  exact df A (by omega)
 ·subst he
  have Gj:=tP (ds++[]) (by rw [List.append_nil,rM];simp)
  refine ⟨_,rfl,zyN (pa:=p) (pv:=[]) X4 (fun b sp hd=>?_) (fun sp cF=>?_) (fun sp _=>?_) (by simp) hb (fun j t r h1 h2=>?_)⟩
  ·rw [iM,Tn,Gj]
   exact trodAll_mk1 (shut_bool DC true)
  ·rw [Gj]
   rw [List.append_nil]
   exact zhs hl hb sp _ _ _ _ od (fun x hx=>X4.lt x (by simp [hx])) (fun x hx=>cF x (by simp [hx])) hA
  ·rw [qB,Gj]
   rfl
  ·rw [Tn] at h2
   have hj:fn.resultTypes[j]? = some t:=h1
   have h3:fn.resultTypes.toList[j]? = some t:=by simpa using hj
   rw [iM] at h3
   cases j with
   |zero =>
    simp at h3 h2
    subst h3
    have:r=.bool true:=by simpa [Value.resultList] using h2.symm
    subst this
    exact okWide_bool_mk DC true
   |succ j=>simp at h3
/-! ### A chapter's example, where the table is read -/
def Kv (g:Nat) (args:List Value) (h:Heap):Option (Value × Heap):=match args with
 | []=>(match h.get g with
  |some (.row _ e true)=>if Nat.beq e vz then some (.bool true,h) else none
  |_=>none)
 |_=>none
theorem zwf {gs:List Nat} {f:FuncId} {g:Nat} (Ac:g∈gs) (cU:∀ aG w,(callFunc f aG).run P w=.ok (.enter f aG) w) (hc:∀ w,(∀ c,c < 256→w.cell? ⟨g,c,none⟩=some (.int .u8 (Lib.asciiSpaceTab.getD c 0)))→Calls P f #[] w fun e w'=>e=.returned (.bool true)∧Below w.heap.size w w'):zm P gs f (Kv g):=by
 intro args h v h' ak
 unfold Kv at ak
 split at ak
 ·split at ak
  ·rename_i cs e hg
   split at ak
   ·rename_i hm
    cases ak
    refine ⟨.refl _,fun ρ w aG hG hs bN hv=>.inr ⟨cU aG w,?_⟩⟩
    have lN:aG=#[]:=by rw [← Array.toList_inj];exact hv.of_nil
    subst lN
    obtain ⟨t,hρ⟩:=hG g Ac
    have hb:=hs.fG g _ hρ
    rw [hg] at hb
    have k8:=hb.1.2 (Nat.eq_of_beq_eq_true hm)
    refine (hc w (fun c hc=>?_)).mono ?_
    ·have hx:cs[c]? = some (.int .u8 (Lib.asciiSpaceTab.getD c 0)):=by
      rw [k8]
      unfold vA
      rw [List.getElem?_map]
      have:c < Lib.asciiSpaceTab.length:=by rw [Lib.asciiSpaceTab_length];exact hc
      simp [List.getD,this]
     obtain ⟨u,hu,lT⟩:=hb.2 c _ hx
     have:=lT.bM rfl
     subst this
     simpa using hu
    ·rintro e w' ⟨rfl,pI⟩
     exact ⟨ρ,.bool true,rfl,.mY ρ _ pI,hs.below pI,.dr ρ rfl⟩
   ·cases ak
  ·cases ak
 ·cases ak
def bj (g:Nat) (h:Heap):Prop:=Holds h g (.row vA vz true)
theorem zEd {g:Nat} {h:Heap} (hs:bj g h):Kv g [] h=some (.bool true,h):=by
 unfold Kv
 rw [hs.get]
 rfl
end
end Go.Am

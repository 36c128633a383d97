/- The table strings.asciiSpace and strings.Fields, for the plain machine. No condition. -/
import Derived.Test.YtjildadoepadeaaGreatDoorGOv
import Derived.Test.YtjildadoepadeaaGreatDoorG5
import Derived.Lib.Fields
import Derived.Lib.LaidTab
import Derived.MakeChecks
import Derived.Lay
set_option linter.unusedSimpArgs false
namespace Go.Am
open Go.RowKit
section
variable {P:Program} {gs:List Nat} {ρ:Rho} {h:Heap} {w:World}

def zaH (g:Nat):Heap:=⟨g+1,(Tr.set (g+1) .nil g (.row zaZ zcd true)),g+1⟩
def zaU (g:Nat):Rho:=λA=>if A=g then some ⟨g,0,0⟩ else none
theorem zfg (g A:Nat):(zaH g).get A=if A=g then some (.row zaZ zcd true) else none:=by
 unfold Heap.get zaH
 simp only [Tr.get_set _ _ _ _ _ (Nat.lt_succ_self g),Tr.get_nil]
 by_cases h1:A=g
 .subst h1;simp
 .simp [h1]
theorem zg4 {g:Nat} (ht:∀ c,c < 256->w.cell? ⟨g,c,none⟩=some (.int .u8 (Lib.asciiSpaceTab.getD c 0))) (i:Nat) (v:Vly) (hv:zaZ[i]? = some v):w.cell? ⟨g,i,none⟩=some v/\plain v=true:=by
 unfold zaZ at hv
 rw [List.getElem?_map,Option.map_eq_some_iff] at hv
 obtain ⟨z,hz,rfl⟩:=hv
 have hi:i < 256:=by have:=(List.getElem?_eq_some_iff.1 hz).1;rw [Lib.asciiSpaceTab_length] at this;exact this
 refine ⟨?_,rfl⟩
 rw [ht i hi]
 simp [List.getD,hz]
theorem zfX {g:Nat} (ht:∀ c,c < 256->w.cell? ⟨g,c,none⟩=some (.int .u8 (Lib.asciiSpaceTab.getD c 0))):Sim (zaU g) (zaH g) w:=by
 have hlt:g < w.heap.size:=by
  have:=ht 0 (by omega)
  unfold World.cell? at this
  split at this
  .rename_i c _ _ hh;exact (Array.getElem?_eq_some_iff.1 hh).1
  .cases this
 refine ⟨λA L hA=>?_,λA A' L L' hA hA' hne _=>?_⟩
 .unfold zaU at hA
  split at hA
  .rename_i e
   cases hA
   rw [zfg,if_pos e]
   refine ⟨⟨hlt,λ_=>rfl⟩,λi v hv=>?_⟩
   obtain ⟨h1,h2⟩:=zg4 ht i v hv
   exact ⟨v,by simpa using h1,.of_plain _ h2⟩
  .cases hA
 .unfold zaU at hA hA'
  split at hA
  .split at hA'
   .omega
   .cases hA'
  .cases hA

theorem zfM {l:List (String × DataW Unit)} {n:String} {d:DataW Unit}:∀ {ps:List MemPlace},DataW.LaidVars P w l ps->(n,d)∈l ->
 ∃ g t cs fuel p,P.globalNamed n=some g/\(P.globals[g]?).map (·.type)=some t/\w.var? P n=some cs/\DataW.trod (λ_=>()) P w 0 (λ_=>true) false fuel t cs.toList=some (d,p):=by
 induction l with
 |nil=>intro ps _ hm;cases hm
 |cons x l ih =>
  intro ps hl hm
  obtain ⟨m,e⟩:=x
  obtain ⟨g,t,cs,fuel,p,q,h1,h2,h3,h4,h5,_⟩:=hl
  rcases List.mem_cons.1 hm with h6|h6
  .cases h6;exact ⟨g,t,cs,fuel,p,h1,h2,h3,h4⟩
  .exact ih h5 h6
theorem zfi {l:List (String × DataW Unit)} {d:DataW Unit} {g:Nat} {t e:TypeId} (hL:laidMetH P l w) (hp:(l.all λx=>x.2.handleName?.isNone)=true) (hm:("strings.asciiSpace",d)∈l) (hd:d=Lib.tabData .u8 Lib.asciiSpaceTab)
 (hg:P.globalNamed "strings.asciiSpace"=some g) (hty:(P.globals[g]?).map (·.type)=some t) (ht:P.underlying t=some (.array 256 e)) (he:P.underlying e=some (.int .u8)) (hce:P.cellsOf e=1) (hct:P.cellsOf t=256) :
 ∀ c,c < 256->w.cell? ⟨g,c,none⟩=some (.int .u8 (Lib.asciiSpaceTab.getD c 0)):=by
 rw [MakeChecks.laidMetH_plain _ _ _ hp] at hL
 obtain ⟨ps,hl,_⟩:=hL
 obtain ⟨g',t',cs,fuel,p,hg',ht',hvar,hx⟩:=zfM hl hm
 subst hd
 obtain rfl:=Option.some.inj (hg.symm.trans hg')
 obtain rfl:=Option.some.inj (hty.symm.trans ht')
 have hT:Lib.TabIs P w "strings.asciiSpace" .u8 Lib.asciiSpaceTab:=by
  unfold Lib.TabIs
  rw [hvar,<- Lib.cells_of_tab ht he hce hct hx]
 exact λc hc=>hT.cell hg c (by rw [Lib.asciiSpaceTab_length];exact hc)

def za5 (s:List UInt8):List Vly:=(Lib.fields s).map λl=>Value.string ⟨l.toArray⟩
def ze1 (g:Nat) (st:TypeId) (args:List Vly) (h:Heap):Option (Vly × Heap):=match args with
 | [.string s]=>(match h.get g with
  |some (.row _ e true) =>
   if Nat.beq e zcd && s.data.toList.all (λb=>Nat.blt b.toNat 128) && Nat.blt s.size 4294967281 && Nat.blt (za5 s.data.toList).length 4294967281 then
    some (.slice (some ⟨h.size,0,none⟩) (za5 s.data.toList).length (za5 s.data.toList).length,h.push (.row (za5 s.data.toList) st false))
   else none
  |_=>none)
 |_=>none
theorem zeK {f:FuncId} {g:Nat} {st:TypeId} (hgs:g∈gs) (henter:∀ cargs w,(callFunc f cargs).run P w=.ok (.enter f cargs) w)
 (hf:∀ (s:BAy) (w:World),s.size < 4294967281->(∀ (j:Nat) b,s.data.toList[j]? = some b->b.toNat < 128)->(∀ c:Nat,c < 256->w.cell? ⟨g,c,none⟩=some (.int .u8 (if Lib.isSp (UInt8.ofNat c) then 1 else 0))) ->
  Calls P f #[.string s] w λe w' =>
   e=.returned (.slice (some ⟨w.heap.size,0,none⟩) (Lib.fields s.data.toList).length (Lib.fields s.data.toList).length)/\w'=w.alloc (.cells ((Lib.fields s.data.toList).map λl=>Value.string ⟨l.toArray⟩).toArray st)):Ov1 P gs f (ze1 g st):=by
 intro args h v h' hev
 unfold ze1 at hev
 split at hev
 .rename_i s
  split at hev
  .rename_i cs e hg
   split at hev
   .rename_i hc
    simp only [Bool.and_eq_true,List.all_eq_true] at hc
    obtain ⟨⟨⟨hm,hasc⟩,hsz⟩,hfl⟩:=hc
    cases hev
    refine ⟨.push _ _,λρ w cargs hG hs hfree hv=>.inr ⟨henter cargs w,?_⟩⟩
    obtain ⟨y,m,he,h1,h2⟩:=hv.of_cons
    cases h1
    have hm':=h2.of_nil
    subst hm'
    have hcargs:cargs=#[.string s]:=by apply Array.ext';simpa using he
    subst hcargs
    obtain ⟨t,hρ⟩:=hG g hgs
    have hb:=hs.blk g _ hρ
    rw [hg] at hb
    have hcs:=hb.1.2 (Nat.eq_of_beq_eq_true hm)
    have hcell:∀ c:Nat,c < 256->w.cell? ⟨g,c,none⟩=some (.int .u8 (if Lib.isSp (UInt8.ofNat c) then 1 else 0)):=by
     intro c hc
     have hx:cs[c]? = some (.int .u8 (Lib.asciiSpaceTab.getD c 0)):=by
      rw [hcs]
      unfold zaZ
      rw [List.getElem?_map]
      have:c < Lib.asciiSpaceTab.length:=by rw [Lib.asciiSpaceTab_length];exact hc
      simp [List.getD,this]
     obtain ⟨u,hu,hvu⟩:=hb.2 c _ hx
     have:=hvu.eq_plain rfl
     subst this
     rw [Lib.asciiSpaceTab_at c hc] at hu
     simpa using hu
    have hnone:ρ h.size=none:=hfree h.size (Nat.le_refl _) (Nat.lt_succ_self _)
    have hsz':s.size < 4294967281:=by simpa [Nat.blt_eq] using hsz
    have hasc':∀ (j:Nat) b,s.data.toList[j]? = some b->b.toNat < 128:=λj b hb=>by
     have:=hasc b (List.mem_of_getElem? hb)
     simpa [Nat.blt_eq] using this
    refine (hf s w hsz' hasc' hcell).mono ?_
    rintro e w' ⟨rfl,rfl⟩
    have hpl:(za5 s.data.toList).all zaG=true:=by
     unfold za5
     rw [List.all_map,List.all_eq_true]
     intro x _
     rfl
    have hlen:(za5 s.data.toList).length=(Lib.fields s.data.toList).length:=by simp [za5]
    obtain ⟨ρ',hρ',hfr,hsim⟩:=zbk (W:=w.alloc (.cells ((Lib.fields s.data.toList).map λl=>Value.string ⟨l.toArray⟩).toArray st)) (cs:=za5 s.data.toList) (m:=za5 s.data.toList) (e:=st) hs hnone rfl rfl rfl rfl
     (by refine zbv (by simp [za5]) rfl (λj _=>by rw [Nat.zero_add];rfl)) (VRs.plain ρ hpl)
    refine ⟨ρ',_,rfl,hfr,hsim,?_⟩
    have hfl':(za5 s.data.toList).length < 4294967281:=by simpa [Nat.blt_eq] using hfl
    rw [hlen] at hfl' ⊢
    exact VR.slice (o:=0) hρ' (by unfold G;omega) (Nat.le_refl _) (λ_=>rfl)
   .cases hev
  .cases hev
 .cases hev
def zb8 (n:Nat):FK:=λv h=>match v with
 | .bool b=>(match b with|true=>Nat.ble n h.low|false=>false)
 |_=>false
theorem zg5 {T:Tab} {ov:Ov} {g:Nat} (hmix:P.follows .mixedOrders=true) (hT:T.Fits P) (hgs:T.gs=[g]) (hov:OvS P T.gs ov) {fuel n:Nat} {f:FuncId} (hf:ov f=none) (hrun:zgi P T ov fuel n (.func f) [] (zaH g) (zb8 (g+1))=true) (w:World)
 (ht:∀ c,c < 256->w.cell? ⟨g,c,none⟩=some (.int .u8 (Lib.asciiSpaceTab.getD c 0))) :
 Calls P f #[] w λe w'=>e=.returned (.bool true)/\Below w.heap.size w w':=by
 obtain ⟨m,v,h',hc,hk⟩:=zdw fuel n (.func f) [] (zaH g) _ hrun
 unfold zb8 at hk
 split at hk
 .rename_i b
  split at hk
  .refine zgy hmix hT hov hf hc w (zaU g) (by rw [hgs];intro q hq;simp at hq;subst hq;exact ⟨0,by simp [zaU]⟩) (zfX ht) ?_ ?_
   .intro A hA
    unfold zaU
    rw [if_neg]
    have:g+1<=A:=hA
    omega
   .intro A L hA
    unfold zaU at hA
    split at hA
    .have:=Nat.le_of_ble_eq_true hk;omega
    .cases hA
  .cases hk
 .cases hk
def zcF (n:Nat) (r:Option (Vly × Heap)):Bool:=match r with
 |some x=>zb8 n x.1 x.2
 |none=>false
theorem zea {T:Tab} {ov:Ov} {g:Nat} (hmix:P.follows .mixedOrders=true) (hT:T.Fits P) (hgs:T.gs=[g]) (hov:OvS P T.gs ov) {n:Nat} {f:FuncId} (hf:ov f=none) (hrun:zcF (g+1) (call P T ov n (.func f) [] (zaH g))=true) (w:World)
 (ht:∀ c,c < 256->w.cell? ⟨g,c,none⟩=some (.int .u8 (Lib.asciiSpaceTab.getD c 0))) :
 Calls P f #[] w λe w'=>e=.returned (.bool true)/\Below w.heap.size w w':=by
 match hc:call P T ov n (.func f) [] (zaH g),hrun with
 |some (v,h'),hk =>
  simp only [zcF] at hk
  unfold zb8 at hk
  split at hk
  .rename_i b
   split at hk
   .refine zgy hmix hT hov hf hc w (zaU g) (by rw [hgs];intro q hq;simp at hq;subst hq;exact ⟨0,by simp [zaU]⟩) (zfX ht) ?_ ?_
    .intro A hA
     unfold zaU
     rw [if_neg]
     have:g+1<=A:=hA
     omega
    .intro A L hA
     unfold zaU at hA
     split at hA
     .have:=Nat.le_of_ble_eq_true hk;omega
     .cases hA
   .cases hk
  .cases hk
end
theorem zgv {H:Type} {enc:TypeId × Vly->H} {C:Checked} {os:Os} {f:FuncId} {fn:Func} {s:ChangeSpec} {conds:List PathCond} {apart:Bool} {X:World->Array Vly->Prop} (w0:World) (args:Array Vly) (fuel:Nat) (hos:w0.os=os)
 (hv:(w0.forCall (λ_ _=>0) ⟨#[],args,[]⟩).variablesZipB C.prog=true)
 (hr:((w0.forCall (λ_ _=>0) ⟨#[],args,[]⟩).heap.toList.drop C.prog.globals.size).take ((begin C.prog (λ_ _=>0) default).world.heap.size - C.prog.globals.size) =
  (begin C.prog (λ_ _=>0) default).world.heap.toList.drop C.prog.globals.size)
 (hok:Input.okWideB C.prog (w0.forCall (λ_ _=>0) ⟨#[],args,[]⟩) f ⟨#[],args,[]⟩=true)
 (hpre:s.preB enc C.prog fn conds apart (w0.forCall (λ_ _=>0) ⟨#[],args,[]⟩).memory args fuel=true)
 (hsz:s.sizedB enc C.prog fn apart (w0.forCall (λ_ _=>0) ⟨#[],args,[]⟩).memory args fuel=true)
 (hx:X (w0.forCall (λ_ _=>0) ⟨#[],args,[]⟩).memory args) :
 ∃ (w:World) (tape:Tape) (i:Input),w.os=os/\(w.forCall tape i).Shaped C.prog/\i.vars=[]/\Input.okWide C.prog (w.forCall tape i) .any w.heap.size f i /\
   ((s.pre enc C.prog fn conds apart (w.forCall tape i).memory i.args/\X (w.forCall tape i).memory i.args)/\sizedMet enc C.prog fn (OpenSpec.ofChange s) apart (w.forCall tape i).memory i.args)/\({}:Assume).holds C.prog (lone (Frame.enter C.prog f i.args .normal) [] (w.forCall tape i)) :=
 ⟨w0,λ_ _=>0,⟨#[],args,[]⟩,hos,World.shaped_of_ZipB hv hr,(Input.okWide_of_okWideB (base:=0) hok).1,(Input.okWide_of_okWideB hok).2,⟨⟨ChangeSpec.pre_of_preB hpre,hx⟩,sizedMet_of_sizedB hsz⟩,by
  simp only [Assume.holds]
  exact ⟨by simp,by simp,λh=>by simp at h,by simp,by simp⟩⟩
end Go.Am

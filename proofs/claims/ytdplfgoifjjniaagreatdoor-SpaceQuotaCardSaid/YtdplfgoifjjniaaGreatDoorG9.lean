/- The table strings.asciiSpace and strings.Fields, for the plain machine. No condition. -/
import Derived.Test.YtdplfgoifjjniaaGreatDoorGOv
import Derived.Lib.Fields
import Derived.Lib.LaidTab
import Derived.MakeChecks
import Derived.Lay
import Derived.Test.YtdplfgoifjjniaaGreatDoorG7
namespace Go.Am
open Go.RowKit
section
variable {P:Program} {gs:List Nat} {ρ:Rho} {h:Heap} {w:World}

def zbD (g:Nat):Heap:=⟨g+1,(Tr.set (g+1) .nil g (.row zbr zbP true)),g+1⟩
def zb6 (g:Nat):Rho:=fun A=>if A=g then some ⟨g,0,0⟩ else none
theorem zeA (g A:Nat):(zbD g).get A=if A=g then some (.row zbr zbP true) else none:=by
 unfold Heap.get zbD
 simp only [Tr.get_set _ _ _ _ _ (Nat.lt_succ_self g),Tr.get_nil]
 by_cases h1:A=g
 ·subst h1;simp
 ·simp [h1]
theorem zq3 {g:Nat} (ht:∀ c,c < 256→w.cell? ⟨g,c,none⟩=some (.int .u8 (Lib.asciiSpaceTab.getD c 0))) (i:Nat) (v:Value) (hv:zbr[i]? = some v):w.cell? ⟨g,i,none⟩=some v∧plain v=true:=by
 unfold zbr at hv
 rw [List.getElem?_map,Option.map_eq_some_iff] at hv
 obtain ⟨z,hz,rfl⟩:=hv
 have hi:i < 256:=by have:=(List.getElem?_eq_some_iff.1 hz).1;rw [Lib.asciiSpaceTab_length] at this;exact this
 refine ⟨?_,rfl⟩
 rw [ht i hi]
 simp [List.getD,hz]
theorem zm3 {g:Nat} (ht:∀ c,c < 256→w.cell? ⟨g,c,none⟩=some (.int .u8 (Lib.asciiSpaceTab.getD c 0))):Sim (zb6 g) (zbD g) w:=by
 have hlt:g < w.heap.size:=by
  have:=ht 0 (by omega)
  unfold World.cell? at this
  split at this
  ·rename_i c _ _ hh;exact (Array.getElem?_eq_some_iff.1 hh).1
  ·cases this
 refine ⟨fun A L hA=>?_,fun A A' L L' hA hA' hne _=>?_⟩
 ·unfold zb6 at hA
  split at hA
  ·rename_i e
   cases hA
   rw [zeA,if_pos e]
   refine ⟨⟨hlt,fun _=>rfl⟩,fun i v hv=>?_⟩
   obtain ⟨h1,h2⟩:=zq3 ht i v hv
   exact ⟨v,by simpa using h1,.of_plain _ h2⟩
  ·cases hA
 ·unfold zb6 at hA hA'
  split at hA
  ·split at hA'
   ·omega
   ·cases hA'
  ·cases hA

theorem zmo {l:List (String × DataW Unit)} {n:String} {d:DataW Unit}:∀ {ps:List MemPlace},DataW.LaidVars P w l ps→(n,d)∈l →
 ∃ g t cs fuel p,P.globalNamed n=some g∧(P.globals[g]?).map (·.type)=some t∧w.var? P n=some cs∧DataW.trod (fun _=>()) P w 0 (fun _=>true) false fuel t cs.toList=some (d,p):=by
 induction l with
 |nil=>intro ps _ hm;cases hm
 |cons x l ih =>
  intro ps hl hm
  obtain ⟨m,e⟩:=x
  obtain ⟨g,t,cs,fuel,p,q,h1,h2,h3,h4,h5,_⟩:=hl
  rcases List.mem_cons.1 hm with h6|h6
  ·cases h6;exact ⟨g,t,cs,fuel,p,h1,h2,h3,h4⟩
  ·exact ih h5 h6
theorem zlq {l:List (String × DataW Unit)} {d:DataW Unit} {g:Nat} {t e:TypeId} (hL:laidMetH P l w) (hp:(l.all fun x=>x.2.handleName?.isNone)=true) (hm:("strings.asciiSpace",d)∈l) (hd:d=Lib.tabData .u8 Lib.asciiSpaceTab)
 (hg:P.globalNamed "strings.asciiSpace"=some g) (hty:(P.globals[g]?).map (·.type)=some t) (ht:P.underlying t=some (.array 256 e)) (he:P.underlying e=some (.int .u8)) (hce:P.cellsOf e=1) (hct:P.cellsOf t=256) :
 ∀ c,c < 256→w.cell? ⟨g,c,none⟩=some (.int .u8 (Lib.asciiSpaceTab.getD c 0)):=by
 rw [MakeChecks.laidMetH_plain _ _ _ hp] at hL
 obtain ⟨ps,hl,_⟩:=hL
 obtain ⟨g',t',cs,fuel,p,hg',ht',hvar,hx⟩:=zmo hl hm
 subst hd
 obtain rfl:=Option.some.inj (hg.symm.trans hg')
 obtain rfl:=Option.some.inj (hty.symm.trans ht')
 have hT:Lib.TabIs P w "strings.asciiSpace" .u8 Lib.asciiSpaceTab:=by
  unfold Lib.TabIs
  rw [hvar,← Lib.cells_of_tab ht he hce hct hx]
 exact fun c hc=>hT.cell hg c (by rw [Lib.asciiSpaceTab_length];exact hc)

def zcw (s:List UInt8):List Value:=(Lib.fields s).map fun l=>Value.string ⟨l.toArray⟩
def zf1 (g:Nat) (st:TypeId) (args:List Value) (h:Heap):Option (Value × Heap):=match args with
 | [.string s]=>(match h.get g with
  |some (.row _ e true) =>
   if Nat.beq e zbP && s.data.toList.all (fun b=>Nat.blt b.toNat 128) && Nat.blt s.size 4294967281 && Nat.blt (zcw s.data.toList).length 4294967281 then
    some (.slice (some ⟨h.size,0,none⟩) (zcw s.data.toList).length (zcw s.data.toList).length,h.push (.row (zcw s.data.toList) st false))
   else none
  |_=>none)
 |_=>none
theorem zj9 {f:FuncId} {g:Nat} {st:TypeId} (hgs:g∈gs) (henter:∀ cargs w,(callFunc f cargs).run P w=.ok (.enter f cargs) w)
 (hf:∀ (s:ByteArray) (w:World),s.size < 4294967281→(∀ (j:Nat) b,s.data.toList[j]? = some b→b.toNat < 128)→(∀ c:Nat,c < 256→w.cell? ⟨g,c,none⟩=some (.int .u8 (if Lib.isSp (UInt8.ofNat c) then 1 else 0))) →
  Calls P f #[.string s] w fun e w' =>
   e=.returned (.slice (some ⟨w.heap.size,0,none⟩) (Lib.fields s.data.toList).length (Lib.fields s.data.toList).length)∧w'=w.alloc (.cells ((Lib.fields s.data.toList).map fun l=>Value.string ⟨l.toArray⟩).toArray st)):Ov1 P gs f (zf1 g st):=by
 intro args h v h' hev
 unfold zf1 at hev
 split at hev
 ·rename_i s
  split at hev
  ·rename_i cs e hg
   split at hev
   ·rename_i hc
    simp only [Bool.and_eq_true,List.all_eq_true] at hc
    obtain ⟨⟨⟨hm,hasc⟩,hsz⟩,hfl⟩:=hc
    cases hev
    refine ⟨.push _ _,fun ρ w cargs hG hs hfree hv=>.inr ⟨henter cargs w,?_⟩⟩
    obtain ⟨y,m,he,h1,h2⟩:=hv.of_cons
    cases h1
    have hm':=h2.of_nil
    subst hm'
    have hcargs:cargs=#[.string s]:=by apply Array.ext';simpa using he
    subst hcargs
    obtain ⟨t,hρ⟩:=hG g hgs
    have hb:=hs.blk g _ hρ
    rw [hg] at hb
    have hcs:=hb.1.2 (Nat.eq_of_beq_eq_true hm)
    have hcell:∀ c:Nat,c < 256→w.cell? ⟨g,c,none⟩=some (.int .u8 (if Lib.isSp (UInt8.ofNat c) then 1 else 0)):=by
     intro c hc
     have hx:cs[c]? = some (.int .u8 (Lib.asciiSpaceTab.getD c 0)):=by
      rw [hcs]
      unfold zbr
      rw [List.getElem?_map]
      have:c < Lib.asciiSpaceTab.length:=by rw [Lib.asciiSpaceTab_length];exact hc
      simp [List.getD,this]
     obtain ⟨u,hu,hvu⟩:=hb.2 c _ hx
     have:=hvu.eq_plain rfl
     subst this
     rw [Lib.asciiSpaceTab_at c hc] at hu
     simpa using hu
    have hnone:ρ h.size=none:=hfree h.size (Nat.le_refl _) (Nat.lt_succ_self _)
    have hsz':s.size < 4294967281:=by simpa [Nat.blt_eq] using hsz
    have hasc':∀ (j:Nat) b,s.data.toList[j]? = some b→b.toNat < 128:=fun j b hb=>by
     have:=hasc b (List.mem_of_getElem? hb)
     simpa [Nat.blt_eq] using this
    refine (hf s w hsz' hasc' hcell).mono ?_
    rintro e w' ⟨rfl,rfl⟩
    have hpl:(zcw s.data.toList).all zbM=true:=by
     unfold zcw
     rw [List.all_map,List.all_eq_true]
     intro x _
     rfl
    have hlen:(zcw s.data.toList).length=(Lib.fields s.data.toList).length:=by simp [zcw]
    obtain ⟨ρ',hρ',hfr,hsim⟩:=zdn (W:=w.alloc (.cells ((Lib.fields s.data.toList).map fun l=>Value.string ⟨l.toArray⟩).toArray st)) (cs:=zcw s.data.toList) (m:=zcw s.data.toList) (e:=st) hs hnone rfl rfl rfl rfl
     (by refine zc8 (by simp [zcw]) rfl (fun j _=>by rw [Nat.zero_add];rfl)) (VRs.plain ρ hpl)
    refine ⟨ρ',_,rfl,hfr,hsim,?_⟩
    have hfl':(zcw s.data.toList).length < 4294967281:=by simpa [Nat.blt_eq] using hfl
    rw [hlen] at hfl' ⊢
    exact VR.slice (o:=0) hρ' (by unfold G;omega) (Nat.le_refl _) (fun _=>rfl)
   ·cases hev
  ·cases hev
 ·cases hev
def zio (n:Nat):FK:=fun v h=>match v with
 | .bool b=>(match b with|true=>Nat.ble n h.low|false=>false)
 |_=>false
theorem zq4 {T:Tab} {ov:Ov} {g:Nat} (hmix:P.follows .mixedOrders=true) (hT:T.Fits P) (hgs:T.gs=[g]) (hov:OvS P T.gs ov) {fuel n:Nat} {f:FuncId} (hf:ov f=none) (hrun:zn5 P T ov fuel n (.func f) [] (zbD g) (zio (g+1))=true) (w:World)
 (ht:∀ c,c < 256→w.cell? ⟨g,c,none⟩=some (.int .u8 (Lib.asciiSpaceTab.getD c 0))) :
 Calls P f #[] w fun e w'=>e=.returned (.bool true)∧Below w.heap.size w w':=by
 obtain ⟨m,v,h',hc,hk⟩:=zig fuel n (.func f) [] (zbD g) _ hrun
 unfold zio at hk
 split at hk
 ·rename_i b
  split at hk
  ·refine zuW hmix hT hov hf hc w (zb6 g) (by rw [hgs];intro q hq;simp at hq;subst hq;exact ⟨0,by simp [zb6]⟩) (zm3 ht) ?_ ?_
   ·intro A hA
    unfold zb6
    rw [if_neg]
    have:g+1≤A:=hA
    omega
   ·intro A L hA
    unfold zb6 at hA
    split at hA
    ·have:=Nat.le_of_ble_eq_true hk;omega
    ·cases hA
  ·cases hk
 ·cases hk
end
theorem zo2 {H:Type} {enc:TypeId × Value→H} {C:Checked} {os:Os} {f:FuncId} {fn:Func} {s:ChangeSpec} {conds:List PathCond} {apart:Bool} {X:World→Array Value→Prop} (w0:World) (args:Array Value) (fuel:Nat) (hos:w0.os=os)
 (hv:(w0.forCall (fun _ _=>0) ⟨#[],args,[]⟩).variablesZipB C.prog=true)
 (hr:((w0.forCall (fun _ _=>0) ⟨#[],args,[]⟩).heap.toList.drop C.prog.globals.size).take ((begin C.prog (fun _ _=>0) default).world.heap.size - C.prog.globals.size) =
  (begin C.prog (fun _ _=>0) default).world.heap.toList.drop C.prog.globals.size)
 (hok:Input.okWideB C.prog (w0.forCall (fun _ _=>0) ⟨#[],args,[]⟩) f ⟨#[],args,[]⟩=true)
 (hpre:s.preB enc C.prog fn conds apart (w0.forCall (fun _ _=>0) ⟨#[],args,[]⟩).memory args fuel=true)
 (hsz:s.sizedB enc C.prog fn apart (w0.forCall (fun _ _=>0) ⟨#[],args,[]⟩).memory args fuel=true)
 (hx:X (w0.forCall (fun _ _=>0) ⟨#[],args,[]⟩).memory args) :
 ∃ (w:World) (tape:Tape) (i:Input),w.os=os∧(w.forCall tape i).Shaped C.prog∧i.vars=[]∧Input.okWide C.prog (w.forCall tape i) .any w.heap.size f i ∧
   ((s.pre enc C.prog fn conds apart (w.forCall tape i).memory i.args∧X (w.forCall tape i).memory i.args)∧sizedMet enc C.prog fn (OpenSpec.ofChange s) apart (w.forCall tape i).memory i.args)∧({}:Assume).holds C.prog (lone (Frame.enter C.prog f i.args .normal) [] (w.forCall tape i)) :=
 ⟨w0,fun _ _=>0,⟨#[],args,[]⟩,hos,World.shaped_of_ZipB hv hr,(Input.okWide_of_okWideB (base:=0) hok).1,(Input.okWide_of_okWideB hok).2,⟨⟨ChangeSpec.pre_of_preB hpre,hx⟩,sizedMet_of_sizedB hsz⟩,by
  simp only [Assume.holds]
  exact ⟨by simp,by simp,fun h=>by simp at h,by simp,by simp⟩⟩
end Go.Am
namespace Go.Am
open Go.RowKit Go.ChangeShapes Go.WideShapes Go.ChangeAt
section
variable {P:Program} {T:Tab} {ov:Ov} {W:World} {H:Type} {enc:TypeId × Value→H}
theorem zk2 (hmix:P.follows .mixedOrders=true) (hT:T.Fits P) {g:Nat} (hgs:T.gs=[g]) (hov:OvS P T.gs ov) {k:FuncId} {fn:Func} {s:ChangeSpec} {n boolT:Nat} {apart fresh handsOn again:Bool} {base:Nat} {args:Array Value} {ds gs:List (DataW H)} {before:List MemPlace}
 (hk:ov k=none) (ht:∀ c,c < 256→W.cell? ⟨g,c,none⟩=some (.int .u8 (Lib.asciiSpaceTab.getD c 0))) (hl:laidOutB P=true) (hvars:s.vars=[]) (hres:fn.resultTypes.toList=[boolT]) (hrs:fn.resultTypes.size=1) (hbool:P.underlying boolT=some .bool)
 (hcov:fn.params.toList.all (zeZ P n)=true) (hread:fn.params.toList.all (fun t=>P.readableRec t && decide (t < P.types.size))=true)
 (hfn:∀ ds:List (DataW H),ds.length=fn.params.size→s.fn H ds={ results:=[.lit (.bool true)],args:=ds })
 (hok:∀ (h:Heap) (args:List Value),h.low=h.size→Holds h g (.row zbr zbP true)→zdR P h n fn.params.toList args→Ok P T ov k args h fun v h'=>v=.bool true∧Ext h h')
 (hval:∀ (j:Nat) t v,fn.params[j]? = some t→args[j]? = some v→Value.okWide P W .any base t v)
 (hW:DataW.Whole enc P fn.params.toList s.vars apart W args.toList ds gs before) :
 Calls P k args W fun e W'=>∃ v,e=.returned v∧s.post enc P fn apart fresh handsOn again W args v W':=by
 have hS:0 < W.heap.size:=by
  have:=ht 0 (by omega)
  unfold World.cell? at this
  split at this
  ·rename_i c _ _ hh
   have:=(Array.getElem?_eq_some_iff.1 hh).1
   omega
  ·cases this
 obtain ⟨M,hMw⟩:=zo1 W
 have hM:0 < M:=Nat.lt_of_le_of_lt (Nat.zero_le _) (hMw 0 hS)
 have hW':=hW
 obtain ⟨p,q,hA,hV,rfl,hfz,hnd⟩:=hW
 rw [hvars] at hV
 obtain ⟨rfl,rfl⟩:=trodVars_none hV
 have hlen:∀ (ts:List TypeId) (vs:List Value) (ds:List (DataW H)) (ps:List MemPlace),DataW.TrodAll enc P W 0 (fun _=>true) true ts vs ds ps→ds.length=ts.length:=by
  intro ts
  induction ts with
  |nil=>intro vs ds ps h;cases vs <;> cases ds <;> first|rfl|cases h
  |cons t ts ih =>
   intro vs ds ps h
   cases vs with
   |nil=>cases h
   |cons v vs =>
    cases ds with
    |nil=>cases h
    |cons d ds=>obtain ⟨_,_,_,h2,_⟩:=h;simp [ih vs ds _ h2]
 have hdl:=hlen _ _ _ _ hA
 have hsz:(zbD g).size=g+1:=rfl
 have hfr:∀ A,(zbD g).size≤A→zb6 g A=none:=fun A hA=>by
  rw [hsz] at hA
  unfold zb6
  rw [if_neg (by omega)]
 obtain ⟨hvr,hshp⟩:=zmG (h:=zbD g) (ρ:=zb6 g) (n:=n) (base:=base) hS hMw fn.params.toList args.toList ds p hcov (fun j t v h1 h2=>hval j t v (by simpa using h1) (by simpa using h2)) hA
 have hsim:=zvO (W:=W) (h:=zbD g) (ρ:=zb6 g) (M:=M) (zm3 ht) hfr (fun A L hA=>by
  unfold zb6 at hA
  split at hA
  ·rename_i e
   rw [e]
   exact ⟨zbr,zbP,by rw [zeA,if_pos rfl]⟩
  ·cases hA) hM
 have hlow:(zb5 W (zbD g) M).low=(zb5 W (zbD g) M).size:=by rw [zcB];rfl
 have hsp:Holds (zb5 W (zbD g) M) g (.row zbr zbP true):=⟨by rw [zcB,hsz];omega,by rw [zfe (by rw [hsz];omega),zeA,if_pos rfl]⟩
 refine (zpU hmix hT hov hk ?_ hsim (fun A hA'=>?_) hlow hvr (hok _ _ hlow hsp hshp)).mono fun e W' ⟨he,hb⟩=>?_
 ·rw [hgs]
  intro x hx
  obtain rfl:x=g:=by simpa using hx
  refine ⟨0,?_⟩
  unfold zb2
  rw [if_neg (by rw [hsz];omega)]
  unfold zb6
  rw [if_pos rfl]
 ·rw [zcB] at hA'
  unfold zb2
  rw [if_neg (by omega)]
  exact hfr A (by omega)
 ·subst he
  have hfn':=hfn (ds++[]) (by rw [List.append_nil,hdl];simp)
  refine ⟨_,rfl,zu0 (pa:=p) (pv:=[]) hW' (fun b sp hd=>?_) (fun sp hsp=>?_) (fun sp _=>?_) (by simp) hb (fun j t r h1 h2=>?_)⟩
  ·rw [hres,hrs,hfn']
   exact trodAll_mk1 (shut_bool hbool true)
  ·rw [hfn']
   rw [List.append_nil]
   exact zgK hl hb sp _ _ _ _ hread (fun x hx=>hW'.lt x (by simp [hx])) (fun x hx=>hsp x (by simp [hx])) hA
  ·rw [hvars,hfn']
   rfl
  ·rw [hrs] at h2
   have hj:fn.resultTypes[j]? = some t:=h1
   have h3:fn.resultTypes.toList[j]? = some t:=by simpa using hj
   rw [hres] at h3
   cases j with
   |zero =>
    simp at h3 h2
    subst h3
    have:r=.bool true:=by simpa [Value.resultList] using h2.symm
    subst this
    exact okWide_bool_mk hbool true
   |succ j=>simp at h3
/-! ### A chapter's example, where the table is read -/
def zrk (g:Nat) (args:List Value) (h:Heap):Option (Value × Heap):=match args with
 | []=>(match h.get g with
  |some (.row _ e true)=>if Nat.beq e zbP then some (.bool true,h) else none
  |_=>none)
 |_=>none
theorem ztd {gs:List Nat} {f:FuncId} {g:Nat} (hgs:g∈gs) (henter:∀ cargs w,(callFunc f cargs).run P w=.ok (.enter f cargs) w) (hc:∀ w,(∀ c,c < 256→w.cell? ⟨g,c,none⟩=some (.int .u8 (Lib.asciiSpaceTab.getD c 0)))→Calls P f #[] w fun e w'=>e=.returned (.bool true)∧Below w.heap.size w w'):Ov1 P gs f (zrk g):=by
 intro args h v h' hev
 unfold zrk at hev
 split at hev
 ·split at hev
  ·rename_i cs e hg
   split at hev
   ·rename_i hm
    cases hev
    refine ⟨.refl _,fun ρ w cargs hG hs hfree hv=>.inr ⟨henter cargs w,?_⟩⟩
    have hca:cargs=#[]:=by rw [← Array.toList_inj];exact hv.of_nil
    subst hca
    obtain ⟨t,hρ⟩:=hG g hgs
    have hb:=hs.blk g _ hρ
    rw [hg] at hb
    have hcs:=hb.1.2 (Nat.eq_of_beq_eq_true hm)
    refine (hc w (fun c hc=>?_)).mono ?_
    ·have hx:cs[c]? = some (.int .u8 (Lib.asciiSpaceTab.getD c 0)):=by
      rw [hcs]
      unfold zbr
      rw [List.getElem?_map]
      have:c < Lib.asciiSpaceTab.length:=by rw [Lib.asciiSpaceTab_length];exact hc
      simp [List.getD,this]
     obtain ⟨u,hu,hvu⟩:=hb.2 c _ hx
     have:=hvu.eq_plain rfl
     subst this
     simpa using hu
    ·rintro e w' ⟨rfl,hb2⟩
     exact ⟨ρ,.bool true,rfl,.of_below ρ _ hb2,hs.below hb2,.of_plain ρ rfl⟩
   ·cases hev
  ·cases hev
 ·cases hev
def SpaceAt (g:Nat) (h:Heap):Prop:=Holds h g (.row zbr zbP true)
theorem zw2 {g:Nat} {h:Heap} (hs:SpaceAt g h):zrk g [] h=some (.bool true,h):=by
 unfold zrk
 rw [hs.get]
 rfl
end
end Go.Am

/- The example's policy, as plain data: it may be, for any small quota; facts of one text. No condition. -/
import Derived.Test.YtdplfgoifjjniaaGreatDoorG46
set_option linter.unusedSimpArgs false
set_option linter.unusedVariables false
namespace Go.Am
def repB (s:ByteArray):Nat→ByteArray
 |0=>⟨#[]⟩
 |k+1=>repB s k++s
theorem zpy (s:ByteArray):repB s 1=s:=by
 show (⟨#[]⟩:ByteArray)++s=s
 exact ByteArray.empty_append
theorem zmO (s:ByteArray):∀ k,s++repB s k=repB s (k+1)
 |0=>by rw [zpy];exact ByteArray.append_empty
 |k+1=>by
  show s++(repB s k++s)=repB s (k+1)++s
  rw [← zmO s k,ByteArray.append_assoc]
theorem zli (s:ByteArray):∀ k,repB (s++s) k=repB s (2*k)
 |0=>rfl
 |k+1=>by
  show repB (s++s) k++(s++s)=repB s (2*k)++s++s
  rw [zli s k,ByteArray.append_assoc]
theorem zd9 (s:ByteArray):∀ k,(repB s k).size=k*s.size
 |0=>by rw [Nat.zero_mul];rfl
 |k+1=>by
  show (repB s k++s).size=_
  rw [ByteArray.size_append,zd9 s k,Nat.succ_mul]
def upB (x:ByteArray):Bool:=decide (1≤x.size∧65≤zbn x 0∧zbn x 0≤90)
def argS (x:ByteArray):TermD:=⟨upB x,x⟩
def at1 (w p x:ByteArray):AtomD:=⟨w,p,1,argS x,zaX,zaX,zaX⟩
def at2 (w p x y:ByteArray):AtomD:=⟨w,p,2,argS x,argS y,zaX,zaX⟩
abbrev zbO:ByteArray:=⟨#[97,108,105,99,101]⟩
abbrev sBob:ByteArray:=⟨#[98,111,98]⟩
abbrev zbk:ByteArray:=⟨#[99,97,114,111,108]⟩
abbrev sP:ByteArray:=⟨#[112]⟩
abbrev sQ:ByteArray:=⟨#[113]⟩
abbrev zzh:ByteArray:=⟨#[111,112,101,110]⟩
abbrev sX:ByteArray:=⟨#[88]⟩
abbrev sY:ByteArray:=⟨#[89]⟩
abbrev sA:ByteArray:=⟨#[97]⟩
abbrev sZz:ByteArray:=⟨#[122,122]⟩
def zaN (q:Int):PolicyD:=⟨[zbO,sBob,zbk],[⟨sP,1⟩,⟨sQ,2⟩,⟨zzh,0⟩],[⟨zbO,[zbk,sBob]⟩],q,100,[⟨at1 zbO sP sX,[at2 sBob sQ sX sY,at1 zbk sP sY]⟩],[⟨sBob,at2 zbO sQ sX sY,[at1 zbk sP sX]⟩]⟩
theorem zvp {s:ByteArray} (h1:1≤s.size) (h2:s.size≤255) (h:∀ i,i < s.size→97≤zbn s i∧zbn s i≤122) (hr:¬ resP s):zbV s:=by
 have h0:=h 0 h1
 exact ⟨⟨⟨h1,h2,by omega,fun i hi=>.inl (h i hi)⟩,hr⟩,h0⟩
def lowB (s:ByteArray):Bool:=decide (1≤s.size) && decide (s.size≤255) && (List.range s.size).all (fun i=>decide (97≤zbn s i) && decide (zbn s i≤122))
def resB (s:ByteArray):Bool:=decide ((⟨#[115,97,121,115]⟩:ByteArray)=s) || decide ((⟨#[105,102]⟩:ByteArray)=s) || decide ((⟨#[99,97,110,115,97,121]⟩:ByteArray)=s) || decide ((⟨#[112,114,105,110,99,105,112,97,108]⟩:ByteArray)=s) || decide ((⟨#[112,114,101,100]⟩:ByteArray)=s) || decide ((⟨#[99,108,101,97,114]⟩:ByteArray)=s) || decide ((⟨#[113,117,111,116,97]⟩:ByteArray)=s) || decide ((⟨#[98,117,100,103,101,116]⟩:ByteArray)=s)
theorem resB_iff {s:ByteArray}:resB s=true↔resP s:=by
 unfold resB resP
 simp only [Bool.or_eq_true,decide_eq_true_eq,or_assoc]
theorem zdJ {s:ByteArray} (h:(lowB s && !resB s)=true):zbV s:=by
 rw [Bool.and_eq_true,Bool.not_eq_true'] at h
 obtain ⟨h,hr⟩:=h
 unfold lowB at h
 simp only [Bool.and_eq_true,decide_eq_true_eq,List.all_eq_true,List.mem_range] at h
 exact zvp h.1.1 h.1.2 h.2 (fun g=>by rw [resB_iff.2 g] at hr;cases hr)
theorem ztg:zbV zbO:=zdJ (by decide)
theorem pBob:zbV sBob:=zdJ (by decide)
theorem zth:zbV zbk:=zdJ (by decide)
theorem pP:zbV sP:=zdJ (by decide)
theorem pQ:zbV sQ:=zdJ (by decide)
theorem zEi:zbV zzh:=zdJ (by decide)
theorem pZz:zbV sZz:=zdJ (by decide)
theorem zpI {c:UInt8} (h:65≤c.toNat∧c.toNat≤90):varX ⟨#[c]⟩:=by
 have h0:zbn ⟨#[c]⟩ 0=(c.toNat:Int):=rfl
 refine ⟨by show 1≤1;omega,by show 1≤255;omega,by rw [h0];omega,fun i hi=>?_⟩
 have hi':i < 1:=hi
 obtain rfl:i=0:=by omega
 rw [h0]
 exact .inr (.inl (by omega))
theorem tX:termX (argS sX):=zpI (c:=88) (by decide)
theorem tY:termX (argS sY):=zpI (c:=89) (by decide)
theorem zfC {x:ByteArray} (h:zbV x):upB x=false∧termX (argS x):=by
 have h1:upB x=false:=by
  unfold upB
  rw [decide_eq_false_iff_not]
  have:=h.2
  omega
 refine ⟨h1,?_⟩
 unfold termX argS
 rw [h1]
 exact h.1
theorem zuR {w p x:ByteArray} (h1:zbV w) (h2:zbV p) (h:termX (argS x)):zdj (at1 w p x)=0:=by
 have hb:zgP (argS x)=false:=by unfold zgP;simp [h]
 rw [zhj h1 h2 (by show ¬ ((1:Int) < 0∨4 < (1:Int));omega) (by show [argS x].any zgP=false;simp [hb])]
 rfl
theorem zuS {w p x y:ByteArray} (h1:zbV w) (h2:zbV p) (h:termX (argS x)) (h3:termX (argS y)):zdj (at2 w p x y)=0:=by
 have hb:zgP (argS x)=false:=by unfold zgP;simp [h]
 have hc:zgP (argS y)=false:=by unfold zgP;simp [h3]
 rw [zhj h1 h2 (by show ¬ ((2:Int) < 0∨4 < (2:Int));omega) (by show [argS x,argS y].any zgP=false;simp [hb,hc])]
 rfl
section
variable (q:Int)
theorem zgH {w x:ByteArray} (hw:hasP [zbO,sBob,zbk] w=true) (h1:zbV w) (h:termX (argS x)):zdE (zaN q) (at1 w sP x)=0:=by
 have ht:=zuR h1 pP h
 have e:zdE (zaN q) (at1 w sP x)=za6 [zdj (at1 w sP x),notE (!hasP [zbO,sBob,zbk] w) 6,0,0]:=rfl
 rw [e,ht,hw]
 rfl
theorem zm1 {w x y:ByteArray} (hw:hasP [zbO,sBob,zbk] w=true) (h1:zbV w) (h:termX (argS x)) (h2:termX (argS y)):zdE (zaN q) (at2 w sQ x y)=0:=by
 have ht:=zuS h1 pQ h h2
 have e:zdE (zaN q) (at2 w sQ x y)=za6 [zdj (at2 w sQ x y),notE (!hasP [zbO,sBob,zbk] w) 6,0,0]:=rfl
 rw [e,ht,hw]
 rfl
theorem zkh {x:ByteArray} (h:zbV x):zbF (zaN q) sBob (at1 sBob sP x)=0:=by
 have e:zbF (zaN q) sBob (at1 sBob sP x)=za6 [0,zdE (zaN q) (at1 sBob sP x),notE (!zil (at1 sBob sP x)) 10,0]:=rfl
 have hg:zil (at1 sBob sP x)=true:=by
  show (![argS x].any fun t=>t.v)=true
  simp [argS,(zfC h).1]
 rw [e,zgH q rfl pBob (zfC h).2,hg]
 rfl
theorem zoE (h0:0≤q) (h1:q≤1000):zgg (zaN q)=0:=by
 have hp:∀ {s:ByteArray},zbV s→zd8 s=true:=fun h=>prinB_iff.2 h
 unfold zgg
 rw [firstE_zero]
 intro e he
 simp only [List.mem_cons,List.not_mem_nil,or_false] at he
 rcases he with rfl|rfl|rfl|rfl|rfl
 ·unfold zhx zaN
  rw [if_neg (by show ¬ (3 < 1∨16 < 3);omega)]
  unfold za7 za7 za7 za7
  rw [hp ztg,hp pBob,hp zth]
  rfl
 ·unfold zkb zaN
  rw [if_neg (by show ¬ 32 < 3;omega)]
  unfold za7 za7 za7 za7
  dsimp only
  rw [hp pP,hp pQ,hp zEi]
  rfl
 ·rfl
 ·unfold zdK
  rw [zd6 (by decide)]
  have e1:(zaN q).quota=q:=rfl
  have e2:(zaN q).budget=100:=rfl
  rw [e1,e2]
  simp only [Bool.or_eq_false_iff,decide_eq_false_iff_not]
  exact ⟨⟨by omega,by omega⟩,by show ¬ 64 < 1+1;omega⟩
 ·unfold zkd
  rw [firstE_zero]
  intro e he
  simp only [List.mem_cons,List.not_mem_nil,or_false] at he
  rcases he with rfl|rfl
  ·have a1:=zgH q (w:=zbO) (x:=sX) rfl ztg tX
   have a2:=zm1 q (w:=sBob) (x:=sX) (y:=sY) rfl pBob tX tY
   have a3:=zgH q (w:=zbk) (x:=sY) rfl zth tY
   show za7 (fun _ c=>zoA (zaN q) c) [] [⟨at1 zbO sP sX,[at2 sBob sQ sX sY,at1 zbk sP sY]⟩]=0
   unfold za7 za7
   have hb:zkF (zaN q) [at2 sBob sQ sX sY,at1 zbk sP sY]=0:=by
    unfold zkF za7 za7 za7
    rw [a2,a3]
    rfl
   have hc:zcr (zaN q) (at1 zbO sP sX) [at2 sBob sQ sX sY,at1 zbk sP sY]=0:=by
    unfold zcr
    rw [a1,hb]
    rfl
   have hr:zez ⟨at1 zbO sP sX,[at2 sBob sQ sX sY,at1 zbk sP sY]⟩=0:=by
    unfold zez
    rw [zd6 (by decide),decide_eq_false_iff_not]
    rintro ⟨x,⟨i,hi,hn,hv,e⟩,h2⟩
    have hn':(i:Int) < 1:=hn
    obtain rfl:i=0:=by omega
    have e':sX=x:=e
    exact h2 (at2 sBob sQ sX sY) (by simp) ⟨0,by omega,by show (0:Int) < 2;omega,by decide,e'⟩
   have hre:zoA (zaN q) ⟨at1 zbO sP sX,[at2 sBob sQ sX sY,at1 zbk sP sY]⟩=0:=by
    unfold zoA
    dsimp only
    rw [hc,hr]
    rfl
   rw [if_pos hre]
  ·have a1:=zm1 q (w:=zbO) (x:=sX) (y:=sY) rfl ztg tX tY
   have a3:=zgH q (w:=zbk) (x:=sX) rfl zth tX
   show za7 (fun _ g=>zj2 (zaN q) g) [] [⟨sBob,at2 zbO sQ sX sY,[at1 zbk sP sX]⟩]=0
   unfold za7 za7
   have hb:zkF (zaN q) [at1 zbk sP sX]=0:=by
    unfold zkF za7 za7
    rw [a3]
    rfl
   have hc:zcr (zaN q) (at2 zbO sQ sX sY) [at1 zbk sP sX]=0:=by
    unfold zcr
    rw [a1,hb]
    rfl
   have hre:zj2 (zaN q) ⟨sBob,at2 zbO sQ sX sY,[at1 zbk sP sX]⟩=0:=by
    unfold zj2
    dsimp only
    rw [hc]
    rfl
   rw [if_pos hre]
end
/-! ### Facts of one letter, so many times -/
def rowQ (j:Nat):AtomD:=at1 sBob sP (repB sA (j+1))
theorem zlj:∀ j,j < 25→zbV (repB sA (j+1)):=by
 have h:∀ j,j < 25→(lowB (repB sA (j+1)) && !resB (repB sA (j+1)))=true:=by decide
 exact fun j hj=>zdJ (h j hj)
theorem zrL {w p x y:ByteArray} (h:at1 w p x=at1 w p y):x=y:=congrArg (fun a:AtomD=>a.t0.s) h
theorem ztq {i j:Nat} (h:repB sA i=repB sA j):i=j:=by
 have:=congrArg ByteArray.size h
 rw [zd9,zd9] at this
 have e:sA.size=1:=rfl
 rw [e] at this
 omega
theorem zvW {i j:Nat} (h:rowQ i=rowQ j):i=j:=by
 have:=ztq (zrL h)
 omega
theorem zxj {w p x t:ByteArray} (hu:upB x=false):inB (at1 w p x) t=true↔t=x:=by
 rw [inB_iff]
 constructor
 ·rintro ⟨i,hi,hv,e⟩
  have hi':i < 1:=hi
  obtain rfl:i=0:=by omega
  exact e.symm
 ·rintro rfl
  exact ⟨0,by show 0 < 1;omega,hu,rfl⟩
def zfH (m:Nat):List AtomD:=(List.range m).map rowQ
theorem ziT (m:Nat):(zfH m).length=m:=by unfold zfH;simp
theorem rowsQ_mem {m:Nat} {a:AtomD}:a∈zfH m↔∃ j,j < m∧rowQ j=a:=by unfold zfH;simp
theorem zqZ (m:Nat):zfH (m+1)=zfH m++[rowQ m]:=by unfold zfH;rw [List.range_succ,List.map_append];rfl
theorem zea (q:Int) {j:Nat} (h:j < 25):zbF (zaN q) sBob (rowQ j)=0:=zkh q (zlj j h)
section
variable {q:Int} {k m:Nat} {facts:ByteArray→List AtomD} {vers us:ByteArray→Nat}
theorem ziN (i:InvS (zaN q) k facts vers us) (hp:(facts sBob).Perm (zfH m)) {j:Nat} (hj:j < 25):hasA (facts sBob) (rowQ j)=true↔j < m:=by
 rw [i.has (zea q hj),hp.mem_iff,rowsQ_mem]
 exact ⟨fun ⟨j2,h2,e⟩=>by rw [← zvW e];exact h2,fun h=>⟨j,h,rfl⟩⟩
theorem ztp (i:InvS (zaN q) k facts vers us) (hp:(facts sBob).Perm (zfH m)) (hm:m≤25) (ho:∀ w,w≠sBob→facts w=[]) (t:ByteArray):0 < us t↔∃ j,j < m∧repB sA (j+1)=t:=by
 have h1:us t=useA (facts sBob) t:=by
  rw [i.use]
  show (List.map (fun w=>useA (facts w) t) [zbO,sBob,zbk]).sum=_
  rw [List.map_cons,List.map_cons,List.map_cons,List.map_nil,ho zbO (by decide),ho zbk (by decide)]
  simp [useA]
 rw [h1]
 unfold useA
 rw [List.countP_pos_iff]
 constructor
 ·rintro ⟨a,ha,hi⟩
  obtain ⟨j,hj,rfl⟩:=rowsQ_mem.1 (hp.mem_iff.1 ha)
  exact ⟨j,hj,((zxj (zfC (zlj j (by omega))).1).1 hi).symm⟩
 ·rintro ⟨j,hj,rfl⟩
  exact ⟨rowQ j,hp.mem_iff.2 (rowsQ_mem.2 ⟨j,hj,rfl⟩),(zxj (zfC (zlj j (by omega))).1).2 rfl⟩
theorem zou (m:Nat):((List.range m).map fun j=>repB sA (j+1)).Nodup:=by
 rw [List.nodup_iff_pairwise_ne,List.pairwise_map]
 exact List.nodup_range.imp (fun h e=>h (by have:=ztq e;omega))
theorem ztn (i:InvS (zaN q) k facts vers us) (hp:(facts sBob).Perm (zfH m)) (hm:m < 25) {j:Nat} (hj:j < 25) (hjm:m≤j):locA (zaN q) q sBob (rowQ j) (facts sBob)=(if ((m+1:Nat):Int)≤q then some (putA (rowQ j) (facts sBob)) else none)∧errA (zaN q) q sBob (rowQ j) (facts sBob)=(if ((m+1:Nat):Int)≤q then 0 else 12):=by
 have h0:=zea q hj
 have hh:¬ hasA (facts sBob) (rowQ j)=true:=fun h=>by have:=(ziN i hp hj).1 h;omega
 have hl:(putA (rowQ j) (facts sBob)).length=m+1:=by rw [(zey (by simpa using hh)).length_eq,List.length_cons,hp.length_eq,ziT]
 unfold locA errA
 rw [if_pos h0,if_pos h0,if_neg hh,if_neg hh,hl]
 exact ⟨rfl,rfl⟩
theorem zto (i:InvS (zaN q) k facts vers us) (hp:(facts sBob).Perm (zfH m)) (hm:m < 25):(putA (rowQ m) (facts sBob)).Perm (zfH (m+1)):=by
 have hh:¬ hasA (facts sBob) (rowQ m)=true:=fun h=>by have:=(ziN i hp hm).1 h;omega
 rw [zqZ]
 exact (zey (by simpa using hh)).trans ((hp.cons _).trans (List.perm_append_comm (l₁:=[rowQ m])))
theorem ztt:rowQ 0=at1 sBob sP sA:=by
 unfold rowQ
 rw [zpy]
theorem zqT (i:InvS (zaN q) k facts vers us) (hp:(facts sBob).Perm (zfH m)) (hm:0 < m):locR (zaN q) sBob (rowQ 0) (facts sBob)=some (delA (rowQ 0) (facts sBob))∧(delA (rowQ 0) (facts sBob)).length+1=m:=by
 have h0:=zea q (j:=0) (by omega)
 have hh:=(ziN i hp (j:=0) (by omega)).2 hm
 obtain ⟨x,hx,e,p⟩:=zkN (i.asc sBob) hh
 refine ⟨by unfold locR;rw [if_pos h0,if_pos hh],?_⟩
 have:=p.length_eq
 rw [hp.length_eq,ziT,List.length_cons] at this
 omega
theorem zuI (q:Int):zbF (zaN q) sBob (at1 sBob sP sZz)=0:=zkh q pZz
theorem zvS {f2:ByteArray→List AtomD} {v2 u2:ByteArray→Nat} {k2:Nat} (i:InvS (zaN q) k2 f2 v2 u2) (hs:∀ a∈f2 sBob,a∈zfH m) (hm:m≤25) (hq:((f2 sBob).length:Int)+1≤q):locA (zaN q) q sBob (at1 sBob sP sZz) (f2 sBob)=some (putA (at1 sBob sP sZz) (f2 sBob))∧errA (zaN q) q sBob (at1 sBob sP sZz) (f2 sBob)=0∧(putA (at1 sBob sP sZz) (f2 sBob)).length=(f2 sBob).length+1:=by
 have h0:=zuI q
 have hh:¬ hasA (f2 sBob) (at1 sBob sP sZz)=true:=fun h=>by
  obtain ⟨j,hj,e⟩:=rowsQ_mem.1 (hs _ ((i.has h0).1 h))
  have e2:=zrL e
  have e3:=congrArg ByteArray.size e2
  rw [zd9] at e3
  have e4:sA.size=1:=rfl
  have e5:sZz.size=2:=rfl
  rw [e4,e5] at e3
  obtain rfl:j=1:=by omega
  exact absurd e2 (by decide)
 have hl:(putA (at1 sBob sP sZz) (f2 sBob)).length=(f2 sBob).length+1:=by rw [(zey (by simpa using hh)).length_eq,List.length_cons]
 unfold locA errA
 rw [if_pos h0,if_pos h0,if_neg hh,if_neg hh,hl,if_pos (by omega),if_pos (by omega)]
 exact ⟨rfl,rfl,rfl⟩
end
end Go.Am
namespace Go.Proofs.YtdplfgoifjjniaaGreatDoor
open Go.Am
set_option maxRecDepth 100000
set_option maxHeartbeats 0
theorem bldC (s:ByteArray):zbZ tab 39 [(1,.string s)]=some (TermD.val ⟨false,s⟩):=by kernel_rfl
theorem ok_C (s:ByteArray) (h:Heap) (K:Value→Heap→Prop) (hk:∀ h',Ext h h'→K (TermD.val ⟨false,s⟩) h'):Ok Tryz.prog tab ov 35 [.string s] h K:=by
 rw [zaa h]
 have z:=Ext.refl h
 refine Ok.into rfl zwk (zaw N35) rfl (m:=4) rfl ?_
 simp -implicitDefEqProofs only [syms,symx,seval,c35,bldC,zni]
 refine zgJ (i:=0) rfl sz39 rfl rfl rfl rfl ?_
 simp -implicitDefEqProofs only [syms,symx,seval,c35]
 exact hk _ (z.upW _ _ (by omega))
def atI (w p:ByteArray) (xs:List ByteArray) (i:Nat):AtomD:=⟨w,p,xs.length,if 0 < i then argS (xs.getD 0 ⟨#[]⟩) else zaX,if 1 < i then argS (xs.getD 1 ⟨#[]⟩) else zaX,zaX,zaX⟩
theorem bldA (w p:ByteArray) (xs:List ByteArray):zbZ tab 42 [(0,.string w),(1,.string p),(2,.int .i64 xs.length)]=some (atI w p xs 0).val:=by kernel_rfl
theorem zrM {w p x:ByteArray} {xs:List ByteArray} {i:Nat} (hx:xs[i]? = some x) (h01:i=0∨i=1):splice (atI w p xs i).cells (3+i*2) [.bool (upB x),.string x]=(atI w p xs (i+1)).cells:=by
 have hg:xs.getD i ⟨#[]⟩=x:=by rw [List.getD_eq_getElem?_getD,hx];rfl
 rcases h01 with rfl|rfl
 ·have e:atI w p xs (0+1)=⟨w,p,xs.length,argS x,zaX,zaX,zaX⟩:=by unfold atI;rw [hg];rfl
  rw [e]
  rfl
 ·have e:atI w p xs (1+1)=⟨w,p,xs.length,argS (xs.getD 0 ⟨#[]⟩),argS x,zaX,zaX⟩:=by unfold atI;rw [hg];rfl
  rw [e]
  rfl
theorem zC1 {w p x:ByteArray} {xs:List ByteArray} {i:Nat} (h01:i=0∨i=1):splice (splice (atI w p xs i).cells (3+i*2) [.bool false,.string x]) (3+i*2) [.bool true]=splice (atI w p xs i).cells (3+i*2) [.bool true,.string x]:=by
 rcases h01 with rfl|rfl <;> rfl
theorem zzj {x:ByteArray} (h:¬ ¬ x=⟨#[]⟩) (g:1≤x.size):False:=by
 have e:=Classical.not_not.1 h
 rw [e] at g
 exact absurd g (by decide)
theorem ok_A (w p0:ByteArray) (xs:List ByteArray) (v:Value) (h:Heap) (hl:Sl Rep.str h v xs) (hx:xs.length≤2) (K:Value→Heap→Prop) (hk:∀ h',Ext h h'→K (atI w p0 xs xs.length).val h'):Ok Tryz.prog tab ov 12 [.string w,.string p0,v] h K:=by
 rw [zaa h]
 have z:=Ext.refl h
 have hvv:=za3 v
 have hlv:=fun (hh:Heap)=>hl.lenA ds23 hh
 refine Ok.into rfl zv9 (zaw N12) rfl (m:=55) rfl ?_
 simp -implicitDefEqProofs only [syms,symx,seval,c12,hvv,hlv,valS,bldA,zal]
 refine zgJ (i:=1) rfl sz42 rfl rfl rfl rfl ?_
 simp only [List.set_cons_succ,List.set_cons_zero]
 simp -implicitDefEqProofs only [syms,symx,seval,c12]
 refine zdW (fun h' x hq=>?_)
 have q6:=hq 0 _ rfl
 have q7:=hq 1 _ rfl
 clear hq
 (replace z:=z.overW x (by (try simp only [lsz]);omega);rw [zaa h'])
 obtain ⟨P6,hP6⟩:∃ P6,P6=h.size+0:=⟨_,rfl⟩
 obtain ⟨P7,hP7⟩:∃ P7,P7=h.size+1:=⟨_,rfl⟩
 rw [← hP6] at q6
 rw [← hP7] at q7
 rw [← hP6,← hP7]
 obtain ⟨I1,hI1⟩:∃ I:Nat→Env→Heap→Prop,I=(fun n e h'=>∃ (i:Nat) (h1:Heap),h'=h1.lay [] h1.low∧Ext h h1∧(n=xs.length - i∧i≤xs.length∧Holds h1 P7 (.row (atI w p0 xs i).cells 42 false)∧(∃ cs,cs.length=11∧Holds h1 P6 (.row cs 42 false)))∧∃ J:Nat→Value,e=(jr J 0 2 (v::jr J 3 3 (.pointer (some ⟨P6,0,none⟩)::.pointer (some ⟨P7,0,none⟩)::.int .i64 i::jr J 9 49 ([]))))):=⟨_,rfl⟩
 refine zaE I1 _ (by rw [hI1];exact ⟨0,_,rfl,z,⟨rfl,by omega,q7,_,rfl,q6⟩,junk (by kernel_rfl)⟩) ?_
 intro n e h' hin
 rw [hI1] at hin
 obtain ⟨i,h1',rfl,z,hinv,J,rfl⟩:=hin
 clear q6 q7
 obtain ⟨rfl,hi,q7,c6,hc6,q6⟩:=hinv
 have hwi:=zcl i (by omega)
 simp -implicitDefEqProofs only [syms,symx,seval,c12,hvv,hlv]
 refine zaD (fun hlt=>?_) (fun hge=>?_)
 rotate_left
 ·have he:i=xs.length:=by omega
  subst he
  simp -implicitDefEqProofs only [syms,symx,seval,c12,q7.lay,zas,↓zaF,zaA,zal]
  refine zjj q6 sz42 rfl hc6 rfl (fun h3 q3 c3=>?_)
  have hz:=z.size
  replace z:=z.stepW c3 (by omega) (by omega)
  replace q3:Holds h3 P6 (.row (atI w p0 xs xs.length).cells 42 false):=q3
  rw [zaa h3]
  simp -implicitDefEqProofs only [syms,symx,seval,c12,q3.lay,↓zaF,zaA,zal]
  exact hk _ (z.upW _ _ (by omega))
 obtain ⟨x,hr,hr'⟩:=zbs (l:=xs) (i:=i) (by omega)
 simp -implicitDefEqProofs only [syms,symx,seval,c12,hvv]
 refine zaD (fun _=>?_) (fun h4=>absurd h4 (by omega))
 simp -implicitDefEqProofs only [syms,symx,seval,c12,hvv]
 repeat' ((first|((with_reducible first|apply zaD|apply zeR|apply zdS|apply zhq|apply zg6) <;> intro _)|with_reducible_and_instances refine zhs (hl.mono z.inc) ds23 sz9 (by omega) hr (fun p hp=>?_)|with_reducible_and_instances refine zfO hp ag9 ?_|((with_reducible_and_instances apply zgs);(· exact Tryz.underlying9);(· rfl);(· rfl);(· omega);(· first|omega|exact zoM (by assumption)))) <;> simp -implicitDefEqProofs only [syms,symx,seval,c12,hvv,valS])
 refine ok_C x _ _ (fun h' zx=>?_)
 have x:=zx
 ((skip);replace z:=z.overW x (by (try simp only [lsz]);omega);(try replace q6:=q6.over x);(try replace q7:=q7.over x);rw [zaa h'])
 clear x
 have hz:=z.size
 have h01:i=0∨i=1:=by omega
 simp -implicitDefEqProofs only [syms,symx,seval,c12,hvv,valS]
 rw [if_pos ⟨by omega,by omega⟩]
 simp -implicitDefEqProofs only [syms,symx,seval,c12,hvv,valS]
 refine zdp q7 (o:=3+i*2) sz39 (vs:=[.bool false,.string x]) rfl rfl (by show 3+i*2+2≤11;omega) rfl (fun h3 q3 c3=>?_)
 replace z:=z.stepW c3 (by omega) (by omega)
 replace q6:=q6.stepL c3 (by omega)
 rw [zaa h3]
 simp -implicitDefEqProofs only [syms,symx,seval,c12,hvv,valS]
 repeat' ((first|((with_reducible first|apply zaD|apply zeR|apply zdS|apply zhq|apply zg6) <;> intro _)|with_reducible_and_instances refine zhs (hl.mono z.inc) ds23 sz9 (by omega) hr (fun p hp=>?_)|with_reducible_and_instances refine zfO hp ag9 ?_|((with_reducible_and_instances apply zgs);(· exact Tryz.underlying9);(· rfl);(· rfl);(· omega);(· first|omega|exact zoM (by assumption)))) <;> simp -implicitDefEqProofs only [syms,symx,seval,c12,hvv,valS])
 ·have hne:¬ x=⟨#[]⟩:=by assumption
  have hu:upB x=true:=by unfold upB;rw [decide_eq_true_eq];have:=zoM hne;exact ⟨by omega,by omega,by omega⟩
  have hst:=zrM (w:=w) (p:=p0) hr' h01
  rw [hu] at hst
  rw [if_pos ⟨by omega,by omega⟩]
  simp -implicitDefEqProofs only [syms,symx,seval,c12]
  refine zdp q3 (o:=3+i*2) sz4 (vs:=[.bool true]) rfl rfl (by rw [zeB (by show 3+i*2+2≤11;omega)];show 3+i*2+1≤11;omega) rfl (fun h4 q4 c4=>?_)
  rw [zC1 h01,hst] at q4
  replace z:=z.stepW c4 (by omega) (by have:=z.size;omega)
  replace q6:=q6.stepL c4 (by omega)
  rw [zaa h4]
  simp -implicitDefEqProofs only [syms,symx,seval,c12]
  rw [hwi]
  (rw [hI1];with_reducible refine zae (m:=_) ?_ ⟨i+1,_,rfl,z,⟨rfl,by omega,q4,c6,hc6,q6⟩,junk (by kernel_rfl)⟩;omega)
 all_goals
  have hu:upB x=false:=by
   unfold upB
   rw [decide_eq_false_iff_not]
   rintro ⟨g1,g2,g3⟩
   first
    |omega
    |exact zzj (by assumption) g1
  have hst:=zrM (w:=w) (p:=p0) hr' h01
  rw [hu] at hst
  rw [hst] at q3
  rw [hwi]
  (rw [hI1];with_reducible refine zae (m:=_) ?_ ⟨i+1,_,rfl,z,⟨rfl,by omega,q3,c6,hc6,q6⟩,junk (by kernel_rfl)⟩;omega)
theorem zvK (s:ByteArray) (N:Nat) (hn:N≤1000) (hs:s.size≤1000) (h:Heap) (K:Value→Heap→Prop) (hk:∀ h',Ext h h'→K (.string (repB s N)) h'):Ok Tryz.prog tab ov 13 [.string s,.int .i64 N] h K:=by
 rw [zaa h]
 have z:=Ext.refl h
 refine Ok.into rfl zwa (zaw N13) rfl (m:=18) rfl ?_
 simp -implicitDefEqProofs only [syms,symx,seval,c13]
 obtain ⟨I1,hI1⟩:∃ I:Nat→Env→Heap→Prop,I=(fun n e h'=>∃ (m:Nat) (o x:ByteArray) (h1:Heap),h'=h1.lay [] h1.low∧Ext h h1∧(n=m∧m≤1000∧o++repB x m=repB s N)∧∃ J:Nat→Value,e=(.string x::.int .i64 m::jr J 2 3 (.string o::jr J 6 14 ([])))):=⟨_,rfl⟩
 refine zaE I1 _ (by rw [hI1];exact ⟨N,⟨#[]⟩,s,_,rfl,z,⟨rfl,hn,ByteArray.empty_append⟩,junk (by kernel_rfl)⟩) ?_
 intro n e h' hin
 rw [hI1] at hin
 obtain ⟨m,o,x,h1',rfl,z,hinv,J,rfl⟩:=hin
 obtain ⟨rfl,hm,ho⟩:=hinv
 have hz:=z.size
 have hr:(n:Int).tmod 2=((n % 2:Nat):Int):=rfl
 have hq:IntKind.i64.wrap ((n:Int).tdiv 2)=((n / 2:Nat):Int):=by
  have e:(n:Int).tdiv 2=((n / 2:Nat):Int):=rfl
  rw [e,wrap_i64 (by omega) (by omega)]
 simp -implicitDefEqProofs only [syms,symx,seval,c13]
 refine zaD (fun hgt=>?_) (fun hle=>?_)
 ·simp -implicitDefEqProofs only [syms,symx,seval,c13]
  rw [zrN (by decide),hr]
  have hsz:o.size+n*x.size≤1000000:=by
   have h1:=congrArg ByteArray.size ho
   rw [ByteArray.size_append,zd9,zd9] at h1
   rw [h1]
   exact Nat.mul_le_mul hn hs
  have hx1:x.size≤n*x.size:=Nat.le_mul_of_pos_left _ (by omega)
  simp -implicitDefEqProofs only [syms,symx,seval,c13]
  refine zeR (fun h1=>?_) (fun h1=>?_)
  ·have h2:n=2*(n / 2)+1:=by omega
   simp -implicitDefEqProofs only [syms,symx,seval,c13]
   rw [zkA (by omega)]
   simp -implicitDefEqProofs only [syms,symx,seval,c13]
   rw [zkA (by omega)]
   simp -implicitDefEqProofs only [syms,symx,seval,c13]
   rw [znw (by decide),hq]
   simp -implicitDefEqProofs only [syms,symx,seval,c13]
   (rw [hI1];with_reducible refine zae (m:=_) ?_ ⟨n / 2,o++x,x++x,_,rfl,z,⟨rfl,by omega,by rw [zli,ByteArray.append_assoc,zmO,← h2,ho]⟩,junk (by kernel_rfl)⟩;omega)
  ·have h2:n=2*(n / 2):=by omega
   simp -implicitDefEqProofs only [syms,symx,seval,c13]
   rw [zkA (by omega)]
   simp -implicitDefEqProofs only [syms,symx,seval,c13]
   rw [znw (by decide),hq]
   simp -implicitDefEqProofs only [syms,symx,seval,c13]
   (rw [hI1];with_reducible refine zae (m:=_) ?_ ⟨n / 2,o,x++x,_,rfl,z,⟨rfl,by omega,by rw [zli,← h2,ho]⟩,junk (by kernel_rfl)⟩;omega)
 ·have h0:n=0:=by omega
  subst h0
  rw [show o++repB x 0=o from ByteArray.append_empty] at ho
  subst ho
  simp -implicitDefEqProofs only [syms,symx,seval,c13]
  exact hk _ (z.upW _ _ (by omega))
end Go.Proofs.YtdplfgoifjjniaaGreatDoor

/- Requests in bytes; what is read of a part of the bytes. No condition. -/
import Derived.Test.YtjildadoepadeaaGreatDoorG24
set_option linter.unusedSimpArgs false
set_option linter.unusedVariables false
namespace Go.Am
variable {o o2:Nat}
theorem Hu {s:aA} {p i:Nat} (h:o+i < min p s.size):dm (s.extract o p) i=dm s (o+i):=by
 have hi:i < (s.extract o p).size:=by rw [ByteArray.size_extract];omega
 unfold dm
 rw [getElem?_pos (s.extract o p) i hi,getElem?_pos s (o+i) (by omega),ByteArray.getElem_extract]
theorem Iz {s:aA} {n:Nat} (h:c7 s o=some (n,o2)):o<=o2:=by
 unfold c7 at h
 cases he:gV (s.extract o s.size) with
 |none=>rw [he] at h;cases h
 |some x =>
  rw [he] at h
  injection h with h
  injection h with h1 h2
  omega
theorem Gb {s:aA} {x:aA} (h:eJ s o=some (x,o2)):o<=o2:=by
 unfold eJ at h
 obtain ⟨y,h1,h⟩:=bB.1 h
 have:=Iz (n:=y.1) (o2:=y.2) h1
 split at h
 .injection h with h
  injection h with e1 e2
  omega
 .cases h
section
variable {s:aA} {d:Nat}
theorem Ga (hd:d<=s.size):(s.extract d s.size).size=s.size - d:=by rw [ByteArray.size_extract];omega
theorem SA (hd:d<=s.size) (o:Nat):c7 (s.extract d s.size) o=(c7 s (d+o)).map λx=>(x.1,x.2 - d):=by
 unfold c7
 rw [ByteArray.extract_extract,Ga hd,show min (d+(s.size - d)) s.size=s.size by omega,Option.map_map]
 congr 1
 funext x
 show (x.1,o+x.2)=(x.1,d+o+x.2 - d)
 rw [show d+o+x.2 - d=o+x.2 by omega]
theorem MQ (hd:d<=s.size) (o:Nat) (ho:d+o<=s.size):eJ (s.extract d s.size) o=(eJ s (d+o)).map λx=>(x.1,x.2 - d):=by
 unfold eJ
 rw [SA hd]
 cases h:c7 s (d+o) with
 |none=>rfl
 |some y =>
  have hy:=Iz (n:=y.1) (o2:=y.2) h
  have hz:=(Gg (n:=y.1) (o2:=y.2) ho h).1
  simp only [gJ,cM]
  rw [Ga hd]
  by_cases hc:y.1<=s.size - y.2
  .rw [aC hc,aC (by omega),ByteArray.extract_extract,gJ]
   rw [show d+(y.2 - d)=y.2 by omega,show min (d+(y.2 - d+y.1)) s.size=y.2+y.1 by omega,show y.2 - d+y.1=y.2+y.1 - d by omega]
  .rw [ay hc,ay (by omega)]
   rfl
theorem Z1 (hd:d<=s.size) (o:Nat):gH (s.extract d s.size) o=(gH s (d+o)).map λx=>(x.1,x.2 - d):=by
 unfold gH
 rw [Ga hd]
 by_cases hl:d+o < s.size
 .rw [Hu (by omega)]
  by_cases hb:dm s (d+o)<=1
  .rw [aC ⟨by omega,hb⟩,aC ⟨hl,hb⟩,gJ,show d+o+1 - d=o+1 by omega]
  .rw [ay (λh=>hb h.2),ay (λh=>hb h.2)]
   rfl
 .rw [ay (λh=>hl (by omega)),ay (λh=>hl h.1)]
  rfl
theorem T3 {b:Bool} (h:gH s o=some (b,o2)):o2<=s.size/\o2=o+1:=by
 unfold gH at h
 split at h
 .injection h with h
  injection h with e1 e2
  omega
 .cases h
theorem zpx (hd:d<=s.size) (o:Nat):dQ (s.extract d s.size) o=(dQ s (d+o)).map λx=>(x.1,x.2 - d):=by
 unfold dQ
 rw [Z1 hd]
 cases h:gH s (d+o) with
 |none=>rfl
 |some y =>
  have hy:=T3 (b:=y.1) (o2:=y.2) h
  simp only [gJ,cM]
  rw [MQ hd _ (by omega),show d+(y.2 - d)=y.2 by omega,Option.map_map,Option.map_map]
  rfl
theorem zvp {t:aH} (h:dQ s o=some (t,o2)):o<=o2:=by
 unfold dQ at h
 obtain ⟨y,h1,h⟩:=bB.1 h
 have:=T3 (b:=y.1) (o2:=y.2) h1
 cases h2:eJ s y.2 with
 |none=>rw [h2] at h;cases h
 |some w =>
  rw [h2] at h
  have:=Gb (x:=w.1) (o2:=w.2) h2
  injection h with h
  injection h with e1 e2
  omega
theorem Nt {a:ae} {o:Nat}:∀ {i o2:Nat} {b:ae},gC s a o i=some (b,o2)->o<=o2
 |0,_,_,h=>by
  injection h with h
  injection h with h1 h2
  omega
 |i+1,o2,b,h=>by
  have e:gC s a o (i+1)=(gC s a o i).bind λx=>(dQ s x.2).map λy=>(x.1.put i y.1,y.2):=rfl
  rw [e] at h
  obtain ⟨x,h1,h⟩:=bB.1 h
  have:=Nt (b:=x.1) (o2:=x.2) h1
  cases h2:dQ s x.2 with
  |none=>rw [h2] at h;cases h
  |some w =>
   rw [h2] at h
   have:=zvp (t:=w.1) (o2:=w.2) h2
   injection h with h
   injection h with e1 e2
   omega
theorem R3 (hd:d<=s.size) (a:ae) (o:Nat):∀ i,gC (s.extract d s.size) a o i=(gC s a (d+o) i).map λx=>(x.1,x.2 - d)
 |0=>by
  show some (a,o)=some (a,d+o - d)
  rw [show d+o - d=o by omega]
 |i+1=>by
  have e:∀ (s:aA) (o:Nat),gC s a o (i+1)=(gC s a o i).bind λx=>(dQ s x.2).map λy=>(x.1.put i y.1,y.2):=λ_ _=>rfl
  rw [e,e,R3 hd a o i]
  cases h:gC s a (d+o) i with
  |none=>rfl
  |some x =>
   have:=Nt (b:=x.1) (o2:=x.2) h
   simp only [gJ,cM]
   rw [zpx hd,show d+(x.2 - d)=x.2 by omega,Option.map_map,Option.map_map]
   rfl
theorem zts {k:Nat} {a:ae} (h:ie s o=some (a,k)):o<=k:=by
 unfold ie at h
 obtain ⟨x,h1,h⟩:=bB.1 h
 obtain ⟨y,h2,h⟩:=bB.1 h
 obtain ⟨n,h3,h⟩:=bB.1 h
 have l1:=Gb (x:=x.1) (o2:=x.2) h1
 have l2:=Gb (x:=y.1) (o2:=y.2) h2
 have l3:=Iz (n:=n.1) (o2:=n.2) h3
 split at h
 .obtain ⟨w,h4,h⟩:=bB.1 h
  have l4:=Nt (b:=w.1) (o2:=w.2) h4
  split at h
  .injection h with h
   injection h with e1 e2
   omega
  .cases h
 .cases h
theorem Zb (hd:d<=s.size) (o:Nat) (ho:d+o<=s.size):ie (s.extract d s.size) o=(ie s (d+o)).map λx=>(x.1,x.2 - d):=by
 unfold ie
 rw [MQ hd o ho]
 cases h1:eJ s (d+o) with
 |none=>rfl
 |some x =>
  have g1:=Gb (x:=x.1) (o2:=x.2) h1
  have l1:=F6 (x:=x.1) (o2:=x.2) ho h1
  simp only [gJ,cM]
  rw [MQ hd _ (by omega),show d+(x.2 - d)=x.2 by omega]
  cases h2:eJ s x.2 with
  |none=>rfl
  |some y =>
   have g2:=Gb (x:=y.1) (o2:=y.2) h2
   have l2:=F6 (x:=y.1) (o2:=y.2) l1 h2
   simp only [gJ,cM]
   rw [SA hd,show d+(y.2 - d)=y.2 by omega]
   cases h3:c7 s y.2 with
   |none=>rfl
   |some n =>
    have g3:=Iz (n:=n.1) (o2:=n.2) h3
    simp only [gJ,cM]
    by_cases hn:n.1<=4
    .rw [aC hn,aC hn,R3 hd,show d+(n.2 - d)=n.2 by omega]
     cases h4:gC s { aw with says:=x.1,pred:=y.1 } n.2 n.1 with
     |none=>rfl
     |some w =>
      simp only [gJ,cM]
      by_cases hv:bu { w.1 with n:=n.1 }
      .rw [aC hv,aC hv];rfl
      .rw [ay hv,ay hv];rfl
    .rw [ay hn,ay hn];rfl
end
noncomputable def eM (s:aA):Option (Nat × ae):=if s.size<=4096/\0 < s.size then (ie s 1).bind λx=>if x.2=s.size/\1<=dm s 0/\dm s 0<=3 then some (dm s 0,x.1) else none else none
def fw (k:Int) (a:ae):List ai:=.int .i64 k::a.cells
def jI (k:Int) (a:ae):ai:=.agg ⟨fw k a⟩
end Go.Am
namespace Go.Am
structure eK where
 yH:aA
 uq:aA
 deriving DecidableEq
def eK.cells (x:eK):List ai:=[.string x.yH,.string x.uq]
def eK.val (x:eK):ai:=.agg ⟨x.cells⟩
abbrev aQ.Mu:aQ eK:={ k:=2,R:=λ_ cs x=>cs=x.cells,len:=by rintro _ _ _ rfl;rfl,mono:=λ_ _ _ _ _ h=>h,fk:=by rintro _ _ _ rfl;rfl }
theorem zpQ (a:eK):a.val.cells.toList=a.cells:=rfl
theorem Tx (a:eK) (h:Heap) (K:aF):aE (some a.val) h K=K a.val h:=rfl
def zyX (l:List eK):List ai:=l.flatMap eK.cells
structure Jb (h:Heap) (v:ai):Prop where
 sl:Sl aQ.Mu h v []
 no:v=.slice none 0 0\/∃ B o,v=.slice (some ⟨B,o,none⟩) 0 0
def ql (h0 h:Heap) (u:TypeId) (v:ai) (s:List eK):Prop :=
 (s=[]/\Jb h v)\/∃ A t,v=.slice (some ⟨A,0,none⟩) s.length (G*2+(s++t).length)/\Holds h A (.row (zyX (s++t)) u false)/\h0.size<=A/\(s++t).length<=100000
theorem Jb.nil {h:Heap}:Jb h (.slice none 0 0):=⟨Sl.nil,.inl rfl⟩
theorem Jb.mono {h h':Heap} {v:ai} (f:Jb h v) (i:dz h h'):Jb h' v:=⟨f.sl.mono i,f.no⟩
theorem Jb.lay {h:Heap} {v:ai} (f:Jb h v) (bs:List bd) (w:Nat):Jb (h.lay bs w) v:=⟨f.sl.lay bs w,f.no⟩
theorem Jb.over {h1 h2:Heap} {v:ai} {bs:List bd} {w:Nat} (f:Jb h1 v) (x:Ext (h1.lay bs w) h2):Jb h2 v:=⟨f.sl.over x,f.no⟩
theorem zzp (l:List eK):(zyX l).length=l.length*2:=by
 unfold zyX
 induction l with
 |nil=>rfl
 |cons x l ih=>rw [List.flatMap_cons,hJ,ih,nW];show 2+_=_;omega
theorem zzA {l:List eK} {i:Nat} {x:eK} (h:l[i]? = some x):cut (zyX l) (i*2) 2=some x.cells:=by
 have hi:=(fB.1 h).1
 unfold cut
 rw [aC (by rw [zzp];omega)]
 congr 1
 unfold zyX
 induction l generalizing i with
 |nil=>simp at h
 |cons y l ih =>
  cases i with
  |zero =>
   simp at h
   subst h
   rfl
  |succ i =>
   rw [List.flatMap_cons,show (i+1)*2=y.cells.length+i*2 by show _=2+_;omega,List.drop_append]
   have h2:y.cells.drop (y.cells.length+i*2)=[]:=zzd (by omega)
   rw [h2,List.nil_append,Nat.add_sub_cancel_left]
   exact ih (by simpa using h) (by simpa using hi)
theorem zzI {h:Heap} {A o:Nat} {l s:List eK} {u:TypeId} {c:Nat} {ro:Bool} (q:Holds h A (.row (zyX l) u ro)) (hc:zxF 2 s.length c) (hn:s.length<=100000) (hs:∀ (i:Nat) (x:eK),s[i]? = some x->l[o+i]? = some x):Sl aQ.Mu h (.slice (some ⟨A,o*2,none⟩) s.length c) s:=by
 refine .inr ⟨A,o*2,c,zyX l,u,ro,rfl,(iG hn (by decide)),hc,q.lt,q.get,λi x hx=>⟨x.cells,?_,rfl⟩⟩
 show cut (zyX l) (o*2+i*2) 2=_
 rw [<- wF]
 exact zzA (hs i x hx)
theorem ql.sl {h0 h:Heap} {u:TypeId} {v:ai} {s:List eK} (f:ql h0 h u v s):Sl aQ.Mu h v s:=by
 rcases f with ⟨rfl,f⟩|⟨A,t,rfl,e2,e3,e4⟩
 .exact f.sl
 .have hG:=zzH
  obtain ⟨d1,d2,d3⟩:=zum (k:=2) (q:=(s++t).length) (by decide) (by omega)
  have hle:s.length<=(s++t).length:=by rw [hJ];omega
  have:=zzI (o:=0) (s:=s) e2 (.inr ⟨d1,d2,by rw [d3];omega⟩) (by omega) (λi x hx=>by rw [jX,kR (fB.1 hx).1];exact hx)
  simpa using this
theorem ql.mono {h0 h h':Heap} {u:TypeId} {v:ai} {s:List eK} (f:ql h0 h u v s) (i:dz h h'):ql h0 h' u v s:=by
 rcases f with ⟨e,f⟩|⟨A,t,e1,e2,e3⟩
 .exact .inl ⟨e,f.mono i⟩
 .exact .inr ⟨A,t,e1,e2.mono i,e3⟩
theorem ql.lay {h0 h:Heap} {u:TypeId} {v:ai} {s:List eK} (f:ql h0 h u v s) (bs:List bd) (w:Nat):ql h0 (h.lay bs w) u v s:=f.mono (dz.lay h bs w)
theorem ql.down {h0 h1 h:Heap} {u:TypeId} {v:ai} {s:List eK} (f:ql h1 h u v s) (i:h0.size<=h1.size):ql h0 h u v s:=by
 rcases f with f|⟨A,t,e1,e2,e3,e4⟩
 .exact .inl f
 .exact .inr ⟨A,t,e1,e2,by omega,e4⟩
end Go.Am
namespace Go.Proofs.YtjildadoepadeaaGreatDoor
open Go.Am Tryz
set_option maxRecDepth 100000
theorem zrN:prog.cellsOf 53=12:=by kernel_rfl
theorem Y9 {h:Heap} {n:Nat} {v:ai} (hs:s8 prog h (n+6) 53 v):∃ (k:Int) (a:ae),v=jI k a:=by
 unfold s8 at hs
 rw [underlying53] at hs
 obtain ⟨cs,rfl,hc⟩:=hs
 unfold dn at hc
 rw [underlying53] at hc
 obtain ⟨hl,hf⟩:=hc
 rw [zrN] at hl
 have h0:dn prog h (n+5) 3 ((cs.drop 0).take 1):=hf 0 _ rfl
 have h1:dn prog h (n+5) 41 ((cs.drop 1).take 11):=hf 1 _ rfl
 obtain ⟨k,hk,_⟩:=Gj h0
 obtain ⟨a,ha⟩:=Ik (n:=n+1) h1
 refine ⟨k,a,?_⟩
 have e1:cs=cs.take 1++cs.drop 1:=(Io 1 cs).symm
 rw [List.drop_zero] at hk
 rw [i9 (by simp;omega)] at ha
 rw [hk,ha] at e1
 rw [e1]
 rfl
end Go.Proofs.YtjildadoepadeaaGreatDoor
namespace Go.Am
variable {T:bm} {fn:Func} {K:aF} {e:Env} {h:Heap}
theorem zw5 (hr:fn.results=#[]):dq T fn K .ret e h=K undef h:=by
 simp [dq,jH,hr,undef]
theorem zwc (hr:fn.results=#[]):dq T fn K .normal e h=K undef h:=by
 simp [dq,jH,hr,undef]
theorem zr5 {a b c:Tmp} (hr:fn.results=#[.tmp a,.tmp b,.tmp c]):dq T fn K .ret e h=K (.tuple #[e.get a,e.get b,e.get c]) h:=by
 simp [dq,jH,hr,nO]
theorem Sn {a b:Tmp} {y:TypeId} (hr:fn.results=#[.cell a y,.tmp b]):dq T fn K .ret e h=aE (eQ T y (e.get a) h) h (λx h'=>K (.tuple #[x,e.get b]) h'):=by
 cases hl:eQ T y (e.get a) h with
 |none=>simp [dq,jH,hr,nO,aE,hl]
 |some x=>simp [dq,jH,hr,nO,aE,hl]
end Go.Am

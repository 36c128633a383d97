/- Requests in bytes; what is read of a part of the bytes. No condition. -/
import Derived.Test.YtemapihoobmonaaGreatDoorG22
namespace Go.Am
set_option linter.unusedVariables false
set_option linter.unusedSimpArgs false
theorem zgn {s:ByteArray} {o p i:Nat} (h:o+i < min p s.size):zaP (s.extract o p) i=zaP s (o+i):=by
  have hi:i < (s.extract o p).size:=by rw [ByteArray.size_extract]; omega
  unfold zaP
  rw [getElem?_pos (s.extract o p) i hi,getElem?_pos s (o+i) (by omega),ByteArray.getElem_extract]
theorem zlT {s:ByteArray} {o n o2:Nat} (h:numO s o=some (n,o2)):o≤o2:=by
  unfold numO at h
  cases he:numD (s.extract o s.size) with
  | none=>rw [he] at h; cases h
  | some x =>
    rw [he] at h
    injection h with h
    injection h with h1 h2
    omega
theorem zgz {s:ByteArray} {o o2:Nat} {x:ByteArray} (h:zbg s o=some (x,o2)):o≤o2:=by
  unfold zbg at h
  obtain ⟨y,h1,h⟩:=Option.bind_eq_some_iff.1 h
  have:=zlT (n:=y.1) (o2:=y.2) h1
  split at h
  · injection h with h
    injection h with e1 e2
    omega
  · cases h
section
variable {s:ByteArray} {d:Nat}
theorem zgm (hd:d≤s.size):(s.extract d s.size).size=s.size - d:=by rw [ByteArray.size_extract]; omega
theorem zk0 (hd:d≤s.size) (o:Nat):numO (s.extract d s.size) o=(numO s (d+o)).map fun x=>(x.1,x.2 - d):=by
  unfold numO
  rw [ByteArray.extract_extract,zgm hd,show min (d+(s.size - d)) s.size=s.size by omega,Option.map_map]
  congr 1
  funext x
  show (x.1,o+x.2)=(x.1,d+o+x.2 - d)
  rw [show d+o+x.2 - d=o+x.2 by omega]
theorem zfU (hd:d≤s.size) (o:Nat) (ho:d+o≤s.size):zbg (s.extract d s.size) o=(zbg s (d+o)).map fun x=>(x.1,x.2 - d):=by
  unfold zbg
  rw [zk0 hd]
  cases h:numO s (d+o) with
  | none=>rfl
  | some y =>
    have hy:=zlT (n:=y.1) (o2:=y.2) h
    have hz:=(zhA (n:=y.1) (o2:=y.2) ho h).1
    simp only [Option.map_some,Option.bind_some]
    rw [zgm hd]
    by_cases hc:y.1≤s.size - y.2
    · rw [if_pos hc,if_pos (by omega),ByteArray.extract_extract,Option.map_some]
      rw [show d+(y.2 - d)=y.2 by omega,show min (d+(y.2 - d+y.1)) s.size=y.2+y.1 by omega,show y.2 - d+y.1=y.2+y.1 - d by omega]
    · rw [if_neg hc,if_neg (by omega)]
      rfl
theorem zqs (hd:d≤s.size) (o:Nat):zbP (s.extract d s.size) o=(zbP s (d+o)).map fun x=>(x.1,x.2 - d):=by
  unfold zbP
  rw [zgm hd]
  by_cases hl:d+o < s.size
  · rw [zgn (by omega)]
    by_cases hb:zaP s (d+o)≤1
    · rw [if_pos ⟨by omega,hb⟩,if_pos ⟨hl,hb⟩,Option.map_some,show d+o+1 - d=o+1 by omega]
    · rw [if_neg (fun h=>hb h.2),if_neg (fun h=>hb h.2)]
      rfl
  · rw [if_neg (fun h=>hl (by omega)),if_neg (fun h=>hl h.1)]
    rfl
theorem zqA {o o2:Nat} {b:Bool} (h:zbP s o=some (b,o2)):o2≤s.size∧o2=o+1:=by
  unfold zbP at h
  split at h
  · injection h with h
    injection h with e1 e2
    omega
  · cases h
theorem zs4 (hd:d≤s.size) (o:Nat):argO (s.extract d s.size) o=(argO s (d+o)).map fun x=>(x.1,x.2 - d):=by
  unfold argO
  rw [zqs hd]
  cases h:zbP s (d+o) with
  | none=>rfl
  | some y =>
    have hy:=zqA (b:=y.1) (o2:=y.2) h
    simp only [Option.map_some,Option.bind_some]
    rw [zfU hd _ (by omega),show d+(y.2 - d)=y.2 by omega,Option.map_map,Option.map_map]
    rfl
theorem zzQ {o o2:Nat} {t:TermD} (h:argO s o=some (t,o2)):o≤o2:=by
  unfold argO at h
  obtain ⟨y,h1,h⟩:=Option.bind_eq_some_iff.1 h
  have:=zqA (b:=y.1) (o2:=y.2) h1
  cases h2:zbg s y.2 with
  | none=>rw [h2] at h; cases h
  | some w =>
    rw [h2] at h
    have:=zgz (x:=w.1) (o2:=w.2) h2
    injection h with h
    injection h with e1 e2
    omega
theorem zlX {a:AtomD} {o:Nat}:∀ {i o2:Nat} {b:AtomD},zch s a o i=some (b,o2)→o≤o2
  | 0,_,_,h=>by
    injection h with h
    injection h with h1 h2
    omega
  | i+1,o2,b,h=>by
    have e:zch s a o (i+1)=(zch s a o i).bind fun x=>(argO s x.2).map fun y=>(x.1.put i y.1,y.2):=rfl
    rw [e] at h
    obtain ⟨x,h1,h⟩:=Option.bind_eq_some_iff.1 h
    have:=zlX (b:=x.1) (o2:=x.2) h1
    cases h2:argO s x.2 with
    | none=>rw [h2] at h; cases h
    | some w =>
      rw [h2] at h
      have:=zzQ (t:=w.1) (o2:=w.2) h2
      injection h with h
      injection h with e1 e2
      omega
theorem zi9 (hd:d≤s.size) (a:AtomD) (o:Nat):∀ i,zch (s.extract d s.size) a o i=(zch s a (d+o) i).map fun x=>(x.1,x.2 - d)
  | 0=>by
    show some (a,o)=some (a,d+o - d)
    rw [show d+o - d=o by omega]
  | i+1=>by
    have e:∀ (s:ByteArray) (o:Nat),zch s a o (i+1)=(zch s a o i).bind fun x=>(argO s x.2).map fun y=>(x.1.put i y.1,y.2):=fun _ _=>rfl
    rw [e,e,zi9 hd a o i]
    cases h:zch s a (d+o) i with
    | none=>rfl
    | some x =>
      have:=zlX (b:=x.1) (o2:=x.2) h
      simp only [Option.map_some,Option.bind_some]
      rw [zs4 hd,show d+(x.2 - d)=x.2 by omega,Option.map_map,Option.map_map]
      rfl
theorem zxJ {o k:Nat} {a:AtomD} (h:zcd s o=some (a,k)):o≤k:=by
  unfold zcd at h
  obtain ⟨x,h1,h⟩:=Option.bind_eq_some_iff.1 h
  obtain ⟨y,h2,h⟩:=Option.bind_eq_some_iff.1 h
  obtain ⟨n,h3,h⟩:=Option.bind_eq_some_iff.1 h
  have l1:=zgz (x:=x.1) (o2:=x.2) h1
  have l2:=zgz (x:=y.1) (o2:=y.2) h2
  have l3:=zlT (n:=n.1) (o2:=n.2) h3
  split at h
  · obtain ⟨w,h4,h⟩:=Option.bind_eq_some_iff.1 h
    have l4:=zlX (b:=w.1) (o2:=w.2) h4
    split at h
    · injection h with h
      injection h with e1 e2
      omega
    · cases h
  · cases h
theorem zpl (hd:d≤s.size) (o:Nat) (ho:d+o≤s.size):zcd (s.extract d s.size) o=(zcd s (d+o)).map fun x=>(x.1,x.2 - d):=by
  unfold zcd
  rw [zfU hd o ho]
  cases h1:zbg s (d+o) with
  | none=>rfl
  | some x =>
    have g1:=zgz (x:=x.1) (o2:=x.2) h1
    have l1:=zgt (x:=x.1) (o2:=x.2) ho h1
    simp only [Option.map_some,Option.bind_some]
    rw [zfU hd _ (by omega),show d+(x.2 - d)=x.2 by omega]
    cases h2:zbg s x.2 with
    | none=>rfl
    | some y =>
      have g2:=zgz (x:=y.1) (o2:=y.2) h2
      have l2:=zgt (x:=y.1) (o2:=y.2) l1 h2
      simp only [Option.map_some,Option.bind_some]
      rw [zk0 hd,show d+(y.2 - d)=y.2 by omega]
      cases h3:numO s y.2 with
      | none=>rfl
      | some n =>
        have g3:=zlT (n:=n.1) (o2:=n.2) h3
        simp only [Option.map_some,Option.bind_some]
        by_cases hn:n.1≤4
        · rw [if_pos hn,if_pos hn,zi9 hd,show d+(n.2 - d)=n.2 by omega]
          cases h4:zch s { noAtomD with says:=x.1,pred:=y.1 } n.2 n.1 with
          | none=>rfl
          | some w =>
            simp only [Option.map_some,Option.bind_some]
            by_cases hv:ValidX { w.1 with n:=n.1 }
            · rw [if_pos hv,if_pos hv]; rfl
            · rw [if_neg hv,if_neg hv]; rfl
        · rw [if_neg hn,if_neg hn]; rfl
end
noncomputable def reqO (s:ByteArray):Option (Nat × AtomD):=if s.size≤4096∧0 < s.size then (zcd s 1).bind fun x=>if x.2=s.size∧1≤zaP s 0∧zaP s 0≤3 then some (zaP s 0,x.1) else none else none
def zaV (k:Int) (a:AtomD):List Value:=.int .i64 k::a.cells
def zdu (k:Int) (a:AtomD):Value:=.agg ⟨zaV k a⟩
end Go.Am

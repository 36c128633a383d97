/- Rows of requests: written out of what is said of rows of atoms (mksent.py). No condition. -/
import Derived.Test.YtemapihoobmonaaGreatDoorG15
import Derived.Test.YtemapihoobmonaaGreatDoorG20
import Derived.Test.YtemapihoobmonaaGreatDoorG17
import Derived.Test.YtemapihoobmonaaGreatDoorGCodec3
import Derived.Test.YtemapihoobmonaaGreatDoorG13
import Derived.Test.YtemapihoobmonaaGreatDoorG4
namespace Go.Am
set_option linter.unusedVariables false
set_option linter.unusedSimpArgs false
structure SentD where
  sender:ByteArray
  payload:ByteArray
  deriving DecidableEq
def SentD.cells (x:SentD):List Value:=[.string x.sender,.string x.payload]
def SentD.val (x:SentD):Value:=.agg ⟨x.cells⟩
def noSentD:SentD:=⟨⟨#[]⟩,⟨#[]⟩⟩
abbrev Rep.sent:Rep SentD:={ k:=2,R:=fun _ cs x=>cs=x.cells,len:=by rintro _ _ _ rfl; rfl,mono:=fun _ _ _ _ _ h=>h,ones:=by rintro _ _ _ rfl; rfl }
theorem zkC (a:SentD):a.val.cells.toList=a.cells:=rfl
theorem zcV (a:SentD) (h:Heap) (K:Value→Heap→Prop):valE (some a.val) h K=K a.val h:=rfl
theorem zfq (a:SentD):cut a.cells 0 2=some a.cells:=rfl
theorem zez (a:SentD):Value.agg a.cells.toArray=a.val:=rfl
theorem zgR {l:List SentD} {m:Nat} (h:m < l.length):l.take (m+1)=l.take m++[l.getD m noSentD]:=by
  rw [List.take_add_one,List.getD_eq_getElem?_getD,List.getElem?_eq_getElem h]
  rfl
theorem zpu {T:Tab} {t u:TypeId} {w:Nat} {cs:List Value} {x:SentD} {h1:Heap} {K:Value→Heap→Prop} (hs:zaM T t=some 2) (hl:cs.length=2)
    (hK:K undef (h1.lay [.row x.cells u false] (min w (h1.size+0)))):memE (zbd T t (.pointer (some ⟨h1.size+0,0,none⟩)) x.val (h1.lay [.row cs u false] w)) K:=by
  have hg:(h1.lay [.row cs u false] w).get (h1.size+0)=some (.row cs u false):=by rw [zbc]; rfl
  have he:zbd T t (.pointer (some ⟨h1.size+0,0,none⟩)) x.val (h1.lay [.row cs u false] w)=some ((h1.lay [.row cs u false] w).set (h1.size+0) (.row x.cells u false)):=by
    unfold zbd
    simp only [hs,Option.bind_some]
    have e1:x.val.cells.toList=x.cells:=rfl
    have e2:x.val.cells.size=2:=rfl
    have e3:x.cells.length=2:=rfl
    have e4:x.cells.all one=true:=rfl
    rw [if_pos e2,e1]
    unfold zbW
    rw [hg]
    simp only
    rw [if_pos (by simp only [Bool.and_eq_true,decide_eq_true_eq]; exact ⟨by omega,e4⟩)]
    congr 2
    unfold splice
    rw [List.take_zero,List.nil_append,List.drop_of_length_le (by omega),List.append_nil]
  rw [he,zbw _ _ _ _ _ (by simp)]
  exact hK
def zbt (l:List SentD):List Value:=l.flatMap SentD.cells
structure EmpT (h:Heap) (v:Value):Prop where
  sl:Sl Rep.sent h v []
  no:v=.slice none 0 0∨∃ B o,v=.slice (some ⟨B,o,none⟩) 0 0
def OwnXT (h0 h:Heap) (u:TypeId) (v:Value) (s:List SentD):Prop :=
  (s=[]∧EmpT h v)∨∃ A,v=.slice (some ⟨A,0,none⟩) s.length (G*2+s.length)∧Holds h A (.row (zbt s) u false)∧h0.size≤A∧s≠[]
def OwnAT (h0 h:Heap) (u:TypeId) (v:Value) (s:List SentD):Prop :=
  (s=[]∧EmpT h v)∨∃ A t,v=.slice (some ⟨A,0,none⟩) s.length (G*2+(s++t).length)∧Holds h A (.row (zbt (s++t)) u false)∧h0.size≤A∧(s++t).length≤100000
theorem OwnXT.own {h0 h:Heap} {u:TypeId} {v:Value} {s:List SentD} (f:OwnXT h0 h u v s) (hn:s.length≤100000):OwnAT h0 h u v s:=by
  rcases f with f | ⟨A,e1,e2,e3,e4⟩
  · exact .inl f
  · exact .inr ⟨A,[],by rw [List.append_nil]; exact e1,by rw [List.append_nil]; exact e2,e3,by rw [List.append_nil]; exact hn⟩
theorem zh1:∀ {l:List SentD} {row:List Value},row.length=l.length*2→(∀ (i:Nat) (x:SentD),l[i]? = some x→cut row (i*2) 2=some x.cells)→row=zbt l
  | [],row,hl,_=>by
    have:row=[]:=List.length_eq_zero_iff.1 (by simpa using hl)
    rw [this]
    rfl
  | x::l,row,hl,h=>by
    have h0:=h 0 x rfl
    have hl2:row.length=l.length*2+2:=by rw [hl,List.length_cons]; omega
    unfold cut at h0
    rw [if_pos (by omega)] at h0
    simp only [Nat.zero_mul,List.drop_zero,Option.some.injEq] at h0
    have hr:=zh1 (l:=l) (row:=row.drop 2) (by rw [List.length_drop]; omega) (fun i y hy=>by
      have hi:=(List.getElem?_eq_some_iff.1 hy).1
      have g:=h (i+1) y hy
      unfold cut at g ⊢
      rw [if_pos (by omega)] at g
      rw [if_pos (by rw [List.length_drop]; omega),List.drop_drop,show 2+i*2=(i+1)*2 by omega]
      exact g)
    have e:row=row.take 2++row.drop 2:=(List.take_append_drop 2 row).symm
    rw [e,h0,hr]
    rfl
theorem zsc {h0 h:Heap} {u:TypeId} {A:Nat} {v:Value} {l:List SentD} (f:Ow Rep.sent h0 h u A v l):OwnXT h0 h u v l:=by
  rcases f with ⟨e1,rfl,e3⟩ | ⟨row,rfl,e2,e3,e4,e5,e6,e7,e8⟩
  · refine .inl ⟨rfl,?_,?_⟩
    · have f2:Ow Rep.sent h0 h u A v []:=.inl ⟨e1,rfl,e3⟩
      exact f2.sl (by decide)
    · rcases e3 with e3 | ⟨B,o,e3,_⟩
      · exact .inl e3
      · exact .inr ⟨B,o,e3⟩
  · refine .inr ⟨A,rfl,⟨e4,?_⟩,e3,e2⟩
    have:row=zbt l:=zh1 e6 (fun i x hx=>by
      obtain ⟨cs,g1,g2⟩:=e8 i x hx
      have g2:cs=x.cells:=g2
      rw [← g2]
      exact g1)
    rw [← this]
    exact e5
theorem EmpT.nil {h:Heap}:EmpT h (.slice none 0 0):=⟨Sl.nil,.inl rfl⟩
theorem EmpT.mono {h h':Heap} {v:Value} (f:EmpT h v) (i:Inc h h'):EmpT h' v:=⟨f.sl.mono i,f.no⟩
theorem EmpT.lay {h:Heap} {v:Value} (f:EmpT h v) (bs:List Blk) (w:Nat):EmpT (h.lay bs w) v:=⟨f.sl.lay bs w,f.no⟩
theorem EmpT.over {h1 h2:Heap} {v:Value} {bs:List Blk} {w:Nat} (f:EmpT h1 v) (x:Ext (h1.lay bs w) h2):EmpT h2 v:=⟨f.sl.over x,f.no⟩
theorem zb3 (l:List SentD):(zbt l).length=l.length*2:=by
  unfold zbt
  induction l with
  | nil=>rfl
  | cons x l ih=>rw [List.flatMap_cons,List.length_append,ih,List.length_cons]; show 2+_=_; omega
theorem znq {l:List SentD} {i:Nat} {x:SentD} (h:l[i]? = some x):cut (zbt l) (i*2) 2=some x.cells:=by
  have hi:=(List.getElem?_eq_some_iff.1 h).1
  unfold cut
  rw [if_pos (by rw [zb3]; omega)]
  congr 1
  unfold zbt
  induction l generalizing i with
  | nil=>simp at h
  | cons y l ih =>
    cases i with
    | zero =>
      simp at h
      subst h
      rfl
    | succ i =>
      rw [List.flatMap_cons,show (i+1)*2=y.cells.length+i*2 by show _=2+_; omega,List.drop_append]
      have h2:y.cells.drop (y.cells.length+i*2)=[]:=List.drop_of_length_le (by omega)
      rw [h2,List.nil_append,Nat.add_sub_cancel_left]
      exact ih (by simpa using h) (by simpa using hi)
theorem ztV {l:List SentD} {i:Nat} {x:SentD} (hi:i < l.length):splice (zbt l) (i*2) x.cells=zbt (l.set i x):=by
  unfold splice
  have hx:x.cells.length=2:=rfl
  rw [hx]
  unfold zbt
  induction l generalizing i with
  | nil=>simp at hi
  | cons y l ih =>
    have hy:y.cells.length=2:=rfl
    cases i with
    | zero =>
      rw [List.set_cons_zero,List.flatMap_cons,List.flatMap_cons,Nat.zero_mul,List.take_zero,List.nil_append,Nat.zero_add,List.drop_append,List.drop_of_length_le (by omega),hy]
      simp
    | succ i =>
      rw [List.set_cons_succ,List.flatMap_cons,List.flatMap_cons,← ih (i:=i) (by simpa using hi)]
      rw [show (i+1)*2=y.cells.length+i*2 by omega,List.take_append,List.take_of_length_le (by omega),Nat.add_sub_cancel_left,show y.cells.length+i*2+2=y.cells.length+(i*2+2) by omega,List.drop_append,List.drop_of_length_le (by omega),Nat.add_sub_cancel_left]
      simp
theorem zrB {u:TypeId} {A i:Nat} {l:List SentD} {x:SentD} {ro:Bool} {h1:Heap} {bs:List Blk} {w:Nat} (q:Holds h1 A (.row (zbt l) u ro)) (hx:l[i]? = some x):cutO ((h1.lay bs w).get A) (i*2) 2=some x.val:=by
  have hh:(h1.lay bs w).get A=some (.row (zbt l) u ro):=q.lay bs w
  rw [hh]
  show (cut (zbt l) (i*2) 2).map _=_
  rw [znq hx]
  rfl
theorem zpJ {T:Tab} {t u:TypeId} {A i:Nat} {l:List SentD} {x:SentD} {h1:Heap} {bs:List Blk} {w:Nat} {K:Value→Heap→Prop} (q:Holds h1 A (.row (zbt l) u false)) (hs:zaM T t=some 2) (hi:i < l.length)
    (hK:∀ h',Holds h' A (.row (zbt (l.set i x)) u false)→Chg A (h1.lay bs w) h'→K undef h'):memE (zbd T t (.pointer (some ⟨A,i*2,none⟩)) x.val (h1.lay bs w)) K:=by
  have hg:(h1.lay bs w).get A=some (.row (zbt l) u false):=q.lay bs w
  have hA:A < (h1.lay bs w).size:=(q.on bs w).lt
  have he:zbd T t (.pointer (some ⟨A,i*2,none⟩)) x.val (h1.lay bs w)=some ((h1.lay bs w).set A (.row (zbt (l.set i x)) u false)):=by
    unfold zbd
    simp only [hs,Option.bind_some]
    have h1:x.val.cells.toList=x.cells:=rfl
    have h2:x.val.cells.size=2:=rfl
    have h3:x.cells.length=2:=rfl
    have h4:x.cells.all one=true:=rfl
    rw [if_pos h2,h1]
    unfold zbW
    rw [hg]
    simp only
    rw [if_pos (by simp only [Bool.and_eq_true,decide_eq_true_eq]; exact ⟨by rw [zb3,h3]; omega,h4⟩),ztV hi]
  rw [he]
  refine hK _ ⟨by rw [Heap.size_set]; exact hA,by rw [Heap.get_set _ _ _ _ hA,if_pos rfl]⟩ ⟨by rw [Heap.size_set]; exact Nat.le_refl _,fun B hB hne=>by rw [Heap.get_set _ _ _ _ hA,if_neg hne],by rw [Heap.low_set]; omega⟩
theorem zqR {l:List SentD} {i:Nat} (h:i < l.length):l[i]? = some (l.getD i noSentD):=by
  rw [List.getD_eq_getElem?_getD,List.getElem?_eq_getElem h]
  rfl
theorem zuS {s t:List SentD} {j:Nat} (hj:j < s.length):(s++t).getD j noSentD=s.getD j noSentD:=by
  rw [List.getD_eq_getElem?_getD,List.getD_eq_getElem?_getD,List.getElem?_append_left hj]
theorem zrW {pr:SentD→Bool} {s t:List SentD} {i:Nat} (hi:i < s.length) (hp:pr (s.getD i noSentD)=true) (hall:∀ x∈s.take i,pr x=false):(s++t).take i=(s.take (i+1)).filter (fun x => !pr x):=by
  rw [zgR hi,List.filter_append,List.filter_eq_self.2 (fun x hx=>by rw [hall x hx]; rfl),List.take_append_of_le_length (by omega)]
  rw [List.getD_eq_getElem?_getD] at hp
  simp [List.filter_cons,hp]
theorem zuV {pr:SentD→Bool} {s:List SentD} {j:Nat} (hj:j < s.length) (hp:pr (s.getD j noSentD)=true):(s.take (j+1)).filter (fun x => !pr x)=(s.take j).filter (fun x => !pr x):=by
  rw [zgR hj,List.filter_append]
  rw [List.getD_eq_getElem?_getD] at hp
  simp [List.filter_cons,hp]
theorem ztw {pr:SentD→Bool} {s:List SentD} {j:Nat} (hj:j < s.length) (hp:pr (s.getD j noSentD)=false):(s.take (j+1)).filter (fun x => !pr x)=(s.take j).filter (fun x => !pr x)++[s.getD j noSentD]:=by
  rw [zgR hj,List.filter_append]
  rw [List.getD_eq_getElem?_getD] at hp
  simp [List.filter_cons,hp]
theorem zkf {l:List SentD} {i p:Nat} {x:SentD} (h:i≠p):(l.set i x).getD p noSentD=l.getD p noSentD:=by
  rw [List.getD_eq_getElem?_getD,List.getD_eq_getElem?_getD,List.getElem?_set,if_neg h]
theorem zsr {pr:SentD→Bool} (s:List SentD):idxP pr s = -1∧(∀ x∈s,pr x=false)∨∃ i:Nat,idxP pr s=i∧i < s.length∧pr (s.getD i noSentD)=true∧∀ x∈s.take i,pr x=false:=by
  cases e:s.findIdx? pr with
  | none =>
    left
    have h:∀ x∈s,pr x=false:=by simpa using List.findIdx?_eq_none_iff.1 e
    exact ⟨zeA h,h⟩
  | some i =>
    right
    obtain ⟨h1,h2,h3⟩:=List.findIdx?_eq_some_iff_getElem.1 e
    refine ⟨i,by unfold idxP; rw [e],h1,?_,fun x hx=>?_⟩
    · rw [List.getD_eq_getElem?_getD,List.getElem?_eq_getElem h1]
      exact h2
    · obtain ⟨j,hj⟩:=List.getElem?_of_mem hx
      rw [List.getElem?_take] at hj
      split at hj
      · rename_i hji
        have:=h3 j hji
        obtain ⟨hj2,hj3⟩:=List.getElem?_eq_some_iff.1 hj
        rw [hj3] at this
        simpa using this
      · cases hj
theorem zsv (n:Nat):zbI noSentD.cells n=zbt (List.replicate n noSentD):=by
  unfold zbI zbt
  rw [List.flatMap_def,List.map_replicate]
theorem zdJ (l m:List SentD):zbt (l++m)=zbt l++zbt m:=by unfold zbt; rw [List.flatMap_append]
theorem zua {l:List SentD} {i n:Nat} (hi:i+n≤l.length):splice (zbt l) (i*2) (zbt (List.replicate n noSentD))=zbt (l.take i++(List.replicate n noSentD++l.drop (i+n))):=by
  have e:l=l.take i++l.drop i:=(List.take_append_drop i l).symm
  have h1:(zbt (l.take i)).length=i*2:=by rw [zb3,List.length_take]; congr 1; omega
  have e2:l=l.take (i+n)++l.drop (i+n):=(List.take_append_drop (i+n) l).symm
  have h2:(zbt (l.take (i+n))).length=i*2+(zbt (List.replicate n noSentD)).length:=by rw [zb3,zb3,List.length_take,List.length_replicate,← Nat.add_mul]; congr 1; omega
  unfold splice
  have f1:(zbt l).take (i*2)=zbt (l.take i):=by
    conv=>lhs; rw [e]
    rw [zdJ,List.take_left' h1]
  have f2:(zbt l).drop (i*2+(zbt (List.replicate n noSentD)).length)=zbt (l.drop (i+n)):=by
    conv=>lhs; rw [e2]
    rw [zdJ,List.drop_left' h2]
  rw [f1,f2,zdJ,zdJ,List.append_assoc]
theorem ztf {T:Tab} {t u:TypeId} {A i n c:Nat} {l:List SentD} {h1:Heap} {bs:List Blk} {w k bytes:Nat} {K:Value→Heap→Prop} (q:Holds h1 A (.row (zbt l) u false)) (hd:T.desc t=some (.slice u)) (hi:T.info u=some (k,bytes,noSentD.cells)) (hle:i+n≤l.length)
    (hK:∀ h',Holds h' A (.row (zbt (l.take i++(List.replicate n noSentD++l.drop (i+n)))) u false)→Chg A (h1.lay bs w) h'→K undef h'):memE (zdS T t (.slice (some ⟨A,i*2,none⟩) n c) (h1.lay bs w)) K:=by
  by_cases h0:n=0
  · subst h0
    have e:zdS T t (.slice (some ⟨A,i*2,none⟩) 0 c) (h1.lay bs w)=some (h1.lay bs w):=by
      unfold zdS
      simp only [hd,if_true]
    rw [e]
    refine hK _ ?_ (Ext.refl _).chg
    rw [List.replicate_zero,List.nil_append,Nat.add_zero,List.take_append_drop]
    exact q.on bs w
  · have hg:(h1.lay bs w).get A=some (.row (zbt l) u false):=q.lay bs w
    have hA:A < (h1.lay bs w).size:=(q.on bs w).lt
    have hone:(zbt (List.replicate n noSentD)).all one=true:=by
      rw [List.all_eq_true]
      intro x hx
      unfold zbt at hx
      obtain ⟨y,hy,hx2⟩:=List.mem_flatMap.1 hx
      have:=(List.mem_replicate.1 hy).2
      subst this
      exact List.all_eq_true.1 (by rfl:noSentD.cells.all one=true) x hx2
    have e:zdS T t (.slice (some ⟨A,i*2,none⟩) n c) (h1.lay bs w)=some ((h1.lay bs w).set A (.row (zbt (l.take i++(List.replicate n noSentD++l.drop (i+n)))) u false)):=by
      unfold zdS
      simp only [hd,if_neg h0,hi,Option.bind_some]
      unfold zbW
      rw [hg]
      simp only
      rw [zsv,if_pos (by simp only [Bool.and_eq_true,decide_eq_true_eq]; exact ⟨by rw [zb3,zb3,List.length_replicate]; omega,hone⟩),zua hle]
    rw [e]
    refine hK _ ⟨by rw [Heap.size_set]; exact hA,by rw [Heap.get_set _ _ _ _ hA,if_pos rfl]⟩ ⟨by rw [Heap.size_set]; exact Nat.le_refl _,fun B hB hne=>by rw [Heap.get_set _ _ _ _ hA,if_neg hne],by rw [Heap.low_set]; omega⟩
theorem ztc {T:Tab} {t u:TypeId} {A n q i:Nat} {kd:IntKind} (hd:T.desc t=some (.slice u)) (hs:zaM T u=some 2) (hi:i≤n) (hn:n≤q) (hq:q≤100000):zba T t (.slice (some ⟨A,0,none⟩) n (G*2+q)) (some (.int kd i)) none none=some (.slice (some ⟨A,i*2,none⟩) (n - i) (G*2+(q - i))):=by
  have hG:=zlu
  obtain ⟨d1,d2,d3⟩:=zdQ (k:=2) (q:=q) (by decide) (by omega)
  unfold zba
  simp only [hd,hs,Option.bind_some,if_neg (show ¬ G*2+q < G by omega),if_pos d2]
  rw [d3,zec (BndIs.num kd 0 i) (BndIs.no n) hi hn,Option.map_some,Nat.zero_add]
theorem zxy {T:Tab} {t u:TypeId} {A n q i:Nat} {kd:IntKind} (hd:T.desc t=some (.slice u)) (hs:zaM T u=some 2) (hi:i≤n) (hn:n≤q) (hq:q≤100000):zba T t (.slice (some ⟨A,0,none⟩) n (G*2+q)) none (some (.int kd i)) none=some (.slice (some ⟨A,0,none⟩) i (G*2+q)):=by
  have hG:=zlu
  obtain ⟨d1,d2,d3⟩:=zdQ (k:=2) (q:=q) (by decide) (by omega)
  unfold zba
  simp only [hd,hs,Option.bind_some,if_neg (show ¬ G*2+q < G by omega),if_pos d2]
  rw [d3,zec (BndIs.no 0) (BndIs.num kd n i) (Nat.zero_le _) (by omega),Option.map_some]
  simp
theorem zuG {l:List SentD} {i:Nat} {x:SentD} (hi:i < l.length):(l.set i x).take (i+1)=l.take i++[x]:=by
  rw [List.take_add_one,List.getElem?_set,if_pos rfl,if_pos hi,List.take_set_of_le (Nat.le_refl _)]
  rfl
theorem ziI {h0 h:Heap} {u:TypeId} {A n c:Nat} {s t:List SentD} (q:Holds h A (.row (zbt (s++t)) u false)) (hA:h0.size≤A) (hn:(s++t).length≤100000) (hl:n=s.length) (hc:c=G*2+(s++t).length):OwnAT h0 h u (.slice (some ⟨A,0,none⟩) n c) s:=by
  subst hl hc
  exact .inr ⟨A,t,rfl,q,hA,hn⟩
theorem zzz {h:Heap} {A o:Nat} {l s:List SentD} {u:TypeId} {c:Nat} {ro:Bool} (q:Holds h A (.row (zbt l) u ro)) (hc:zmJ 2 s.length c) (hn:s.length≤100000) (hs:∀ (i:Nat) (x:SentD),s[i]? = some x→l[o+i]? = some x):Sl Rep.sent h (.slice (some ⟨A,o*2,none⟩) s.length c) s:=by
  refine .inr ⟨A,o*2,c,zbt l,u,ro,rfl,(Nat.le_trans hn (by decide)),hc,q.lt,q.get,fun i x hx=>⟨x.cells,?_,rfl⟩⟩
  show cut (zbt l) (o*2+i*2) 2=_
  rw [← Nat.add_mul]
  exact znq (hs i x hx)
theorem OwnAT.sl {h0 h:Heap} {u:TypeId} {v:Value} {s:List SentD} (f:OwnAT h0 h u v s):Sl Rep.sent h v s:=by
  rcases f with ⟨rfl,f⟩ | ⟨A,t,rfl,e2,e3,e4⟩
  · exact f.sl
  · have hG:=zlu
    obtain ⟨d1,d2,d3⟩:=zdQ (k:=2) (q:=(s++t).length) (by decide) (by omega)
    have hle:s.length≤(s++t).length:=by rw [List.length_append]; omega
    have:=zzz (o:=0) (s:=s) e2 (.inr ⟨d1,d2,by rw [d3]; omega⟩) (by omega) (fun i x hx=>by rw [Nat.zero_add,List.getElem?_append_left (List.getElem?_eq_some_iff.1 hx).1]; exact hx)
    simpa using this
theorem OwnAT.mono {h0 h h':Heap} {u:TypeId} {v:Value} {s:List SentD} (f:OwnAT h0 h u v s) (i:Inc h h'):OwnAT h0 h' u v s:=by
  rcases f with ⟨e,f⟩ | ⟨A,t,e1,e2,e3⟩
  · exact .inl ⟨e,f.mono i⟩
  · exact .inr ⟨A,t,e1,e2.mono i,e3⟩
theorem OwnAT.lay {h0 h:Heap} {u:TypeId} {v:Value} {s:List SentD} (f:OwnAT h0 h u v s) (bs:List Blk) (w:Nat):OwnAT h0 (h.lay bs w) u v s:=f.mono (Inc.lay h bs w)
theorem OwnAT.down {h0 h1 h:Heap} {u:TypeId} {v:Value} {s:List SentD} (f:OwnAT h1 h u v s) (i:h0.size≤h1.size):OwnAT h0 h u v s:=by
  rcases f with f | ⟨A,t,e1,e2,e3,e4⟩
  · exact .inl f
  · exact .inr ⟨A,t,e1,e2,by omega,e4⟩
end Go.Am
namespace Go.Proofs.YtemapihoobmonaaGreatDoor
open Go.Am
set_option linter.unusedSimpArgs false
set_option linter.unusedVariables false
set_option maxRecDepth 100000
theorem zmV:Tryz.prog.cellsOf 62=2:=by kernel_rfl
theorem zxv {h:Heap} {n:Nat} {cs:List Value} (hs:Shp Tryz.prog h (n+2) 62 cs):∃ x,Rep.sent.R h cs x:=by
  unfold Shp at hs
  rw [Tryz.underlying62] at hs
  obtain ⟨hl,hf⟩:=hs
  rw [zmV] at hl
  match cs,hl with
  | [a,b],_ =>
    have h0:Shp Tryz.prog h (n+1) 9 (([a,b].drop 0).take 1):=hf 0 _ rfl
    have h1:Shp Tryz.prog h (n+1) 9 (([a,b].drop 1).take 1):=hf 1 _ rfl
    obtain ⟨s,e0⟩:=zbU h0
    obtain ⟨u,e1⟩:=zbU h1
    simp at e0 e1
    subst e0 e1
    exact ⟨⟨s,u⟩,rfl⟩
theorem zn0 {h:Heap} {n:Nat} {v:Value} (hs:zdI Tryz.prog h (n+4) 69 v):∃ l,Sl Rep.sent h v l:=by
  unfold zdI at hs
  rw [Tryz.underlying69] at hs
  exact zhN (n:=n+3) Tryz.underlying69 zmV (fun cs hc=>zxv (n:=n+1) hc) hs
theorem zqg {h:Heap} {n:Nat} {v:Value} (hs:zdI Tryz.prog h (n+2) 49 v):∃ l,Sl Rep.str h v l:=by
  unfold zdI at hs
  rw [Tryz.underlying49] at hs
  exact zf4 hs
theorem zxp {h:Heap} {n:Nat} {v:Value} (hs:Shp Tryz.prog h (n+2) 30 [v]):∃ l,Sl Rep.int h v l :=
  zhN Tryz.underlying30 zsl (fun cs hc=>(ziX hc).elim fun i e=>⟨i,e.1⟩) hs
theorem zyt {h:Heap} {n:Nat} {v:Value} (hs:zdI Tryz.prog h (n+2) 30 v):∃ l,Sl Rep.int h v l:=by
  unfold zdI at hs
  rw [Tryz.underlying30] at hs
  exact zxp hs
end Go.Proofs.YtemapihoobmonaaGreatDoor
namespace Go.Am
variable {T:Tab} {fn:Func} {K:Value→Heap→Prop} {e:Env} {h:Heap}
theorem zjR (hr:fn.results=#[]):finE T fn K .ret e h=K undef h:=by
  simp [finE,zaQ,hr,undef]
theorem zfS (hr:fn.results=#[]):finE T fn K .normal e h=K undef h:=by
  simp [finE,zaQ,hr,undef]
theorem zoG {a b c:Tmp} (hr:fn.results=#[.tmp a,.tmp b,.tmp c]):finE T fn K .ret e h=K (.tuple #[e.get a,e.get b,e.get c]) h:=by
  simp [finE,zaQ,hr,zbN]
theorem zj8 {a b:Tmp} {y:TypeId} (hr:fn.results=#[.cell a y,.tmp b]):finE T fn K .ret e h=valE (zaX T y (e.get a) h) h (fun x h'=>K (.tuple #[x,e.get b]) h'):=by
  cases hl:zaX T y (e.get a) h with
  | none=>simp [finE,zaQ,hr,zbN,valE,hl]
  | some x=>simp [finE,zaQ,hr,zbN,valE,hl]
end Go.Am

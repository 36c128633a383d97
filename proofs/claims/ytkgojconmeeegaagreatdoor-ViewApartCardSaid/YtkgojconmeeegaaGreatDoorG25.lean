/- Sorting by halves, each text once: the first stays. No condition. -/
import Derived.Test.YtkgojconmeeegaaGreatDoorG23
set_option linter.unusedSimpArgs false
set_option linter.unusedVariables false
namespace Go.Am
theorem cn.over {a h1 h2:Heap} {l:List bh} {w:Nat} (i:cn a h1) (x:Ext (h1.lay l w) h2):cn a h2:=(i.trans (cn.lay _ _ _)).trans x.inc
theorem Xd {h0 h1 h:Heap} {u:TypeId} {v:Value} {s:List ab} (f:km h1 h u v s) (i:h0.size≤h1.size):km h0 h u v s:=by
 rcases f with f|⟨A,e1,e2,e3,e4⟩
 ·exact .inl f
 ·exact .inr ⟨A,e1,e2,by omega,e4⟩
theorem T2 {h0 h h':Heap} {u:TypeId} {v:Value} {s:List ab} (f:km h0 h u v s) (i:cn h h'):km h0 h' u v s:=by
 rcases f with ⟨e,f⟩|⟨A,e1,e2,e3,e4⟩
 ·exact .inl ⟨e,f.mono i⟩
 ·exact .inr ⟨A,e1,e2.mono i,e3,e4⟩
theorem zwg {α:Type} {r:aJ α} {h0 h1 h:Heap} {e A:Nat} {v:Value} {l:List α} (f:Ow r h1 h e A v l) (i:h0.size≤h1.size):Ow r h0 h e A v l:=by
 rcases f with ⟨f1,f2,f3⟩|⟨row,e1,e2,e3,e4⟩
 ·refine .inl ⟨by omega,f2,f3.imp id ?_⟩
  rintro ⟨B,o,g1,g2,g3⟩
  exact ⟨B,o,g1,by omega,g3⟩
 ·exact .inr ⟨row,e1,e2,by omega,e4⟩
def ng:List ab→List ab→List ab
 | [],ys=>ys
 |x::xs,[]=>x::xs
 |x::xs,y::ys=>if aQ x y < 0 then x::ng xs (y::ys) else if 0 < aQ x y then y::ng (x::xs) ys else ng (x::xs) ys
termination_by l m=>l.length+m.length
theorem Fz (ys:List ab):ng [] ys=ys:=by unfold ng;rfl
theorem Cw (xs:List ab):ng xs []=xs:=by
 cases xs with
 |nil=>unfold ng;rfl
 |cons x xs=>unfold ng;rfl
theorem TX {x y:ab} {xs ys:List ab} (h:aQ x y < 0):ng (x::xs) (y::ys)=x::ng xs (y::ys):=by
 rw [ng,if_pos h]
theorem TW {x y:ab} {xs ys:List ab} (h:0 < aQ x y):ng (x::xs) (y::ys)=y::ng (x::xs) ys:=by
 rw [ng,if_neg (by omega),if_pos h]
theorem TV {x y:ab} {xs ys:List ab} (h:aQ x y=0):ng (x::xs) (y::ys)=ng (x::xs) ys:=by
 rw [ng,if_neg (by omega),if_neg (by omega)]
theorem JF:∀ (n:Nat) (xs ys:List ab),xs.length+ys.length≤n→dR xs→dR ys→∀ z,z∈ng xs ys↔z∈xs∨(z∈ys∧∀ x∈xs,aQ x z≠0)
 |n,[],ys,_,_,_,z=>by rw [Fz];simp
 |n,x::xs,[],_,_,_,z=>by rw [Cw];simp
 |0,x::xs,y::ys,hn,_,_,z=>by simp at hn
 |n+1,x::xs,y::ys,hn,hx,hy,z=>by
  have gx:=List.pairwise_cons.1 hx
  have gy:=List.pairwise_cons.1 hy
  simp only [List.length_cons] at hn
  by_cases h1:aQ x y < 0
  ·rw [TX h1,List.mem_cons,JF n xs (y::ys) (by simp only [List.length_cons];omega) gx.2 hy z]
   constructor
   ·rintro (rfl|h|⟨h,h2⟩)
    ·exact .inl (List.mem_cons_self ..)
    ·exact .inl (List.mem_cons_of_mem _ h)
    ·refine .inr ⟨h,fun w hw=>?_⟩
     rcases List.mem_cons.1 hw with rfl|hw
     ·have:aQ w z < 0:=by
       rcases List.mem_cons.1 h with rfl|h
       ·exact h1
       ·exact CB h1 (gy.1 z h)
      omega
     ·exact h2 w hw
   ·rintro (h|⟨h,h2⟩)
    ·rcases List.mem_cons.1 h with rfl|h
     ·exact .inl rfl
     ·exact .inr (.inl h)
    ·exact .inr (.inr ⟨h,fun w hw=>h2 w (List.mem_cons_of_mem _ hw)⟩)
  ·by_cases h2:0 < aQ x y
   ·rw [TW h2,List.mem_cons,JF n (x::xs) ys (by simp only [List.length_cons];omega) hx gy.2 z]
    have xu:aQ y x < 0:=by
     have:=vx x y
     omega
    constructor
    ·rintro (rfl|h|⟨h,h3⟩)
     ·refine .inr ⟨List.mem_cons_self ..,fun w hw=>?_⟩
      have:aQ z w < 0:=by
       rcases List.mem_cons.1 hw with rfl|hw
       ·exact xu
       ·exact CB xu (gx.1 w hw)
      have:=vx w z
      omega
     ·exact .inl h
     ·exact .inr ⟨List.mem_cons_of_mem _ h,h3⟩
    ·rintro (h|⟨h,h3⟩)
     ·exact .inr (.inl h)
     ·rcases List.mem_cons.1 h with rfl|h
      ·exact .inl rfl
      ·exact .inr (.inr ⟨h,h3⟩)
   ·have h3:aQ x y=0:=by omega
    rw [TV h3,JF n (x::xs) ys (by simp only [List.length_cons];omega) hx gy.2 z]
    constructor
    ·rintro (h|⟨h,h4⟩)
     ·exact .inl h
     ·exact .inr ⟨List.mem_cons_of_mem _ h,h4⟩
    ·rintro (h|⟨h,h4⟩)
     ·exact .inl h
     ·rcases List.mem_cons.1 h with rfl|h
      ·exact absurd h3 (h4 x (List.mem_cons_self ..))
      ·exact .inr ⟨h,h4⟩
theorem WY:∀ (n:Nat) (xs ys:List ab),xs.length+ys.length≤n→dR xs→dR ys→dR (ng xs ys)
 |n,[],ys,_,_,hy=>by rw [Fz];exact hy
 |n,x::xs,[],_,hx,_=>by rw [Cw];exact hx
 |0,x::xs,y::ys,hn,_,_=>by simp at hn
 |n+1,x::xs,y::ys,hn,hx,hy=>by
  have gx:=List.pairwise_cons.1 hx
  have gy:=List.pairwise_cons.1 hy
  simp only [List.length_cons] at hn
  by_cases h1:aQ x y < 0
  ·rw [TX h1]
   refine List.pairwise_cons.2 ⟨fun z hz=>?_,WY n xs (y::ys) (by simp only [List.length_cons];omega) gx.2 hy⟩
   rcases (JF _ xs (y::ys) (Nat.le_refl _) gx.2 hy z).1 hz with h|⟨h,_⟩
   ·exact gx.1 z h
   ·rcases List.mem_cons.1 h with rfl|h
    ·exact h1
    ·exact CB h1 (gy.1 z h)
  ·by_cases h2:0 < aQ x y
   ·rw [TW h2]
    have xu:aQ y x < 0:=by
     have:=vx x y
     omega
    refine List.pairwise_cons.2 ⟨fun z hz=>?_,WY n (x::xs) ys (by simp only [List.length_cons];omega) hx gy.2⟩
    rcases (JF _ (x::xs) ys (Nat.le_refl _) hx gy.2 z).1 hz with h|⟨h,_⟩
    ·rcases List.mem_cons.1 h with rfl|h
     ·exact xu
     ·exact CB xu (gx.1 z h)
    ·exact gy.1 z h
   ·rw [TV (by omega)]
    exact WY n (x::xs) ys (by simp only [List.length_cons];omega) hx gy.2
theorem zoY {l1 l2 s1 s2:List ab} (f:bq l1 s1) (g:bq l2 s2):bq (l1++l2) (ng s1 s2):=by
 have hm:=JF _ s1 s2 (Nat.le_refl _) f.iI g.iI
 refine ⟨WY _ s1 s2 (Nat.le_refl _) f.iI g.iI,fun y hy=>?_,fun x hx=>?_⟩
 ·rw [List.filter_append,List.head?_append]
  rcases (hm y).1 hy with h|⟨h,h2⟩
  ·rw [f.first y h]
   rfl
  ·have e:l1.filter (fun x=>cI x == cI y)=[]:=by
    rw [List.filter_eq_nil_iff]
    intro x hx cW
    have cW:cI x=cI y:=by simpa using cW
    obtain ⟨w,hw,e⟩:=f.uW x hx
    exact h2 w hw (bT.2 (e.trans cW))
   rw [e,g.first y h]
   rfl
 ·rcases List.mem_append.1 hx with hx|hx
  ·obtain ⟨y,hy,e⟩:=f.uW x hx
   exact ⟨y,(hm y).2 (.inl hy),e⟩
  ·obtain ⟨y,hy,e⟩:=g.uW x hx
   by_cases h:∃ w∈s1,aQ w y=0
   ·obtain ⟨w,hw,e2⟩:=h
    exact ⟨w,(hm w).2 (.inl hw),(bT.1 e2).trans e⟩
   ·exact ⟨y,(hm y).2 (.inr ⟨hy,fun w hw e2=>h ⟨w,hw,e2⟩⟩),e⟩
theorem zwx (l1 l2:List ab):ng (eg l1) (eg l2)=eg (l1++l2):=(zoY (ri l1) (ri l2)).is
theorem zwy {l:List ab} (h:l.length < 2):eg l=l:=by
 refine Xh ?_
 match l,h with
 | [],_=>exact List.Pairwise.nil
 | [x],_=>exact List.pairwise_singleton ..
theorem zE1 {T:bK} {t u:TypeId} {bytes:Nat} {z:List Value} (hd:T.desc t=some (.slice u)) (hi:T.info u=some (11,bytes,z)) (hu:u≠SG) (tL:bytes≤1000) {h0 h1:Heap} {w:Value} {s:List ab} {a:ab} {lw:Nat}
 (hz:h0.size≤h1.size) (ho:dw h0 h1 u w s) (hn:s.length≤10000) :
 ∃ w' H',hZ T t w (.slice (some ⟨h1.size+0,0,none⟩) 1 1) (h1.lay [.row a.cells u false] lw)=some (w',H')∧dw h0 H' u w' (s++[a])∧∃ A,h0.size≤A∧fp A (h1.lay [.row a.cells u false] lw) H':=by
 obtain ⟨w',H',e,o,c⟩:=zvn (a:=a) (i:=s.length) (lw:=lw) hd hi hu tL hz ho hn (Nat.le_refl _)
 have ld:s.take s.length++a::s.drop s.length=s++[a]:=by rw [List.take_length,List.drop_length]
 rw [ld] at o
 refine ⟨w',H',?_,o,c⟩
 rcases ho with ⟨rfl,Gc⟩|⟨A,tl,rfl,hq,hA,hle⟩
 ·rcases Gc.no with rfl|⟨B,o,rfl⟩
  ·simpa [qT,hd] using e
  ·simpa [qT,hd] using e
 ·unfold qT at e
  simp only [hd] at e
  rw [if_pos trivial] at e
  exact e
theorem zwz (l:List ab) (a:ab):eg (eg l++[a])=cA a (eg l):=by rw [zlw,Xh (ri l).iI]
theorem zuO (s:List ab) (a:ab):s.filter (fun x => !bC [a] x)=eW a s:=by
 unfold eW
 congr 1
 funext x
 show (!(cI a == cI x || false)) = !(cI x == cI a)
 rw [Bool.or_false,BEq.comm]
end Go.Am
namespace Go.Am
section
variable {P:Program} {T:bK} {ov:Ov} {rd:Option Nat}
theorem zlK {A:Nat} {env:Env} {ps:List Tmp} {assign body:Code} {args:List Value} {h:Heap} {K:Value→Heap→Prop} (hg:h.get A=some (.loop env ps assign body .ready none)) (hl:args.length=ps.length)
 (hw:W P T ov (some A) assign (eE env ps args) h fun x e1 h1=>x=.normal∧h1.get A=some (.loop env ps assign body .ready none) ∧
  W P T ov (some A) body e1 (h1.set A (.loop env ps assign body .busy none)) fun x _ h2=>h2.get A=some (.loop env ps assign body .busy none)∧match x with
    | .normal=>K (.bool true) (h2.set A (.loop env ps assign body .ready none))
    | .exit id=>K (.bool false) (h2.set A (.loop env ps assign body .done (some (.exit id))))
    | .ret=>K (.bool false) (h2.set A (.loop env ps assign body .done (some .ret)))) :
 nW P T ov args h K (.func (.yield A) #[] #[]):=by
 refine ⟨rfl,uR.round hg hl ?_⟩
 obtain ⟨x,e1,h1,hx,hq⟩:=W.one _ _ _ _ hw
 obtain ⟨rfl,yq,hb⟩:=hx
 refine hq _ ⟨rfl,env,ps,assign,body,none,yq,?_⟩
 obtain ⟨x,e2,h2,hx,hq⟩:=W.one _ _ _ _ hb
 refine hq _ ?_
 obtain ⟨pL,hk⟩:=hx
 unfold xT
 rw [pL]
 cases x <;> exact hk
theorem zls {ps:List Tmp} {assign body:Code} {e:Env} {h:Heap} {Q:Ex→Env→Heap→Prop} {f:FuncId} {ca:List Value} (hb:Sd T f=true)
 (dy:Ok P T ov f (.func (.yield h.size) ⟨[]⟩ ⟨[]⟩::ca) (h.push (.loop e ps assign body .ready none)) fun _ h2=>∃ st pd,h2.get h.size=some (.loop e ps assign body st pd) ∧
  ((st=.ready∧pd=none∧Q .normal e (h2.set h.size (.loop e ps assign body .exhausted none)))∨(∃ id,st=.done∧pd=some (.exit id)∧Q (.exit id) e (h2.set h.size (.loop e ps assign body .exhausted (some (.exit id))))) ∨
    (st=.done∧pd=some .ret∧Q .ret e (h2.set h.size (.loop e ps assign body .exhausted (some .ret)))))) :
 ze P T ov none (.func (.func f) ⟨[]⟩ ⟨ca⟩) ps assign body e h Q:=by
 refine ⟨by simp [RP,hb],?_⟩
 obtain ⟨n,v,h',h1,st,pd,h2,h3⟩:=dy
 refine ⟨n,v,h',h1,?_⟩
 show H7 (yX h.size e h') Q
 unfold yX
 rw [h2]
 rcases h3 with ⟨rfl,rfl,h3⟩|⟨id,rfl,rfl,h3⟩|⟨rfl,rfl,h3⟩
 ·exact h3
 ·exact h3
 ·exact h3
end
end Go.Am
namespace Go.Am
section
variable {α:Type} {r:aJ α} {h0 h1:Heap} {v:Value} {l:List α} {t e:TypeId} {A k bytes:Nat} {z:List Value} {T:bK} {bs:List bh} {w:Nat} {K:Value→Heap→Prop}
theorem Jd (hd:T.desc t=some (.slice e)) (hi:T.info e=some (k,bytes,z)) (DZ:r.k=k) (hk:0 < k) {u:TypeId} {ro:Bool} {cs:List Value} {i c:Nat} {x:α} (hg:bs[i]? = some (.row cs u ro)) (hz:h0.size≤h1.size) (f:Ow r h0 h1 e A v l) (hr:r.R (kill A (h1.lay bs w)) cs x)
 (hb:(l.length+1)*bytes≤140737488355328) (hl:l.length+1≤1152921504606846976)
 (hK:∀ v' h' A',Ow r h0 h' e A' v' (l++[x])→fp A (h1.lay bs w) h'→(A'=A∨h1.size≤A')→K v' h'):cq (hZ T t v (.slice (some ⟨h1.size+i,0,none⟩) 1 c) (h1.lay bs w)) K:=by
 have tQ:(h1.lay bs w).get (h1.size+i)=some (.row cs u ro):=by rw [iR];exact hg
 obtain ⟨hs,mR⟩:=J8 (r:=r) (A:=A) (c:=c) (y:=x) (by omega) tQ hr
 exact Eu hd hi DZ hk hz f (by rw [← DZ];exact hs) mR hb hl hK
theorem HB {u:TypeId} {n o:Nat} {cs vs:List Value} {v:Value} (q:Holds h1 A (.row cs u false)) (hs:bJ T t=some n) (hv:v.cells.toList=vs) (hl:vs.length=n) (hb:o+n≤cs.length) (bH:vs.all one=true)
 (hK:∀ h',Holds h' A (.row (az cs o vs) u false)→fp A (h1.lay bs w) h'→K undef h'):iw (ic T t (.pointer (some ⟨A,o,none⟩)) v (h1.lay bs w)) K:=by
 have hg:(h1.lay bs w).get A=some (.row cs u false):=q.lay bs w
 have hA:A < (h1.lay bs w).size:=(q.on bs w).lt
 have dz:v.cells.size=n:=by rw [← hl,← hv];simp
 have he:ic T t (.pointer (some ⟨A,o,none⟩)) v (h1.lay bs w)=some ((h1.lay bs w).set A (.row (az cs o vs) u false)):=by
  unfold ic
  simp only [hs,Option.bind_some]
  rw [if_pos dz,hv]
  unfold kj
  rw [hg]
  simp only
  rw [if_pos (by simp only [Bool.and_eq_true,decide_eq_true_eq];exact ⟨by omega,bH⟩)]
 rw [he]
 refine hK _ ⟨by rw [Heap.size_set];exact hA,by rw [Heap.aD _ _ _ _ hA,if_pos rfl]⟩ ⟨by rw [Heap.size_set];exact Nat.le_refl _,fun B hB aP=>by rw [Heap.aD _ _ _ _ hA,if_neg aP],by rw [Heap.bW];omega⟩
end
section
variable {P:Program} {T:bK} {ov:Ov}
theorem zm2 {b:Nat} {ops:Array Oper} {l:List Oper} {j:Nat} {d:Option Tmp} {Q:Env→Heap→Prop} {e:Env} {hh:Heap} {ZE bs:List bh} {w s:Nat} {v:Value} (hl:ZE.length≤bs.length) (hb:b≤s) (hs:hh.size+ZE.length≤s)
 (hk:cx P T ov b ops l (j+1) (put e d v) (hh.lay bs s) Q):Dh P T ov b ops l j d Q e (hh.lay ZE w) v (hh.lay bs s):=by
 refine ⟨⟨⟨.inl ?_,?_,?_⟩,hk⟩⟩
 ·rw [bm];exact hs
 ·exact hb
 ·rw [bm,bm];omega
end
/-! ### Heaps without one block -/
theorem Xp {h:Heap} {A B:Nat} (aP:B≠A):(kill A h).get B=h.get B:=by
 unfold kill
 split
 ·rename_i hA
  rw [Heap.aD _ _ _ _ hA,if_neg aP]
 ·rfl
theorem zn9 {h:Heap} {A:Nat} (hA:A < h.size):(kill A h).get A=some .dead:=by
 unfold kill
 rw [if_pos hA,Heap.aD _ _ _ _ hA,if_pos rfl]
structure Kin (B:Heap) (A:Nat) (h:Heap):Prop where
 lt:A < h.size
 inc:cn B (kill A h)
section
variable {B h1 h2:Heap} {A A':Nat} {bs:List bh} {w:Nat}
theorem zy6 {a b:Heap} (i:cn a b):cn (kill A a) (kill A b):=⟨by rw [Ry,Ry];exact i.size,fun C hC hd=>by
 by_cases S8:C=A
 ·subst S8
  rw [Ry] at hC
  exact absurd (zn9 hC) hd
 ·rw [Ry] at hC
  rw [Xp S8] at hd ⊢
  rw [Xp S8]
  exact i.get C hC hd⟩
end
section
variable {T:bK} {t e:TypeId} {v:Value} {B h1:Heap} {bs:List bh} {w:Nat} {K:Value→Heap→Prop} {kd:IntKind} {i:Int}
end
theorem cn.iJ {a b d:Heap} {A:Nat} (i:cn a b) (c:fp A b d) (hA:a.size≤A):cn a d:=⟨Nat.le_trans i.size c.size,fun B hB hd=>(c.get B (Nat.lt_of_lt_of_le hB i.size) (by omega)).trans (i.get B hB hd)⟩
/-! ### Sizes -/
theorem zCX {s:ByteArray} (h:AR s):s.size≤300:=by have:=h.len;omega
theorem dO.size {t:aX} (h:dO t):t.s.size≤300:=by
 unfold dO at h
 split at h
 ·have:=h.len;omega
 ·exact zCX h.1
end Go.Am

/- Sorted lists of atoms, each text once: plain facts. No condition. -/
import Derived.Test.YtkgojconmeeegaaGreatDoorG13
set_option linter.unusedSimpArgs false
set_option linter.unusedVariables false
namespace Go.Am
theorem bT {a b:ab}:aQ a b=0↔cI a=cI b:=⟨fun h=>JW h,fun h=>by unfold aQ;rw [h,RQ]⟩
theorem CB {a b c:ab} (h1:aQ a b < 0) (h2:aQ b c < 0):aQ a c < 0:=Rq h1 (Int.le_of_lt h2)
theorem TR {a b:ab} (h1:aQ a b < 0) (h2:aQ b a < 0):False:=by
 have:=vx a b
 omega
def dR (s:List ab):Prop:=s.Pairwise (fun x y=>aQ x y < 0)
structure bq (l s:List ab):Prop where
 iI:dR s
 first:∀ y∈s,(l.filter (fun x=>cI x == cI y)).head? = some y
 uW:∀ x∈l,∃ y∈s,cI y=cI x
theorem bq.mem {l s:List ab} (f:bq l s) {y:ab} (h:y∈s):y∈l:=(List.mem_filter.1 (List.mem_of_mem_head? (f.first y h))).1
theorem U4:∀ {s1 s2:List ab},dR s1→dR s2→(∀ x,x∈s1↔x∈s2)→s1=s2
 | [],[],_,_,_=>rfl
 | [],y::r,_,_,h=>absurd ((h y).2 (List.mem_cons_self ..)) (by simp)
 |x::r,[],_,_,h=>absurd ((h x).1 (List.mem_cons_self ..)) (by simp)
 |x::r1,y::r2,h1,h2,h=>by
  have g1:=List.pairwise_cons.1 h1
  have g2:=List.pairwise_cons.1 h2
  have e:x=y:=by
   rcases List.mem_cons.1 ((h x).1 (List.mem_cons_self ..)) with e|hx
   ·exact e
   ·rcases List.mem_cons.1 ((h y).2 (List.mem_cons_self ..)) with e|hy
    ·exact e.symm
    ·exact (TR (g2.1 x hx) (g1.1 y hy)).elim
  subst e
  rw [U4 (s1:=r1) (s2:=r2) g1.2 g2.2 (fun z=>⟨fun hz=>?_,fun hz=>?_⟩)]
  ·rcases List.mem_cons.1 ((h z).1 (List.mem_cons_of_mem _ hz)) with e|ln
   ·subst e
    have:=g1.1 z hz
    rw [JN] at this
    omega
   ·exact ln
  ·rcases List.mem_cons.1 ((h z).2 (List.mem_cons_of_mem _ hz)) with e|ln
   ·subst e
    have:=g2.1 z hz
    rw [JN] at this
    omega
   ·exact ln
theorem bq.sub {l s1 s2:List ab} (f:bq l s1) (g:bq l s2) {y:ab} (h:y∈s1):y∈s2:=by
 obtain ⟨z,hz,e⟩:=g.uW y (f.mem h)
 have h1:=f.first y h
 have h2:=g.first z hz
 rw [e] at h2
 rw [h1] at h2
 cases h2
 exact hz
theorem bq.eq {l s1 s2:List ab} (f:bq l s1) (g:bq l s2):s1=s2:=U4 f.iI g.iI (fun x=>⟨fun h=>f.sub g h,fun h=>g.sub f h⟩)
def cA (a:ab):List ab→List ab
 | []=>[a]
 |x::r=>if aQ a x < 0 then a::x::r else if aQ a x=0 then x::r else x::cA a r
theorem HE {a y:ab}:∀ {s:List ab},dR s→(y∈cA a s↔y∈s∨(y=a∧∀ x∈s,aQ a x≠0))
 | [],_=>by simp [cA]
 |x::r,h=>by
  have g:=List.pairwise_cons.1 h
  unfold cA
  by_cases h1:aQ a x < 0
  ·rw [if_pos h1,List.mem_cons]
   constructor
   ·rintro (e|e)
    ·right
     refine ⟨e,fun z hz=>?_⟩
     rcases List.mem_cons.1 hz with e2|ln
     ·subst e2;omega
     ·have:=CB h1 (g.1 z ln);omega
    ·exact .inl e
   ·rintro (e|⟨e,_⟩)
    ·exact .inr e
    ·exact .inl e
  ·rw [if_neg h1]
   by_cases h2:aQ a x=0
   ·rw [if_pos h2]
    constructor
    ·exact fun e=>.inl e
    ·rintro (e|⟨e,e2⟩)
     ·exact e
     ·exact absurd h2 (e2 x (List.mem_cons_self ..))
   ·rw [if_neg h2,List.mem_cons,HE g.2,List.mem_cons]
    constructor
    ·rintro (e|e|⟨e,e2⟩)
     ·exact .inl (.inl e)
     ·exact .inl (.inr e)
     ·refine .inr ⟨e,fun z hz=>?_⟩
      rcases List.mem_cons.1 hz with e3|ln
      ·subst e3;exact h2
      ·exact e2 z ln
    ·rintro ((e|e)|⟨e,e2⟩)
     ·exact .inl e
     ·exact .inr (.inl e)
     ·exact .inr (.inr ⟨e,fun z hz=>e2 z (List.mem_cons_of_mem _ hz)⟩)
theorem Xj {a:ab}:∀ {s:List ab},dR s→dR (cA a s)
 | [],_=>by simp [cA,dR]
 |x::r,h=>by
  have g:=List.pairwise_cons.1 h
  unfold cA
  by_cases h1:aQ a x < 0
  ·rw [if_pos h1]
   refine List.pairwise_cons.2 ⟨fun z hz=>?_,h⟩
   rcases List.mem_cons.1 hz with e|ln
   ·subst e;exact h1
   ·exact CB h1 (g.1 z ln)
  ·rw [if_neg h1]
   by_cases h2:aQ a x=0
   ·rw [if_pos h2];exact h
   ·rw [if_neg h2]
    refine List.pairwise_cons.2 ⟨fun z hz=>?_,Xj g.2⟩
    rcases (HE g.2).1 hz with e|⟨e,_⟩
    ·exact g.1 z e
    ·subst e
     have:=vx z x
     omega
theorem bq.put {l s:List ab} (f:bq l s) (a:ab):bq (l++[a]) (cA a s):=by
 refine ⟨Xj f.iI,fun y hy=>?_,fun x hx=>?_⟩
 ·rw [List.filter_append,List.head?_append]
  rcases (HE f.iI).1 hy with e|⟨e,e2⟩
  ·rw [f.first y e]
   rfl
  ·subst e
   have hn:l.filter (fun x=>cI x == cI y)=[]:=by
    rw [List.filter_eq_nil_iff]
    intro x hx cW
    rw [beq_iff_eq] at cW
    obtain ⟨z,hz,e3⟩:=f.uW x hx
    exact e2 z hz (bT.2 (e3.trans cW).symm)
   rw [hn]
   simp
 ·rcases List.mem_append.1 hx with e|e
  ·obtain ⟨y,hy,e2⟩:=f.uW x e
   exact ⟨y,(HE f.iI).2 (.inl hy),e2⟩
  ·have e:x=a:=by simpa using e
   subst e
   by_cases hex:∀ z∈s,aQ x z≠0
   ·exact ⟨x,(HE f.iI).2 (.inr ⟨rfl,hex⟩),rfl⟩
   ·have:∃ z,z∈s∧aQ x z=0:=by
     apply Classical.byContradiction
     intro hn
     exact hex (fun z hz e=>hn ⟨z,hz,e⟩)
    obtain ⟨z,hz,e⟩:=this
    exact ⟨z,(HE f.iI).2 (.inl hz),(bT.1 e).symm⟩
theorem bq.nil:bq [] []:=⟨List.Pairwise.nil,nofun,nofun⟩
def eg (l:List ab):List ab:=l.foldl (fun s a=>cA a s) []
theorem zlw (l:List ab) (a:ab):eg (l++[a])=cA a (eg l):=by
 unfold eg
 rw [List.foldl_append]
 rfl
theorem zn0:∀ (m:List ab) {l s:List ab},bq l s→bq (l++m) (m.foldl (fun s a=>cA a s) s)
 | [],l,s,f=>by rw [List.append_nil];exact f
 |a::m,l,s,f=>by
  have:=zn0 m (f.put a)
  rwa [List.append_assoc] at this
theorem ri (l:List ab):bq l (eg l):=zn0 l bq.nil
theorem bq.is {l s:List ab} (f:bq l s):s=eg l:=f.eq (ri l)
theorem zus:∀ {l:List ab},dR l→∀ {x y:ab},x∈l→y∈l→x=y∨aQ x y < 0∨aQ y x < 0
 | [],_,_,_,h,_=>by simp at h
 |a::l,h,x,y,hx,hy=>by
  have g:=List.pairwise_cons.1 h
  rcases List.mem_cons.1 hx with e1|e1
  ·rcases List.mem_cons.1 hy with e2|e2
   ·exact .inl (e1.trans e2.symm)
   ·subst e1;exact .inr (.inl (g.1 y e2))
  ·rcases List.mem_cons.1 hy with e2|e2
   ·subst e2;exact .inr (.inr (g.1 x e1))
   ·exact zus g.2 e1 e2
theorem zHq {l:List ab} (h:dR l):bq l l:=by
 refine ⟨h,fun y hy=>?_,fun x hx=>⟨x,hx,rfl⟩⟩
 have hm:y∈l.filter (fun x=>cI x == cI y):=List.mem_filter.2 ⟨hy,by simp⟩
 cases hf:l.filter (fun x=>cI x == cI y) with
 |nil=>rw [hf] at hm;simp at hm
 |cons z r =>
  have hz:z∈l∧_:=List.mem_filter.1 (by rw [hf];exact List.mem_cons_self ..)
  have he:cI z=cI y:=by simpa using hz.2
  show some z=some y
  congr 1
  rcases zus h hz.1 hy with g|g|g
  ·exact g
  ·exact absurd he (J0 g)
  ·exact absurd he.symm (J0 g)
theorem Xh {l:List ab} (h:dR l):eg l=l:=(zHq h).is.symm
def oE (l:List ab):Nat→List ab
 |0=>[]
 |m+1=>oE l m++(if m≠0∧aQ (l.getD m aj) (l.getD (m - 1) aj)=0 then [] else [l.getD m aj])
theorem Ua {l:List ab} {m:Nat} (h:m < l.length):l.take (m+1)=l.take m++[l.getD m aj]:=by
 rw [List.take_add_one,List.getD_eq_getElem?_getD,List.getElem?_eq_getElem h]
 rfl
theorem zyi {l:List ab} (hs:gY l 0 l.length):∀ m,m≤l.length→bq (l.take m) (oE l m)
 |0,_=>bq.nil
 |m+1,hm=>by
  have f:=zyi hs m (by omega)
  rw [Ua (by omega)]
  unfold oE
  split
  ·rename_i h
   rw [List.append_nil]
   refine ⟨f.iI,fun y hy=>?_,fun x hx=>?_⟩
   ·rw [List.filter_append,List.head?_append,f.first y hy]
    rfl
   ·rcases List.mem_append.1 hx with e|e
    ·exact f.uW x e
    ·have e:x=l.getD m aj:=by simpa using e
     subst e
     obtain ⟨y,hy,e2⟩:=f.uW (l.getD (m - 1) aj) (by
      refine List.mem_of_getElem? (i:=m - 1) ?_
      rw [List.getElem?_take,if_pos (by omega)]
      exact jn (by omega))
     exact ⟨y,hy,e2.trans (bT.1 h.2).symm⟩
  ·rename_i h
   have aR:∀ x∈l.take m,aQ x (l.getD m aj) < 0:=by
    intro x hx
    obtain ⟨i,hi⟩:=List.getElem?_of_mem hx
    rw [List.getElem?_take] at hi
    split at hi
    ·rename_i tT
     have e:x=l.getD i aj:=by rw [List.getD_eq_getElem?_getD,hi];rfl
     rw [e]
     have h1:=hs m (by omega) (by omega)
     have h2:aQ (l.getD (m - 1) aj) (l.getD m aj)≠0:=fun e2=>h ⟨by omega,by rw [vx];omega⟩
     exact TB (xS hs (i:=i) (j:=m - 1) (by omega) (by omega) (by omega)) (by omega)
    ·cases hi
   refine ⟨List.pairwise_append.2 ⟨f.iI,List.pairwise_singleton ..,fun a ha b hb=>?_⟩,fun y hy=>?_,fun x hx=>?_⟩
   ·have e:b=l.getD m aj:=by simpa using hb
    rw [e]
    exact aR a (f.mem ha)
   ·rw [List.filter_append,List.head?_append]
    rcases List.mem_append.1 hy with e|e
    ·rw [f.first y e]
     rfl
    ·have e:y=l.getD m aj:=by simpa using e
     subst e
     have hn:(l.take m).filter (fun x=>cI x == cI (l.getD m aj))=[]:=by
      rw [List.filter_eq_nil_iff]
      intro x hx cW
      exact J0 (aR x hx) (by simpa using cW)
     rw [hn]
     simp
   ·rcases List.mem_append.1 hx with e|e
    ·obtain ⟨y,hy,e2⟩:=f.uW x e
     exact ⟨y,List.mem_append_left _ hy,e2⟩
    ·exact ⟨x,List.mem_append_right _ e,rfl⟩
theorem bq.over {l l' s:List ab} (f:bq l' s) (hp:l'.Perm l) (ez:eV l l'):bq l s:=⟨f.iI,fun y hy=>by rw [← ez];exact f.first y hy,fun x hx=>f.uW x (hp.mem_iff.2 hx)⟩
theorem zt7 {l l':List ab} (hp:l'.Perm l) (ez:eV l l') (hs:gY l' 0 l.length):oE l' l'.length=eg l:=by
 have f:=zyi (l:=l') (by rw [hp.length_eq];exact hs) l'.length (Nat.le_refl _)
 rw [List.take_length] at f
 exact (f.over hp ez).is
end Go.Am
namespace Go.Am
theorem zj6:∀ {l:List ab} {row:List Value},row.length=l.length*11→(∀ (i:Nat) (x:ab),l[i]? = some x→cut row (i*11) 11=some x.cells)→row=aO l
 | [],row,hl,_=>by
  have:row=[]:=List.length_eq_zero_iff.1 (by simpa using hl)
  rw [this]
  rfl
 |x::l,row,hl,h=>by
  have h0:=h 0 x rfl
  have hU:row.length=l.length*11+11:=by rw [hl,List.length_cons];omega
  unfold cut at h0
  rw [if_pos (by omega)] at h0
  simp only [Nat.zero_mul,List.drop_zero,Option.some.injEq] at h0
  have hr:=zj6 (l:=l) (row:=row.drop 11) (by rw [List.length_drop];omega) (fun i y hy=>by
   have hi:=(List.getElem?_eq_some_iff.1 hy).1
   have g:=h (i+1) y hy
   unfold cut at g ⊢
   rw [if_pos (by omega)] at g
   rw [if_pos (by rw [List.length_drop];omega),List.drop_drop,show 11+i*11=(i+1)*11 by omega]
   exact g)
  have e:row=row.take 11++row.drop 11:=(List.take_append_drop 11 row).symm
  rw [e,h0,hr]
  rfl
theorem rf (l m:List ab):aO (l++m)=aO l++aO m:=by unfold aO;rw [List.flatMap_append]
structure su (h:Heap) (v:Value):Prop where
 sl:Sl aJ.atom h v []
 no:v=.slice none 0 0∨∃ B o,v=.slice (some ⟨B,o,none⟩) 0 0
theorem su.nil {h:Heap}:su h (.slice none 0 0):=⟨Sl.nil,.inl rfl⟩
theorem su.mono {h h':Heap} {v:Value} (f:su h v) (i:cn h h'):su h' v:=⟨f.sl.mono i,f.no⟩
theorem su.lay {h:Heap} {v:Value} (f:su h v) (bs:List bh) (w:Nat):su (h.lay bs w) v:=⟨f.sl.lay bs w,f.no⟩
theorem su.over {h1 h2:Heap} {v:Value} {bs:List bh} {w:Nat} (f:su h1 v) (x:Ext (h1.lay bs w) h2):su h2 v:=⟨f.sl.over x,f.no⟩
def dw (h0 h:Heap) (u:TypeId) (v:Value) (s:List ab):Prop :=
 (s=[]∧su h v)∨∃ A t,v=.slice (some ⟨A,0,none⟩) s.length (G*11+(s++t).length)∧Holds h A (.row (aO (s++t)) u false)∧h0.size≤A∧(s++t).length≤100000
theorem dw.mono {h0 h h':Heap} {u:TypeId} {v:Value} {s:List ab} (f:dw h0 h u v s) (i:cn h h'):dw h0 h' u v s:=by
 rcases f with ⟨e,f⟩|⟨A,t,e1,e2,e3⟩
 ·exact .inl ⟨e,f.mono i⟩
 ·exact .inr ⟨A,t,e1,e2.mono i,e3⟩
theorem dw.down {h0 h1 h:Heap} {u:TypeId} {v:Value} {s:List ab} (f:dw h1 h u v s) (i:h0.size≤h1.size):dw h0 h u v s:=by
 rcases f with f|⟨A,t,e1,e2,e3,e4⟩
 ·exact .inl f
 ·exact .inr ⟨A,t,e1,e2,by omega,e4⟩
theorem dw.lay {h0 h:Heap} {u:TypeId} {v:Value} {s:List ab} (f:dw h0 h u v s) (bs:List bh) (w:Nat):dw h0 (h.lay bs w) u v s:=f.mono (cn.lay h bs w)
theorem zh:100000 < G:=by unfold G;omega
theorem zH9 {h:Heap} {A o:Nat} {l s:List ab} {u:TypeId} {c:Nat} {ro:Bool} (q:Holds h A (.row (aO l) u ro)) (hc:Ch 11 s.length c) (hn:s.length≤100000) (hs:∀ (i:Nat) (x:ab),s[i]? = some x→l[o+i]? = some x):Sl aJ.atom h (.slice (some ⟨A,o*11,none⟩) s.length c) s:=by
 refine .inr ⟨A,o*11,c,aO l,u,ro,rfl,(by have:(100000:Nat)≤maxLen:=by decide
                                         omega),hc,q.lt,q.get,fun i x hx=>⟨x.cells,?_,rfl⟩⟩
 show cut (aO l) (o*11+i*11) 11=_
 rw [← Nat.add_mul]
 exact zrV (hs i x hx)
theorem dw.sl {h0 h:Heap} {u:TypeId} {v:Value} {s:List ab} (f:dw h0 h u v s):Sl aJ.atom h v s:=by
 rcases f with ⟨rfl,f⟩|⟨A,t,rfl,e2,e3,e4⟩
 ·exact f.sl
 ·have hG:=zh
  obtain ⟨d1,d2,d3⟩:=CK (k:=11) (q:=(s++t).length) (by decide) (by omega)
  have hle:s.length≤(s++t).length:=by rw [List.length_append];omega
  have:=zH9 (o:=0) (s:=s) e2 (.inr ⟨d1,d2,by rw [d3];omega⟩) (by omega) (fun i x hx=>by rw [Nat.zero_add,List.getElem?_append_left (List.getElem?_eq_some_iff.1 hx).1];exact hx)
  simpa using this
def km (h0 h:Heap) (u:TypeId) (v:Value) (s:List ab):Prop :=
 (s=[]∧su h v)∨∃ A,v=.slice (some ⟨A,0,none⟩) s.length (G*11+s.length)∧Holds h A (.row (aO s) u false)∧h0.size≤A∧s≠[]
theorem km.own {h0 h:Heap} {u:TypeId} {v:Value} {s:List ab} (f:km h0 h u v s) (hn:s.length≤100000):dw h0 h u v s:=by
 rcases f with f|⟨A,e1,e2,e3,e4⟩
 ·exact .inl f
 ·exact .inr ⟨A,[],by rw [List.append_nil];exact e1,by rw [List.append_nil];exact e2,e3,by rw [List.append_nil];exact hn⟩
theorem Xe {h0 h:Heap} {u:TypeId} {A:Nat} {v:Value} {l:List ab} (f:Ow aJ.atom h0 h u A v l):km h0 h u v l:=by
 rcases f with ⟨e1,rfl,e3⟩|⟨row,rfl,e2,e3,e4,e5,e6,e7,e8⟩
 ·refine .inl ⟨rfl,?_,?_⟩
  ·have f2:Ow aJ.atom h0 h u A v []:=.inl ⟨e1,rfl,e3⟩
   exact f2.sl (by decide)
  ·rcases e3 with e3|⟨B,o,e3,_⟩
   ·exact .inl e3
   ·exact .inr ⟨B,o,e3⟩
 ·refine .inr ⟨A,rfl,⟨e4,?_⟩,e3,e2⟩
  have:row=aO l:=zj6 e6 (fun i x hx=>by
   obtain ⟨cs,g1,g2⟩:=e8 i x hx
   have g2:cs=x.cells:=g2
   rw [← g2]
   exact g1)
  rw [← this]
  exact e5
section
variable {P:Program} {T:bK} {ov:Ov} {d:Option Tmp} {ty:TypeId} {pos:String} {af:Array Edge} {g:Option (Nat × Bool)} {e:Env} {h:Heap} {K:Value→Heap→Prop}
theorem zyp (t:TypeId) (x:Operand):cu P T ov ⟨d,.call ⟨.builtin .clear,#[x],#[t]⟩,ty,pos,af,g⟩ e h K=iw (pD T t (bn e x) h) K:=by
 show cq ((pD T t (bn e x) h).map fun h'=>(undef,h')) K=_
 cases pD T t (bn e x) h <;> rfl
theorem TZ {T:bK} {t u:TypeId} {A n q i:Nat} {kd:IntKind} (hd:T.desc t=some (.slice u)) (hs:bJ T u=some 11) (hi:i≤n) (hn:n≤q) (hq:q≤100000):ki T t (.slice (some ⟨A,0,none⟩) n (G*11+q)) (some (.int kd i)) none none=some (.slice (some ⟨A,i*11,none⟩) (n - i) (G*11+(q - i))):=by
 have hG:=zh
 obtain ⟨d1,d2,d3⟩:=CK (k:=11) (q:=q) (by decide) (by omega)
 unfold ki
 simp only [hd,hs,Option.bind_some,if_neg (show ¬ G*11+q < G by omega),if_pos d2]
 rw [d3,Rp (dS.num kd 0 i) (dS.no n) hi hn,Option.map_some,Nat.zero_add]
theorem zwb {T:bK} {t u:TypeId} {A n q i:Nat} {kd:IntKind} (hd:T.desc t=some (.slice u)) (hs:bJ T u=some 11) (hi:i≤n) (hn:n≤q) (hq:q≤100000):ki T t (.slice (some ⟨A,0,none⟩) n (G*11+q)) none (some (.int kd i)) none=some (.slice (some ⟨A,0,none⟩) i (G*11+q)):=by
 have hG:=zh
 obtain ⟨d1,d2,d3⟩:=CK (k:=11) (q:=q) (by decide) (by omega)
 unfold ki
 simp only [hd,hs,Option.bind_some,if_neg (show ¬ G*11+q < G by omega),if_pos d2]
 rw [d3,Rp (dS.no 0) (dS.num kd n i) (Nat.zero_le _) (by omega),Option.map_some]
 simp
theorem zpp (n:Nat):kb aj.cells n=aO (List.replicate n aj):=by
 unfold kb aO
 rw [List.flatMap_def,List.map_replicate]
theorem zwr {l:List ab} {i:Nat} (hi:i≤l.length):az (aO l) (i*11) (aO (List.replicate (l.length - i) aj))=aO (l.take i++List.replicate (l.length - i) aj):=by
 have e:l=l.take i++l.drop i:=(List.take_append_drop i l).symm
 have h1:(aO (l.take i)).length=i*11:=by rw [nt,List.length_take];congr 1;omega
 have h2:(aO (List.replicate (l.length - i) aj)).length=(l.length - i)*11:=by rw [nt,List.length_replicate]
 have h3:(aO l).length=l.length*11:=nt l
 unfold az
 rw [rf,List.drop_of_length_le (by rw [h2,h3];omega),List.append_nil]
 congr 1
 conv=>lhs;rw [e]
 rw [rf,List.take_left' h1]
theorem zsv {T:bK} {t u:TypeId} {A i n c:Nat} {l:List ab} {h1:Heap} {bs:List bh} {w k bytes:Nat} (q:Holds h1 A (.row (aO l) u false)) (hd:T.desc t=some (.slice u)) (hi:T.info u=some (k,bytes,aj.cells)) (hle:i≤l.length) (hn:n=l.length - i)
 (hK:∀ h',Holds h' A (.row (aO (l.take i++List.replicate (l.length - i) aj)) u false)→fp A (h1.lay bs w) h'→K undef h'):iw (pD T t (.slice (some ⟨A,i*11,none⟩) n c) (h1.lay bs w)) K:=by
 subst hn
 by_cases h0:l.length - i=0
 ·have e:pD T t (.slice (some ⟨A,i*11,none⟩) (l.length - i) c) (h1.lay bs w)=some (h1.lay bs w):=by
   unfold pD
   simp only [hd,if_pos h0]
  rw [e]
  refine hK _ ?_ (Ext.refl _).iJ
  rw [h0,List.replicate_zero,List.append_nil,List.take_of_length_le (by omega)]
  exact q.on bs w
 ·have hg:(h1.lay bs w).get A=some (.row (aO l) u false):=q.lay bs w
  have hA:A < (h1.lay bs w).size:=(q.on bs w).lt
  have bf:(aO (List.replicate (l.length - i) aj)).all one=true:=by
   rw [List.all_eq_true]
   intro x hx
   unfold aO at hx
   obtain ⟨y,hy,G3⟩:=List.mem_flatMap.1 hx
   have:=(List.mem_replicate.1 hy).2
   subst this
   exact List.all_eq_true.1 (by rfl:aj.cells.all one=true) x G3
  have e:pD T t (.slice (some ⟨A,i*11,none⟩) (l.length - i) c) (h1.lay bs w)=some ((h1.lay bs w).set A (.row (aO (l.take i++List.replicate (l.length - i) aj)) u false)):=by
   unfold pD
   simp only [hd,if_neg h0,hi,Option.bind_some]
   unfold kj
   rw [hg]
   simp only
   rw [zpp,if_pos (by simp only [Bool.and_eq_true,decide_eq_true_eq];exact ⟨by rw [nt,nt,List.length_replicate];omega,bf⟩),zwr hle]
  rw [e]
  refine hK _ ⟨by rw [Heap.size_set];exact hA,by rw [Heap.aD _ _ _ _ hA,if_pos rfl]⟩ ⟨by rw [Heap.size_set];exact Nat.le_refl _,fun B hB aP=>by rw [Heap.aD _ _ _ _ hA,if_neg aP],by rw [Heap.bW];omega⟩
end
theorem Ur {h0 h:Heap} {u:TypeId} {A n c:Nat} {s t:List ab} (q:Holds h A (.row (aO (s++t)) u false)) (hA:h0.size≤A) (hn:(s++t).length≤100000) (hl:n=s.length) (hc:c=G*11+(s++t).length):dw h0 h u (.slice (some ⟨A,0,none⟩) n c) s:=by
 subst hl hc
 exact .inr ⟨A,t,rfl,q,hA,hn⟩
theorem RV {h0 h:Heap} {u:TypeId} {A c:Nat} {s:List ab} (q:Holds h A (.row (aO s) u false)) (hA:h0.size≤A) (hn:s.length≤100000) (hc:c=G*11+s.length):dw h0 h u (.slice (some ⟨A,0,none⟩) s.length c) s :=
 Ur (t:=[]) (by rw [List.append_nil];exact q) hA (by rw [List.append_nil];exact hn) rfl (by rw [List.append_nil];exact hc)
theorem zq6 {l:List ab} (h:l.length < 2):oE l l.length=l:=by
 match l,h with
 | [],_=>rfl
 | [x],_=>rfl
theorem zt6 {l:List ab} {m:Nat} (hm:m < l.length) (h0:m≠0) (h:oE l m=l.take m) (aP:aQ (l.getD m aj) (l.getD (m - 1) aj)≠0):oE l (m+1)=l.take (m+1):=by
 rw [Ua hm,← h]
 show oE l m++_=_
 rw [if_neg (fun g=>aP g.2)]
theorem zr9 {l:List ab} {m:Nat} (h0:m≠0) (he:aQ (l.getD m aj) (l.getD (m - 1) aj)=0):oE l (m+1)=oE l m:=by
 show oE l m++_=_
 rw [if_pos ⟨h0,he⟩,List.append_nil]
theorem zyh {l:List ab} {m:Nat} (aP:aQ (l.getD m aj) (l.getD (m - 1) aj)≠0):oE l (m+1)=oE l m++[l.getD m aj]:=by
 show oE l m++_=_
 rw [if_neg (fun g=>aP g.2)]
theorem zEa {l:List ab} {i:Nat} {x:ab} (hi:i < l.length):(l.set i x).take (i+1)=l.take i++[x]:=by
 rw [List.take_add_one,List.getElem?_set,if_pos rfl,if_pos hi,List.take_set_of_le (Nat.le_refl _)]
 rfl
theorem zlM {l:List ab} {i p:Nat} {x:ab} (h:i≠p):(l.set i x).getD p aj=l.getD p aj:=by
 rw [List.getD_eq_getElem?_getD,List.getD_eq_getElem?_getD,List.getElem?_set,if_neg h]
theorem Sg {l:List ab} (h:∀ k,0 < k→k < l.length→aQ (l.getD (k - 1) aj) (l.getD k aj) < 0) {i j:Nat} (di:i < j) (hj:j < l.length):aQ (l.getD i aj) (l.getD j aj) < 0:=by
 induction j with
 |zero=>omega
 |succ j ih =>
  have g:=h (j+1) (by omega) hj
  rw [Nat.add_sub_cancel] at g
  by_cases e:i=j
  ·subst e
   exact g
  ·exact CB (ih (by omega) (by omega)) g
theorem ij {l:List ab}:dR l↔∀ k,0 < k→k < l.length→aQ (l.getD (k - 1) aj) (l.getD k aj) < 0:=by
 constructor
 ·intro h k h1 h2
  have:=List.pairwise_iff_getElem.1 h (k - 1) k (by omega) h2 (by omega)
  rw [List.getD_eq_getElem?_getD,List.getD_eq_getElem?_getD,List.getElem?_eq_getElem h2,List.getElem?_eq_getElem (show k - 1 < l.length by omega)]
  exact this
 ·intro h
  refine List.pairwise_iff_getElem.2 (fun i j hi hj di=>?_)
  have:=Sg h di hj
  rw [List.getD_eq_getElem?_getD,List.getD_eq_getElem?_getD,List.getElem?_eq_getElem hj,List.getElem?_eq_getElem hi] at this
  exact this
def I7 (l:List ab):Bool:=(List.range l.length).all (fun k=>k == 0 || decide (aQ (l.getD (k - 1) aj) (l.getD k aj) < 0))
theorem pj {l:List ab}:I7 l=true↔dR l:=by
 rw [ij]
 unfold I7
 rw [List.all_eq_true]
 constructor
 ·intro h k h1 h2
  have:=h k (List.mem_range.2 h2)
  simp only [Bool.or_eq_true,beq_iff_eq,decide_eq_true_eq] at this
  rcases this with e|e
  ·omega
  ·exact e
 ·intro h k hk
  simp only [Bool.or_eq_true,beq_iff_eq,decide_eq_true_eq]
  by_cases e:k=0
  ·exact .inl e
  ·exact .inr (h k (by omega) (List.mem_range.1 hk))
theorem zHP {l:List ab} (h:¬ dR l):I7 l=false:=by
 cases e:I7 l
 ·rfl
 ·exact absurd (pj.1 e) h
def bC (l:List ab) (a:ab):Bool:=l.any (fun x=>cI x == cI a)
theorem cR {l:List ab} {a:ab}:bC l a=true↔∃ x∈l,cI x=cI a:=by
 unfold bC
 rw [List.any_eq_true]
 simp only [beq_iff_eq]
theorem JP (l:List ab) (a:ab):bC (eg l) a=bC l a:=by
 have f:=ri l
 rw [Bool.eq_iff_iff,cR,cR]
 constructor
 ·rintro ⟨x,hx,e⟩
  exact ⟨x,f.mem hx,e⟩
 ·rintro ⟨x,hx,e⟩
  obtain ⟨y,hy,e2⟩:=f.uW x hx
  exact ⟨y,hy,e2.trans e⟩
theorem JI {l:List ab} (h:∀ x∈l,x.aT=true):∀ x∈eg l,x.aT=true:=fun x hx=>h x ((ri l).mem hx)
theorem zj1 (a:ab):∀ s:List ab,(cA a s).length≤s.length+1
 | []=>by simp [cA]
 |x::r=>by
  have:=zj1 a r
  unfold cA
  repeat' split
  all_goals simp only [List.length_cons]
  all_goals omega
theorem O2:∀ (m s:List ab),(m.foldl (fun s a=>cA a s) s).length≤s.length+m.length
 | [],s=>by simp
 |a::m,s=>by
  have h1:=O2 m (cA a s)
  have h2:=zj1 a s
  simp only [List.foldl_cons,List.length_cons]
  omega
theorem CC (l:List ab):(eg l).length≤l.length:=by
 have:=O2 l []
 simpa [eg] using this
structure eY (l:List ab) (a:ab) (i:Nat):Prop where
 le:i≤l.length
 lo:∀ k,k < i→aQ (l.getD k aj) a < 0
 hi:∀ k,i≤k→k < l.length→¬ aQ (l.getD k aj) a < 0
theorem eY.has {l:List ab} {a:ab} {i:Nat} (p:eY l a i) (hs:dR l):bC l a=true↔i < l.length∧aQ (l.getD i aj) a=0:=by
 rw [cR]
 constructor
 ·rintro ⟨x,hx,e⟩
  obtain ⟨k,hk⟩:=List.getElem?_of_mem hx
  have kB:=(List.getElem?_eq_some_iff.1 hk).1
  have e2:l.getD k aj=x:=by rw [List.getD_eq_getElem?_getD,hk];rfl
  have h0:aQ (l.getD k aj) a=0:=by rw [e2];exact bT.2 e
  have tS:i≤k:=by
   rcases Nat.lt_or_ge k i with g|g
   ·have:=p.lo k g;omega
   ·exact g
  refine ⟨by omega,?_⟩
  rcases Nat.eq_or_lt_of_le tS with g|g
  ·rw [g];exact h0
  ·have h1:=Sg (ij.1 hs) g kB
   have h2:=p.hi i (Nat.le_refl _) (by omega)
   have h3:=Rq h1 (Int.le_of_eq h0)
   exact absurd h3 h2
 ·rintro ⟨h1,h2⟩
  exact ⟨_,List.mem_of_getElem? (jn h1),bT.1 h2⟩
theorem zCR {l:List ab} {i n:Nat} (hi:i+n≤l.length):az (aO l) (i*11) (aO (List.replicate n aj))=aO (l.take i++(List.replicate n aj++l.drop (i+n))):=by
 have e:l=l.take i++l.drop i:=(List.take_append_drop i l).symm
 have h1:(aO (l.take i)).length=i*11:=by rw [nt,List.length_take];congr 1;omega
 have e2:l=l.take (i+n)++l.drop (i+n):=(List.take_append_drop (i+n) l).symm
 have h2:(aO (l.take (i+n))).length=i*11+(aO (List.replicate n aj)).length:=by rw [nt,nt,List.length_take,List.length_replicate,← Nat.add_mul];congr 1;omega
 unfold az
 have f1:(aO l).take (i*11)=aO (l.take i):=by
  conv=>lhs;rw [e]
  rw [rf,List.take_left' h1]
 have f2:(aO l).drop (i*11+(aO (List.replicate n aj)).length)=aO (l.drop (i+n)):=by
  conv=>lhs;rw [e2]
  rw [rf,List.drop_left' h2]
 rw [f1,f2,rf,rf,List.append_assoc]
theorem zuH {T:bK} {t u:TypeId} {A i n c:Nat} {l:List ab} {h1:Heap} {bs:List bh} {w k bytes:Nat} {K:Value→Heap→Prop} (q:Holds h1 A (.row (aO l) u false)) (hd:T.desc t=some (.slice u)) (hi:T.info u=some (k,bytes,aj.cells)) (hle:i+n≤l.length)
 (hK:∀ h',Holds h' A (.row (aO (l.take i++(List.replicate n aj++l.drop (i+n)))) u false)→fp A (h1.lay bs w) h'→K undef h'):iw (pD T t (.slice (some ⟨A,i*11,none⟩) n c) (h1.lay bs w)) K:=by
 by_cases h0:n=0
 ·subst h0
  have e:pD T t (.slice (some ⟨A,i*11,none⟩) 0 c) (h1.lay bs w)=some (h1.lay bs w):=by
   unfold pD
   simp only [hd,if_true]
  rw [e]
  refine hK _ ?_ (Ext.refl _).iJ
  rw [List.replicate_zero,List.nil_append,Nat.add_zero,List.take_append_drop]
  exact q.on bs w
 ·have hg:(h1.lay bs w).get A=some (.row (aO l) u false):=q.lay bs w
  have hA:A < (h1.lay bs w).size:=(q.on bs w).lt
  have bf:(aO (List.replicate n aj)).all one=true:=by
   rw [List.all_eq_true]
   intro x hx
   unfold aO at hx
   obtain ⟨y,hy,G3⟩:=List.mem_flatMap.1 hx
   have:=(List.mem_replicate.1 hy).2
   subst this
   exact List.all_eq_true.1 (by rfl:aj.cells.all one=true) x G3
  have e:pD T t (.slice (some ⟨A,i*11,none⟩) n c) (h1.lay bs w)=some ((h1.lay bs w).set A (.row (aO (l.take i++(List.replicate n aj++l.drop (i+n)))) u false)):=by
   unfold pD
   simp only [hd,if_neg h0,hi,Option.bind_some]
   unfold kj
   rw [hg]
   simp only
   rw [zpp,if_pos (by simp only [Bool.and_eq_true,decide_eq_true_eq];exact ⟨by rw [nt,nt,List.length_replicate];omega,bf⟩),zCR hle]
  rw [e]
  refine hK _ ⟨by rw [Heap.size_set];exact hA,by rw [Heap.aD _ _ _ _ hA,if_pos rfl]⟩ ⟨by rw [Heap.size_set];exact Nat.le_refl _,fun B hB aP=>by rw [Heap.aD _ _ _ _ hA,if_neg aP],by rw [Heap.bW];omega⟩
abbrev aJ.atoms:aJ (List ab) :=
 { k:=1,R:=fun h cs x=>∃ v,cs=[v]∧Sl aJ.atom h v x
   len:=by rintro h cs x ⟨v,rfl,_⟩;rfl
   mono:=by rintro h h' cs x i ⟨v,e,f⟩;exact ⟨v,e,f.mono i⟩
   iP:=by rintro h cs x ⟨v,rfl,f⟩;have:=f.one;simp only [List.all_cons,List.all_nil,this];rfl }
theorem zHQ {T:bK} {t e:TypeId} {v:Value} {h1:Heap} {bs:List bh} {w:Nat} {kd:IntKind} {i:Int} {K:Value→Heap→Prop} {l:List (List ab)} {x:List ab} (f:Sl aJ.atoms h1 v l) (hd:T.desc t=some (.slice e)) (hs:bJ T e=some 1) (h0:0≤i) (hx:l[i.toNat]? = some x) (hk:∀ p b,Sl aJ.atom h1 b x→eZ h1 p [b]→K p (h1.lay bs w)):aW (fW T t v (.int kd i)) (h1.lay bs w) K:=by
 have hi:=(List.getElem?_eq_some_iff.1 hx).1
 refine y9 f hd hs h0 (by omega) (fun x' p cs lU hr hp=>?_)
 rw [hx] at lU
 cases lU
 obtain ⟨b,rfl,hb⟩:=hr
 exact hk p b hb hp
end Go.Am

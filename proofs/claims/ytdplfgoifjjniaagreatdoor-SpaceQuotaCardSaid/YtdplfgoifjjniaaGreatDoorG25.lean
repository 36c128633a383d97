/- Sorted lists of atoms, each text once: plain facts. No condition. -/
import Derived.Test.YtdplfgoifjjniaaGreatDoorG24
set_option linter.unusedSimpArgs false
set_option linter.unusedVariables false
namespace Go.Am
theorem cmpD_zero {a b:AtomD}:cmpD a b=0↔zaP a=zaP b:=⟨fun h=>zgh h,fun h=>by unfold cmpD;rw [h,zhR]⟩
theorem zcu {a b c:AtomD} (h1:cmpD a b < 0) (h2:cmpD b c < 0):cmpD a c < 0:=zdZ h1 (Int.le_of_lt h2)
theorem zgU {a b:AtomD} (h1:cmpD a b < 0) (h2:cmpD b a < 0):False:=by
 have:=zct a b
 omega
def AscD (s:List AtomD):Prop:=s.Pairwise (fun x y=>cmpD x y < 0)
structure SortedOf (l s:List AtomD):Prop where
 asc:AscD s
 first:∀ y∈s,(l.filter (fun x=>zaP x == zaP y)).head? = some y
 cov:∀ x∈l,∃ y∈s,zaP y=zaP x
theorem SortedOf.mem {l s:List AtomD} (f:SortedOf l s) {y:AtomD} (h:y∈s):y∈l:=(List.mem_filter.1 (List.mem_of_mem_head? (f.first y h))).1
theorem zo5:∀ {s1 s2:List AtomD},AscD s1→AscD s2→(∀ x,x∈s1↔x∈s2)→s1=s2
 | [],[],_,_,_=>rfl
 | [],y::r,_,_,h=>absurd ((h y).2 (List.mem_cons_self ..)) (by simp)
 |x::r,[],_,_,h=>absurd ((h x).1 (List.mem_cons_self ..)) (by simp)
 |x::r1,y::r2,h1,h2,h=>by
  have g1:=List.pairwise_cons.1 h1
  have g2:=List.pairwise_cons.1 h2
  have e:x=y:=by
   rcases List.mem_cons.1 ((h x).1 (List.mem_cons_self ..)) with e|hx
   ·exact e
   ·rcases List.mem_cons.1 ((h y).2 (List.mem_cons_self ..)) with e|hy
    ·exact e.symm
    ·exact (zgU (g2.1 x hx) (g1.1 y hy)).elim
  subst e
  rw [zo5 (s1:=r1) (s2:=r2) g1.2 g2.2 (fun z=>⟨fun hz=>?_,fun hz=>?_⟩)]
  ·rcases List.mem_cons.1 ((h z).1 (List.mem_cons_of_mem _ hz)) with e|hz2
   ·subst e
    have:=g1.1 z hz
    rw [zd0] at this
    omega
   ·exact hz2
  ·rcases List.mem_cons.1 ((h z).2 (List.mem_cons_of_mem _ hz)) with e|hz2
   ·subst e
    have:=g2.1 z hz
    rw [zd0] at this
    omega
   ·exact hz2
theorem SortedOf.sub {l s1 s2:List AtomD} (f:SortedOf l s1) (g:SortedOf l s2) {y:AtomD} (h:y∈s1):y∈s2:=by
 obtain ⟨z,hz,e⟩:=g.cov y (f.mem h)
 have h1:=f.first y h
 have h2:=g.first z hz
 rw [e] at h2
 rw [h1] at h2
 cases h2
 exact hz
theorem SortedOf.eq {l s1 s2:List AtomD} (f:SortedOf l s1) (g:SortedOf l s2):s1=s2:=zo5 f.asc g.asc (fun x=>⟨fun h=>f.sub g h,fun h=>g.sub f h⟩)
def putA (a:AtomD):List AtomD→List AtomD
 | []=>[a]
 |x::r=>if cmpD a x < 0 then a::x::r else if cmpD a x=0 then x::r else x::putA a r
theorem zet {a y:AtomD}:∀ {s:List AtomD},AscD s→(y∈putA a s↔y∈s∨(y=a∧∀ x∈s,cmpD a x≠0))
 | [],_=>by simp [putA]
 |x::r,h=>by
  have g:=List.pairwise_cons.1 h
  unfold putA
  by_cases h1:cmpD a x < 0
  ·rw [if_pos h1,List.mem_cons]
   constructor
   ·rintro (e|e)
    ·right
     refine ⟨e,fun z hz=>?_⟩
     rcases List.mem_cons.1 hz with e2|hz2
     ·subst e2;omega
     ·have:=zcu h1 (g.1 z hz2);omega
    ·exact .inl e
   ·rintro (e|⟨e,_⟩)
    ·exact .inr e
    ·exact .inl e
  ·rw [if_neg h1]
   by_cases h2:cmpD a x=0
   ·rw [if_pos h2]
    constructor
    ·exact fun e=>.inl e
    ·rintro (e|⟨e,e2⟩)
     ·exact e
     ·exact absurd h2 (e2 x (List.mem_cons_self ..))
   ·rw [if_neg h2,List.mem_cons,zet g.2,List.mem_cons]
    constructor
    ·rintro (e|e|⟨e,e2⟩)
     ·exact .inl (.inl e)
     ·exact .inl (.inr e)
     ·refine .inr ⟨e,fun z hz=>?_⟩
      rcases List.mem_cons.1 hz with e3|hz2
      ·subst e3;exact h2
      ·exact e2 z hz2
    ·rintro ((e|e)|⟨e,e2⟩)
     ·exact .inl e
     ·exact .inr (.inl e)
     ·exact .inr (.inr ⟨e,fun z hz=>e2 z (List.mem_cons_of_mem _ hz)⟩)
theorem zhQ {a:AtomD}:∀ {s:List AtomD},AscD s→AscD (putA a s)
 | [],_=>by simp [putA,AscD]
 |x::r,h=>by
  have g:=List.pairwise_cons.1 h
  unfold putA
  by_cases h1:cmpD a x < 0
  ·rw [if_pos h1]
   refine List.pairwise_cons.2 ⟨fun z hz=>?_,h⟩
   rcases List.mem_cons.1 hz with e|hz2
   ·subst e;exact h1
   ·exact zcu h1 (g.1 z hz2)
  ·rw [if_neg h1]
   by_cases h2:cmpD a x=0
   ·rw [if_pos h2];exact h
   ·rw [if_neg h2]
    refine List.pairwise_cons.2 ⟨fun z hz=>?_,zhQ g.2⟩
    rcases (zet g.2).1 hz with e|⟨e,_⟩
    ·exact g.1 z e
    ·subst e
     have:=zct z x
     omega
theorem SortedOf.put {l s:List AtomD} (f:SortedOf l s) (a:AtomD):SortedOf (l++[a]) (putA a s):=by
 refine ⟨zhQ f.asc,fun y hy=>?_,fun x hx=>?_⟩
 ·rw [List.filter_append,List.head?_append]
  rcases (zet f.asc).1 hy with e|⟨e,e2⟩
  ·rw [f.first y e]
   rfl
  ·subst e
   have hn:l.filter (fun x=>zaP x == zaP y)=[]:=by
    rw [List.filter_eq_nil_iff]
    intro x hx hxy
    rw [beq_iff_eq] at hxy
    obtain ⟨z,hz,e3⟩:=f.cov x hx
    exact e2 z hz (cmpD_zero.2 (e3.trans hxy).symm)
   rw [hn]
   simp
 ·rcases List.mem_append.1 hx with e|e
  ·obtain ⟨y,hy,e2⟩:=f.cov x e
   exact ⟨y,(zet f.asc).2 (.inl hy),e2⟩
  ·have e:x=a:=by simpa using e
   subst e
   by_cases hex:∀ z∈s,cmpD x z≠0
   ·exact ⟨x,(zet f.asc).2 (.inr ⟨rfl,hex⟩),rfl⟩
   ·have:∃ z,z∈s∧cmpD x z=0:=by
     apply Classical.byContradiction
     intro hn
     exact hex (fun z hz e=>hn ⟨z,hz,e⟩)
    obtain ⟨z,hz,e⟩:=this
    exact ⟨z,(zet f.asc).2 (.inl hz),(cmpD_zero.1 e).symm⟩
theorem SortedOf.nil:SortedOf [] []:=⟨List.Pairwise.nil,nofun,nofun⟩
def zcF (l:List AtomD):List AtomD:=l.foldl (fun s a=>putA a s) []
theorem zmi:∀ (m:List AtomD) {l s:List AtomD},SortedOf l s→SortedOf (l++m) (m.foldl (fun s a=>putA a s) s)
 | [],l,s,f=>by rw [List.append_nil];exact f
 |a::m,l,s,f=>by
  have:=zmi m (f.put a)
  rwa [List.append_assoc] at this
theorem zch (l:List AtomD):SortedOf l (zcF l):=zmi l SortedOf.nil
theorem SortedOf.is {l s:List AtomD} (f:SortedOf l s):s=zcF l:=f.eq (zch l)
theorem zrK:∀ {l:List AtomD},AscD l→∀ {x y:AtomD},x∈l→y∈l→x=y∨cmpD x y < 0∨cmpD y x < 0
 | [],_,_,_,h,_=>by simp at h
 |a::l,h,x,y,hx,hy=>by
  have g:=List.pairwise_cons.1 h
  rcases List.mem_cons.1 hx with e1|e1
  ·rcases List.mem_cons.1 hy with e2|e2
   ·exact .inl (e1.trans e2.symm)
   ·subst e1;exact .inr (.inl (g.1 y e2))
  ·rcases List.mem_cons.1 hy with e2|e2
   ·subst e2;exact .inr (.inr (g.1 x e1))
   ·exact zrK g.2 e1 e2
theorem zzU {l:List AtomD} (h:AscD l):SortedOf l l:=by
 refine ⟨h,fun y hy=>?_,fun x hx=>⟨x,hx,rfl⟩⟩
 have hm:y∈l.filter (fun x=>zaP x == zaP y):=List.mem_filter.2 ⟨hy,by simp⟩
 cases hf:l.filter (fun x=>zaP x == zaP y) with
 |nil=>rw [hf] at hm;simp at hm
 |cons z r =>
  have hz:z∈l∧_:=List.mem_filter.1 (by rw [hf];exact List.mem_cons_self ..)
  have he:zaP z=zaP y:=by simpa using hz.2
  show some z=some y
  congr 1
  rcases zrK h hz.1 hy with g|g|g
  ·exact g
  ·exact absurd he (zfD g)
  ·exact absurd he.symm (zfD g)
theorem zm2 {l:List AtomD} (h:AscD l):zcF l=l:=(zzU h).is.symm
def zej (l:List AtomD):Nat→List AtomD
 |0=>[]
 |m+1=>zej l m++(if m≠0∧cmpD (l.getD m noAtomD) (l.getD (m - 1) noAtomD)=0 then [] else [l.getD m noAtomD])
theorem zjl {l:List AtomD} {m:Nat} (h:m < l.length):l.take (m+1)=l.take m++[l.getD m noAtomD]:=by
 rw [List.take_add_one,List.getD_eq_getElem?_getD,List.getElem?_eq_getElem h]
 rfl
theorem zuy {l:List AtomD} (hs:zaG l 0 l.length):∀ m,m≤l.length→SortedOf (l.take m) (zej l m)
 |0,_=>SortedOf.nil
 |m+1,hm=>by
  have f:=zuy hs m (by omega)
  rw [zjl (by omega)]
  unfold zej
  split
  ·rename_i h
   rw [List.append_nil]
   refine ⟨f.asc,fun y hy=>?_,fun x hx=>?_⟩
   ·rw [List.filter_append,List.head?_append,f.first y hy]
    rfl
   ·rcases List.mem_append.1 hx with e|e
    ·exact f.cov x e
    ·have e:x=l.getD m noAtomD:=by simpa using e
     subst e
     obtain ⟨y,hy,e2⟩:=f.cov (l.getD (m - 1) noAtomD) (by
      refine List.mem_of_getElem? (i:=m - 1) ?_
      rw [List.getElem?_take,if_pos (by omega)]
      exact zaT (by omega))
     exact ⟨y,hy,e2.trans (cmpD_zero.1 h.2).symm⟩
  ·rename_i h
   have hlt:∀ x∈l.take m,cmpD x (l.getD m noAtomD) < 0:=by
    intro x hx
    obtain ⟨i,hi⟩:=List.getElem?_of_mem hx
    rw [List.getElem?_take] at hi
    split at hi
    ·rename_i him
     have e:x=l.getD i noAtomD:=by rw [List.getD_eq_getElem?_getD,hi];rfl
     rw [e]
     have h1:=hs m (by omega) (by omega)
     have h2:cmpD (l.getD (m - 1) noAtomD) (l.getD m noAtomD)≠0:=fun e2=>h ⟨by omega,by rw [zct];omega⟩
     exact zgW (zbC hs (i:=i) (j:=m - 1) (by omega) (by omega) (by omega)) (by omega)
    ·cases hi
   refine ⟨List.pairwise_append.2 ⟨f.asc,List.pairwise_singleton ..,fun a ha b hb=>?_⟩,fun y hy=>?_,fun x hx=>?_⟩
   ·have e:b=l.getD m noAtomD:=by simpa using hb
    rw [e]
    exact hlt a (f.mem ha)
   ·rw [List.filter_append,List.head?_append]
    rcases List.mem_append.1 hy with e|e
    ·rw [f.first y e]
     rfl
    ·have e:y=l.getD m noAtomD:=by simpa using e
     subst e
     have hn:(l.take m).filter (fun x=>zaP x == zaP (l.getD m noAtomD))=[]:=by
      rw [List.filter_eq_nil_iff]
      intro x hx hxy
      exact zfD (hlt x hx) (by simpa using hxy)
     rw [hn]
     simp
   ·rcases List.mem_append.1 hx with e|e
    ·obtain ⟨y,hy,e2⟩:=f.cov x e
     exact ⟨y,List.mem_append_left _ hy,e2⟩
    ·exact ⟨x,List.mem_append_right _ e,rfl⟩
theorem SortedOf.over {l l' s:List AtomD} (f:SortedOf l' s) (hp:l'.Perm l) (hst:Stab l l'):SortedOf l s:=⟨f.asc,fun y hy=>by rw [← hst];exact f.first y hy,fun x hx=>f.cov x (hp.mem_iff.2 hx)⟩
theorem zrp {l l':List AtomD} (hp:l'.Perm l) (hst:Stab l l') (hs:zaG l' 0 l.length):zej l' l'.length=zcF l:=by
 have f:=zuy (l:=l') (by rw [hp.length_eq];exact hs) l'.length (Nat.le_refl _)
 rw [List.take_length] at f
 exact (f.over hp hst).is
end Go.Am
namespace Go.Am
theorem ziS:∀ {l:List AtomD} {row:List Value},row.length=l.length*11→(∀ (i:Nat) (x:AtomD),l[i]? = some x→cut row (i*11) 11=some x.cells)→row=rowA l
 | [],row,hl,_=>by
  have:row=[]:=List.length_eq_zero_iff.1 (by simpa using hl)
  rw [this]
  rfl
 |x::l,row,hl,h=>by
  have h0:=h 0 x rfl
  have hl2:row.length=l.length*11+11:=by rw [hl,List.length_cons];omega
  unfold cut at h0
  rw [if_pos (by omega)] at h0
  simp only [Nat.zero_mul,List.drop_zero,Option.some.injEq] at h0
  have hr:=ziS (l:=l) (row:=row.drop 11) (by rw [List.length_drop];omega) (fun i y hy=>by
   have hi:=(List.getElem?_eq_some_iff.1 hy).1
   have g:=h (i+1) y hy
   unfold cut at g ⊢
   rw [if_pos (by omega)] at g
   rw [if_pos (by rw [List.length_drop];omega),List.drop_drop,show 11+i*11=(i+1)*11 by omega]
   exact g)
  have e:row=row.take 11++row.drop 11:=(List.take_append_drop 11 row).symm
  rw [e,h0,hr]
  rfl
theorem zaO (l m:List AtomD):rowA (l++m)=rowA l++rowA m:=by unfold rowA;rw [List.flatMap_append]
structure Emp (h:Heap) (v:Value):Prop where
 sl:Sl Rep.atom h v []
 no:v=.slice none 0 0∨∃ B o,v=.slice (some ⟨B,o,none⟩) 0 0
theorem Emp.nil {h:Heap}:Emp h (.slice none 0 0):=⟨Sl.nil,.inl rfl⟩
theorem Emp.mono {h h':Heap} {v:Value} (f:Emp h v) (i:Inc h h'):Emp h' v:=⟨f.sl.mono i,f.no⟩
theorem Emp.lay {h:Heap} {v:Value} (f:Emp h v) (bs:List Blk) (w:Nat):Emp (h.lay bs w) v:=⟨f.sl.lay bs w,f.no⟩
theorem Emp.over {h1 h2:Heap} {v:Value} {bs:List Blk} {w:Nat} (f:Emp h1 v) (x:Ext (h1.lay bs w) h2):Emp h2 v:=⟨f.sl.over x,f.no⟩
def OwnA (h0 h:Heap) (u:TypeId) (v:Value) (s:List AtomD):Prop :=
 (s=[]∧Emp h v)∨∃ A t,v=.slice (some ⟨A,0,none⟩) s.length (G*11+(s++t).length)∧Holds h A (.row (rowA (s++t)) u false)∧h0.size≤A∧(s++t).length≤100000
theorem OwnA.mono {h0 h h':Heap} {u:TypeId} {v:Value} {s:List AtomD} (f:OwnA h0 h u v s) (i:Inc h h'):OwnA h0 h' u v s:=by
 rcases f with ⟨e,f⟩|⟨A,t,e1,e2,e3⟩
 ·exact .inl ⟨e,f.mono i⟩
 ·exact .inr ⟨A,t,e1,e2.mono i,e3⟩
theorem OwnA.down {h0 h1 h:Heap} {u:TypeId} {v:Value} {s:List AtomD} (f:OwnA h1 h u v s) (i:h0.size≤h1.size):OwnA h0 h u v s:=by
 rcases f with f|⟨A,t,e1,e2,e3,e4⟩
 ·exact .inl f
 ·exact .inr ⟨A,t,e1,e2,by omega,e4⟩
theorem OwnA.lay {h0 h:Heap} {u:TypeId} {v:Value} {s:List AtomD} (f:OwnA h0 h u v s) (bs:List Blk) (w:Nat):OwnA h0 (h.lay bs w) u v s:=f.mono (Inc.lay h bs w)
theorem zjo:100000 < G:=by unfold G;omega
theorem zeM {h:Heap} {A o:Nat} {l s:List AtomD} {u:TypeId} {c:Nat} {ro:Bool} (q:Holds h A (.row (rowA l) u ro)) (hc:zz7 11 s.length c) (hn:s.length≤100000) (hs:∀ (i:Nat) (x:AtomD),s[i]? = some x→l[o+i]? = some x):Sl Rep.atom h (.slice (some ⟨A,o*11,none⟩) s.length c) s:=by
 refine .inr ⟨A,o*11,c,rowA l,u,ro,rfl,(by have:(100000:Nat)≤maxLen:=by decide
                                           omega),hc,q.lt,q.get,fun i x hx=>⟨x.cells,?_,rfl⟩⟩
 show cut (rowA l) (o*11+i*11) 11=_
 rw [← Nat.add_mul]
 exact zpz (hs i x hx)
theorem OwnA.sl {h0 h:Heap} {u:TypeId} {v:Value} {s:List AtomD} (f:OwnA h0 h u v s):Sl Rep.atom h v s:=by
 rcases f with ⟨rfl,f⟩|⟨A,t,rfl,e2,e3,e4⟩
 ·exact f.sl
 ·have hG:=zjo
  obtain ⟨d1,d2,d3⟩:=zcA (k:=11) (q:=(s++t).length) (by decide) (by omega)
  have hle:s.length≤(s++t).length:=by rw [List.length_append];omega
  have:=zeM (o:=0) (s:=s) e2 (.inr ⟨d1,d2,by rw [d3];omega⟩) (by omega) (fun i x hx=>by rw [Nat.zero_add,List.getElem?_append_left (List.getElem?_eq_some_iff.1 hx).1];exact hx)
  simpa using this
def OwnX (h0 h:Heap) (u:TypeId) (v:Value) (s:List AtomD):Prop :=
 (s=[]∧Emp h v)∨∃ A,v=.slice (some ⟨A,0,none⟩) s.length (G*11+s.length)∧Holds h A (.row (rowA s) u false)∧h0.size≤A∧s≠[]
theorem OwnX.own {h0 h:Heap} {u:TypeId} {v:Value} {s:List AtomD} (f:OwnX h0 h u v s) (hn:s.length≤100000):OwnA h0 h u v s:=by
 rcases f with f|⟨A,e1,e2,e3,e4⟩
 ·exact .inl f
 ·exact .inr ⟨A,[],by rw [List.append_nil];exact e1,by rw [List.append_nil];exact e2,e3,by rw [List.append_nil];exact hn⟩
theorem zte {h0 h:Heap} {u:TypeId} {A:Nat} {v:Value} {l:List AtomD} (f:Ow Rep.atom h0 h u A v l):OwnX h0 h u v l:=by
 rcases f with ⟨e1,rfl,e3⟩|⟨row,rfl,e2,e3,e4,e5,e6,e7,e8⟩
 ·refine .inl ⟨rfl,?_,?_⟩
  ·have f2:Ow Rep.atom h0 h u A v []:=.inl ⟨e1,rfl,e3⟩
   exact f2.sl (by decide)
  ·rcases e3 with e3|⟨B,o,e3,_⟩
   ·exact .inl e3
   ·exact .inr ⟨B,o,e3⟩
 ·refine .inr ⟨A,rfl,⟨e4,?_⟩,e3,e2⟩
  have:row=rowA l:=ziS e6 (fun i x hx=>by
   obtain ⟨cs,g1,g2⟩:=e8 i x hx
   have g2:cs=x.cells:=g2
   rw [← g2]
   exact g1)
  rw [← this]
  exact e5
section
variable {P:Program} {T:Tab} {ov:Ov} {d:Option Tmp} {ty:TypeId} {pos:String} {af:Array Edge} {g:Option (Nat × Bool)} {e:Env} {h:Heap} {K:Value→Heap→Prop}
theorem zuD (t:TypeId) (x:Operand):WOp P T ov ⟨d,.call ⟨.builtin .clear,#[x],#[t]⟩,ty,pos,af,g⟩ e h K=memE (zcs T t (zab e x) h) K:=by
 show optE ((zcs T t (zab e x) h).map fun h'=>(undef,h')) K=_
 cases zcs T t (zab e x) h <;> rfl
theorem ziA {T:Tab} {t u:TypeId} {A n q i:Nat} {kd:IntKind} (hd:T.desc t=some (.slice u)) (hs:zau T u=some 11) (hi:i≤n) (hn:n≤q) (hq:q≤100000):zbl T t (.slice (some ⟨A,0,none⟩) n (G*11+q)) (some (.int kd i)) none none=some (.slice (some ⟨A,i*11,none⟩) (n - i) (G*11+(q - i))):=by
 have hG:=zjo
 obtain ⟨d1,d2,d3⟩:=zcA (k:=11) (q:=q) (by decide) (by omega)
 unfold zbl
 simp only [hd,hs,Option.bind_some,if_neg (show ¬ G*11+q < G by omega),if_pos d2]
 rw [d3,zdY (BndIs.num kd 0 i) (BndIs.no n) hi hn,Option.map_some,Nat.zero_add]
theorem zs9 {T:Tab} {t u:TypeId} {A n q i:Nat} {kd:IntKind} (hd:T.desc t=some (.slice u)) (hs:zau T u=some 11) (hi:i≤n) (hn:n≤q) (hq:q≤100000):zbl T t (.slice (some ⟨A,0,none⟩) n (G*11+q)) none (some (.int kd i)) none=some (.slice (some ⟨A,0,none⟩) i (G*11+q)):=by
 have hG:=zjo
 obtain ⟨d1,d2,d3⟩:=zcA (k:=11) (q:=q) (by decide) (by omega)
 unfold zbl
 simp only [hd,hs,Option.bind_some,if_neg (show ¬ G*11+q < G by omega),if_pos d2]
 rw [d3,zdY (BndIs.no 0) (BndIs.num kd n i) (Nat.zero_le _) (by omega),Option.map_some]
 simp
theorem znq (n:Nat):zbo noAtomD.cells n=rowA (List.replicate n noAtomD):=by
 unfold zbo rowA
 rw [List.flatMap_def,List.map_replicate]
theorem zts {l:List AtomD} {i:Nat} (hi:i≤l.length):splice (rowA l) (i*11) (rowA (List.replicate (l.length - i) noAtomD))=rowA (l.take i++List.replicate (l.length - i) noAtomD):=by
 have e:l=l.take i++l.drop i:=(List.take_append_drop i l).symm
 have h1:(rowA (l.take i)).length=i*11:=by rw [zaC,List.length_take];congr 1;omega
 have h2:(rowA (List.replicate (l.length - i) noAtomD)).length=(l.length - i)*11:=by rw [zaC,List.length_replicate]
 have h3:(rowA l).length=l.length*11:=zaC l
 unfold splice
 rw [zaO,List.drop_of_length_le (by rw [h2,h3];omega),List.append_nil]
 congr 1
 conv=>lhs;rw [e]
 rw [zaO,List.take_left' h1]
theorem zpZ {T:Tab} {t u:TypeId} {A i n c:Nat} {l:List AtomD} {h1:Heap} {bs:List Blk} {w k bytes:Nat} (q:Holds h1 A (.row (rowA l) u false)) (hd:T.desc t=some (.slice u)) (hi:T.info u=some (k,bytes,noAtomD.cells)) (hle:i≤l.length) (hn:n=l.length - i)
 (hK:∀ h',Holds h' A (.row (rowA (l.take i++List.replicate (l.length - i) noAtomD)) u false)→Chg A (h1.lay bs w) h'→K undef h'):memE (zcs T t (.slice (some ⟨A,i*11,none⟩) n c) (h1.lay bs w)) K:=by
 subst hn
 by_cases h0:l.length - i=0
 ·have e:zcs T t (.slice (some ⟨A,i*11,none⟩) (l.length - i) c) (h1.lay bs w)=some (h1.lay bs w):=by
   unfold zcs
   simp only [hd,if_pos h0]
  rw [e]
  refine hK _ ?_ (Ext.refl _).chg
  rw [h0,List.replicate_zero,List.append_nil,List.take_of_length_le (by omega)]
  exact q.on bs w
 ·have hg:(h1.lay bs w).get A=some (.row (rowA l) u false):=q.lay bs w
  have hA:A < (h1.lay bs w).size:=(q.on bs w).lt
  have hone:(rowA (List.replicate (l.length - i) noAtomD)).all one=true:=by
   rw [List.all_eq_true]
   intro x hx
   unfold rowA at hx
   obtain ⟨y,hy,hx2⟩:=List.mem_flatMap.1 hx
   have:=(List.mem_replicate.1 hy).2
   subst this
   exact List.all_eq_true.1 (by rfl:noAtomD.cells.all one=true) x hx2
  have e:zcs T t (.slice (some ⟨A,i*11,none⟩) (l.length - i) c) (h1.lay bs w)=some ((h1.lay bs w).set A (.row (rowA (l.take i++List.replicate (l.length - i) noAtomD)) u false)):=by
   unfold zcs
   simp only [hd,if_neg h0,hi,Option.bind_some]
   unfold zbQ
   rw [hg]
   simp only
   rw [znq,if_pos (by simp only [Bool.and_eq_true,decide_eq_true_eq];exact ⟨by rw [zaC,zaC,List.length_replicate];omega,hone⟩),zts hle]
  rw [e]
  refine hK _ ⟨by rw [Heap.size_set];exact hA,by rw [Heap.get_set _ _ _ _ hA,if_pos rfl]⟩ ⟨by rw [Heap.size_set];exact Nat.le_refl _,fun B hB hne=>by rw [Heap.get_set _ _ _ _ hA,if_neg hne],by rw [Heap.low_set];omega⟩
end
theorem zlg {h0 h:Heap} {u:TypeId} {A n c:Nat} {s t:List AtomD} (q:Holds h A (.row (rowA (s++t)) u false)) (hA:h0.size≤A) (hn:(s++t).length≤100000) (hl:n=s.length) (hc:c=G*11+(s++t).length):OwnA h0 h u (.slice (some ⟨A,0,none⟩) n c) s:=by
 subst hl hc
 exact .inr ⟨A,t,rfl,q,hA,hn⟩
theorem zgA {h0 h:Heap} {u:TypeId} {A c:Nat} {s:List AtomD} (q:Holds h A (.row (rowA s) u false)) (hA:h0.size≤A) (hn:s.length≤100000) (hc:c=G*11+s.length):OwnA h0 h u (.slice (some ⟨A,0,none⟩) s.length c) s :=
 zlg (t:=[]) (by rw [List.append_nil];exact q) hA (by rw [List.append_nil];exact hn) rfl (by rw [List.append_nil];exact hc)
theorem zoW {l:List AtomD} (h:l.length < 2):zej l l.length=l:=by
 match l,h with
 | [],_=>rfl
 | [x],_=>rfl
theorem zro {l:List AtomD} {m:Nat} (hm:m < l.length) (h0:m≠0) (h:zej l m=l.take m) (hne:cmpD (l.getD m noAtomD) (l.getD (m - 1) noAtomD)≠0):zej l (m+1)=l.take (m+1):=by
 rw [zjl hm,← h]
 show zej l m++_=_
 rw [if_neg (fun g=>hne g.2)]
theorem zpH {l:List AtomD} {m:Nat} (h0:m≠0) (he:cmpD (l.getD m noAtomD) (l.getD (m - 1) noAtomD)=0):zej l (m+1)=zej l m:=by
 show zej l m++_=_
 rw [if_pos ⟨h0,he⟩,List.append_nil]
theorem zux {l:List AtomD} {m:Nat} (hne:cmpD (l.getD m noAtomD) (l.getD (m - 1) noAtomD)≠0):zej l (m+1)=zej l m++[l.getD m noAtomD]:=by
 show zej l m++_=_
 rw [if_neg (fun g=>hne g.2)]
theorem zw0 {l:List AtomD} {i:Nat} {x:AtomD} (hi:i < l.length):(l.set i x).take (i+1)=l.take i++[x]:=by
 rw [List.take_add_one,List.getElem?_set,if_pos rfl,if_pos hi,List.take_set_of_le (Nat.le_refl _)]
 rfl
theorem zkw {l:List AtomD} {i p:Nat} {x:AtomD} (h:i≠p):(l.set i x).getD p noAtomD=l.getD p noAtomD:=by
 rw [List.getD_eq_getElem?_getD,List.getD_eq_getElem?_getD,List.getElem?_set,if_neg h]
theorem zlG {l:List AtomD} (h:∀ k,0 < k→k < l.length→cmpD (l.getD (k - 1) noAtomD) (l.getD k noAtomD) < 0) {i j:Nat} (hij:i < j) (hj:j < l.length):cmpD (l.getD i noAtomD) (l.getD j noAtomD) < 0:=by
 induction j with
 |zero=>omega
 |succ j ih =>
  have g:=h (j+1) (by omega) hj
  rw [Nat.add_sub_cancel] at g
  by_cases e:i=j
  ·subst e
   exact g
  ·exact zcu (ih (by omega) (by omega)) g
theorem asc_iff {l:List AtomD}:AscD l↔∀ k,0 < k→k < l.length→cmpD (l.getD (k - 1) noAtomD) (l.getD k noAtomD) < 0:=by
 constructor
 ·intro h k h1 h2
  have:=List.pairwise_iff_getElem.1 h (k - 1) k (by omega) h2 (by omega)
  rw [List.getD_eq_getElem?_getD,List.getD_eq_getElem?_getD,List.getElem?_eq_getElem h2,List.getElem?_eq_getElem (show k - 1 < l.length by omega)]
  exact this
 ·intro h
  refine List.pairwise_iff_getElem.2 (fun i j hi hj hij=>?_)
  have:=zlG h hij hj
  rw [List.getD_eq_getElem?_getD,List.getD_eq_getElem?_getD,List.getElem?_eq_getElem hj,List.getElem?_eq_getElem hi] at this
  exact this
def isA (l:List AtomD):Bool:=(List.range l.length).all (fun k=>k == 0 || decide (cmpD (l.getD (k - 1) noAtomD) (l.getD k noAtomD) < 0))
theorem isA_iff {l:List AtomD}:isA l=true↔AscD l:=by
 rw [asc_iff]
 unfold isA
 rw [List.all_eq_true]
 constructor
 ·intro h k h1 h2
  have:=h k (List.mem_range.2 h2)
  simp only [Bool.or_eq_true,beq_iff_eq,decide_eq_true_eq] at this
  rcases this with e|e
  ·omega
  ·exact e
 ·intro h k hk
  simp only [Bool.or_eq_true,beq_iff_eq,decide_eq_true_eq]
  by_cases e:k=0
  ·exact .inl e
  ·exact .inr (h k (by omega) (List.mem_range.1 hk))
theorem zAx {l:List AtomD} (h:¬ AscD l):isA l=false:=by
 cases e:isA l
 ·rfl
 ·exact absurd (isA_iff.1 e) h
def hasA (l:List AtomD) (a:AtomD):Bool:=l.any (fun x=>zaP x == zaP a)
theorem hasA_iff {l:List AtomD} {a:AtomD}:hasA l a=true↔∃ x∈l,zaP x=zaP a:=by
 unfold hasA
 rw [List.any_eq_true]
 simp only [beq_iff_eq]
theorem zgr (l:List AtomD) (a:AtomD):hasA (zcF l) a=hasA l a:=by
 have f:=zch l
 rw [Bool.eq_iff_iff,hasA_iff,hasA_iff]
 constructor
 ·rintro ⟨x,hx,e⟩
  exact ⟨x,f.mem hx,e⟩
 ·rintro ⟨x,hx,e⟩
  obtain ⟨y,hy,e2⟩:=f.cov x hx
  exact ⟨y,hy,e2.trans e⟩
theorem ziV {l:List AtomD} (h:∀ x∈l,x.light=true):∀ x∈zcF l,x.light=true:=fun x hx=>h x ((zch l).mem hx)
theorem ziM (a:AtomD):∀ s:List AtomD,(putA a s).length≤s.length+1
 | []=>by simp [putA]
 |x::r=>by
  have:=ziM a r
  unfold putA
  repeat' split
  all_goals simp only [List.length_cons]
  all_goals omega
theorem zeK:∀ (m s:List AtomD),(m.foldl (fun s a=>putA a s) s).length≤s.length+m.length
 | [],s=>by simp
 |a::m,s=>by
  have h1:=zeK m (putA a s)
  have h2:=ziM a s
  simp only [List.foldl_cons,List.length_cons]
  omega
theorem zfj (l:List AtomD):(zcF l).length≤l.length:=by
 have:=zeK l []
 simpa [zcF] using this
structure AmPlace (l:List AtomD) (a:AtomD) (i:Nat):Prop where
 le:i≤l.length
 lo:∀ k,k < i→cmpD (l.getD k noAtomD) a < 0
 hi:∀ k,i≤k→k < l.length→¬ cmpD (l.getD k noAtomD) a < 0
theorem AmPlace.has {l:List AtomD} {a:AtomD} {i:Nat} (p:AmPlace l a i) (hs:AscD l):hasA l a=true↔i < l.length∧cmpD (l.getD i noAtomD) a=0:=by
 rw [hasA_iff]
 constructor
 ·rintro ⟨x,hx,e⟩
  obtain ⟨k,hk⟩:=List.getElem?_of_mem hx
  have hkl:=(List.getElem?_eq_some_iff.1 hk).1
  have e2:l.getD k noAtomD=x:=by rw [List.getD_eq_getElem?_getD,hk];rfl
  have h0:cmpD (l.getD k noAtomD) a=0:=by rw [e2];exact cmpD_zero.2 e
  have hik:i≤k:=by
   rcases Nat.lt_or_ge k i with g|g
   ·have:=p.lo k g;omega
   ·exact g
  refine ⟨by omega,?_⟩
  rcases Nat.eq_or_lt_of_le hik with g|g
  ·rw [g];exact h0
  ·have h1:=zlG (asc_iff.1 hs) g hkl
   have h2:=p.hi i (Nat.le_refl _) (by omega)
   have h3:=zdZ h1 (Int.le_of_eq h0)
   exact absurd h3 h2
 ·rintro ⟨h1,h2⟩
  exact ⟨_,List.mem_of_getElem? (zaT h1),cmpD_zero.1 h2⟩
theorem zvV {l:List AtomD} {i n:Nat} (hi:i+n≤l.length):splice (rowA l) (i*11) (rowA (List.replicate n noAtomD))=rowA (l.take i++(List.replicate n noAtomD++l.drop (i+n))):=by
 have e:l=l.take i++l.drop i:=(List.take_append_drop i l).symm
 have h1:(rowA (l.take i)).length=i*11:=by rw [zaC,List.length_take];congr 1;omega
 have e2:l=l.take (i+n)++l.drop (i+n):=(List.take_append_drop (i+n) l).symm
 have h2:(rowA (l.take (i+n))).length=i*11+(rowA (List.replicate n noAtomD)).length:=by rw [zaC,zaC,List.length_take,List.length_replicate,← Nat.add_mul];congr 1;omega
 unfold splice
 have f1:(rowA l).take (i*11)=rowA (l.take i):=by
  conv=>lhs;rw [e]
  rw [zaO,List.take_left' h1]
 have f2:(rowA l).drop (i*11+(rowA (List.replicate n noAtomD)).length)=rowA (l.drop (i+n)):=by
  conv=>lhs;rw [e2]
  rw [zaO,List.drop_left' h2]
 rw [f1,f2,zaO,zaO,List.append_assoc]
theorem zrV {T:Tab} {t u:TypeId} {A i n c:Nat} {l:List AtomD} {h1:Heap} {bs:List Blk} {w k bytes:Nat} {K:Value→Heap→Prop} (q:Holds h1 A (.row (rowA l) u false)) (hd:T.desc t=some (.slice u)) (hi:T.info u=some (k,bytes,noAtomD.cells)) (hle:i+n≤l.length)
 (hK:∀ h',Holds h' A (.row (rowA (l.take i++(List.replicate n noAtomD++l.drop (i+n)))) u false)→Chg A (h1.lay bs w) h'→K undef h'):memE (zcs T t (.slice (some ⟨A,i*11,none⟩) n c) (h1.lay bs w)) K:=by
 by_cases h0:n=0
 ·subst h0
  have e:zcs T t (.slice (some ⟨A,i*11,none⟩) 0 c) (h1.lay bs w)=some (h1.lay bs w):=by
   unfold zcs
   simp only [hd,if_true]
  rw [e]
  refine hK _ ?_ (Ext.refl _).chg
  rw [List.replicate_zero,List.nil_append,Nat.add_zero,List.take_append_drop]
  exact q.on bs w
 ·have hg:(h1.lay bs w).get A=some (.row (rowA l) u false):=q.lay bs w
  have hA:A < (h1.lay bs w).size:=(q.on bs w).lt
  have hone:(rowA (List.replicate n noAtomD)).all one=true:=by
   rw [List.all_eq_true]
   intro x hx
   unfold rowA at hx
   obtain ⟨y,hy,hx2⟩:=List.mem_flatMap.1 hx
   have:=(List.mem_replicate.1 hy).2
   subst this
   exact List.all_eq_true.1 (by rfl:noAtomD.cells.all one=true) x hx2
  have e:zcs T t (.slice (some ⟨A,i*11,none⟩) n c) (h1.lay bs w)=some ((h1.lay bs w).set A (.row (rowA (l.take i++(List.replicate n noAtomD++l.drop (i+n)))) u false)):=by
   unfold zcs
   simp only [hd,if_neg h0,hi,Option.bind_some]
   unfold zbQ
   rw [hg]
   simp only
   rw [znq,if_pos (by simp only [Bool.and_eq_true,decide_eq_true_eq];exact ⟨by rw [zaC,zaC,List.length_replicate];omega,hone⟩),zvV hle]
  rw [e]
  refine hK _ ⟨by rw [Heap.size_set];exact hA,by rw [Heap.get_set _ _ _ _ hA,if_pos rfl]⟩ ⟨by rw [Heap.size_set];exact Nat.le_refl _,fun B hB hne=>by rw [Heap.get_set _ _ _ _ hA,if_neg hne],by rw [Heap.low_set];omega⟩
abbrev Rep.atoms:Rep (List AtomD) :=
 { k:=1,R:=fun h cs x=>∃ v,cs=[v]∧Sl Rep.atom h v x
   len:=by rintro h cs x ⟨v,rfl,_⟩;rfl
   mono:=by rintro h h' cs x i ⟨v,e,f⟩;exact ⟨v,e,f.mono i⟩
   ones:=by rintro h cs x ⟨v,rfl,f⟩;have:=f.one;simp only [List.all_cons,List.all_nil,this];rfl }
end Go.Am

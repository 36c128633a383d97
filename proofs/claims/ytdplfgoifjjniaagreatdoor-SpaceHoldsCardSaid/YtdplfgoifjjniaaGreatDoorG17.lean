/- Sorted lists of atoms, each text once: plain facts. No condition. -/
import Derived.Test.YtdplfgoifjjniaaGreatDoorG16
set_option linter.unusedSimpArgs false
set_option linter.unusedVariables false
namespace Go.Am
theorem cG {a b:ab}:aM a b=0↔cO a=cO b:=⟨fun h=>Gs h,fun h=>by unfold aM;rw [h,Ms]⟩
theorem LO {a b c:ab} (h1:aM a b < 0) (h2:aM b c < 0):aM a c < 0:=L6 h1 (Int.le_of_lt h2)
theorem YP {a b:ab} (h1:aM a b < 0) (h2:aM b a < 0):False:=by
 have:=zI a b
 omega
def ez (s:List ab):Prop:=s.Pairwise (fun x y=>aM x y < 0)
structure bn (l s:List ab):Prop where
 iS:ez s
 first:∀ y∈s,(l.filter (fun x=>cO x == cO y)).head? = some y
 wT:∀ x∈l,∃ y∈s,cO y=cO x
theorem bn.mem {l s:List ab} (f:bn l s) {y:ab} (h:y∈s):y∈l:=(List.mem_filter.1 (List.mem_of_mem_head? (f.first y h))).1
theorem zsS:∀ {s1 s2:List ab},ez s1→ez s2→(∀ x,x∈s1↔x∈s2)→s1=s2
 | [],[],_,_,_=>rfl
 | [],y::r,_,_,h=>absurd ((h y).2 (List.mem_cons_self ..)) (by simp)
 |x::r,[],_,_,h=>absurd ((h x).1 (List.mem_cons_self ..)) (by simp)
 |x::r1,y::r2,h1,h2,h=>by
  have g1:=List.pairwise_cons.1 h1
  have g2:=List.pairwise_cons.1 h2
  have e:x=y:=by
   rcases List.mem_cons.1 ((h x).1 (List.mem_cons_self ..)) with e|hx
   ·exact e
   ·rcases List.mem_cons.1 ((h y).2 (List.mem_cons_self ..)) with e|hy
    ·exact e.symm
    ·exact (YP (g2.1 x hx) (g1.1 y hy)).elim
  subst e
  rw [zsS (s1:=r1) (s2:=r2) g1.2 g2.2 (fun z=>⟨fun hz=>?_,fun hz=>?_⟩)]
  ·rcases List.mem_cons.1 ((h z).1 (List.mem_cons_of_mem _ hz)) with e|mh
   ·subst e
    have:=g1.1 z hz
    rw [Gf] at this
    omega
   ·exact mh
  ·rcases List.mem_cons.1 ((h z).2 (List.mem_cons_of_mem _ hz)) with e|mh
   ·subst e
    have:=g2.1 z hz
    rw [Gf] at this
    omega
   ·exact mh
theorem bn.sub {l s1 s2:List ab} (f:bn l s1) (g:bn l s2) {y:ab} (h:y∈s1):y∈s2:=by
 obtain ⟨z,hz,e⟩:=g.wT y (f.mem h)
 have h1:=f.first y h
 have h2:=g.first z hz
 rw [e] at h2
 rw [h1] at h2
 cases h2
 exact hz
theorem bn.eq {l s1 s2:List ab} (f:bn l s1) (g:bn l s2):s1=s2:=zsS f.iS g.iS (fun x=>⟨fun h=>f.sub g h,fun h=>g.sub f h⟩)
def cB (a:ab):List ab→List ab
 | []=>[a]
 |x::r=>if aM a x < 0 then a::x::r else if aM a x=0 then x::r else x::cB a r
theorem EA {a y:ab}:∀ {s:List ab},ez s→(y∈cB a s↔y∈s∨(y=a∧∀ x∈s,aM a x≠0))
 | [],_=>by simp [cB]
 |x::r,h=>by
  have g:=List.pairwise_cons.1 h
  unfold cB
  by_cases h1:aM a x < 0
  ·rw [if_pos h1,List.mem_cons]
   constructor
   ·rintro (e|e)
    ·right
     refine ⟨e,fun z hz=>?_⟩
     rcases List.mem_cons.1 hz with e2|mh
     ·subst e2;omega
     ·have:=LO h1 (g.1 z mh);omega
    ·exact .inl e
   ·rintro (e|⟨e,_⟩)
    ·exact .inr e
    ·exact .inl e
  ·rw [if_neg h1]
   by_cases h2:aM a x=0
   ·rw [if_pos h2]
    constructor
    ·exact fun e=>.inl e
    ·rintro (e|⟨e,e2⟩)
     ·exact e
     ·exact absurd h2 (e2 x (List.mem_cons_self ..))
   ·rw [if_neg h2,List.mem_cons,EA g.2,List.mem_cons]
    constructor
    ·rintro (e|e|⟨e,e2⟩)
     ·exact .inl (.inl e)
     ·exact .inl (.inr e)
     ·refine .inr ⟨e,fun z hz=>?_⟩
      rcases List.mem_cons.1 hz with e3|mh
      ·subst e3;exact h2
      ·exact e2 z mh
    ·rintro ((e|e)|⟨e,e2⟩)
     ·exact .inl e
     ·exact .inr (.inl e)
     ·exact .inr (.inr ⟨e,fun z hz=>e2 z (List.mem_cons_of_mem _ hz)⟩)
theorem O7 {a:ab}:∀ {s:List ab},ez s→ez (cB a s)
 | [],_=>by simp [cB,ez]
 |x::r,h=>by
  have g:=List.pairwise_cons.1 h
  unfold cB
  by_cases h1:aM a x < 0
  ·rw [if_pos h1]
   refine List.pairwise_cons.2 ⟨fun z hz=>?_,h⟩
   rcases List.mem_cons.1 hz with e|mh
   ·subst e;exact h1
   ·exact LO h1 (g.1 z mh)
  ·rw [if_neg h1]
   by_cases h2:aM a x=0
   ·rw [if_pos h2];exact h
   ·rw [if_neg h2]
    refine List.pairwise_cons.2 ⟨fun z hz=>?_,O7 g.2⟩
    rcases (EA g.2).1 hz with e|⟨e,_⟩
    ·exact g.1 z e
    ·subst e
     have:=zI z x
     omega
theorem bn.put {l s:List ab} (f:bn l s) (a:ab):bn (l++[a]) (cB a s):=by
 refine ⟨O7 f.iS,fun y hy=>?_,fun x hx=>?_⟩
 ·rw [List.filter_append,List.head?_append]
  rcases (EA f.iS).1 hy with e|⟨e,e2⟩
  ·rw [f.first y e]
   rfl
  ·subst e
   have hn:l.filter (fun x=>cO x == cO y)=[]:=by
    rw [List.filter_eq_nil_iff]
    intro x hx cS
    rw [beq_iff_eq] at cS
    obtain ⟨z,hz,e3⟩:=f.wT x hx
    exact e2 z hz (cG.2 (e3.trans cS).symm)
   rw [hn]
   simp
 ·rcases List.mem_append.1 hx with e|e
  ·obtain ⟨y,hy,e2⟩:=f.wT x e
   exact ⟨y,(EA f.iS).2 (.inl hy),e2⟩
  ·have e:x=a:=by simpa using e
   subst e
   by_cases hex:∀ z∈s,aM x z≠0
   ·exact ⟨x,(EA f.iS).2 (.inr ⟨rfl,hex⟩),rfl⟩
   ·have:∃ z,z∈s∧aM x z=0:=by
     apply Classical.byContradiction
     intro hn
     exact hex (fun z hz e=>hn ⟨z,hz,e⟩)
    obtain ⟨z,hz,e⟩:=this
    exact ⟨z,(EA f.iS).2 (.inl hz),(cG.1 e).symm⟩
theorem bn.nil:bn [] []:=⟨List.Pairwise.nil,nofun,nofun⟩
def jT (l:List ab):List ab:=l.foldl (fun s a=>cB a s) []
theorem zmU:∀ (m:List ab) {l s:List ab},bn l s→bn (l++m) (m.foldl (fun s a=>cB a s) s)
 | [],l,s,f=>by rw [List.append_nil];exact f
 |a::m,l,s,f=>by
  have:=zmU m (f.put a)
  rwa [List.append_assoc] at this
theorem vl (l:List ab):bn l (jT l):=zmU l bn.nil
theorem bn.is {l s:List ab} (f:bn l s):s=jT l:=f.eq (vl l)
theorem zsR:∀ {l:List ab},ez l→∀ {x y:ab},x∈l→y∈l→x=y∨aM x y < 0∨aM y x < 0
 | [],_,_,_,h,_=>by simp at h
 |a::l,h,x,y,hx,hy=>by
  have g:=List.pairwise_cons.1 h
  rcases List.mem_cons.1 hx with e1|e1
  ·rcases List.mem_cons.1 hy with e2|e2
   ·exact .inl (e1.trans e2.symm)
   ·subst e1;exact .inr (.inl (g.1 y e2))
  ·rcases List.mem_cons.1 hy with e2|e2
   ·subst e2;exact .inr (.inr (g.1 x e1))
   ·exact zsR g.2 e1 e2
theorem zDD {l:List ab} (h:ez l):bn l l:=by
 refine ⟨h,fun y hy=>?_,fun x hx=>⟨x,hx,rfl⟩⟩
 have hm:y∈l.filter (fun x=>cO x == cO y):=List.mem_filter.2 ⟨hy,by simp⟩
 cases hf:l.filter (fun x=>cO x == cO y) with
 |nil=>rw [hf] at hm;simp at hm
 |cons z r =>
  have hz:z∈l∧_:=List.mem_filter.1 (by rw [hf];exact List.mem_cons_self ..)
  have he:cO z=cO y:=by simpa using hz.2
  show some z=some y
  congr 1
  rcases zsR h hz.1 hy with g|g|g
  ·exact g
  ·exact absurd he (Gq g)
  ·exact absurd he.symm (Gq g)
theorem znP {l:List ab} (h:ez l):jT l=l:=(zDD h).is.symm
def mU (l:List ab):Nat→List ab
 |0=>[]
 |m+1=>mU l m++(if m≠0∧aM (l.getD m ah) (l.getD (m - 1) ah)=0 then [] else [l.getD m ah])
theorem Zm {l:List ab} {m:Nat} (h:m < l.length):l.take (m+1)=l.take m++[l.getD m ah]:=by
 rw [List.take_add_one,List.getD_eq_getElem?_getD,List.getElem?_eq_getElem h]
 rfl
theorem zvY {l:List ab} (hs:gj l 0 l.length):∀ m,m≤l.length→bn (l.take m) (mU l m)
 |0,_=>bn.nil
 |m+1,hm=>by
  have f:=zvY hs m (by omega)
  rw [Zm (by omega)]
  unfold mU
  split
  ·rename_i h
   rw [List.append_nil]
   refine ⟨f.iS,fun y hy=>?_,fun x hx=>?_⟩
   ·rw [List.filter_append,List.head?_append,f.first y hy]
    rfl
   ·rcases List.mem_append.1 hx with e|e
    ·exact f.wT x e
    ·have e:x=l.getD m ah:=by simpa using e
     subst e
     obtain ⟨y,hy,e2⟩:=f.wT (l.getD (m - 1) ah) (by
      refine List.mem_of_getElem? (i:=m - 1) ?_
      rw [List.getElem?_take,if_pos (by omega)]
      exact iP (by omega))
     exact ⟨y,hy,e2.trans (cG.1 h.2).symm⟩
  ·rename_i h
   have aS:∀ x∈l.take m,aM x (l.getD m ah) < 0:=by
    intro x hx
    obtain ⟨i,hi⟩:=List.getElem?_of_mem hx
    rw [List.getElem?_take] at hi
    split at hi
    ·rename_i rM
     have e:x=l.getD i ah:=by rw [List.getD_eq_getElem?_getD,hi];rfl
     rw [e]
     have h1:=hs m (by omega) (by omega)
     have h2:aM (l.getD (m - 1) ah) (l.getD m ah)≠0:=fun e2=>h ⟨by omega,by rw [zI];omega⟩
     exact YQ (vj hs (i:=i) (j:=m - 1) (by omega) (by omega) (by omega)) (by omega)
    ·cases hi
   refine ⟨List.pairwise_append.2 ⟨f.iS,List.pairwise_singleton ..,fun a ha b hb=>?_⟩,fun y hy=>?_,fun x hx=>?_⟩
   ·have e:b=l.getD m ah:=by simpa using hb
    rw [e]
    exact aS a (f.mem ha)
   ·rw [List.filter_append,List.head?_append]
    rcases List.mem_append.1 hy with e|e
    ·rw [f.first y e]
     rfl
    ·have e:y=l.getD m ah:=by simpa using e
     subst e
     have hn:(l.take m).filter (fun x=>cO x == cO (l.getD m ah))=[]:=by
      rw [List.filter_eq_nil_iff]
      intro x hx cS
      exact Gq (aS x hx) (by simpa using cS)
     rw [hn]
     simp
   ·rcases List.mem_append.1 hx with e|e
    ·obtain ⟨y,hy,e2⟩:=f.wT x e
     exact ⟨y,List.mem_append_left _ hy,e2⟩
    ·exact ⟨x,List.mem_append_right _ e,rfl⟩
theorem bn.over {l l' s:List ab} (f:bn l' s) (hp:l'.Perm l) (eb:eE l l'):bn l s:=⟨f.iS,fun y hy=>by rw [← eb];exact f.first y hy,fun x hx=>f.wT x (hp.mem_iff.2 hx)⟩
theorem zsw {l l':List ab} (hp:l'.Perm l) (eb:eE l l') (hs:gj l' 0 l.length):mU l' l'.length=jT l:=by
 have f:=zvY (l:=l') (by rw [hp.length_eq];exact hs) l'.length (Nat.le_refl _)
 rw [List.take_length] at f
 exact (f.over hp eb).is
end Go.Am
namespace Go.Am
theorem zjh:∀ {l:List ab} {row:List Value},row.length=l.length*11→(∀ (i:Nat) (x:ab),l[i]? = some x→cut row (i*11) 11=some x.cells)→row=aG l
 | [],row,hl,_=>by
  have:row=[]:=List.length_eq_zero_iff.1 (by simpa using hl)
  rw [this]
  rfl
 |x::l,row,hl,h=>by
  have h0:=h 0 x rfl
  have fT:row.length=l.length*11+11:=by rw [hl,List.length_cons];omega
  unfold cut at h0
  rw [if_pos (by omega)] at h0
  simp only [Nat.zero_mul,List.drop_zero,Option.some.injEq] at h0
  have hr:=zjh (l:=l) (row:=row.drop 11) (by rw [List.length_drop];omega) (fun i y hy=>by
   have hi:=(List.getElem?_eq_some_iff.1 hy).1
   have g:=h (i+1) y hy
   unfold cut at g ⊢
   rw [if_pos (by omega)] at g
   rw [if_pos (by rw [List.length_drop];omega),List.drop_drop,show 11+i*11=(i+1)*11 by omega]
   exact g)
  have e:row=row.take 11++row.drop 11:=(List.take_append_drop 11 row).symm
  rw [e,h0,hr]
  rfl
theorem pC (l m:List ab):aG (l++m)=aG l++aG m:=by unfold aG;rw [List.flatMap_append]
structure qA (h:Heap) (v:Value):Prop where
 sl:Sl aK.atom h v []
 no:v=.slice none 0 0∨∃ B o,v=.slice (some ⟨B,o,none⟩) 0 0
theorem qA.nil {h:Heap}:qA h (.slice none 0 0):=⟨Sl.nil,.inl rfl⟩
theorem qA.mono {h h':Heap} {v:Value} (f:qA h v) (i:cP h h'):qA h' v:=⟨f.sl.mono i,f.no⟩
theorem qA.lay {h:Heap} {v:Value} (f:qA h v) (bs:List bh) (w:Nat):qA (h.lay bs w) v:=⟨f.sl.lay bs w,f.no⟩
theorem qA.over {h1 h2:Heap} {v:Value} {bs:List bh} {w:Nat} (f:qA h1 v) (x:Ext (h1.lay bs w) h2):qA h2 v:=⟨f.sl.over x,f.no⟩
def eh (h0 h:Heap) (u:TypeId) (v:Value) (s:List ab):Prop :=
 (s=[]∧qA h v)∨∃ A t,v=.slice (some ⟨A,0,none⟩) s.length (G*11+(s++t).length)∧Holds h A (.row (aG (s++t)) u false)∧h0.size≤A∧(s++t).length≤100000
theorem eh.mono {h0 h h':Heap} {u:TypeId} {v:Value} {s:List ab} (f:eh h0 h u v s) (i:cP h h'):eh h0 h' u v s:=by
 rcases f with ⟨e,f⟩|⟨A,t,e1,e2,e3⟩
 ·exact .inl ⟨e,f.mono i⟩
 ·exact .inr ⟨A,t,e1,e2.mono i,e3⟩
theorem eh.down {h0 h1 h:Heap} {u:TypeId} {v:Value} {s:List ab} (f:eh h1 h u v s) (i:h0.size≤h1.size):eh h0 h u v s:=by
 rcases f with f|⟨A,t,e1,e2,e3,e4⟩
 ·exact .inl f
 ·exact .inr ⟨A,t,e1,e2,by omega,e4⟩
theorem eh.lay {h0 h:Heap} {u:TypeId} {v:Value} {s:List ab} (f:eh h0 h u v s) (bs:List bh) (w:Nat):eh h0 (h.lay bs w) u v s:=f.mono (cP.lay h bs w)
theorem E7:100000 < G:=by unfold G;omega
theorem zEq {h:Heap} {A o:Nat} {l s:List ab} {u:TypeId} {c:Nat} {ro:Bool} (q:Holds h A (.row (aG l) u ro)) (hc:zDK 11 s.length c) (hn:s.length≤100000) (hs:∀ (i:Nat) (x:ab),s[i]? = some x→l[o+i]? = some x):Sl aK.atom h (.slice (some ⟨A,o*11,none⟩) s.length c) s:=by
 refine .inr ⟨A,o*11,c,aG l,u,ro,rfl,(by have:(100000:Nat)≤maxLen:=by decide
                                         omega),hc,q.lt,q.get,fun i x hx=>⟨x.cells,?_,rfl⟩⟩
 show cut (aG l) (o*11+i*11) 11=_
 rw [← Nat.add_mul]
 exact zqx (hs i x hx)
theorem eh.sl {h0 h:Heap} {u:TypeId} {v:Value} {s:List ab} (f:eh h0 h u v s):Sl aK.atom h v s:=by
 rcases f with ⟨rfl,f⟩|⟨A,t,rfl,e2,e3,e4⟩
 ·exact f.sl
 ·have hG:=E7
  obtain ⟨d1,d2,d3⟩:=Bo (k:=11) (q:=(s++t).length) (by decide) (by omega)
  have hle:s.length≤(s++t).length:=by rw [List.length_append];omega
  have:=zEq (o:=0) (s:=s) e2 (.inr ⟨d1,d2,by rw [d3];omega⟩) (by omega) (fun i x hx=>by rw [Nat.zero_add,List.getElem?_append_left (List.getElem?_eq_some_iff.1 hx).1];exact hx)
  simpa using this
def wE (h0 h:Heap) (u:TypeId) (v:Value) (s:List ab):Prop :=
 (s=[]∧qA h v)∨∃ A,v=.slice (some ⟨A,0,none⟩) s.length (G*11+s.length)∧Holds h A (.row (aG s) u false)∧h0.size≤A∧s≠[]
theorem wE.own {h0 h:Heap} {u:TypeId} {v:Value} {s:List ab} (f:wE h0 h u v s) (hn:s.length≤100000):eh h0 h u v s:=by
 rcases f with f|⟨A,e1,e2,e3,e4⟩
 ·exact .inl f
 ·exact .inr ⟨A,[],by rw [List.append_nil];exact e1,by rw [List.append_nil];exact e2,e3,by rw [List.append_nil];exact hn⟩
theorem zuu {h0 h:Heap} {u:TypeId} {A:Nat} {v:Value} {l:List ab} (f:Ow aK.atom h0 h u A v l):wE h0 h u v l:=by
 rcases f with ⟨e1,rfl,e3⟩|⟨row,rfl,e2,e3,e4,e5,e6,e7,e8⟩
 ·refine .inl ⟨rfl,?_,?_⟩
  ·have f2:Ow aK.atom h0 h u A v []:=.inl ⟨e1,rfl,e3⟩
   exact f2.sl (by decide)
  ·rcases e3 with e3|⟨B,o,e3,_⟩
   ·exact .inl e3
   ·exact .inr ⟨B,o,e3⟩
 ·refine .inr ⟨A,rfl,⟨e4,?_⟩,e3,e2⟩
  have:row=aG l:=zjh e6 (fun i x hx=>by
   obtain ⟨cs,g1,g2⟩:=e8 i x hx
   have g2:cs=x.cells:=g2
   rw [← g2]
   exact g1)
  rw [← this]
  exact e5
section
variable {P:Program} {T:bD} {ov:Ov} {d:Option Tmp} {ty:TypeId} {pos:String} {af:Array Edge} {g:Option (Nat × Bool)} {e:Env} {h:Heap} {K:Value→Heap→Prop}
theorem zv4 (t:TypeId) (x:Operand):bY P T ov ⟨d,.call ⟨.builtin .clear,#[x],#[t]⟩,ty,pos,af,g⟩ e h K=gv (nP T t (aZ e x) h) K:=by
 show bW ((nP T t (aZ e x) h).map fun h'=>(undef,h')) K=_
 cases nP T t (aZ e x) h <;> rfl
theorem Y8 {T:bD} {t u:TypeId} {A n q i:Nat} {kd:IntKind} (hd:T.desc t=some (.slice u)) (hs:bO T u=some 11) (hi:i≤n) (hn:n≤q) (hq:q≤100000):kf T t (.slice (some ⟨A,0,none⟩) n (G*11+q)) (some (.int kd i)) none none=some (.slice (some ⟨A,i*11,none⟩) (n - i) (G*11+(q - i))):=by
 have hG:=E7
 obtain ⟨d1,d2,d3⟩:=Bo (k:=11) (q:=q) (by decide) (by omega)
 unfold kf
 simp only [hd,hs,Option.bind_some,if_neg (show ¬ G*11+q < G by omega),if_pos d2]
 rw [d3,L5 (gB.num kd 0 i) (gB.no n) hi hn,Option.map_some,Nat.zero_add]
theorem zup {T:bD} {t u:TypeId} {A n q i:Nat} {kd:IntKind} (hd:T.desc t=some (.slice u)) (hs:bO T u=some 11) (hi:i≤n) (hn:n≤q) (hq:q≤100000):kf T t (.slice (some ⟨A,0,none⟩) n (G*11+q)) none (some (.int kd i)) none=some (.slice (some ⟨A,0,none⟩) i (G*11+q)):=by
 have hG:=E7
 obtain ⟨d1,d2,d3⟩:=Bo (k:=11) (q:=q) (by decide) (by omega)
 unfold kf
 simp only [hd,hs,Option.bind_some,if_neg (show ¬ G*11+q < G by omega),if_pos d2]
 rw [d3,L5 (gB.no 0) (gB.num kd n i) (Nat.zero_le _) (by omega),Option.map_some]
 simp
theorem zoc (n:Nat):jo ah.cells n=aG (List.replicate n ah):=by
 unfold jo aG
 rw [List.flatMap_def,List.map_replicate]
theorem zuF {l:List ab} {i:Nat} (hi:i≤l.length):ay (aG l) (i*11) (aG (List.replicate (l.length - i) ah))=aG (l.take i++List.replicate (l.length - i) ah):=by
 have e:l=l.take i++l.drop i:=(List.take_append_drop i l).symm
 have h1:(aG (l.take i)).length=i*11:=by rw [lR,List.length_take];congr 1;omega
 have h2:(aG (List.replicate (l.length - i) ah)).length=(l.length - i)*11:=by rw [lR,List.length_replicate]
 have h3:(aG l).length=l.length*11:=lR l
 unfold ay
 rw [pC,List.drop_of_length_le (by rw [h2,h3];omega),List.append_nil]
 congr 1
 conv=>lhs;rw [e]
 rw [pC,List.take_left' h1]
theorem zq2 {T:bD} {t u:TypeId} {A i n c:Nat} {l:List ab} {h1:Heap} {bs:List bh} {w k bytes:Nat} (q:Holds h1 A (.row (aG l) u false)) (hd:T.desc t=some (.slice u)) (hi:T.info u=some (k,bytes,ah.cells)) (hle:i≤l.length) (hn:n=l.length - i)
 (hK:∀ h',Holds h' A (.row (aG (l.take i++List.replicate (l.length - i) ah)) u false)→fK A (h1.lay bs w) h'→K undef h'):gv (nP T t (.slice (some ⟨A,i*11,none⟩) n c) (h1.lay bs w)) K:=by
 subst hn
 by_cases h0:l.length - i=0
 ·have e:nP T t (.slice (some ⟨A,i*11,none⟩) (l.length - i) c) (h1.lay bs w)=some (h1.lay bs w):=by
   unfold nP
   simp only [hd,if_pos h0]
  rw [e]
  refine hK _ ?_ (Ext.refl _).ku
  rw [h0,List.replicate_zero,List.append_nil,List.take_of_length_le (by omega)]
  exact q.on bs w
 ·have hg:(h1.lay bs w).get A=some (.row (aG l) u false):=q.lay bs w
  have hA:A < (h1.lay bs w).size:=(q.on bs w).lt
  have bw:(aG (List.replicate (l.length - i) ah)).all one=true:=by
   rw [List.all_eq_true]
   intro x hx
   unfold aG at hx
   obtain ⟨y,hy,DQ⟩:=List.mem_flatMap.1 hx
   have:=(List.mem_replicate.1 hy).2
   subst this
   exact List.all_eq_true.1 (by rfl:ah.cells.all one=true) x DQ
  have e:nP T t (.slice (some ⟨A,i*11,none⟩) (l.length - i) c) (h1.lay bs w)=some ((h1.lay bs w).set A (.row (aG (l.take i++List.replicate (l.length - i) ah)) u false)):=by
   unfold nP
   simp only [hd,if_neg h0,hi,Option.bind_some]
   unfold kW
   rw [hg]
   simp only
   rw [zoc,if_pos (by simp only [Bool.and_eq_true,decide_eq_true_eq];exact ⟨by rw [lR,lR,List.length_replicate];omega,bw⟩),zuF hle]
  rw [e]
  refine hK _ ⟨by rw [Heap.size_set];exact hA,by rw [Heap.aC _ _ _ _ hA,if_pos rfl]⟩ ⟨by rw [Heap.size_set];exact Nat.le_refl _,fun B hB aO=>by rw [Heap.aC _ _ _ _ hA,if_neg aO],by rw [Heap.bX];omega⟩
end
theorem ZD {h0 h:Heap} {u:TypeId} {A n c:Nat} {s t:List ab} (q:Holds h A (.row (aG (s++t)) u false)) (hA:h0.size≤A) (hn:(s++t).length≤100000) (hl:n=s.length) (hc:c=G*11+(s++t).length):eh h0 h u (.slice (some ⟨A,0,none⟩) n c) s:=by
 subst hl hc
 exact .inr ⟨A,t,rfl,q,hA,hn⟩
theorem Mn {h0 h:Heap} {u:TypeId} {A c:Nat} {s:List ab} (q:Holds h A (.row (aG s) u false)) (hA:h0.size≤A) (hn:s.length≤100000) (hc:c=G*11+s.length):eh h0 h u (.slice (some ⟨A,0,none⟩) s.length c) s :=
 ZD (t:=[]) (by rw [List.append_nil];exact q) hA (by rw [List.append_nil];exact hn) rfl (by rw [List.append_nil];exact hc)
theorem zpK {l:List ab} (h:l.length < 2):mU l l.length=l:=by
 match l,h with
 | [],_=>rfl
 | [x],_=>rfl
theorem zsv {l:List ab} {m:Nat} (hm:m < l.length) (h0:m≠0) (h:mU l m=l.take m) (aO:aM (l.getD m ah) (l.getD (m - 1) ah)≠0):mU l (m+1)=l.take (m+1):=by
 rw [Zm hm,← h]
 show mU l m++_=_
 rw [if_neg (fun g=>aO g.2)]
theorem zqG {l:List ab} {m:Nat} (h0:m≠0) (he:aM (l.getD m ah) (l.getD (m - 1) ah)=0):mU l (m+1)=mU l m:=by
 show mU l m++_=_
 rw [if_pos ⟨h0,he⟩,List.append_nil]
theorem zvX {l:List ab} {m:Nat} (aO:aM (l.getD m ah) (l.getD (m - 1) ah)≠0):mU l (m+1)=mU l m++[l.getD m ah]:=by
 show mU l m++_=_
 rw [if_neg (fun g=>aO g.2)]
theorem zAO {l:List ab} {i:Nat} {x:ab} (hi:i < l.length):(l.set i x).take (i+1)=l.take i++[x]:=by
 rw [List.take_add_one,List.getElem?_set,if_pos rfl,if_pos hi,List.take_set_of_le (Nat.le_refl _)]
 rfl
theorem zkZ {l:List ab} {i p:Nat} {x:ab} (h:i≠p):(l.set i x).getD p ah=l.getD p ah:=by
 rw [List.getD_eq_getElem?_getD,List.getD_eq_getElem?_getD,List.getElem?_set,if_neg h]
theorem MV {l:List ab} (h:∀ k,0 < k→k < l.length→aM (l.getD (k - 1) ah) (l.getD k ah) < 0) {i j:Nat} (dh:i < j) (hj:j < l.length):aM (l.getD i ah) (l.getD j ah) < 0:=by
 induction j with
 |zero=>omega
 |succ j ih =>
  have g:=h (j+1) (by omega) hj
  rw [Nat.add_sub_cancel] at g
  by_cases e:i=j
  ·subst e
   exact g
  ·exact LO (ih (by omega) (by omega)) g
theorem fb {l:List ab}:ez l↔∀ k,0 < k→k < l.length→aM (l.getD (k - 1) ah) (l.getD k ah) < 0:=by
 constructor
 ·intro h k h1 h2
  have:=List.pairwise_iff_getElem.1 h (k - 1) k (by omega) h2 (by omega)
  rw [List.getD_eq_getElem?_getD,List.getD_eq_getElem?_getD,List.getElem?_eq_getElem h2,List.getElem?_eq_getElem (show k - 1 < l.length by omega)]
  exact this
 ·intro h
  refine List.pairwise_iff_getElem.2 (fun i j hi hj dh=>?_)
  have:=MV h dh hj
  rw [List.getD_eq_getElem?_getD,List.getD_eq_getElem?_getD,List.getElem?_eq_getElem hj,List.getElem?_eq_getElem hi] at this
  exact this
def DV (l:List ab):Bool:=(List.range l.length).all (fun k=>k == 0 || decide (aM (l.getD (k - 1) ah) (l.getD k ah) < 0))
theorem jG {l:List ab}:DV l=true↔ez l:=by
 rw [fb]
 unfold DV
 rw [List.all_eq_true]
 constructor
 ·intro h k h1 h2
  have:=h k (List.mem_range.2 h2)
  simp only [Bool.or_eq_true,beq_iff_eq,decide_eq_true_eq] at this
  rcases this with e|e
  ·omega
  ·exact e
 ·intro h k hk
  simp only [Bool.or_eq_true,beq_iff_eq,decide_eq_true_eq]
  by_cases e:k=0
  ·exact .inl e
  ·exact .inr (h k (by omega) (List.mem_range.1 hk))
theorem zBk {l:List ab} (h:¬ ez l):DV l=false:=by
 cases e:DV l
 ·rfl
 ·exact absurd (jG.1 e) h
def bV (l:List ab) (a:ab):Bool:=l.any (fun x=>cO x == cO a)
theorem dm {l:List ab} {a:ab}:bV l a=true↔∃ x∈l,cO x=cO a:=by
 unfold bV
 rw [List.any_eq_true]
 simp only [beq_iff_eq]
theorem OW (l:List ab) (a:ab):bV (jT l) a=bV l a:=by
 have f:=vl l
 rw [Bool.eq_iff_iff,dm,dm]
 constructor
 ·rintro ⟨x,hx,e⟩
  exact ⟨x,f.mem hx,e⟩
 ·rintro ⟨x,hx,e⟩
  obtain ⟨y,hy,e2⟩:=f.wT x hx
  exact ⟨y,hy,e2.trans e⟩
theorem zjm {l:List ab} (h:∀ x∈l,x.ba=true):∀ x∈jT l,x.ba=true:=fun x hx=>h x ((vl l).mem hx)
theorem zjc (a:ab):∀ s:List ab,(cB a s).length≤s.length+1
 | []=>by simp [cB]
 |x::r=>by
  have:=zjc a r
  unfold cB
  repeat' split
  all_goals simp only [List.length_cons]
  all_goals omega
theorem zeV:∀ (m s:List ab),(m.foldl (fun s a=>cB a s) s).length≤s.length+m.length
 | [],s=>by simp
 |a::m,s=>by
  have h1:=zeV m (cB a s)
  have h2:=zjc a s
  simp only [List.foldl_cons,List.length_cons]
  omega
theorem YM (l:List ab):(jT l).length≤l.length:=by
 have:=zeV l []
 simpa [jT] using this
structure eG (l:List ab) (a:ab) (i:Nat):Prop where
 le:i≤l.length
 lo:∀ k,k < i→aM (l.getD k ah) a < 0
 hi:∀ k,i≤k→k < l.length→¬ aM (l.getD k ah) a < 0
theorem eG.has {l:List ab} {a:ab} {i:Nat} (p:eG l a i) (hs:ez l):bV l a=true↔i < l.length∧aM (l.getD i ah) a=0:=by
 rw [dm]
 constructor
 ·rintro ⟨x,hx,e⟩
  obtain ⟨k,hk⟩:=List.getElem?_of_mem hx
  have kU:=(List.getElem?_eq_some_iff.1 hk).1
  have e2:l.getD k ah=x:=by rw [List.getD_eq_getElem?_getD,hk];rfl
  have h0:aM (l.getD k ah) a=0:=by rw [e2];exact cG.2 e
  have rL:i≤k:=by
   rcases Nat.lt_or_ge k i with g|g
   ·have:=p.lo k g;omega
   ·exact g
  refine ⟨by omega,?_⟩
  rcases Nat.eq_or_lt_of_le rL with g|g
  ·rw [g];exact h0
  ·have h1:=MV (fb.1 hs) g kU
   have h2:=p.hi i (Nat.le_refl _) (by omega)
   have h3:=L6 h1 (Int.le_of_eq h0)
   exact absurd h3 h2
 ·rintro ⟨h1,h2⟩
  exact ⟨_,List.mem_of_getElem? (iP h1),cG.1 h2⟩
theorem zze {l:List ab} {i n:Nat} (hi:i+n≤l.length):ay (aG l) (i*11) (aG (List.replicate n ah))=aG (l.take i++(List.replicate n ah++l.drop (i+n))):=by
 have e:l=l.take i++l.drop i:=(List.take_append_drop i l).symm
 have h1:(aG (l.take i)).length=i*11:=by rw [lR,List.length_take];congr 1;omega
 have e2:l=l.take (i+n)++l.drop (i+n):=(List.take_append_drop (i+n) l).symm
 have h2:(aG (l.take (i+n))).length=i*11+(aG (List.replicate n ah)).length:=by rw [lR,lR,List.length_take,List.length_replicate,← Nat.add_mul];congr 1;omega
 unfold ay
 have f1:(aG l).take (i*11)=aG (l.take i):=by
  conv=>lhs;rw [e]
  rw [pC,List.take_left' h1]
 have f2:(aG l).drop (i*11+(aG (List.replicate n ah)).length)=aG (l.drop (i+n)):=by
  conv=>lhs;rw [e2]
  rw [pC,List.drop_left' h2]
 rw [f1,f2,pC,pC,List.append_assoc]
theorem zs5 {T:bD} {t u:TypeId} {A i n c:Nat} {l:List ab} {h1:Heap} {bs:List bh} {w k bytes:Nat} {K:Value→Heap→Prop} (q:Holds h1 A (.row (aG l) u false)) (hd:T.desc t=some (.slice u)) (hi:T.info u=some (k,bytes,ah.cells)) (hle:i+n≤l.length)
 (hK:∀ h',Holds h' A (.row (aG (l.take i++(List.replicate n ah++l.drop (i+n)))) u false)→fK A (h1.lay bs w) h'→K undef h'):gv (nP T t (.slice (some ⟨A,i*11,none⟩) n c) (h1.lay bs w)) K:=by
 by_cases h0:n=0
 ·subst h0
  have e:nP T t (.slice (some ⟨A,i*11,none⟩) 0 c) (h1.lay bs w)=some (h1.lay bs w):=by
   unfold nP
   simp only [hd,if_true]
  rw [e]
  refine hK _ ?_ (Ext.refl _).ku
  rw [List.replicate_zero,List.nil_append,Nat.add_zero,List.take_append_drop]
  exact q.on bs w
 ·have hg:(h1.lay bs w).get A=some (.row (aG l) u false):=q.lay bs w
  have hA:A < (h1.lay bs w).size:=(q.on bs w).lt
  have bw:(aG (List.replicate n ah)).all one=true:=by
   rw [List.all_eq_true]
   intro x hx
   unfold aG at hx
   obtain ⟨y,hy,DQ⟩:=List.mem_flatMap.1 hx
   have:=(List.mem_replicate.1 hy).2
   subst this
   exact List.all_eq_true.1 (by rfl:ah.cells.all one=true) x DQ
  have e:nP T t (.slice (some ⟨A,i*11,none⟩) n c) (h1.lay bs w)=some ((h1.lay bs w).set A (.row (aG (l.take i++(List.replicate n ah++l.drop (i+n)))) u false)):=by
   unfold nP
   simp only [hd,if_neg h0,hi,Option.bind_some]
   unfold kW
   rw [hg]
   simp only
   rw [zoc,if_pos (by simp only [Bool.and_eq_true,decide_eq_true_eq];exact ⟨by rw [lR,lR,List.length_replicate];omega,bw⟩),zze hle]
  rw [e]
  refine hK _ ⟨by rw [Heap.size_set];exact hA,by rw [Heap.aC _ _ _ _ hA,if_pos rfl]⟩ ⟨by rw [Heap.size_set];exact Nat.le_refl _,fun B hB aO=>by rw [Heap.aC _ _ _ _ hA,if_neg aO],by rw [Heap.bX];omega⟩
abbrev aK.atoms:aK (List ab) :=
 { k:=1,R:=fun h cs x=>∃ v,cs=[v]∧Sl aK.atom h v x
   len:=by rintro h cs x ⟨v,rfl,_⟩;rfl
   mono:=by rintro h h' cs x i ⟨v,e,f⟩;exact ⟨v,e,f.mono i⟩
   gK:=by rintro h cs x ⟨v,rfl,f⟩;have:=f.one;simp only [List.all_cons,List.all_nil,this];rfl }
end Go.Am

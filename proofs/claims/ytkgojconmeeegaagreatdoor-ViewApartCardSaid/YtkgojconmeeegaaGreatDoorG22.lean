/- What a node of a function's code is to its walk: parts of a code by their places; statements for simp. No condition. -/
import Derived.Test.YtkgojconmeeegaaGreatDoorG16
set_option linter.unusedVariables false
namespace Go.Am
def qM:Code→Array Oper
 | .region _ a _=>a
 |_=>#[]
def pE (A:Array Oper) (n:Nat):List Oper:=A.toList.drop n
theorem adU (K:Code) (A:Array Oper) {i:Nat} (hK:K=.region i A false:=by rfl) (P:Program) (T:bK) (ov:Ov):∀ (rd:Option Nat) (e:Env) (h:Heap) (Q:Ex→Env→Heap→Prop),W P T ov rd K e h Q=dh P T ov A (pE A 0) e h (Ym Q):=by
 subst hK
 intro rd e h Q
 rfl
theorem Ph (A:Array Oper) (n:Nat) (hn:pE A n=[]:=by rfl) (P:Program) (T:bK) (ov:Ov):∀ (e:Env) (h:Heap) (Q:Env→Heap→Prop),dh P T ov A (pE A n) e h Q=Q e h:=by
 intro e h Q
 rw [hn]
 rfl
theorem adG (A:Array Oper) (n:Nat) (hn:pE A n=[]:=by rfl) (P:Program) (T:bK) (ov:Ov):∀ (b j:Nat) (e:Env) (h:Heap) (Q:Env→Heap→Prop),cx P T ov b A (pE A n) j e h Q=Q e h:=by
 intro b j e h Q
 rw [hn]
 rfl
theorem Cv (K A B:Code) (hK:K=.seq A B:=by rfl) (P:Program) (T:bK) (ov:Ov):∀ (rd:Option Nat) (e:Env) (h:Heap) (Q:Ex→Env→Heap→Prop),W P T ov rd K e h Q=W P T ov rd A e h (Ky P T ov rd B Q):=by
 subst hK
 intro rd e h Q
 exact OP _ _ _ _ _
theorem OR (K A B:Code) {o:Operand} (hK:K=.cond o A B:=by rfl) (P:Program) (T:bK) (ov:Ov):∀ (rd:Option Nat) (e:Env) (h:Heap) (Q:Ex→Env→Heap→Prop),W P T ov rd K e h Q=HQ P T ov rd A B e h Q (bn e o):=by
 subst hK
 intro rd e h Q
 rfl
theorem ZD (K A:Code) {i:Nat} (hK:K=.block i A:=by rfl) (P:Program) (T:bK) (ov:Ov):∀ (rd:Option Nat) (e:Env) (h:Heap) (Q:Ex→Env→Heap→Prop),W P T ov rd K e h Q=W P T ov rd A e h (Ez i Q):=by
 subst hK
 intro rd e h Q
 exact zum _ _ _ _ _
theorem zNz (K A:Code) (hK:K=.loop A:=by rfl) (P:Program) (T:bK) (ov:Ov):∀ (rd:Option Nat) (e:Env) (h:Heap) (Q:Ex→Env→Heap→Prop),W P T ov rd K e h Q=W P T ov rd (.loop A) e h Q:=by
 subst hK
 intro rd e h Q
 rfl
theorem zH8 (K A:Code) (hK:K=.scope A:=by rfl) (P:Program) (T:bK) (ov:Ov):∀ (rd:Option Nat) (e:Env) (h:Heap) (Q:Ex→Env→Heap→Prop),W P T ov rd K e h Q=W P T ov rd A e h Q:=by
 subst hK
 intro rd e h Q
 rfl
theorem Jo (K:Code) {i:Nat} (hK:K=.exit i:=by rfl) (P:Program) (T:bK) (ov:Ov):∀ (rd:Option Nat) (e:Env) (h:Heap) (Q:Ex→Env→Heap→Prop),W P T ov rd K e h Q=Q (.exit i) e h:=by
 subst hK
 intro rd e h Q
 rfl
theorem adV (K:Code) (hK:K=.ret:=by rfl) (P:Program) (T:bK) (ov:Ov):∀ (rd:Option Nat) (e:Env) (h:Heap) (Q:Ex→Env→Heap→Prop),W P T ov rd K e h Q=Q .ret e h:=by
 subst hK
 intro rd e h Q
 rfl
theorem zNF (K:Code) (hK:K=.skip:=by rfl) (P:Program) (T:bK) (ov:Ov):∀ (rd:Option Nat) (e:Env) (h:Heap) (Q:Ex→Env→Heap→Prop),W P T ov rd K e h Q=Q .normal e h:=by
 subst hK
 intro rd e h Q
 rfl
theorem zHR (K:Code) {i:Nat} (hK:K=.label i:=by rfl) (P:Program) (T:bK) (ov:Ov):∀ (rd:Option Nat) (e:Env) (h:Heap) (Q:Ex→Env→Heap→Prop),W P T ov rd K e h Q=Q .normal e h:=by
 subst hK
 intro rd e h Q
 rfl
abbrev Js (K:Code) (A:Array Oper):Prop:=∀ {P:Program} {T:bK} {ov:Ov} {rd:Option Nat} {e:Env} {h0 h:Heap} {Q:Ex→Env→Heap→Prop},Ext h0 h→cx P T ov (min h0.low h0.size) A (pE A 0) 0 e h (fun e' h1=>EW h0 h1∧MN h0 Q e' h1)→W P T ov rd K e h Q
theorem zLI {K:Code} {A:Array Oper} {i:Nat} (hK:K=.region i A true) (ht:CG A (nh A.toList [])=true):Js K A:=by
 subst hK
 intro P T ov rd e h0 h Q z hw
 exact zET (ops:=A.toList) z ht hw
theorem nd {p q:Prop} (h:p) (g:q):p∧q:=⟨h,g⟩
end Go.Am
namespace Go.Am
def bg:Code→Nat
 | .seq a b=>bg a+bg b+1
 | .cond _ a b=>bg a+bg b+1
 | .block _ a=>bg a+1
 | .loop a=>bg a+1
 | .scope a=>bg a+1
 | .rangeFunc _ _ a b=>bg a+bg b+1
 |_=>1
def jh:Code→Nat→Code
 | .seq a b,n=>if n=0 then .seq a b else if n≤bg a then jh a (n - 1) else jh b (n - 1 - bg a)
 | .cond o a b,n=>if n=0 then .cond o a b else if n≤bg a then jh a (n - 1) else jh b (n - 1 - bg a)
 | .block i a,n=>if n=0 then .block i a else jh a (n - 1)
 | .loop a,n=>if n=0 then .loop a else jh a (n - 1)
 | .scope a,n=>if n=0 then .scope a else jh a (n - 1)
 | .rangeFunc g ps a b,n=>if n=0 then .rangeFunc g ps a b else if n≤bg a then jh a (n - 1) else jh b (n - 1 - bg a)
 |c,_=>c
def codeOf (f:Func):Code:=f.body.getD .skip
def bA (f:Func):Nat→Code:=jh (codeOf f)
theorem Ni (c:Code):jh c 0=c:=by cases c <;> rfl
def nF:List Oper→Nat→Option Tmp
 | [],_=>none
 |o::_,0=>o.dst
 |_::l,j+1=>nF l j
theorem zFL (l:List Oper) (j:Nat):nF l j=(l[j]?).bind (·.dst):=by
 induction l generalizing j with
 |nil=>rfl
 |cons o l ih=>cases j with
  |zero=>rfl
  |succ j=>exact ih j
def qQ (L:List Oper) (e:Env):Option (Nat × Bool)→Bool
 |none=>true
 |some (j,g)=>Dc (e.get ((nF L j).getD 0)) g
def Sc (L:List Oper) (o:Oper):Bool:=match o.guard with
 |none=>true
 |some (j,_)=>(nF L j).isSome
theorem zsa {A:Array Oper} {o:Oper} (h:Sc A.toList o=true) (e:Env):ma A o e=qQ A.toList e o.guard:=by
 unfold Sc at h
 unfold ma
 cases hg:o.guard with
 |none=>rfl
 |some p =>
  obtain ⟨j,g⟩:=p
  rw [hg] at h
  have e1:A[j]? = A.toList[j]? := by simp
  have h2:(nF A.toList j).isSome=true:=h
  show _=Dc (e.get ((nF A.toList j).getD 0)) g
  simp only [e1,← zFL]
  cases hd:nF A.toList j with
  |none=>rw [hd] at h2;cases h2
  |some t=>rfl
def XI:Code→Bool
 | .region _ A true=>CG A (nh A.toList [])
 |_=>false
theorem dH {K:Code} (hd:XI K=true):Js K (qM K):=by
 unfold XI at hd
 split at hd
 ·rename_i i A
  exact zLI rfl hd
 ·cases hd
def rA:Code→Bool
 | .seq a b=>rA a && rA b
 | .cond _ a b=>rA a && rA b
 | .block _ a=>rA a
 | .loop a=>rA a
 | .scope a=>rA a
 | .rangeFunc _ _ a b=>rA a && rA b
 | .region i A d=>A.toList.all (Sc A.toList) && (!d || XI (.region i A d))
 |_=>true
def xF (A:Array Oper) (L:List Oper):List Oper→Nat→Prop
 | [],n=>∀ (P:Program) (T:bK) (ov:Ov) (e:Env) (h:Heap) (Q:Env→Heap→Prop),dh P T ov A (pE A n) e h Q=Q e h
 |o::l,n=>(∀ (P:Program) (T:bK) (ov:Ov) (e:Env) (h:Heap) (Q:Env→Heap→Prop),dh P T ov A (pE A n) e h Q=XF P T ov A o (pE A (n+1)) o.dst e h Q (qQ L e o.guard))∧xF A L l (n+1)
def xG (A:Array Oper) (L:List Oper):List Oper→Nat→Prop
 | [],n=>∀ (P:Program) (T:bK) (ov:Ov) (b j:Nat) (e:Env) (h:Heap) (Q:Env→Heap→Prop),cx P T ov b A (pE A n) j e h Q=Q e h
 |o::l,n=>(∀ (P:Program) (T:bK) (ov:Ov) (b:Nat) (e:Env) (h:Heap) (Q:Env→Heap→Prop),cx P T ov b A (pE A n) n e h Q=RX P T ov b A o (pE A (n+1)) n o.dst e h Q (qQ L e o.guard) (iy o))∧xG A L l (n+1)
def cH (N:Nat→Code):Code→Nat→Prop
 | .seq a b,n=>(∀ (P:Program) (T:bK) (ov:Ov) (rd:Option Nat) (e:Env) (h:Heap) (Q:Ex→Env→Heap→Prop),W P T ov rd (N n) e h Q=W P T ov rd (N (n+1)) e h (Ky P T ov rd (N (n+1+bg a)) Q))∧cH N a (n+1)∧cH N b (n+1+bg a)
 | .cond o a b,n=>(∀ (P:Program) (T:bK) (ov:Ov) (rd:Option Nat) (e:Env) (h:Heap) (Q:Ex→Env→Heap→Prop),W P T ov rd (N n) e h Q=HQ P T ov rd (N (n+1)) (N (n+1+bg a)) e h Q (bn e o))∧cH N a (n+1)∧cH N b (n+1+bg a)
 | .block i a,n=>(∀ (P:Program) (T:bK) (ov:Ov) (rd:Option Nat) (e:Env) (h:Heap) (Q:Ex→Env→Heap→Prop),W P T ov rd (N n) e h Q=W P T ov rd (N (n+1)) e h (Ez i Q))∧cH N a (n+1)
 | .loop a,n=>(∀ (P:Program) (T:bK) (ov:Ov) (rd:Option Nat) (e:Env) (h:Heap) (Q:Ex→Env→Heap→Prop),W P T ov rd (N n) e h Q=W P T ov rd (.loop (N (n+1))) e h Q)∧cH N a (n+1)
 | .scope a,n=>(∀ (P:Program) (T:bK) (ov:Ov) (rd:Option Nat) (e:Env) (h:Heap) (Q:Ex→Env→Heap→Prop),W P T ov rd (N n) e h Q=W P T ov rd (N (n+1)) e h Q)∧cH N a (n+1)
 | .rangeFunc g ps a b,n=>(∀ (P:Program) (T:bK) (ov:Ov) (rd:Option Nat) (e:Env) (h:Heap) (Q:Ex→Env→Heap→Prop),W P T ov rd (N n) e h Q=ze P T ov rd (bn e g) ps.toList (N (n+1)) (N (n+1+bg a)) e h Q)∧cH N a (n+1)∧cH N b (n+1+bg a)
 | .region i A false,n=>(∀ (P:Program) (T:bK) (ov:Ov) (rd:Option Nat) (e:Env) (h:Heap) (Q:Ex→Env→Heap→Prop),W P T ov rd (N n) e h Q=dh P T ov (qM (N n)) (pE (qM (N n)) 0) e h (Ym Q))∧xF (qM (N n)) A.toList A.toList 0
 | .region i A true,n=>XI (N n)=true∧xG (qM (N n)) A.toList A.toList 0
 | .exit i,n=>∀ (P:Program) (T:bK) (ov:Ov) (rd:Option Nat) (e:Env) (h:Heap) (Q:Ex→Env→Heap→Prop),W P T ov rd (N n) e h Q=Q (.exit i) e h
 | .ret,n=>∀ (P:Program) (T:bK) (ov:Ov) (rd:Option Nat) (e:Env) (h:Heap) (Q:Ex→Env→Heap→Prop),W P T ov rd (N n) e h Q=Q .ret e h
 | .skip,n=>∀ (P:Program) (T:bK) (ov:Ov) (rd:Option Nat) (e:Env) (h:Heap) (Q:Ex→Env→Heap→Prop),W P T ov rd (N n) e h Q=Q .normal e h
 | .label _,n=>∀ (P:Program) (T:bK) (ov:Ov) (rd:Option Nat) (e:Env) (h:Heap) (Q:Ex→Env→Heap→Prop),W P T ov rd (N n) e h Q=Q .normal e h
 |_,_=>True
theorem zrO (A:Array Oper) (h:∀ o∈A.toList,Sc A.toList o=true):∀ (l:List Oper) (n:Nat),pE A n=l→(∀ o∈l,o∈A.toList)→xF A A.toList l n
 | [],n,hl,_=>Ph A n hl
 |o::l,n,hl,hm=>by
  have hU:pE A (n+1)=l:=by
   unfold pE at hl ⊢
   have:=congrArg (List.drop 1) hl
   rw [List.drop_drop] at this
   exact this
  refine ⟨fun P T ov e h' Q=>?_,zrO A h l (n+1) hU (fun x hx=>hm x (List.mem_cons_of_mem _ hx))⟩
  rw [hl,hU,zsd,zsa (h o (hm o (List.mem_cons_self ..)))]
theorem zrP (A:Array Oper) (h:∀ o∈A.toList,Sc A.toList o=true):∀ (l:List Oper) (n:Nat),pE A n=l→(∀ o∈l,o∈A.toList)→xG A A.toList l n
 | [],n,hl,_=>adG A n hl
 |o::l,n,hl,hm=>by
  have hU:pE A (n+1)=l:=by
   unfold pE at hl ⊢
   have:=congrArg (List.drop 1) hl
   rw [List.drop_drop] at this
   exact this
  refine ⟨fun P T ov b e h' Q=>?_,zrP A h l (n+1) hU (fun x hx=>hm x (List.mem_cons_of_mem _ hx))⟩
  rw [hl,hU,zpr,zsa (h o (hm o (List.mem_cons_self ..)))]
theorem Uc {N:Nat→Code} {a b x:Code} {n:Nat} (h:∀ k,k < bg a+bg b+1→N (n+k)=jh x k) (ha:∀ k,0 < k→k≤bg a→jh x k=jh a (k - 1)) (hb:∀ k,bg a < k→jh x k=jh b (k - 1 - bg a)) (pa:0 < bg a) (pb:0 < bg b) :
 N (n+1)=a∧N (n+1+bg a)=b∧(∀ k,k < bg a→N (n+1+k)=jh a k)∧∀ k,k < bg b→N (n+1+bg a+k)=jh b k:=by
 have h1:∀ k,k < bg a→N (n+1+k)=jh a k:=fun k hk=>by
  rw [show n+1+k=n+(k+1) by omega,h _ (by omega),ha _ (by omega) (by omega),Nat.add_sub_cancel]
 have h2:∀ k,k < bg b→N (n+1+bg a+k)=jh b k:=fun k hk=>by
  rw [show n+1+bg a+k=n+(k+1+bg a) by omega,h _ (by omega),hb _ (by omega)]
  congr 1
  omega
 have h3:=h1 0 pa
 have h4:=h2 0 pb
 rw [Ni] at h3 h4
 exact ⟨h3,h4,h1,h2⟩
theorem pz (c:Code):0 < bg c:=by cases c <;> simp [bg]
theorem Uq {N:Nat→Code} {a x:Code} {n:Nat} (h:∀ k,k < bg a+1→N (n+k)=jh x k) (ha:∀ k,0 < k→jh x k=jh a (k - 1)):N (n+1)=a∧∀ k,k < bg a→N (n+1+k)=jh a k:=by
 have h1:∀ k,k < bg a→N (n+1+k)=jh a k:=fun k hk=>by
  rw [show n+1+k=n+(k+1) by omega,h _ (by omega),ha _ (by omega),Nat.add_sub_cancel]
 have h3:=h1 0 (pz a)
 rw [Ni] at h3
 exact ⟨h3,h1⟩
theorem yS (N:Nat→Code):∀ (c:Code) (n:Nat),rA c=true→(∀ k,k < bg c→N (n+k)=jh c k)→cH N c n
 | .seq a b,n,hw,h=>by
  have h0:N n=.seq a b:=h 0 (pz _)
  simp only [rA,Bool.and_eq_true] at hw
  obtain ⟨e1,e2,f1,f2⟩:=Uc (a:=a) (b:=b) h (fun k h1 h2=>by simp only [jh];rw [if_neg (by omega),if_pos h2]) (fun k h1=>by simp only [jh];rw [if_neg (by omega),if_neg (by omega)]) (pz _) (pz _)
  exact ⟨fun P T ov=>by rw [e1,e2];exact Cv _ a b h0 P T ov,yS N a _ hw.1 f1,yS N b _ hw.2 f2⟩
 | .cond o a b,n,hw,h=>by
  have h0:N n=.cond o a b:=h 0 (pz _)
  simp only [rA,Bool.and_eq_true] at hw
  obtain ⟨e1,e2,f1,f2⟩:=Uc (a:=a) (b:=b) h (fun k h1 h2=>by simp only [jh];rw [if_neg (by omega),if_pos h2]) (fun k h1=>by simp only [jh];rw [if_neg (by omega),if_neg (by omega)]) (pz _) (pz _)
  exact ⟨fun P T ov=>by rw [e1,e2];exact OR _ a b h0 P T ov,yS N a _ hw.1 f1,yS N b _ hw.2 f2⟩
 | .rangeFunc g ps a b,n,hw,h=>by
  have h0:N n=.rangeFunc g ps a b:=h 0 (pz _)
  simp only [rA,Bool.and_eq_true] at hw
  obtain ⟨e1,e2,f1,f2⟩:=Uc (a:=a) (b:=b) h (fun k h1 h2=>by simp only [jh];rw [if_neg (by omega),if_pos h2]) (fun k h1=>by simp only [jh];rw [if_neg (by omega),if_neg (by omega)]) (pz _) (pz _)
  exact ⟨fun P T ov rd e h' Q=>by rw [e1,e2,h0];rfl,yS N a _ hw.1 f1,yS N b _ hw.2 f2⟩
 | .block i a,n,hw,h=>by
  have h0:N n=.block i a:=h 0 (pz _)
  obtain ⟨e1,f1⟩:=Uq (a:=a) h (fun k h1=>by simp only [jh];rw [if_neg (by omega)])
  exact ⟨fun P T ov=>by rw [e1];exact ZD _ a h0 P T ov,yS N a _ hw f1⟩
 | .loop a,n,hw,h=>by
  have h0:N n=.loop a:=h 0 (pz _)
  obtain ⟨e1,f1⟩:=Uq (a:=a) h (fun k h1=>by simp only [jh];rw [if_neg (by omega)])
  exact ⟨fun P T ov=>by rw [e1];exact zNz _ a h0 P T ov,yS N a _ hw f1⟩
 | .scope a,n,hw,h=>by
  have h0:N n=.scope a:=h 0 (pz _)
  obtain ⟨e1,f1⟩:=Uq (a:=a) h (fun k h1=>by simp only [jh];rw [if_neg (by omega)])
  exact ⟨fun P T ov=>by rw [e1];exact zH8 _ a h0 P T ov,yS N a _ hw f1⟩
 | .region i A false,n,hw,h=>by
  have h0:N n=.region i A false:=h 0 (pz _)
  have hr:qM (N n)=A:=by rw [h0];rfl
  simp only [rA,Bool.and_eq_true,List.all_eq_true] at hw
  refine ⟨fun P T ov=>?_,?_⟩
  ·rw [hr]
   exact adU _ A h0 P T ov
  ·rw [hr]
   exact zrO A hw.1 _ 0 rfl (fun o ho=>ho)
 | .region i A true,n,hw,h=>by
  have h0:N n=.region i A true:=h 0 (pz _)
  have hr:qM (N n)=A:=by rw [h0];rfl
  simp only [rA,Bool.and_eq_true,List.all_eq_true,Bool.not_true,Bool.false_or] at hw
  refine ⟨?_,?_⟩
  ·rw [h0]
   exact hw.2
  ·rw [hr]
   exact zrP A hw.1 _ 0 rfl (fun o ho=>ho)
 | .exit i,n,hw,h=>Jo _ (h 0 (pz _))
 | .ret,n,hw,h=>adV _ (h 0 (pz _))
 | .skip,n,hw,h=>zNF _ (h 0 (pz _))
 | .label l,n,hw,h=>zHR _ (h 0 (pz _))
 | .goto l,n,hw,h=>trivial
 | .refuse w,n,hw,h=>trivial
theorem bB (N:Nat→Code) (f:Func) (hN:N=bA f:=by rfl) (hw:rA (codeOf f)=true:=by kernel_rfl):cH N (codeOf f) 0 :=
 yS N _ 0 hw (fun k _=>by rw [hN,Nat.zero_add];rfl)
theorem br {f:Func} (N:Nat→Code) (hN:N=bA f:=by rfl) (h:f.body.isSome=true:=by rfl):f.body=some (N 0):=by
 rw [hN]
 unfold bA
 rw [Ni]
 unfold codeOf
 cases hb:f.body with
 |none=>rw [hb] at h;cases h
 |some c=>rfl
noncomputable def Eg:=PLift.up (And.intro @codeOf.eq_1 <| And.intro @cH.eq_1 <| And.intro @cH.eq_2 <| And.intro @cH.eq_3 <| And.intro @cH.eq_4 <| And.intro @cH.eq_5 <| And.intro @cH.eq_6 <| And.intro @cH.eq_7 <| And.intro @cH.eq_8 <| And.intro @cH.eq_9 <| And.intro @cH.eq_10 <| And.intro @cH.eq_11 <| And.intro @cH.eq_12 <| And.intro @cH.eq_13 <| And.intro @xF.eq_1 <| And.intro @xF.eq_2 <| And.intro @xG.eq_1 <| And.intro @xG.eq_2 <| And.intro @bg.eq_1 <| And.intro @bg.eq_2 <| And.intro @bg.eq_3 <| And.intro @bg.eq_4 <| And.intro @bg.eq_5 <| And.intro @bg.eq_6 <| And.intro @bg.eq_7 <| And.intro @qQ.eq_1 <| And.intro @qQ.eq_2 <| And.intro @nF.eq_1 <| And.intro @nF.eq_2 <| And.intro @nF.eq_3 <| And.intro @iy.eq_1 <| And.intro @Option.getD_some.{0} <| And.intro @List.append_eq.{0} <| And.intro @List.cons_append.{0} <| @List.nil_append.{0})
theorem aK:type_of% Eg.down:=Eg.down
end Go.Am

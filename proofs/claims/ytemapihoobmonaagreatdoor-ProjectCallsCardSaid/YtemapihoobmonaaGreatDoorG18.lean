/- Numbers, texts and atoms in bytes: what is read, what is written; operations on bits. No condition. -/
import Derived.Test.YtemapihoobmonaaGreatDoorG17
import Derived.Test.YtemapihoobmonaaGreatDoorG15
import Derived.Test.YtemapihoobmonaaGreatDoorG9
import Derived.Lib.Overlaps
import Derived.Lib.AppendZerosOnto
import Derived.Test.YtemapihoobmonaaGreatDoorG13
namespace Go.Am
open Go.Op
set_option linter.unusedVariables false
set_option linter.unusedSimpArgs false
/-! ### Operations on bits -/
section
variable {P:Program} {T:Tab} {t:TypeId}
theorem zgN {n:Int} (h0:0≤n) (h1:n < 18446744073709551616):IntKind.u64.wrap n=n:=by
  unfold IntKind.wrap
  have e:(2:Int) ^ IntKind.u64.bits=18446744073709551616:=by decide
  have e2:IntKind.u64.signed=false:=rfl
  rw [e,e2]
  simp only [Bool.false_and]
  rw [if_neg (by decide)]
  omega
theorem zgO {n:Int} (h0:0≤n) (h1:n < 4294967296):IntKind.u32.wrap n=n:=by
  unfold IntKind.wrap
  have e:(2:Int) ^ IntKind.u32.bits=4294967296:=by decide
  have e2:IntKind.u32.signed=false:=rfl
  rw [e,e2]
  simp only [Bool.false_and]
  rw [if_neg (by decide)]
  omega
theorem ziO {n:Int} (h0:0≤n) (h1:n < 256):IntKind.u8.wrap n=n:=by
  unfold IntKind.wrap
  have e:(2:Int) ^ IntKind.u8.bits=256:=by decide
  have e2:IntKind.u8.signed=false:=rfl
  rw [e,e2]
  simp only [Bool.false_and]
  rw [if_neg (by decide)]
  omega
theorem zfQ {op:BinOp} {k k2:IntKind} {a b:Int} {v:Value} (hf:zb5 op (.int k a) (.int k2 b)=none) (hp:zaF P (binOp op t (.int k a) (.int k2 b))=some v) (hv:plain v=true):binA P T op t (.int k a) (.int k2 b)=some v:=by
  have h1:((T.desc t).bind fun d=>zlD d (.int k a) (.int k2 b))=none:=by
    cases T.desc t with
    | none=>rfl
    | some d=>cases d <;> rfl
  unfold binA
  rw [hf]
  simp only [h1,hp]
  rw [if_pos (by rfl)]
  simp [hv]
theorem zdf {w:Nat} (a:Nat):BitVec.ofInt w (a:Int)=BitVec.ofNat w a:=BitVec.ofInt_natCast w a
theorem zrf {a b:Nat} (ha:a < 18446744073709551616) (hb:b < 18446744073709551616):binA P T .or t (.int .u64 a) (.int .u64 b)=some (.int .u64 ((a ||| b:Nat):Int)):=by
  refine zfQ rfl ?_ rfl
  have e:(BitVec.ofInt IntKind.u64.bits (a:Int) ||| BitVec.ofInt IntKind.u64.bits (b:Int)).toNat=a ||| b:=by
    rw [BitVec.toNat_or,zdf,zdf]
    show (BitVec.ofNat 64 a).toNat ||| (BitVec.ofNat 64 b).toNat=_
    rw [BitVec.toNat_ofNat,BitVec.toNat_ofNat,Nat.mod_eq_of_lt ha,Nat.mod_eq_of_lt hb]
  have hlt:a ||| b < 18446744073709551616:=Nat.or_lt_two_pow (n:=64) ha hb
  show zaF P (Pure.pure (Value.int .u64 (IntKind.u64.wrap ((BitVec.ofInt IntKind.u64.bits (a:Int) ||| BitVec.ofInt IntKind.u64.bits (b:Int)).toNat:Int))))=_
  rw [e,zgN (by omega) (by omega)]
  exact zco _
theorem zq9 {a b:Nat} (ha:a < 256) (hb:b < 256):binA P T .and t (.int .u8 a) (.int .u8 b)=some (.int .u8 ((a &&& b:Nat):Int)):=by
  refine zfQ rfl ?_ rfl
  have e:(BitVec.ofInt IntKind.u8.bits (a:Int) &&& BitVec.ofInt IntKind.u8.bits (b:Int)).toNat=a &&& b:=by
    rw [BitVec.toNat_and,zdf,zdf]
    show (BitVec.ofNat 8 a).toNat &&& (BitVec.ofNat 8 b).toNat=_
    rw [BitVec.toNat_ofNat,BitVec.toNat_ofNat,Nat.mod_eq_of_lt ha,Nat.mod_eq_of_lt hb]
  have hlt:a &&& b < 256:=Nat.lt_of_le_of_lt Nat.and_le_left ha
  show zaF P (Pure.pure (Value.int .u8 (IntKind.u8.wrap ((BitVec.ofInt IntKind.u8.bits (a:Int) &&& BitVec.ofInt IntKind.u8.bits (b:Int)).toNat:Int))))=_
  rw [e,ziO (by omega) (by omega)]
  exact zco _
theorem ztO {a b:Nat} (ha:a < 4294967296) (hb:b < 4294967296):binA P T .and t (.int .u32 a) (.int .u32 b)=some (.int .u32 ((a &&& b:Nat):Int)):=by
  refine zfQ rfl ?_ rfl
  have e:(BitVec.ofInt IntKind.u32.bits (a:Int) &&& BitVec.ofInt IntKind.u32.bits (b:Int)).toNat=a &&& b:=by
    rw [BitVec.toNat_and,zdf,zdf]
    show (BitVec.ofNat 32 a).toNat &&& (BitVec.ofNat 32 b).toNat=_
    rw [BitVec.toNat_ofNat,BitVec.toNat_ofNat,Nat.mod_eq_of_lt ha,Nat.mod_eq_of_lt hb]
  have hlt:a &&& b < 4294967296:=Nat.lt_of_le_of_lt Nat.and_le_left ha
  show zaF P (Pure.pure (Value.int .u32 (IntKind.u32.wrap ((BitVec.ofInt IntKind.u32.bits (a:Int) &&& BitVec.ofInt IntKind.u32.bits (b:Int)).toNat:Int))))=_
  rw [e,zgO (by omega) (by omega)]
  exact zco _
theorem zAl {a b:Nat} (ha:a < 256) (hb:b < 256):binA P T .or t (.int .u8 a) (.int .u8 b)=some (.int .u8 ((a ||| b:Nat):Int)):=by
  refine zfQ rfl ?_ rfl
  have e:(BitVec.ofInt IntKind.u8.bits (a:Int) ||| BitVec.ofInt IntKind.u8.bits (b:Int)).toNat=a ||| b:=by
    rw [BitVec.toNat_or,zdf,zdf]
    show (BitVec.ofNat 8 a).toNat ||| (BitVec.ofNat 8 b).toNat=_
    rw [BitVec.toNat_ofNat,BitVec.toNat_ofNat,Nat.mod_eq_of_lt ha,Nat.mod_eq_of_lt hb]
  have hlt:a ||| b < 256:=Nat.or_lt_two_pow (n:=8) ha hb
  show zaF P (Pure.pure (Value.int .u8 (IntKind.u8.wrap ((BitVec.ofInt IntKind.u8.bits (a:Int) ||| BitVec.ofInt IntKind.u8.bits (b:Int)).toNat:Int))))=_
  rw [e,ziO (by omega) (by omega)]
  exact zco _
theorem zpA {a:Nat} (ha:a < 256):binA P T .andNot t (.int .u8 a) (.int .u8 128)=some (.int .u8 ((a % 128:Nat):Int)):=by
  refine zfQ rfl ?_ rfl
  have e:(BitVec.ofInt IntKind.u8.bits (a:Int) &&& ~~~ BitVec.ofInt IntKind.u8.bits (128:Int)).toNat=a % 128:=by
    rw [zdf]
    show (BitVec.ofNat 8 a &&& ~~~ BitVec.ofInt 8 128).toNat=a % 128
    rw [show ~~~ BitVec.ofInt 8 128=BitVec.ofNat 8 127 from by decide,BitVec.toNat_and,BitVec.toNat_ofNat,BitVec.toNat_ofNat]
    show a % 256 &&& 127=a % 128
    rw [Nat.mod_eq_of_lt ha]
    exact Nat.and_two_pow_sub_one_eq_mod a 7
  show zaF P (Pure.pure (Value.int .u8 (IntKind.u8.wrap ((BitVec.ofInt IntKind.u8.bits (a:Int) &&& ~~~ BitVec.ofInt IntKind.u8.bits (128:Int)).toNat:Int))))=_
  rw [e,ziO (by omega) (by omega)]
  exact zco _
theorem zos {k2:IntKind} {a n:Nat} (hn:n≤64) (h:a*2 ^ n < 18446744073709551616):binA P T .shl t (.int .u64 a) (.int k2 n)=some (.int .u64 ((a*2 ^ n:Nat):Int)):=by
  refine zfQ rfl ?_ rfl
  have e1:¬ ((n:Int) < 0):=by omega
  have e2:min ((n:Int)).toNat IntKind.u64.bits=n:=by rw [Int.toNat_natCast]; exact Nat.min_eq_left hn
  have e3:IntKind.u64.wrap ((a:Int)*2 ^ n)=((a*2 ^ n:Nat):Int):=by
    rw [show ((a:Int)*2 ^ n)=((a*2 ^ n:Nat):Int) by push_cast; rfl]
    exact zgN (by omega) (by omega)
  unfold binOp
  simp only [Op.shift]
  rw [if_neg e1,e2]
  simp only [e3,zco]
theorem zwc {k2:IntKind} {a:Nat}:binA P T .shr t (.int .u32 a) (.int k2 7)=some (.int .u32 ((a / 128:Nat):Int)):=by
  refine zfQ rfl ?_ rfl
  have e1:¬ ((7:Int) < 0):=by omega
  have e2:min ((7:Int)).toNat IntKind.u32.bits=7:=by decide
  have e3:(a:Int).fdiv (2 ^ 7)=((a / 128:Nat):Int):=by
    rw [show ((2:Int) ^ 7)=((128:Nat):Int) by decide,Int.fdiv_eq_ediv_of_nonneg _ (by omega)]
    exact (Int.natCast_ediv a 128).symm
  unfold binOp
  simp only [Op.shift]
  rw [if_neg e1,e2]
  simp only [e3,zco]
end
/-! ### Numbers -/
def zaP (s:ByteArray) (i:Nat):Nat:=((s[i]?).getD 0).toNat
theorem zfw (s:ByteArray) (i:Nat):zbr s i=(zaP s i:Int):=rfl
theorem zdG (s:ByteArray) (i:Nat):zaP s i < 256:=UInt8.toNat_lt _
theorem zyW {a:Nat} (h:a < 256):a &&& 128=if a < 128 then 0 else 128:=by
  apply Nat.eq_of_testBit_eq
  intro j
  have e:(128:Nat)=2 ^ 7:=by decide
  rw [Nat.testBit_and,e,Nat.testBit_two_pow]
  by_cases hj:7=j
  · subst hj
    by_cases hl:a < 2 ^ 7
    · rw [if_pos hl,Nat.testBit_lt_two_pow hl]; rfl
    · rw [if_neg hl,Nat.testBit_two_pow]
      rw [Nat.testBit_eq_decide_div_mod_eq,show a / 2 ^ 7 % 2=1 by omega]
      rfl
  · rw [decide_eq_false hj,Bool.and_false]
    by_cases hl:a < 2 ^ 7
    · rw [if_pos hl,Nat.zero_testBit]
    · rw [if_neg hl,Nat.testBit_two_pow,decide_eq_false hj]
theorem zuF (a:Nat):a &&& 127=a % 128:=Nat.and_two_pow_sub_one_eq_mod a 7
def accN (s:ByteArray):Nat→Nat
  | 0=>0
  | i+1=>accN s i ||| (zaP s i % 128*2 ^ (7*i))
theorem zhc (s:ByteArray):∀ i,accN s i < 2 ^ (7*i)
  | 0=>by show 0 < 1; omega
  | i+1=>by
    have h1:=zhc s i
    have h2:zaP s i % 128 < 128:=Nat.mod_lt _ (by decide)
    have e:(2:Nat) ^ (7*(i+1))=128*2 ^ (7*i):=by rw [show 7*(i+1)=7*i+7 by omega,Nat.pow_add]; omega
    refine Nat.or_lt_two_pow ?_ ?_
    · rw [e]; have:=Nat.two_pow_pos (7*i); omega
    · rw [e]; exact Nat.mul_lt_mul_of_pos_right h2 (Nat.two_pow_pos _)
theorem zwC (s:ByteArray) (i:Nat):accN s (i+1)=accN s i+zaP s i % 128*2 ^ (7*i):=by
  show accN s i ||| _=_
  have h1:=zhc s i
  have h:=Nat.shiftLeft_add_eq_or_of_lt h1 (zaP s i % 128)
  rw [Nat.shiftLeft_eq] at h
  rw [Nat.or_comm,← h,Nat.add_comm]
def endN (s:ByteArray):Option Nat:=(List.range (min s.size 5)).find? (fun i=>decide (zaP s i < 128))
def numD (s:ByteArray):Option (Nat × Nat):=match endN s with
  | none=>none
  | some i=>if accN s (i+1) > 4294967295∨(0 < i∧zaP s i=0) then none else some (accN s (i+1),i+1)
theorem zj0 {s:ByteArray} (h:∀ j,j < min s.size 5→128≤zaP s j):endN s=none:=by
  unfold endN
  rw [List.find?_eq_none]
  intro i hi
  have:=h i (List.mem_range.1 hi)
  simp; omega
theorem zon {s:ByteArray} {i:Nat} (hi:i < min s.size 5) (h:∀ j,j < i→128≤zaP s j) (hb:zaP s i < 128):endN s=some i:=by
  unfold endN
  rw [List.find?_range_eq_some]
  refine ⟨by simpa using hb,List.mem_range.2 hi,fun j hj=>by simpa using h j hj⟩
def numB (n:Nat):List Nat:=if h:n < 128 then [n] else (n % 128+128)::numB (n / 128)
decreasing_by omega
theorem zcL {n:Nat} (h:n < 128):numB n=[n]:=by
  unfold numB
  rw [dif_pos h]
theorem zev {n:Nat} (h:¬ n < 128):numB n=(n % 128+128)::numB (n / 128):=by
  rw [numB,dif_neg h]
def zeO:List Nat→Nat
  | []=>0
  | b::l=>b % 128+128*zeO l
theorem zqy:∀ (l:List Nat) (b:Nat),(∀ x∈l,128≤x∧x < 256)→b < 128→(l=[]∨b≠0)→numB (zeO (l++[b]))=l++[b]
  | [],b,_,hb,_=>by
    show numB (b % 128+128*0)=[b]
    rw [zcL (by omega)]
    congr 1
    omega
  | x::l,b,h,hb,hn=>by
    have hb0:b≠0:=hn.resolve_left (by simp)
    obtain ⟨h1,h2⟩:=h x List.mem_cons_self
    have ih:=zqy l b (fun y hy=>h y (List.mem_cons_of_mem _ hy)) hb (.inr hb0)
    have hp:0 < zeO (l++[b]):=by
      clear ih h hn
      induction l with
      | nil=>show 0 < b % 128+128*0; omega
      | cons y l ih=>show 0 < y % 128+128*zeO (l++[b]); omega
    show numB (x % 128+128*zeO (l++[b]))=x::(l++[b])
    rw [zev (by omega),show (x % 128+128*zeO (l++[b])) / 128=zeO (l++[b]) by omega,ih]
    congr 1
    omega
theorem zuL:∀ (n:Nat) (l:List Nat) (b:Nat),numB n=l++[b]→l=[]∨b≠0:=by
  intro n
  induction n using Nat.strongRecOn with
  | ind n ih =>
    intro l b h
    by_cases hn:n < 128
    · rw [zcL hn] at h
      cases l with
      | nil=>exact .inl rfl
      | cons x l=>simp at h
    · rw [zev hn] at h
      cases l with
      | nil =>
        exact .inl rfl
      | cons x l =>
        rw [List.cons_append] at h
        injection h with h1 h2
        rcases ih (n / 128) (by omega) l b h2 with rfl | hb
        · right
          by_cases hn2:n / 128 < 128
          · rw [zcL hn2] at h2
            simp at h2
            omega
          · rw [zev hn2] at h2
            have h3:=congrArg List.length h2
            have:∀ m,0 < (numB m).length:=by
              intro m
              by_cases hm:m < 128
              · rw [zcL hm]; simp
              · rw [zev hm]; simp
            have:=this (n / 128 / 128)
            simp at h3
            rw [h3] at this
            simp at this
        · exact .inr hb
theorem zlG (l:List Nat) (b:Nat):zeO (l++[b])=zeO l+b % 128*128 ^ l.length:=by
  induction l with
  | nil=>show b % 128+128*0=0+b % 128*1; omega
  | cons x l ih =>
    show x % 128+128*zeO (l++[b])=x % 128+128*zeO l+b % 128*128 ^ (l.length+1)
    rw [ih,Nat.mul_add,Nat.pow_succ]
    have:128*(b % 128*128 ^ l.length)=b % 128*(128 ^ l.length*128):=by
      rw [Nat.mul_comm,Nat.mul_assoc]
    omega
def zcJ (s:ByteArray) (k:Nat):List Nat:=(List.range k).map (zaP s)
theorem ziR (s:ByteArray) (k:Nat):zcJ s (k+1)=zcJ s k++[zaP s k]:=by
  unfold zcJ
  rw [List.range_succ,List.map_append]
  rfl
theorem zre (s:ByteArray):∀ k,accN s k=zeO (zcJ s k)
  | 0=>rfl
  | k+1=>by
    rw [zwC,ziR,zlG,zre s k]
    have e:(zcJ s k).length=k:=by unfold zcJ; simp
    rw [e,Nat.pow_mul]
theorem zzZ {s:ByteArray} {i:Nat} (h:∀ j,j < i→128≤zaP s j) (hb:zaP s i < 128):numB (accN s (i+1))=zcJ s (i+1)↔¬ (0 < i∧zaP s i=0):=by
  rw [zre,ziR]
  have hl:zcJ s i=[]↔i=0:=by
    unfold zcJ
    rw [List.map_eq_nil_iff,List.range_eq_nil]
  constructor
  · intro e ⟨h1,h2⟩
    rcases zuL _ _ _ e with e | e
    · rw [hl] at e; omega
    · exact e h2
  · intro hn
    refine zqy _ _ (fun x hx=>?_) hb ?_
    · unfold zcJ at hx
      obtain ⟨j,hj,rfl⟩:=List.mem_map.1 hx
      exact ⟨h j (List.mem_range.1 hj),zdG _ _⟩
    · by_cases hi:i=0
      · exact .inl (hl.2 hi)
      · exact .inr (fun e=>hn ⟨by omega,e⟩)
end Go.Am
namespace Go.Am
open Go.RowKit
set_option linter.unusedVariables false
set_option linter.unusedSimpArgs false
section
variable {P:Program} {gs:List Nat} {ρ:Rho} {h:Heap} {w:World}

end
end Go.Am
namespace Go.Am
set_option linter.unusedVariables false
set_option linter.unusedSimpArgs false
theorem Inc.over {a h1 h2:Heap} {l:List Blk} {w:Nat} (i:Inc a h1) (x:Ext (h1.lay l w) h2):Inc a h2:=(i.trans (Inc.lay _ _ _)).trans x.inc
end Go.Am
namespace Go.Am
set_option linter.unusedVariables false
def zeY (l:List ReasonD) (a:AtomD):List AtomD:=match l.find? (fun r=>r.atom == a) with
  | some r=>r.body
  | none=>[]
structure NeedsOf (l:List ReasonD) (goals out:List AtomD):Prop where
  asc:AscD out
  plain:AllP out
  hgoals:∀ g∈goals,g∈out
  closed:∀ x∈out,∀ b∈zeY l x,b∈out
  least:∀ S:AtomD→Prop,(∀ g∈goals,S g)→(∀ x,S x→∀ b∈zeY l x,S b)→∀ x∈out,S x
theorem NeedsOf.eq {l:List ReasonD} {g o1 o2:List AtomD} (f:NeedsOf l g o1) (h:NeedsOf l g o2):o1=o2 :=
  zmF f.asc h.asc (fun x=>⟨fun hx=>f.least (·∈o2) h.hgoals h.closed x hx,fun hx=>h.least (·∈o1) f.hgoals f.closed x hx⟩)
theorem NeedsOf.none {l:List ReasonD} {o:List AtomD} (f:NeedsOf l [] o):o=[]:=by
  cases o with
  | nil=>rfl
  | cons x o=>exact (f.least (fun _=>False) (fun g hg=>by cases hg) (fun _ h=>h.elim) x (List.mem_cons_self ..)).elim
def zgB (l:List ReasonD):List AtomD:=l.flatMap (·.body)
theorem zs3 {l:List ReasonD} {a b:AtomD} (h:b∈zeY l a):b∈zgB l:=by
  unfold zeY at h
  split at h
  · rename_i r hr
    exact List.mem_flatMap.2 ⟨r,List.mem_of_find?_eq_some hr,h⟩
  · cases h
structure NeedsTo (l:List ReasonD) (goals out todo:List AtomD):Prop where
  asc:AscD out
  plain:AllP out
  hgoals:∀ g∈goals,g∈out
  closed:∀ x∈out,x∈todo∨∀ b∈zeY l x,b∈out
  htodo:∀ x∈todo,x∈out
  least:∀ S:AtomD→Prop,(∀ g∈goals,S g)→(∀ x,S x→∀ b∈zeY l x,S b)→∀ x∈out,S x
structure NeedsIn (l:List ReasonD) (goals out todo:List AtomD) (x:AtomD) (j:Nat):Prop where
  asc:AscD out
  plain:AllP out
  hgoals:∀ g∈goals,g∈out
  closed:∀ y∈out,y∈todo∨y=x∨∀ b∈zeY l y,b∈out
  htodo:∀ y∈todo,y∈out
  here:x∈out
  done:∀ b∈(zeY l x).take j,b∈out
  least:∀ S:AtomD→Prop,(∀ g∈goals,S g)→(∀ x,S x→∀ b∈zeY l x,S b)→∀ x∈out,S x
theorem NeedsTo.enter {l:List ReasonD} {goals out todo:List AtomD} {x:AtomD} (f:NeedsTo l goals out (x::todo)):NeedsIn l goals out todo x 0 :=
  ⟨f.asc,f.plain,f.hgoals,fun y hy=>by
    rcases f.closed y hy with h | h
    · rcases List.mem_cons.1 h with h | h
      · exact .inr (.inl h)
      · exact .inl h
    · exact .inr (.inr h),fun y hy=>f.htodo y (List.mem_cons_of_mem _ hy),f.htodo x (List.mem_cons_self ..),by simp,f.least⟩
theorem NeedsIn.add {l:List ReasonD} {goals out todo:List AtomD} {x a:AtomD} {j:Nat} (f:NeedsIn l goals out todo x j) (ha:(zeY l x)[j]? = some a) (hp:PlainD a):NeedsIn l goals (putA a out) (todo++[a]) x (j+1):=by
  have hno:∀ y,y∈putA a out↔y∈out∨y=a:=fun y=>by
    rw [zep f.asc]
    constructor
    · rintro (h | ⟨rfl,_⟩)
      · exact .inl h
      · exact .inr rfl
    · rintro (h | rfl)
      · exact .inl h
      · by_cases hy:y∈out
        · exact .inl hy
        · refine .inr ⟨rfl,fun z hz e=>hy ?_⟩
          rw [(zvt hp (f.plain z hz)).1 e]
          exact hz
  have hmem:a∈zeY l x:=List.mem_of_getElem? ha
  refine ⟨zlm f.asc,fun y hy=>?_,fun g hg=>(hno g).2 (.inl (f.hgoals g hg)),fun y hy=>?_,fun y hy=>?_,(hno x).2 (.inl f.here),fun b hb=>?_,fun S h1 h2 y hy=>?_⟩
  · rcases (hno y).1 hy with h | rfl
    · exact f.plain y h
    · exact hp
  · rcases (hno y).1 hy with h | rfl
    · rcases f.closed y h with h | h | h
      · exact .inl (List.mem_append_left _ h)
      · exact .inr (.inl h)
      · exact .inr (.inr (fun b hb=>(hno b).2 (.inl (h b hb))))
    · exact .inl (List.mem_append_right _ (List.mem_cons_self ..))
  · rcases List.mem_append.1 hy with h | h
    · exact (hno y).2 (.inl (f.htodo y h))
    · have:y=a:=by simpa using h
      exact (hno y).2 (.inr this)
  · rw [List.take_add_one,ha] at hb
    rcases List.mem_append.1 hb with hb | hb
    · exact (hno b).2 (.inl (f.done b hb))
    · have:b=a:=by simpa using hb
      exact (hno b).2 (.inr this)
  · rcases (hno y).1 hy with h | rfl
    · exact f.least S h1 h2 y h
    · exact h2 x (f.least S h1 h2 x f.here) y hmem
theorem NeedsIn.len {l:List ReasonD} {goals out todo:List AtomD} {x:AtomD} {j:Nat} (f:NeedsIn l goals out todo x j) (hp:AllP (goals++zgB l)):out.length≤goals.length+(zgB l).length:=by
  have h1:∀ y∈out,y∈goals++zgB l:=f.least (·∈goals++zgB l) (fun g hg=>List.mem_append_left _ hg) (fun y _ b hb=>List.mem_append_right _ (zs3 hb))
  have h2:∀ y,y∈out→y∈zjM (goals++zgB l):=fun y hy=>(zgF hp).2 (h1 y hy)
  have h3:=zni (goals++zgB l)
  have h4:out.length≤(zjM (goals++zgB l)).length:=by
    have e:out=(zjM (goals++zgB l)).filter (fun x=>decide (x∈out)):=zmF f.asc (zsG _ (zdO _).asc) (fun y=>by
      rw [List.mem_filter,decide_eq_true_iff]
      exact ⟨fun hy=>⟨h2 y hy,hy⟩,fun hy=>hy.2⟩)
    rw [e]
    exact List.length_filter_le _ _
  rw [List.length_append] at h3
  omega
end Go.Am
namespace Go.Am
set_option linter.unusedVariables false
set_option linter.unusedSimpArgs false
def OwnT (h0 h:Heap) (u:TypeId) (v:Value) (s:List AtomD):Prop :=
  (s=[]∧Emp h v)∨∃ A o full,v=.slice (some ⟨A,o*11,none⟩) s.length (G*11+s.length)∧Holds h A (.row (rowA full) u false)∧h0.size≤A∧full.drop o=s∧o≤full.length∧full.length≤100000
theorem OwnX.todo {h0 h:Heap} {u:TypeId} {v:Value} {s:List AtomD} (f:OwnX h0 h u v s) (hn:s.length≤100000):OwnT h0 h u v s:=by
  rcases f with f | ⟨A,e1,e2,e3,e4⟩
  · exact .inl f
  · exact .inr ⟨A,0,s,by rw [Nat.zero_mul]; exact e1,e2,e3,rfl,Nat.zero_le _,hn⟩
theorem OwnT.mono {h0 h h':Heap} {u:TypeId} {v:Value} {s:List AtomD} (f:OwnT h0 h u v s) (i:Inc h h'):OwnT h0 h' u v s:=by
  rcases f with ⟨e,f⟩ | ⟨A,o,full,e1,e2,e3⟩
  · exact .inl ⟨e,f.mono i⟩
  · exact .inr ⟨A,o,full,e1,e2.mono i,e3⟩
theorem OwnT.over {h0 h1 h2:Heap} {u:TypeId} {v:Value} {s:List AtomD} {bs:List Blk} {w:Nat} (f:OwnT h0 h1 u v s) (x:Ext (h1.lay bs w) h2):OwnT h0 h2 u v s:=f.mono ((Inc.lay _ _ _).trans x.inc)
theorem OwnT.down {h0 h1 h:Heap} {u:TypeId} {v:Value} {s:List AtomD} (f:OwnT h1 h u v s) (i:h0.size≤h1.size):OwnT h0 h u v s:=by
  rcases f with f | ⟨A,o,full,e1,e2,e3,e4⟩
  · exact .inl f
  · exact .inr ⟨A,o,full,e1,e2,by omega,e4⟩
theorem OwnT.sl {h0 h:Heap} {u:TypeId} {v:Value} {s:List AtomD} (f:OwnT h0 h u v s):Sl Rep.atom h v s:=by
  rcases f with ⟨rfl,f⟩ | ⟨A,o,full,rfl,e2,e3,e4,e5,e6⟩
  · exact f.sl
  · have hG:=zlu
    have hs:s.length≤100000:=by rw [← e4,List.length_drop]; omega
    obtain ⟨d1,d2,d3⟩:=zdQ (k:=11) (q:=s.length) (by decide) (by omega)
    exact zyM (o:=o) e2 (.inr ⟨d1,d2,by rw [d3]; exact Nat.le_refl _⟩) hs (fun i x hx=>by rw [← e4,List.getElem?_drop] at hx; exact hx)
end Go.Am
namespace Go.Am
set_option linter.unusedVariables false
section
variable {P:Program} {T:Tab} {ov:Ov} {rd:Option Nat}
end
end Go.Am
namespace Go.Am
set_option linter.unusedVariables false
def atR (l:List ReasonD) (a:AtomD):Int:=idxP (fun x=>decide (x.atom=a)) l
end Go.Am

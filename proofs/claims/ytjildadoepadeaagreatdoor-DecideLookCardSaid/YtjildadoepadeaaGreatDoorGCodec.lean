/- Numbers, texts and atoms in bytes: what is read, what is written; operations on bits. No condition. -/
import Derived.Test.YtjildadoepadeaaGreatDoorG17
set_option linter.unusedSimpArgs false
set_option linter.unusedVariables false
namespace Go.Am
open Go.Op
variable {n:Int} {k2:IntKind} {a:Nat}
section
variable {P:Program} {T:bm} {t:TypeId}
theorem NH (h0:0<=n) (h1:n < 18446744073709551616):IntKind.u64.wrap n=n:=by
 unfold IntKind.wrap
 have e:(2:Int) ^ IntKind.u64.bits=18446744073709551616:=by decide
 have e2:IntKind.u64.signed=false:=rfl
 rw [e,e2]
 simp only [Bool.false_and]
 rw [ay (by decide)]
 omega
theorem F8 (h0:0<=n) (h1:n < 4294967296):IntKind.u32.wrap n=n:=by
 unfold IntKind.wrap
 have e:(2:Int) ^ IntKind.u32.bits=4294967296:=by decide
 have e2:IntKind.u32.signed=false:=rfl
 rw [e,e2]
 simp only [Bool.false_and]
 rw [ay (by decide)]
 omega
theorem AL (h0:0<=n) (h1:n < 256):IntKind.u8.wrap n=n:=by
 unfold IntKind.wrap
 have e:(2:Int) ^ IntKind.u8.bits=256:=by decide
 have e2:IntKind.u8.signed=false:=rfl
 rw [e,e2]
 simp only [Bool.false_and]
 rw [ay (by decide)]
 omega
theorem yZ {op:BinOp} {k:IntKind} {a b:Int} {v:ai} (hf:nL op (.int k a) (.int k2 b)=none) (hp:dX P (binOp op t (.int k a) (.int k2 b))=some v) (hv:plain v=true):bD P T op t (.int k a) (.int k2 b)=some v:=by
 have h1:((T.desc t).bind λd=>zw d (.int k a) (.int k2 b))=none:=by
  cases T.desc t with
  |none=>rfl
  |some d=>cases d <;> rfl
 unfold bD
 rw [hf]
 simp only [h1,hp]
 rw [aC (by rfl)]
 simp [hv]
theorem uA {w:Nat} (a:Nat):BitVec.ofInt w (a:Int)=BitVec.ofNat w a:=BitVec.ofInt_natCast w a
theorem ztu {a b:Nat} (ha:a < 18446744073709551616) (hb:b < 18446744073709551616):bD P T .or t (.int .u64 a) (.int .u64 b)=some (.int .u64 ((a ||| b:Nat):Int)):=by
 refine yZ rfl ?_ rfl
 have e:(BitVec.ofInt IntKind.u64.bits (a:Int) ||| BitVec.ofInt IntKind.u64.bits (b:Int)).toNat=a ||| b:=by
  rw [BitVec.toNat_or,uA,uA]
  show (BitVec.ofNat 64 a).toNat ||| (BitVec.ofNat 64 b).toNat=_
  rw [BitVec.toNat_ofNat,BitVec.toNat_ofNat,mX ha,mX hb]
 have aS:a ||| b < 18446744073709551616:=Nat.or_lt_two_pow (n:=64) ha hb
 show dX P (Pure.pure (Value.int .u64 (IntKind.u64.wrap ((BitVec.ofInt IntKind.u64.bits (a:Int) ||| BitVec.ofInt IntKind.u64.bits (b:Int)).toNat:Int))))=_
 rw [e,NH (by omega) (by omega)]
 exact pF _
theorem ztt {a b:Nat} (ha:a < 256) (hb:b < 256):bD P T .and t (.int .u8 a) (.int .u8 b)=some (.int .u8 ((a &&& b:Nat):Int)):=by
 refine yZ rfl ?_ rfl
 have e:(BitVec.ofInt IntKind.u8.bits (a:Int) &&& BitVec.ofInt IntKind.u8.bits (b:Int)).toNat=a &&& b:=by
  rw [BitVec.toNat_and,uA,uA]
  show (BitVec.ofNat 8 a).toNat &&& (BitVec.ofNat 8 b).toNat=_
  rw [BitVec.toNat_ofNat,BitVec.toNat_ofNat,mX ha,mX hb]
 have aS:a &&& b < 256:=A7 Nat.and_le_left ha
 show dX P (Pure.pure (Value.int .u8 (IntKind.u8.wrap ((BitVec.ofInt IntKind.u8.bits (a:Int) &&& BitVec.ofInt IntKind.u8.bits (b:Int)).toNat:Int))))=_
 rw [e,AL (by omega) (by omega)]
 exact pF _
theorem zrA {a b:Nat} (ha:a < 4294967296) (hb:b < 4294967296):bD P T .and t (.int .u32 a) (.int .u32 b)=some (.int .u32 ((a &&& b:Nat):Int)):=by
 refine yZ rfl ?_ rfl
 have e:(BitVec.ofInt IntKind.u32.bits (a:Int) &&& BitVec.ofInt IntKind.u32.bits (b:Int)).toNat=a &&& b:=by
  rw [BitVec.toNat_and,uA,uA]
  show (BitVec.ofNat 32 a).toNat &&& (BitVec.ofNat 32 b).toNat=_
  rw [BitVec.toNat_ofNat,BitVec.toNat_ofNat,mX ha,mX hb]
 have aS:a &&& b < 4294967296:=A7 Nat.and_le_left ha
 show dX P (Pure.pure (Value.int .u32 (IntKind.u32.wrap ((BitVec.ofInt IntKind.u32.bits (a:Int) &&& BitVec.ofInt IntKind.u32.bits (b:Int)).toNat:Int))))=_
 rw [e,F8 (by omega) (by omega)]
 exact pF _
theorem zvH {a b:Nat} (ha:a < 256) (hb:b < 256):bD P T .or t (.int .u8 a) (.int .u8 b)=some (.int .u8 ((a ||| b:Nat):Int)):=by
 refine yZ rfl ?_ rfl
 have e:(BitVec.ofInt IntKind.u8.bits (a:Int) ||| BitVec.ofInt IntKind.u8.bits (b:Int)).toNat=a ||| b:=by
  rw [BitVec.toNat_or,uA,uA]
  show (BitVec.ofNat 8 a).toNat ||| (BitVec.ofNat 8 b).toNat=_
  rw [BitVec.toNat_ofNat,BitVec.toNat_ofNat,mX ha,mX hb]
 have aS:a ||| b < 256:=Nat.or_lt_two_pow (n:=8) ha hb
 show dX P (Pure.pure (Value.int .u8 (IntKind.u8.wrap ((BitVec.ofInt IntKind.u8.bits (a:Int) ||| BitVec.ofInt IntKind.u8.bits (b:Int)).toNat:Int))))=_
 rw [e,AL (by omega) (by omega)]
 exact pF _
theorem Zc {a:Nat} (ha:a < 256):bD P T .andNot t (.int .u8 a) (.int .u8 128)=some (.int .u8 ((a % 128:Nat):Int)):=by
 refine yZ rfl ?_ rfl
 have e:(BitVec.ofInt IntKind.u8.bits (a:Int) &&& ~~~ BitVec.ofInt IntKind.u8.bits (128:Int)).toNat=a % 128:=by
  rw [uA]
  show (BitVec.ofNat 8 a &&& ~~~ BitVec.ofInt 8 128).toNat=a % 128
  rw [show ~~~ BitVec.ofInt 8 128=BitVec.ofNat 8 127 from by decide,BitVec.toNat_and,BitVec.toNat_ofNat,BitVec.toNat_ofNat]
  show a % 256 &&& 127=a % 128
  rw [mX ha]
  exact Nat.and_two_pow_sub_one_eq_mod a 7
 show dX P (Pure.pure (Value.int .u8 (IntKind.u8.wrap ((BitVec.ofInt IntKind.u8.bits (a:Int) &&& ~~~ BitVec.ofInt IntKind.u8.bits (128:Int)).toNat:Int))))=_
 rw [e,AL (by omega) (by omega)]
 exact pF _
theorem zrB {a n:Nat} (hn:n<=64) (h:a*2 ^ n < 18446744073709551616):bD P T .shl t (.int .u64 a) (.int k2 n)=some (.int .u64 ((a*2 ^ n:Nat):Int)):=by
 refine yZ rfl ?_ rfl
 have e1:¬ ((n:Int) < 0):=by omega
 have e2:min (n:Int).toNat IntKind.u64.bits=n:=by rw [Gl];exact Nat.min_eq_left hn
 have e3:IntKind.u64.wrap ((a:Int)*2 ^ n)=((a*2 ^ n:Nat):Int):=by
  rw [show ((a:Int)*2 ^ n)=((a*2 ^ n:Nat):Int) by push_cast;rfl]
  exact NH (by omega) (by omega)
 unfold binOp
 simp only [Op.shift]
 rw [ay e1,e2]
 simp only [e3,pF]
theorem zrC {a:Nat}:bD P T .shr t (.int .u32 a) (.int k2 7)=some (.int .u32 ((a / 128:Nat):Int)):=by
 refine yZ rfl ?_ rfl
 have e1:¬ ((7:Int) < 0):=by omega
 have e2:min (7:Int).toNat IntKind.u32.bits=7:=by decide
 have e3:(a:Int).fdiv (2 ^ 7)=((a / 128:Nat):Int):=by
  rw [show ((2:Int) ^ 7)=((128:Nat):Int) by decide,Int.fdiv_eq_ediv_of_nonneg _ (by omega)]
  exact (Int.natCast_ediv a 128).symm
 unfold binOp
 simp only [Op.shift]
 rw [ay e1,e2]
 simp only [e3,pF]
end
def dm (s:aA) (i:Nat):Nat:=((s[i]?).getD 0).toNat
theorem F3 (s:aA) (i:Nat):gG s i=(dm s i:Int):=rfl
theorem Nw (s:aA) (i:Nat):dm s i < 256:=UInt8.toNat_lt _
theorem zvm (h:a < 256):a &&& 128=if a < 128 then 0 else 128:=by
 apply Nat.eq_of_testBit_eq
 intro j
 have e:(128:Nat)=2 ^ 7:=by decide
 rw [Nat.testBit_and,e,Nat.testBit_two_pow]
 by_cases hj:7=j
 .subst hj
  by_cases hl:a < 2 ^ 7
  .rw [aC hl,Nat.testBit_lt_two_pow hl];rfl
  .rw [ay hl,Nat.testBit_two_pow]
   rw [Nat.testBit_eq_decide_div_mod_eq,show a / 2 ^ 7 % 2=1 by omega]
   rfl
 .rw [pK hj,Bool.and_false]
  by_cases hl:a < 2 ^ 7
  .rw [aC hl,Nat.zero_testBit]
  .rw [ay hl,Nat.testBit_two_pow,pK hj]
theorem zvl (a:Nat):a &&& 127=a % 128:=Nat.and_two_pow_sub_one_eq_mod a 7
def iO (s:aA):Nat->Nat
 |0=>0
 |i+1=>iO s i ||| (dm s i % 128*2 ^ (7*i))
theorem Is (s:aA):∀ i,iO s i < 2 ^ (7*i)
 |0=>by show 0 < 1;omega
 |i+1=>by
  have h1:=Is s i
  have h2:dm s i % 128 < 128:=wG _ (by decide)
  have e:(2:Nat) ^ (7*(i+1))=128*2 ^ (7*i):=by rw [show 7*(i+1)=7*i+7 by omega,Nat.pow_add];omega
  refine Nat.or_lt_two_pow ?_ ?_
  .rw [e];have:=Nat.two_pow_pos (7*i);omega
  .rw [e];exact Nat.mul_lt_mul_of_pos_right h2 (Nat.two_pow_pos _)
theorem ztm (s:aA) (i:Nat):iO s (i+1)=iO s i+dm s i % 128*2 ^ (7*i):=by
 show iO s i ||| _=_
 have h1:=Is s i
 have h:=Nat.shiftLeft_add_eq_or_of_lt h1 (dm s i % 128)
 rw [Nat.shiftLeft_eq] at h
 rw [Nat.or_comm,<- h,Nat.add_comm]
def lW (s:aA):Option Nat:=(List.range (min s.size 5)).find? (λi=>decide (dm s i < 128))
def gV (s:aA):Option (Nat × Nat):=match lW s with
 |none=>none
 |some i=>if iO s (i+1) > 4294967295\/(0 < i/\dm s i=0) then none else some (iO s (i+1),i+1)
theorem zrY {s:aA} (h:∀ j,j < min s.size 5->128<=dm s j):lW s=none:=by
 unfold lW
 rw [List.find?_eq_none]
 intro i hi
 have:=h i (mZ.1 hi)
 simp;omega
theorem Ts {s:aA} {i:Nat} (hi:i < min s.size 5) (h:∀ j,j < i->128<=dm s j) (hb:dm s i < 128):lW s=some i:=by
 unfold lW
 rw [List.find?_range_eq_some]
 refine ⟨by simpa using hb,mZ.2 hi,λj hj=>by simpa using h j hj⟩
def cJ (n:Nat):List Nat:=if h:n < 128 then [n] else (n % 128+128)::cJ (n / 128)
decreasing_by omega
theorem pw {n:Nat} (h:n < 128):cJ n=[n]:=by
 unfold cJ
 rw [dif_pos h]
theorem qb {n:Nat} (h:¬ n < 128):cJ n=(n % 128+128)::cJ (n / 128):=by
 rw [cJ,dif_neg h]
def wq:List Nat->Nat
 | []=>0
 |b::l=>b % 128+128*wq l
theorem zsp:∀ (n:Nat) (l:List Nat) (b:Nat),cJ n=l++[b]->l=[]\/b≠0:=by
 intro n
 induction n using Nat.strongRecOn with
 |ind n ih =>
  intro l b h
  by_cases hn:n < 128
  .rw [pw hn] at h
   cases l with
   |nil=>exact .inl rfl
   |cons x l=>simp at h
  .rw [qb hn] at h
   cases l with
   |nil =>
    exact .inl rfl
   |cons x l =>
    rw [Gn] at h
    injection h with h1 h2
    rcases ih (n / 128) (by omega) l b h2 with rfl|hb
    .right
     by_cases zZ:n / 128 < 128
     .rw [pw zZ] at h2
      simp at h2
      omega
     .rw [qb zZ] at h2
      have h3:=congrArg List.length h2
      have:∀ m,0 < (cJ m).length:=by
       intro m
       by_cases hm:m < 128
       .rw [pw hm];simp
       .rw [qb hm];simp
      have:=this (n / 128 / 128)
      simp at h3
      rw [h3] at this
      simp at this
    .exact .inr hb
theorem YK (l:List Nat) (b:Nat):wq (l++[b])=wq l+b % 128*128 ^ l.length:=by
 induction l with
 |nil=>show b % 128+128*0=0+b % 128*1;omega
 |cons x l ih =>
  show x % 128+128*wq (l++[b])=x % 128+128*wq l+b % 128*128 ^ (l.length+1)
  rw [ih,Nat.mul_add,Nat.pow_succ]
  have:128*(b % 128*128 ^ l.length)=b % 128*(128 ^ l.length*128):=by
   rw [sy,Nat.mul_assoc]
  omega
def wi (s:aA) (k:Nat):List Nat:=(List.range k).map (dm s)
theorem ZT (s:aA) (k:Nat):wi s (k+1)=wi s k++[dm s k]:=by
 unfold wi
 rw [List.range_succ,List.map_append]
 rfl
theorem T6 (s:aA):∀ k,iO s k=wq (wi s k)
 |0=>rfl
 |k+1=>by
  rw [ztm,ZT,YK,T6 s k]
  have e:(wi s k).length=k:=by unfold wi;simp
  rw [e,Nat.pow_mul]
end Go.Am

/- Bytes that are appended, made a string. No condition. -/
import Derived.Test.YtemapihoobmonaaGreatDoorGCodec3
import Derived.Test.YtemapihoobmonaaGreatDoorG16
import Derived.Test.YtemapihoobmonaaGreatDoorG27
import Derived.Test.YtemapihoobmonaaGreatDoorG20
namespace Go.Am
set_option linter.unusedVariables false
set_option linter.unusedSimpArgs false
abbrev Rep.byte:Rep Nat:={ k:=1,R:=fun _ cs x=>cs=[.int .u8 (x:Int)],len:=by rintro _ _ _ rfl; rfl,mono:=fun _ _ _ _ _ h=>h,ones:=by rintro _ _ _ rfl; rfl }
def zei (l:List Nat):ByteArray:=⟨(l.map UInt8.ofNat).toArray⟩
theorem zkD:∀ l:List Nat,zja (l.map fun x:Nat=>Value.int .u8 (x:Int))=some (l.map UInt8.ofNat)
  | []=>rfl
  | x::l=>by
    show (zja (l.map fun x:Nat=>Value.int .u8 (x:Int))).map (UInt8.ofNat (x:Int).toNat::·)=_
    rw [zkD l]
    rfl
theorem zoH {row:List Value} {l:List Nat} (hr:row.length=l.length) (h:∀ (i:Nat) (x:Nat),l[i]? = some x→∃ cs,cut row (i*1) 1=some cs∧cs=[.int .u8 (x:Int)]):row=l.map fun x:Nat=>Value.int .u8 (x:Int):=by
  apply List.ext_getElem?
  intro i
  by_cases hi:i < l.length
  · obtain ⟨cs,h1,rfl⟩:=h i _ (List.getElem?_eq_getElem hi)
    rw [Nat.mul_one] at h1
    unfold cut at h1
    split at h1
    · rw [List.drop_eq_getElem_cons (by omega)] at h1
      simp only [List.take_succ_cons,List.take_zero,Option.some.injEq,List.cons.injEq,and_true] at h1
      rw [List.getElem?_eq_getElem (by omega),h1,List.getElem?_map,List.getElem?_eq_getElem hi]
      rfl
    · cases h1
  · rw [List.getElem?_eq_none (by omega),List.getElem?_eq_none (by rw [List.length_map]; omega)]
theorem zwY {h0 h:Heap} {e:TypeId} {A:Nat} {v:Value} {l:List Nat} (f:Ow Rep.byte h0 h e A v l) (hl:l≠[]):∃ c,v=.slice (some ⟨A,0,none⟩) l.length c∧h.get A=some (.row (l.map fun x:Nat=>Value.int .u8 (x:Int)) e false):=by
  rcases f with ⟨_,f,_⟩ | ⟨row,rfl,_,f0,f1,f2,f3,f4,f5⟩
  · exact absurd f hl
  · have hr:=zoH (by rw [f3]; exact Nat.mul_one _) f5
    subst hr
    exact ⟨_,rfl,f2⟩
section
variable {P:Program} {T:Tab} {ov:Ov} {d:Option Tmp} {ty:TypeId} {pos:String} {af:Array Edge} {g:Option (Nat × Bool)} {e:Env} {K:Value→Heap→Prop}
theorem zzY {h0 h1:Heap} {u s t eb:TypeId} {x:Operand} {A:Nat} {v:Value} {l:List Nat} (hs:T.desc s=some (.slice u)) (hu:T.desc u=some (.int .u8)) (ht:T.desc t=some .string) (hss:zbB T s=true) (f:Ow Rep.byte h0 h1 eb A v l) (hl:l≠[]) (hx:zab e x=v)
    (hK:K (.string (zei l)) h1):WOp P T ov ⟨d,.convert s t x,ty,pos,af,g⟩ e h1 K:=by
  obtain ⟨c,rfl,hg⟩:=zwY f hl
  have hb:zdi T s t (.slice (some ⟨A,0,none⟩) l.length c) h1=some (.string (zei l)):=by
    unfold zdi
    simp only [hs,ht,hu]
    have hc:zcX (.slice (some ⟨A,0,none⟩) l.length c) 1 h1=some (l.map fun x:Nat=>Value.int .u8 (x:Int)):=by
      have hne:l.length≠0:=fun e=>hl (List.length_eq_zero_iff.1 e)
      unfold zcX
      simp only
      rw [if_neg (by omega)]
      unfold za0
      rw [hg]
      simp only [cut,Nat.zero_add,Nat.mul_one,List.length_map,Nat.le_refl,if_true,List.drop_zero]
      rw [List.take_of_length_le (by rw [List.length_map]; omega)]
    rw [hc]
    simp only [Option.bind_some,zkD,Option.map_some]
    rfl
  show optE (if zbB T s then (zdi T s t (zab e x) h1).map fun r=>(r,h1) else if zbB T t then (if zeu T s then zdk T t (zab e x) h1 else none) else zaW P e ⟨d,.convert s t x,ty,pos,af,g⟩ h1) K
  rw [hss,if_pos rfl,hx,hb]
  exact hK
end
/-! ### The bytes of a number, and of a part of a string -/
theorem zrG {l m:List Nat} (hl:∀ x∈l,x < 256) (hm:∀ x∈m,x < 256):zei l=zei m↔l=m:=by
  constructor
  · intro e
    have e1:l.map UInt8.ofNat=m.map UInt8.ofNat:=by
      have:=congrArg ByteArray.data e
      unfold zei at this
      exact List.toArray_inj this
    have e2:=congrArg (List.map UInt8.toNat) e1
    rw [List.map_map,List.map_map] at e2
    have e3:∀ l:List Nat,(∀ x∈l,x < 256)→l.map (UInt8.toNat∘UInt8.ofNat)=l:=fun l h=>by
      conv=>rhs; rw [← List.map_id l]
      refine List.map_congr_left fun x hx=>?_
      show (UInt8.ofNat x).toNat=x
      rw [UInt8.toNat_ofNat']
      exact Nat.mod_eq_of_lt (h x hx)
    rwa [e3 l hl,e3 m hm] at e2
  · rintro rfl; rfl
theorem zsV {s:ByteArray} {k:Nat} (hk:k≤s.size):s.extract 0 k=zei (zcJ s k):=by
  have h1:(s.extract 0 k).size=(zei (zcJ s k)).size:=by
    rw [ByteArray.size_extract]
    show min k s.size - 0=((zcJ s k).map UInt8.ofNat).toArray.size
    unfold zcJ
    simp
    omega
  refine ByteArray.ext_getElem h1 fun i hi hi2=>?_
  rw [ByteArray.getElem_extract]
  have hik:i < k:=by rw [ByteArray.size_extract] at hi; omega
  have e:(zei (zcJ s k))[i]=((zcJ s k).map UInt8.ofNat)[i]'(by unfold zcJ; simp [hik]):=rfl
  rw [e]
  unfold zcJ zaP
  simp only [List.getElem_map,List.getElem_range,Nat.zero_add]
  rw [getElem?_pos s i (by omega)]
  simp
theorem zzm:∀ (n:Nat),∀ x∈numB n,x < 256:=by
  intro n
  induction n using Nat.strongRecOn with
  | ind n ih =>
    intro x hx
    by_cases hn:n < 128
    · rw [zcL hn] at hx
      rw [List.mem_singleton.1 hx]
      omega
    · rw [zev hn] at hx
      rcases List.mem_cons.1 hx with rfl | hx
      · omega
      · exact ih (n / 128) (by omega) x hx
theorem zAE (n:Nat):numB n≠[]:=by
  by_cases hn:n < 128
  · rw [zcL hn]; simp
  · rw [zev hn]; simp
theorem zBb {a:Nat} (h:a < 128):a ||| 128=a+128:=by
  have:=Nat.shiftLeft_add_eq_or_of_lt (i:=7) (b:=a) h 1
  rw [Nat.or_comm]
  rw [show (1:Nat) <<< 7=128 by decide] at this
  omega
theorem zyy {s:ByteArray} {i:Nat} (hi:i < min s.size 5) (h:∀ j,j < i→128≤zaP s j) (hb:zaP s i < 128) :
    numD s=if accN s (i+1) > 4294967295∨¬ zei (numB (accN s (i+1)))=s.extract 0 (i+1) then none else some (accN s (i+1),i+1):=by
  have e:(zei (numB (accN s (i+1)))=s.extract 0 (i+1))↔¬ (0 < i∧zaP s i=0):=by
    rw [zsV (by omega),zrG (zzm _) (fun x hx=>?_),zzZ h hb]
    unfold zcJ at hx
    obtain ⟨j,_,rfl⟩:=List.mem_map.1 hx
    exact zdG _ _
  unfold numD
  rw [zon hi h hb]
  simp only
  by_cases h1:accN s (i+1) > 4294967295
  · rw [if_pos (.inl h1),if_pos (.inl h1)]
  · by_cases h2:0 < i∧zaP s i=0
    · rw [if_pos (.inr h2),if_pos (.inr (fun g=>(e.1 g) h2))]
    · rw [if_neg (by rintro (g | g); exact h1 g; exact h2 g),if_neg (by rintro (g | g); exact h1 g; exact g (e.2 h2))]
def CurR (u:TypeId) (h:Heap) (C:Nat) (s:ByteArray) (st:Option Nat):Prop:=∃ (o:Nat) (e:Int),o≤s.size∧(∀ p,st=some p→p=o∧e=0)∧(st=none→e≠0)∧Holds h C (.row [.string s,.int .i64 o,.int .i64 e] u false)
section
variable {u:TypeId} {h h2:Heap} {C A:Nat} {s:ByteArray} {st:Option Nat} {bs:List Blk} {w:Nat}
theorem CurR.lay (q:CurR u h C s st) (bs:List Blk) (w:Nat):CurR u (h.lay bs w) C s st:=q.elim fun o x=>x.elim fun e x=>⟨o,e,x.1,x.2.1,x.2.2.1,x.2.2.2.on bs w⟩
theorem CurR.over (q:CurR u h C s st) (x:Ext (h.lay bs w) h2):CurR u h2 C s st:=q.elim fun o y=>y.elim fun e y=>⟨o,e,y.1,y.2.1,y.2.2.1,y.2.2.2.over x⟩
theorem CurR.sm (q:CurR u h C s st) (x:Sm A h h2) (hne:C≠A):CurR u h2 C s st:=q.elim fun o y=>y.elim fun e y=>⟨o,e,y.1,y.2.1,y.2.2.1,y.2.2.2.sm x hne⟩
theorem CurR.stepL (q:CurR u h C s st) (c:Chg A (h.lay bs w) h2) (hne:C≠A):CurR u h2 C s st:=(q.lay bs w).sm c.sm hne
theorem CurR.lt (q:CurR u h C s st):C < h.size:=q.elim fun o y=>y.elim fun e y=>y.2.2.2.lt
theorem CurR.at {o:Nat} (ho:o≤s.size) (q:Holds h C (.row [.string s,.int .i64 o,.int .i64 0] u false)):CurR u h C s (some o):=⟨o,0,ho,fun p e=>⟨(Option.some.inj e).symm,rfl⟩,nofun,q⟩
theorem CurR.bad {o:Nat} {e:Int} (ho:o≤s.size) (he:e≠0) (q:Holds h C (.row [.string s,.int .i64 o,.int .i64 e] u false)):CurR u h C s none:=⟨o,e,ho,nofun,fun _=>he,q⟩
theorem CurR.get_some {o:Nat} (q:CurR u h C s (some o)):o≤s.size∧Holds h C (.row [.string s,.int .i64 o,.int .i64 0] u false):=by
  obtain ⟨o',e,h1,h2,h3,h4⟩:=q
  obtain ⟨rfl,rfl⟩:=h2 o rfl
  exact ⟨h1,h4⟩
theorem CurR.get_none (q:CurR u h C s none):∃ (o:Nat) (e:Int),o≤s.size∧e≠0∧Holds h C (.row [.string s,.int .i64 o,.int .i64 e] u false):=by
  obtain ⟨o',e,h1,h2,h3,h4⟩:=q
  exact ⟨o',e,h1,h3 rfl,h4⟩
end
def zoq (s:ByteArray) (o:Nat):Option (Nat × Nat):=if o < s.size then some (zaP s o,o+1) else none
open Classical in
theorem zwM {s:ByteArray} {k o3:Nat} {x1 x2:ByteArray} {r1 r2:Option (ByteArray × Nat)} {st st1 st2:Option Nat} (e1:r1=st.bind (zbg s)) (e2:st1=r1.map (·.2)) (e3:r2=st1.bind (zbg s)) (e4:st2=r2.map (·.2)) (e5:some (k,o3)=st2.bind (numO s)) (f1:x1=(r1.map (·.1)).getD ⟨#[]⟩) (f2:x2=(r2.map (·.1)).getD ⟨#[]⟩) :
    st.bind (zcd s)=if k≤4 then (zch s { noAtomD with says:=x1,pred:=x2 } o3 k).bind fun w=>if ValidX { w.1 with n:=k } then some ({ w.1 with n:=k },w.2) else none else none:=by
  cases st with
  | none =>
    have h1:r1=none:=e1
    rw [h1] at e2
    have h2:st1=none:=e2
    rw [h2] at e3
    have h3:r2=none:=e3
    rw [h3] at e4
    have h4:st2=none:=e4
    rw [h4] at e5
    have h5:some (k,o3)=none:=e5
    exact absurd h5 (by simp)
  | some o =>
    rw [Option.bind_some] at e1
    rw [Option.bind_some]
    exact zkT e1 e2 e3 e4 e5 f1 f2
theorem zkg {s:ByteArray} {o:Nat} (h:¬ o < s.size):zbP s o=none:=if_neg (fun g=>h g.1)
theorem zlF {s:ByteArray} {o:Nat} (h:¬ zaP s o≤1):zbP s o=none:=if_neg (fun g=>h g.2)
theorem znR {s:ByteArray} {o:Nat} (h:o < s.size) (h2:zaP s o≤1):zbP s o=some (decide (zaP s o=1),o+1):=if_pos ⟨h,h2⟩
end Go.Am
namespace Go.Proofs.YtemapihoobmonaaGreatDoor
open Go.Am
set_option linter.unusedSimpArgs false
set_option linter.unusedVariables false
set_option maxRecDepth 100000
set_option maxHeartbeats 0
theorem znO (a:Int):zaF Tryz.prog (Next.value <$> convert 151 5 (.int .u32 a))=some (Next.value (.int .u8 (IntKind.u8.wrap a))):=by rfl
theorem zAK:zeL tab 118 118=true:=by kernel_rfl
theorem zss (k:Nat) (hk4:k≤4294967295) (h:Heap) (K:Value→Heap→Prop) (hk:∀ h',Ext h h'→K (.string (zei (numB k))) h'):Ok Tryz.prog tab ov 147 [.int .u32 k] h K:=by
  rw [zaa h]
  have z:=Ext.refl h
  refine Ok.into rfl ztq (zaD N147) rfl (m:=20) rfl ?_
  simp -implicitDefEqProofs only [syms,symx,seval,c147]
  obtain ⟨I1,hI1⟩:∃ I:Nat→Env→Heap→Prop,I=(fun n e h'=>∃ (m:Nat) (l:List Nat) (A:Nat) (wv:Value) (h1:Heap),h'=h1.lay [] h1.low∧Ext h h1∧(n=m∧m≤k∧numB k=l++numB m∧Ow Rep.byte h h1 5 A wv l∧l.length+m≤k)∧∃ J:Nat→Value,e=(.int .u32 m::jr J 1 2 (wv::jr J 4 17 ([])))):=⟨_,rfl⟩
  refine zaC I1 _ (by rw [hI1]; exact ⟨k,[],h.size,.slice none 0 0,_,rfl,z,⟨rfl,by omega,rfl,Ow.nil (Nat.le_refl _),by simp⟩,junk (by kernel_rfl)⟩) ?_
  intro n e h' hin
  rw [hI1] at hin
  obtain ⟨m,l,A,wv,h1',rfl,z,hinv,J,rfl⟩:=hin
  obtain ⟨hnm,hmk,hnb,ow,hll⟩:=hinv
  obtain rfl:m=n:=hnm.symm
  have hvw:=zaR wv
  have hz:=z.size
  simp -implicitDefEqProofs only [syms,symx,seval,c147]
  refine zar (fun hge=>?_) (fun hge=>?_)
  · have hm1:=ztO (P:=Tryz.prog) (T:=tab) (t:=151) (a:=m) (b:=127) (by omega) (by decide)
    rw [zuF] at hm1
    replace hm1:binA Tryz.prog tab .and 151 (.int .u32 (m:Nat)) (.int .u32 127)=some (.int .u32 ((m % 128:Nat):Int)):=hm1
    have hm2:=zAl (P:=Tryz.prog) (T:=tab) (t:=5) (a:=m % 128) (b:=128) (by omega) (by decide)
    rw [zBb (by omega)] at hm2
    replace hm2:binA Tryz.prog tab .or 5 (.int .u8 (m % 128:Nat)) (.int .u8 128)=some (.int .u8 ((m % 128+128:Nat):Int)):=hm2
    have hm3:=zwc (P:=Tryz.prog) (T:=tab) (t:=151) (k2:=.u64) (a:=m)
    simp -implicitDefEqProofs only [syms,symx,seval,c147,hvw,hm1]
    rw [zbb rfl rfl rfl (znO _) rfl,ziO (by omega) (by omega)]
    repeat' ( simp -implicitDefEqProofs only [syms,symx,seval,c147,hm2])
    simp -implicitDefEqProofs only [syms,symx,seval,c147,za3,zAK]
    refine zdD (i:=0) (cs:=[.int .u8 ((m % 128+128:Nat):Int)]) (x:=m % 128+128) zye zjK rfl (by decide) (by rfl) hz ow rfl (by omega) (by omega) (fun w3 h3 A3 ow3 cg3 hA3=>?_)
    have hfA:=ow.fresh
    replace z:=z.stepW cg3 hfA (by omega)
    rw [zaa h3]
    repeat' ( simp -implicitDefEqProofs only [syms,symx,seval,c147,hm3])
    (rw [hI1]; with_reducible refine zac (m:=_) ?_ ⟨m / 128,l++[m % 128+128],A3,w3,_,rfl,z,⟨rfl,by omega,by rw [hnb,zev (by omega),List.append_assoc,List.singleton_append],ow3,by rw [List.length_append,List.length_singleton]; omega⟩,junk (by kernel_rfl)⟩; omega)
  · have hms:=zcL (n:=m) (by omega)
    rw [hms] at hnb
    simp -implicitDefEqProofs only [syms,symx,seval,c147,hvw]
    rw [zbb rfl rfl rfl (znO _) rfl,ziO (by omega) (by omega)]
    repeat' ( simp -implicitDefEqProofs only [syms,symx,seval,c147])
    simp -implicitDefEqProofs only [syms,symx,seval,c147,za3,zAK,hvw]
    refine zdD (i:=0) (cs:=[.int .u8 ((m:Nat):Int)]) (x:=m) zye zjK rfl (by decide) (by rfl) hz ow rfl (by omega) (by omega) (fun w3 h3 A3 ow3 cg3 hA3=>?_)
    have hfA:=ow.fresh
    replace z:=z.stepW cg3 hfA (by omega)
    rw [← hnb] at ow3
    rw [zaa h3]
    simp -implicitDefEqProofs only [syms,symx,seval,c147]
    refine zzY (h0:=h) (u:=5) zye ds5 ds9 rfl (ow3.mono (Inc.lay _ _ _)) (zAE _) rfl ?_
    simp -implicitDefEqProofs only [syms,symx,seval,c147]
    exact hk _ (z.upW _ _ (by omega))
theorem zlQ (a:Int):zaF Tryz.prog (Next.value <$> convert 3 200 (.int .i64 a))=some (Next.value (.int .u64 (IntKind.u64.wrap a))):=by rfl
theorem zzB (s:ByteArray) (o:Nat) (ho:o≤s.size):zba tab 9 (.string s) none (some (.int .i64 o)) none=some (.string (s.extract 0 o)):=by
  unfold zba
  rw [ds9]
  simp only [Option.isSome_none,Bool.false_eq_true,if_false,zbM,zfG,Option.bind_some]
  rw [if_pos (by omega)]
  simp
theorem zpR (s:ByteArray) (h:Heap) (hs:s.size≤100000) (K:Value→Heap→Prop) (h1k:numD s=none→∀ h',Ext h h'→K (.tuple #[.int .u32 0,.int .i64 0,.int .i64 15]) h') (h2k:∀ n k:Nat,numD s=some (n,k)→∀ h',Ext h h'→K (.tuple #[.int .u32 n,.int .i64 k,.int .i64 0]) h'):Ok Tryz.prog tab ov 148 [.string s] h K:=by
  rw [zaa h]
  have z:=Ext.refl h
  have hva:∀ (s:ByteArray) (h:Heap) (K:Value→Heap→Prop),valE (some (.string s)) h K=K (.string s) h:=fun _ _ _=>rfl
  refine Ok.into rfl zvf (zaD N148) rfl (m:=47) rfl ?_
  simp -implicitDefEqProofs only [syms,symx,seval,c148,hva]
  obtain ⟨I1,hI1⟩:∃ I:Nat→Env→Heap→Prop,I=(fun n e h'=>∃ (i:Nat) (h1:Heap),h'=h1.lay [] h1.low∧Ext h h1∧(n=min s.size 5 - i∧i≤min s.size 5∧(∀ j,j < i→128≤zaP s j))∧∃ J:Nat→Value,e=(.string s::jr J 1 4 (.int .u64 (accN s i)::.int .i64 i::jr J 7 41 ([])))):=⟨_,rfl⟩
  refine zaC I1 _ (by rw [hI1]; exact ⟨0,_,rfl,z,⟨rfl,by omega,by simp⟩,junk (by kernel_rfl)⟩) ?_
  intro n e h' hin
  rw [hI1] at hin
  obtain ⟨i,h1',rfl,z,hinv,J,rfl⟩:=hin
  obtain ⟨rfl,hi,hb⟩:=hinv
  have hwi:IntKind.i64.wrap ((i:Int)+1)=((i+1:Nat):Int):=by rw [zad (by omega) (by omega)]; omega
  have hw7:IntKind.i64.wrap (7*(i:Int))=((7*i:Nat):Int):=by rw [zad (by omega) (by omega)]; omega
  have hbl:=zdG s i
  simp -implicitDefEqProofs only [syms,symx,seval,c148,hva]
  refine zar (fun hlt=>?_) (fun hlt=>?_)
  rotate_left
  · repeat' ( simp -implicitDefEqProofs only [syms,symx,seval,c148])
    exact h1k (by unfold numD; rw [zj0 (fun j hj=>hb j (by omega))]) _ (z.upW _ _ (by omega))
  simp -implicitDefEqProofs only [syms,symx,seval,c148]
  refine zar (fun hlt5=>?_) (fun hlt5=>?_)
  rotate_left
  · repeat' ( simp -implicitDefEqProofs only [syms,symx,seval,c148])
    exact h1k (by unfold numD; rw [zj0 (fun j hj=>hb j (by omega))]) _ (z.upW _ _ (by omega))
  have hp28:2 ^ (7*i)≤2 ^ 28:=Nat.pow_le_pow_right (by decide) (by omega)
  rw [show (2:Nat) ^ 28=268435456 by decide] at hp28
  have hpr:zaP s i % 128*2 ^ (7*i)≤127*268435456:=Nat.mul_le_mul (by omega) hp28
  have hac:=zhc s i
  have hac1:=zhc s (i+1)
  have hshl:=zos (P:=Tryz.prog) (T:=tab) (t:=201) (k2:=.u64) (a:=zaP s i % 128) (n:=7*i) (by omega) (by omega)
  have hor:binA Tryz.prog tab .or 201 (.int .u64 (accN s i:Nat)) (.int .u64 (zaP s i % 128*2 ^ (7*i):Nat))=some (.int .u64 ((accN s (i+1):Nat):Int)):=zrf (by omega) (by omega)
  have hand:=zq9 (P:=Tryz.prog) (T:=tab) (t:=5) (a:=zaP s i) (b:=127) hbl (by decide)
  rw [zuF] at hand
  replace hand:binA Tryz.prog tab .and 5 (.int .u8 (zaP s i:Nat)) (.int .u8 127)=some (.int .u8 ((zaP s i % 128:Nat):Int)):=hand
  simp -implicitDefEqProofs only [syms,symx,seval,c148,hva]
  refine zbm Tryz.underlying9 rfl rfl (by omega) (by omega) ?_
  rw [zdL]
  simp -implicitDefEqProofs only [syms,symx,seval,c148,hand]
  rw [zbb rfl rfl rfl (zmG _) rfl,zgN (by omega) (by omega)]
  simp -implicitDefEqProofs only [syms,symx,seval,c148,zgX,hw7]
  rw [zbb rfl rfl rfl (zlQ _) rfl,zgN (by omega) (by omega)]
  simp -implicitDefEqProofs only [syms,symx,seval,c148,hshl,hor]
  refine zbm Tryz.underlying9 rfl rfl (by omega) (by omega) ?_
  rw [zdL]
  simp -implicitDefEqProofs only [syms,symx,seval,c148]
  refine zar (fun hb1=>?_) (fun hb1=>?_)
  · have hsl:=zzB s (i+1) (by omega)
    have hnd:=zyy (s:=s) (i:=i) (by omega) hb (by omega)
    have hb10:∀ (Q:Ex→Env→Heap→Prop) (e:Env) (h:Heap),zeX 1 Q (.exit 0) e h=Q (.exit 0) e h:=fun Q e h=>rfl
    simp -implicitDefEqProofs only [syms,symx,seval,c148]
    with_reducible first | refine zcb (by simp only [c148]) (z.upW _ _ (by omega)) ?_
    repeat' (first | simp -implicitDefEqProofs only [syms,symx,seval,c148,hva] | ((with_reducible  apply zar ) <;> intro _) | ((with_reducible refine ⟨z.grw.lay _ _,?_⟩); (intro _ h' zz x _); (try simp only [zat,List.append_nil] at x); (replace z:=zz); (clear zz); rw [zaa h']))
    · have hgt:(accN s (i+1):Int) > 4294967295:=by assumption
      exact h1k (by rw [hnd,if_pos (.inl (by omega))]) _ (z.upW _ _ (by omega))
    · have hgt:¬ (accN s (i+1):Int) > 4294967295:=by assumption
      rw [zbb rfl rfl rfl (zfx _) rfl,zgO (by omega) (by omega)]
      refine zf5 (by have:=z.size; omega) (by omega) ?_
      repeat' ( simp -implicitDefEqProofs only [syms,symx,seval,c148,hva])
      refine zss (accN s (i+1)) (by omega) _ _ (fun h' x=>?_)
      (( ((with_reducible refine zav ?_ ?_ ?_); (· exact (by (try simp only [lsz]); have:=z.size; omega)); (·  exact x )) ); replace z:=z.overW x (by (try simp only [lsz]); omega); rw [zaa h'])
      repeat' (first | simp -implicitDefEqProofs only [syms,symx,seval,c148,hva,hwi,hsl] | ((with_reducible  apply zar ) <;> intro _) | ((with_reducible refine ⟨z.grw.lay _ _,?_⟩); (intro _ h' zz x _); (try simp only [zat,List.append_nil] at x); (replace z:=zz); (clear zz); rw [zaa h']))
      · have hne:zei (numB (accN s (i+1)))≠s.extract 0 (i+1):=by assumption
        exact h1k (by rw [hnd,if_pos (.inr hne)]) _ (z.upW _ _ (by omega))
      · have hne:¬ zei (numB (accN s (i+1)))≠s.extract 0 (i+1):=by assumption
        rw [zbb rfl rfl rfl (zfx _) rfl,zgO (by omega) (by omega)]
        repeat' ( simp -implicitDefEqProofs only [syms,symx,seval,c148,hwi])
        exact h2k _ _ (by rw [hnd,if_neg (fun g=>g.elim (fun g=>hgt (by omega)) hne)]) _ (z.upW _ _ (by omega))
  · simp -implicitDefEqProofs only [syms,symx,seval,c148]
    rw [hwi]
    (rw [hI1]; with_reducible refine zac (m:=_) ?_ ⟨i+1,_,rfl,z,⟨rfl,by omega,fun j hj=>by
      by_cases e:j=i
      · subst e; omega
      · exact hb j (by omega)⟩,junk (by kernel_rfl)⟩; omega)
end Go.Proofs.YtemapihoobmonaaGreatDoor

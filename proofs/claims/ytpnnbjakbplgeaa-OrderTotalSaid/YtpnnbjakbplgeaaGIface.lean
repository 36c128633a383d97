/- Interfaces, bytes, deleting: the plain machine beside the model. No condition. -/
import Derived.Test.YtpnnbjakbplgeaaGMap
import Derived.Laws.BytesArg
import Derived.Lib.ConvBytes
namespace Go.Am
open Go.RowKit
section
variable {P : Program} {T : Tab} {ρ : Rho} {h h' : Heap} {w : World}

theorem EsR.eraseIdx {l m : List MapEntry} (hl : EsR ρ l m) (i : Nat) : EsR ρ (l.eraseIdx i) (m.eraseIdx i) := by
  have hlen := hl.1
  refine ⟨by rw [List.length_eraseIdx, List.length_eraseIdx, hlen], fun j x y hx hy => ?_⟩
  rw [List.getElem?_eraseIdx] at hx hy
  split at hx
  · rename_i hj; rw [if_pos hj] at hy; exact hl.2 j x y hx hy
  · rename_i hj; rw [if_neg hj] at hy; exact hl.2 (j + 1) x y hx hy

theorem deleteA_sound (hT : T.Fits P) (hs : Sim ρ h w) {t ty : TypeId} {ts : List TypeId} {x y k k' : Value} (hxy : VR ρ x y) (hk : VR ρ k k') (hl : deleteA T t x k h = some h') :
    ∃ w', (Builtin.delete_ (t :: ts).toArray ty #[y, k']).run P w = .ok (.tuple #[]) w' ∧ Fr ρ ρ h h' w w' ∧ Sim ρ h' w' := by
  unfold deleteA at hl
  split at hl
  · rename_i kt et hd
    split at hl
    · rename_i hkey
      cases hl
      obtain ⟨hp, hself⟩ := isKey_spec hkey
      have hkk : k' = k := hk.eq_plain hp
      subst hkk
      cases hxy
      refine ⟨w, ?_, Fr.refl _ _ _, hs⟩
      have hck : ∀ em, (Instr.checkKey em 10000 kt k').run P w = .ok () w := fun em => checkKey_sound hT w em 20 9980 kt k' hself
      simp [Builtin.delete_, run_underlying (hT.desc _ _ hd), hck]
    · cases hl
  · rename_i kt et A hd
    split at hl
    · rename_i es clock hg
      split at hl
      · rename_i hkey
        simp only [Option.bind_eq_some_iff] at hl
        obtain ⟨r, hr, hl⟩ := hl
        have hu := hT.desc _ _ hd
        obtain ⟨hp, hself⟩ := isKey_spec hkey
        have hkk : k' = k := hk.eq_plain hp
        subst hkk
        cases hxy with
        | map hA =>
          rename_i L
          have hb := hs.blk A L hA
          rw [hg] at hb
          obtain ⟨ces, hc, he⟩ := hb
          obtain ⟨r', hf, hfr⟩ := findKey_eq hT w hkey he hr
          have hck : ∀ em, (Instr.checkKey em 10000 kt k').run P w = .ok () w := fun em => checkKey_sound hT w em 20 9980 kt k' hself
          have hget : (getObj L.b).run P w = .ok (.map ces clock) w := by simp [getObj, Sem.run, hc]
          have hset : ∀ o : Obj, (setObj L.b o).run P w = .ok () (w.putObj L.b o) := by
            intro o
            simp [setObj, Sem.run, hc, World.putObj]
          have hlt : L.b < w.heap.size := (Array.getElem?_eq_some_iff.1 hc).1
          have hput : ∀ (b' : Blk) (o : Obj), BlkR ρ (w.putObj L.b o) L (some b') → Fr ρ ρ h (h.set A b') w (w.putObj L.b o) ∧ Sim ρ (h.set A b') (w.putObj L.b o) := by
            intro b' o hb'
            refine setB_sound hs hA hg (by simp) (by simp) rfl rfl rfl (by simp [World.putObj]) (fun q hq => ?_) hb'
            simp only [World.putObj]
            rw [Array.getElem?_setIfInBounds_ne (Ne.symm hq)]
          have hat : ∀ o : Obj, (w.putObj L.b o).heap[L.b]? = some o := by
            intro o
            simp [World.putObj, hlt]
          cases r with
          | none =>
            cases r' with
            | some q => exact hfr.elim
            | none =>
              cases hl
              refine ⟨w.putObj L.b (.map ces clock), ?_, hput _ _ ⟨_, hat _, he⟩⟩
              simp [Builtin.delete_, run_underlying hu, hget, hck, hf, hset]
          | some q =>
            obtain ⟨i, v1⟩ := q
            cases r' with
            | none => exact hfr.elim
            | some q' =>
              obtain ⟨j, u1⟩ := q'
              obtain ⟨rfl, _⟩ := hfr
              cases hl
              refine ⟨w.putObj L.b (.map (ces.eraseIdxIfInBounds i) clock), ?_, hput _ _ ⟨_, hat _, ?_⟩⟩
              · simp [Builtin.delete_, run_underlying hu, hget, hck, hf, hset]
              · have e1 : (ces.eraseIdxIfInBounds i).toList = ces.toList.eraseIdx i := by simp
                rw [e1]
                exact he.eraseIdx i
      · cases hl
    · cases hl
  · cases hl

theorem ifaceA_sound (hT : T.Fits P) {t : TypeId} {x y v : Value} (hxy : VR ρ x y) (hi : ifaceA T t x = some v) (w : World) : ∃ u, (Instr.makeInterface t y).run P w = .ok u w ∧ VR ρ v u := by
  unfold ifaceA at hi
  split at hi
  · cases hi
  · rename_i d hne hd
    cases hi
    refine ⟨.iface t y, ?_, .iface t hxy⟩
    have := hT.desc _ _ hd
    simp only [Instr.makeInterface, Sem.run_bind, run_underlying this, Result.andThen_ok]
    cases d <;> first | rfl | exact (hne _ rfl).elim
  · cases hi

theorem zero_run (hT : T.Fits P) {t : TypeId} {v : Value} (hz : T.zero t = some v) (w : World) : (zeroValue t).run P w = .ok v w := (zero_sound (ρ := fun _ => none) hT hz w).1

theorem assertA_sound (hT : T.Fits P) {t xt : TypeId} {x y v : Value} {ok : Bool} (hxy : VR ρ x y) (hi : assertA T x t ok = some v) (w : World) : ∃ u, (Instr.typeAssert y xt t ok).run P w = .ok u w ∧ VR ρ v u := by
  unfold assertA at hi
  split at hi
  · cases hi
  · rename_i d hne hd
    have hu := hT.desc _ _ hd
    have hni : ∀ ms, d ≠ .interface ms := fun ms e => hne ms e
    have hfail : ∀ z, T.zero t = some z → VR ρ (.tuple #[z, .bool false]) (.tuple #[z, .bool false]) := fun z hz => (VRs.cons (zero_sound (ρ := ρ) hT hz w).2 (.cons (.bool false) (.nil ρ))).toTuple
    split at hi
    · rename_i t' v'
      cases hxy with
      | iface _ hxy =>
        rename_i y'
        split at hi
        · rename_i e
          subst e
          cases hi
          refine ⟨if ok then .tuple #[y', .bool true] else y', ?_, ?_⟩
          · simp only [Instr.typeAssert, Sem.run_bind, run_underlying hu, Result.andThen_ok]
            cases d <;> first | (exact (hni _ rfl).elim) | simp
          · cases ok
            · exact hxy
            · exact (VRs.cons hxy (.cons (.bool true) (.nil ρ))).toTuple
        · rename_i e
          split at hi
          · rename_i hok
            simp only [Option.map_eq_some_iff] at hi
            obtain ⟨z, hz, rfl⟩ := hi
            refine ⟨_, ?_, hfail z hz⟩
            simp only [Instr.typeAssert, Sem.run_bind, run_underlying hu, Result.andThen_ok]
            cases d <;> first | (exact (hni _ rfl).elim) | simp [e, hok, zero_run hT hz]
          · cases hi
    · cases hxy
      split at hi
      · rename_i hok
        simp only [Option.map_eq_some_iff] at hi
        obtain ⟨z, hz, rfl⟩ := hi
        refine ⟨_, ?_, hfail z hz⟩
        simp only [Instr.typeAssert, Sem.run_bind, run_underlying hu, Result.andThen_ok]
        cases d <;> first | (exact (hni _ rfl).elim) | simp [hok, zero_run hT hz]
      · cases hi
    · cases hi
  · cases hi

def PlaceR (ρ : Rho) : PlaceA → Place → Prop
  | .val v, .val u => VR ρ v u
  | .var p, .var a => VR ρ p (.pointer (some a))
  | _, _ => False

theorem loadVar_sound (hT : T.Fits P) (hs : Sim ρ h w) {t : TypeId} {p v : Value} {a : Addr} (hp : VR ρ p (.pointer (some a))) (hl : loadA T t p h = some v) : ∃ u, (loadVar t a).run P w = .ok u w ∧ VR ρ v u := by
  obtain ⟨u, h1, h2⟩ := loadA_sound hT hs hp hl
  refine ⟨u, ?_, h2⟩
  rw [← h1]
  simp [Instr.loadAt, Instr.sureAddr]
theorem place_get (hT : T.Fits P) (hs : Sim ρ h w) {t : TypeId} {x : PlaceA} {y : Place} {v : Value} (hxy : PlaceR ρ x y) (hg : x.get T t h = some v) : ∃ u, (y.get t).run P w = .ok u w ∧ VR ρ v u := by
  cases x with
  | val v' =>
    cases y with
    | val u => cases hg; exact ⟨u, rfl, hxy⟩
    | var a => exact hxy.elim
  | var p =>
    cases y with
    | val u => exact hxy.elim
    | var a => exact loadVar_sound hT hs hxy hg
theorem asAddr_of {p u : Value} {s : TypeId} {f : Nat} {q : Value} (hp : VR ρ p u) (hf : fieldAddrA T s p f = some q) : ∃ a, u = .pointer (some a) ∧ (asAddr u).run P w = .ok a w := by
  unfold fieldAddrA at hf
  split at hf
  · cases hp with
    | ptr hA => exact ⟨_, rfl, by simp [asAddr]⟩
  · cases hf
theorem fieldPlace_sound (hT : T.Fits P) {s : TypeId} {fs : Array Field} {p q : Value} {a : Addr} {i : Nat} {f : Field} (hd : T.desc s = some (.struct fs)) (hi : fs[i]? = some f) (hp : VR ρ p (.pointer (some a))) (hf : fieldAddrA T s p i = some q) :
    ∃ a', (fieldPlace a f).run P w = .ok a' w ∧ VR ρ q (.pointer (some a')) := by
  unfold fieldAddrA at hf
  rw [hd] at hf
  split at hf
  · rename_i fs' A o e1
    cases e1
    simp only [Option.bind_eq_some_iff] at hf
    obtain ⟨fl, hfl, n, hn, hf⟩ := hf
    rw [hi] at hfl
    cases hfl
    split at hf
    · cases hf
    · rename_i h0
      cases hf
      cases hp with
      | ptr hA =>
        rename_i L
        refine ⟨⟨L.b, L.s + (o + f.offset), none⟩, ?_, .ptr hA⟩
        simp [fieldPlace, run_sizeOf hT hn, h0, Addr.add_mid, Nat.add_assoc]
  · cases hf

theorem followA_sound (hT : T.Fits P) (hs : Sim ρ h w) : ∀ (l : List FieldStep) (t : TypeId) (x : PlaceA) (y : Place) (r : TypeId × PlaceA), PlaceR ρ x y → followA T h l t x = some r → ∃ y', (follow l t y).run P w = .ok (r.1, y') w ∧ PlaceR ρ r.2 y'
  | [], t, x, y, r, hxy, hf => by cases hf; exact ⟨y, by simp [follow], hxy⟩
  | s :: l, t, x, y, r, hxy, hf => by
    simp only [followA] at hf
    split at hf
    · rename_i fs hd
      simp only [Option.bind_eq_some_iff] at hf
      obtain ⟨f, hi, hf⟩ := hf
      have hu := hT.desc _ _ hd
      split at hf
      · rename_i hde
        simp only [Option.bind_eq_some_iff] at hf
        obtain ⟨p, hp, q, hq, hf⟩ := hf
        obtain ⟨u, h1, h2⟩ := place_get hT hs hxy hp
        obtain ⟨a, rfl, h3⟩ := asAddr_of (P := P) (w := w) h2 hq
        obtain ⟨a', h4, h5⟩ := fieldPlace_sound (P := P) (w := w) hT hd hi h2 hq
        obtain ⟨y', h6, h7⟩ := followA_sound hT hs l _ (.var q) (.var a') r h5 hf
        refine ⟨y', ?_, h7⟩
        simp only [follow, Sem.run_bind, run_underlying hu, Result.andThen_ok, hi, hde, if_true, h1, h3, h4, h6]
      · rename_i hde
        split at hf
        · rename_i p
          simp only [Option.bind_eq_some_iff] at hf
          obtain ⟨q, hq, hf⟩ := hf
          cases y with
          | val u => exact hxy.elim
          | var a =>
            obtain ⟨a', h4, h5⟩ := fieldPlace_sound (P := P) (w := w) hT hd hi hxy hq
            obtain ⟨y', h6, h7⟩ := followA_sound hT hs l _ (.var q) (.var a') r h5 hf
            refine ⟨y', ?_, h7⟩
            simp only [follow, Sem.run_bind, run_underlying hu, Result.andThen_ok, hi, hde, Bool.false_eq_true, if_false, h4, h6]
        · rename_i cs
          simp only [Option.bind_eq_some_iff] at hf
          obtain ⟨v, hv, hf⟩ := hf
          cases y with
          | var a => exact hxy.elim
          | val u =>
            cases hxy with
            | agg hc hh =>
              rename_i ds
              obtain ⟨vc, h4, h5⟩ := partA_sound (ds := ds) hT (VR.agg hc hh).aggs hv w
              obtain ⟨y', h6, h7⟩ := followA_sound hT hs l _ (.val v) (.val vc) r h5 hf
              refine ⟨y', ?_, h7⟩
              simp only [follow, Sem.run_bind, run_underlying hu, Result.andThen_ok, hi, hde, Bool.false_eq_true, if_false, h4, h6]
        · cases hf
    · cases hf

theorem receiverA_sound (hT : T.Fits P) (hs : Sim ρ h w) {xt : TypeId} {x : PlaceA} {y : Place} {ptr : Bool} {v : Value} (hxy : PlaceR ρ x y) (hr : receiverA T xt x ptr h = some v) (wr : Option String) : ∃ u, (receiverAt xt y ptr wr).run P w = .ok u w ∧ VR ρ v u := by
  unfold receiverA at hr
  split at hr
  · rename_i e hd
    obtain ⟨u, h1, h2⟩ := place_get hT hs hxy hr
    refine ⟨u, ?_, h2⟩
    simp only [receiverAt, Sem.run_bind, run_underlying (hT.desc _ _ hd), Result.andThen_ok, h1]
  · rename_i elem hd
    simp only [Option.bind_eq_some_iff] at hr
    obtain ⟨p, hp, hr⟩ := hr
    obtain ⟨u, h1, h2⟩ := place_get hT hs hxy hp
    have hpu : ∃ a, u = .pointer (some a) := by
      unfold loadA at hr
      split at hr
      · cases h2 with
        | ptr hA => exact ⟨_, rfl⟩
      · cases hr
    obtain ⟨a, rfl⟩ := hpu
    obtain ⟨u', h3, h4⟩ := loadVar_sound hT hs h2 hr
    refine ⟨u', ?_, h4⟩
    simp only [receiverAt, Sem.run_bind, run_underlying (hT.desc _ _ hd), Result.andThen_ok, h1]
    cases wr with
    | none => simp [asAddr, h3]
    | some nm =>
      have hw : (Builtin.ssaWrapNilChk_ #[xt] xt #[.pointer (some a), strVal "", strVal nm]).run P w = .ok (.pointer (some a)) w := rfl
      simp [hw, asAddr, h3]
  · rename_i d p hne hd
    split at hr
    · rename_i a
      cases hr
      cases y with
      | val u => exact hxy.elim
      | var a' =>
        refine ⟨.pointer (some a'), ?_, hxy⟩
        simp only [receiverAt, Sem.run_bind, run_underlying (hT.desc _ _ hd), Result.andThen_ok]
        cases d <;> first | rfl | exact (hne _ rfl).elim
    · cases hr
  · rename_i d hne hd
    obtain ⟨u, h1, h2⟩ := place_get hT hs hxy hr
    refine ⟨u, ?_, h2⟩
    simp only [receiverAt, Sem.run_bind, run_underlying (hT.desc _ _ hd), Result.andThen_ok]
    cases d <;> first | exact h1 | exact (hne _ rfl).elim
  · cases hr

theorem methodA_sound (hT : T.Fits P) (hs : Sim ρ h w) {t : TypeId} {v u r : Value} {name : String} {f : FuncId} (hv : VR ρ v u) (hm : methodA T t v name h = some (f, r)) (fuel : Nat) : ∃ r', (method (fuel + 1) t u name).run P w = .ok (f, r') w ∧ VR ρ r r' := by
  unfold methodA at hm
  simp only [Option.bind_eq_some_iff, Prod.exists] at hm
  obtain ⟨m, hm1, xt, x, hf, hm⟩ := hm
  obtain ⟨i, hi, hfind⟩ := hT.meth _ _ _ hm1
  obtain ⟨y, h1, h2⟩ := followA_sound hT hs m.path.toList t (.val v) (.val u) (xt, x) hv hf
  split at hm
  · rename_i f' ptr hfn
    simp only [Option.map_eq_some_iff, Prod.mk.injEq] at hm
    obtain ⟨r1, hr, rfl, rfl⟩ := hm
    obtain ⟨r', h3, h4⟩ := receiverA_sound hT hs h2 hr (if m.path.isEmpty then some ((name.splitOn ".").getLastD name) else none)
    refine ⟨r', ?_, h4⟩
    have hti : (typeInfo t).run P w = .ok i w := by simp [typeInfo, hi]
    simp only [method, Sem.run_bind, hti, Result.andThen_ok, hfind, h1, hfn, h3, Sem.run_pure]
  · cases hm

theorem capA_sound (hT : T.Fits P) {t ty : TypeId} {x y v : Value} (hxy : VR ρ x y) (hc : capA T t x = some v) (ts : List TypeId) (w : World) : ∃ u, (Builtin.cap_ (t :: ts).toArray ty #[y]).run P w = .ok u w ∧ VR ρ v u := by
  unfold capA at hc
  split at hc
  · rename_i e a n c hd
    split at hc
    · rename_i hlt
      cases hc
      have key : ∃ a' n', y = .slice a' n' c := by
        cases hxy with
        | sliceNil => exact ⟨_, _, rfl⟩
        | slice => exact ⟨_, _, rfl⟩
        | sliceG h1 h2 => omega
      obtain ⟨a', n', rfl⟩ := key
      exact ⟨_, by simp [Builtin.cap_, run_underlying (hT.desc _ _ hd), goInt], .int _ _⟩
    · cases hc
  · cases hc

theorem bytes_ints : ∀ (l m : List Value) (bs : List UInt8), VRs ρ l m → bytesA l = some bs → ∃ ns : List Int, m = ns.map (Value.int .u8) ∧ bs = ns.map fun n => UInt8.ofNat n.toNat
  | [], m, bs, hv, hb => by
    rw [hv.of_nil]
    cases hb
    exact ⟨[], rfl, rfl⟩
  | x :: l, m, bs, hv, hb => by
    obtain ⟨y, m', rfl, h1, h2⟩ := hv.of_cons
    cases x with
    | int k n =>
      cases k <;> simp only [bytesA] at hb <;> try cases hb
      simp only [Option.map_eq_some_iff] at hb
      obtain ⟨bs', hb', rfl⟩ := hb
      cases h1
      obtain ⟨ns, rfl, rfl⟩ := bytes_ints l m' bs' h2 hb'
      exact ⟨n :: ns, rfl, rfl⟩
    | _ => simp [bytesA] at hb

theorem bytesToA_sound (hT : T.Fits P) (hs : Sim ρ h w) {s d : TypeId} {x y v : Value} (hxy : VR ρ x y) (hb : bytesToA T s d x h = some v) : ∃ u, (convert s d y).run P w = .ok u w ∧ VR ρ v u := by
  unfold bytesToA at hb
  split at hb
  · rename_i e a n c hsd hdd
    split at hb
    · rename_i hed
      simp only [Option.bind_eq_some_iff, Option.map_eq_some_iff] at hb
      obtain ⟨l, hl, bs, hbs, rfl⟩ := hb
      obtain ⟨a', c', m, rfl, hv, hlen, hrun⟩ := cellsA_sound (P := P) hs hxy hl
      obtain ⟨ns, rfl, rfl⟩ := bytes_ints l m bs hv hbs
      refine ⟨_, ?_, .string _⟩
      rw [run_convert_bytes_string w s d e a' n c' (hT.desc _ _ hsd) (hT.desc _ _ hed) (hT.desc _ _ hdd)]
      cases a' with
      | none =>
        have hn : n = 0 := by cases hxy; rfl
        subst hn
        have : ns = [] := by simpa using hlen
        subst this
        rfl
      | some ad =>
        have h1 := hrun w rfl n (Nat.le_refl _)
        have h2 : (loadCells ad n).run P w = .ok (ns.map (Value.int .u8)).toArray w := by
          have h3 : (Builtin.firstCells 1 n (.slice (some ad) n c')) = loadCells ad (n * 1) := rfl
          rw [h3, Nat.mul_one] at h1
          rw [h1]
          congr 2
          exact List.take_of_length_le (by rw [hlen, Nat.mul_one]; exact Nat.le_refl _)
        rw [run_bytesToString w ad n c' ns h2, foldl_push_bytes]
        simp
    · cases hb
  · cases hb

theorem toBytesA_sound (hT : T.Fits P) (hs : Sim ρ h w) (hfree : Free ρ h h') {s d : TypeId} {x y v : Value} (hsrc : isString T s = true) (hx : VR ρ x y) (hl : toBytesA T d x h = some (v, h')) :
    ∃ ρ' u w', (convert s d y).run P w = .ok u w' ∧ Fr ρ ρ' h h' w w' ∧ Sim ρ' h' w' ∧ VR ρ' v u := by
  have hus : P.underlying s = some .string := by
    unfold isString at hsrc
    split at hsrc
    · rename_i hd; exact hT.desc _ _ hd
    · cases hsrc
  unfold toBytesA at hl
  split at hl
  · rename_i e b hd
    split at hl
    · rename_i by' z he hi
      split at hl
      · cases hl
      · rename_i hsz
        cases hl
        cases hx
        have hrun := Lib.run_convert_string_bytes w s d e b hus (hT.desc _ _ hd) (hT.desc _ _ he)
        have hge := grownCap_ge w b.size 0 e
        have hle := grownCap_le_maxLen w b.size 0 e (by unfold maxLen; omega)
        have hcs : (Lib.bytesCells w e b).size = grownCap w b.size 0 e := by
          have hbs : b.data.size = b.size := rfl
          simp only [Lib.bytesCells, Array.size_append, Array.size_map, Array.size_replicate, hbs]
          omega
        have hW : (Lib.bytesWorld w e b).heap = w.heap.push (.cells (Lib.bytesCells w e b) e ((Lib.bytesCells w e b).size, (Lib.bytesCells w e b).size + 1)) := by
          apply Array.ext_getElem?
          intro j
          rw [Array.getElem?_push]
          by_cases hj : j = w.heap.size
          · rw [if_pos hj, hj, Lib.bytesWorld_at_new]
          · rw [if_neg hj]
            by_cases hj2 : j < w.heap.size
            · exact Lib.bytesWorld_at_old w e b j hj2
            · rw [Array.getElem?_eq_none (by rw [Lib.bytesWorld_size]; omega), Array.getElem?_eq_none (by omega)]
        have hoc := openCap (k := 1) (q := b.size) (by omega) (by unfold G; omega)
        obtain ⟨ρ', hρ, hfr, hsim⟩ := pushF_sound (W := Lib.bytesWorld w e b) (cs := b.data.toList.map fun u => Value.int .u8 u.toNat) (m := b.data.toList.map fun u => Value.int .u8 u.toNat) hs (hfree _ (Nat.le_refl _) (by rw [Heap.size_push]; omega))
          (fz := ((Lib.bytesCells w e b).size, (Lib.bytesCells w e b).size + 1)) (by intro j hj hh; have := hh.1; simp at this; omega) hW
          (by simp [Lib.bytesWorld, World.freeze, World.alloc, World.drew, -World.alloc_eq, -World.drew_eq]) (by simp [Lib.bytesWorld, World.freeze, World.alloc, World.drew, -World.alloc_eq, -World.drew_eq]) (by simp [Lib.bytesWorld, World.freeze, World.alloc, World.drew, -World.alloc_eq, -World.drew_eq])
          (by refine cut_mk ?_ (by simp) fun j hj => ?_
              · simp [Lib.bytesCells]
              · simp only [List.length_map, Array.length_toList] at hj
                rw [Nat.zero_add]
                simp only [Lib.bytesCells, Array.toList_append, Array.toList_map]
                rw [List.getElem?_append_left (by simpa using hj)])
          (by refine ⟨rfl, fun j a c ha hc => ?_⟩
              rw [ha] at hc
              cases hc
              rw [List.getElem?_map, Option.map_eq_some_iff] at ha
              obtain ⟨q, _, rfl⟩ := ha
              exact .int .u8 _)
        refine ⟨ρ', _, _, hrun, hfr, hsim, ?_⟩
        refine .sliceG hρ hoc.1 (by rw [hoc.2.1]; exact hge) (by rw [hoc.2.1]; exact Nat.le_refl _) (by rw [hoc.2.2]; omega) hle (fun _ => ⟨by simp, ?_⟩)
        rw [hoc.2.2]
        show 0 + 0 + grownCap w b.size 0 e * 1 ≤ (Lib.bytesCells w e b).size
        rw [hcs]
        omega
    · cases hl
  · cases hl
#print axioms toBytesA_sound
end
end Go.Am

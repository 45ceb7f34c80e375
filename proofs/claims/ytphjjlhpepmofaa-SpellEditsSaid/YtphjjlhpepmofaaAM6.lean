/- Each operation of the program does what its reading comes to: those that leave memory alone. -/
import Derived.Test.YtphjjlhpepmofaaAM5
import Derived.Laws.StructEq
set_option linter.all false
namespace Go.AM
open Go

section
variable {P : Program} {C : Cx} {n : Nat} {F : Nat → Prop} {s : St} {a : Act} {W : World} {hdr : Nat → Value} {ow : Nat → Option Nat} {id : Nat} {o : Oper}

/-- The operation goes through: its value is borne as x says, the state's rows are H'. -/
def Snd (P : Program) (C : Cx) (n : Nat) (F : Nat → Prop) (s : St) (a : Act) (W : World) (id : Nat) (o : Oper) (x : AV) (H' : Heap) : Prop :=
  ∃ v W' hdr' ow', ((execOp a.eval o).run P W = .ok (.value v) W' ∨ ((execOp a.eval o).run P W = .ok .skip W' ∧ v = undef)) ∧
    RelAt C n (fun i => F i ∨ i = id) { s with heap := H' } a W' hdr' ow' ∧ RepA W' (OK C W' H' ow') hdr' H' x v ∧ ∀ i, x.men i → F i ∨ i = id

theorem Snd.pure (r : RelAt C n F s a W hdr ow) {x : AV} {v : Value} (h : (execOp a.eval o).run P W = .ok (.value v) W) (hx : RepA W (OK C W s.heap ow) hdr s.heap x v) (hm : ∀ i, x.men i → F i) :
    Snd P C n F s a W id o x s.heap :=
  ⟨v, W, hdr, ow, .inl h, r.monoF fun i h => .inl h, hx, fun i h => .inl (hm i h)⟩

/-- A scalar comes out. -/
theorem Snd.scal (r : RelAt C n F s a W hdr ow) {v : Value} (h : (execOp a.eval o).run P W = .ok (.value v) W) (hv : scal v = true) : Snd P C n F s a W id o (.v (.w v)) s.heap :=
  Snd.pure r h (by simp only [RepA]; exact RepV.w hv) (by simp [AV.men])

theorem snd_mv (r : RelAt C n F s a W hdr ow) {x : Operand} {y : Opd} {t : TypeId} {av : AV} (ho : o.op = .move x ∨ o.op = .assign x) (hx : opd P t x = some y) (he : ev s.env y = some av) :
    Snd P C n F s a W id o av s.heap := by
  obtain ⟨h1, h2⟩ := opd_ok r hx he
  refine Snd.pure r ?_ h1 h2
  rcases ho with ho | ho <;> simp [execOp, ho]

theorem snd_nilS (r : RelAt C n F s a W hdr ow) (hid : ¬ F id) {x : Value} {sz : Nat} (ho : o.op = .move (.const x) ∨ o.op = .assign (.const x)) (hx : isNilSlice x = true) :
    Snd P C n F s a W id o (.h id) ((id, ⟨false, sz, []⟩) :: s.heap) := by
  have hx' : x = .slice none 0 0 := by
    unfold isNilSlice at hx; split at hx <;> simp_all
  refine ⟨.slice none 0 0, W, _, _, .inl ?_, r.allocNil hid sz none, ?_, ?_⟩
  · rcases ho with ho | ho <;> simp [execOp, ho, Act.eval, hx']
  · simp only [RepA]; intro e he; simp [upd]
  · intro i hi; exact .inr (by simpa [AV.men] using hi.symm)

theorem snd_pick (r : RelAt C n F s a W hdr ow) {c x y : Operand} {c' x' y' : Opd} {t1 t2 t3 : TypeId} {b : Bool} {av : AV} (ho : o.op = .pick c x y) (hc : opd P t1 c = some c') (hx : opd P t2 x = some x') (hy : opd P t3 y = some y')
    (hb : ev s.env c' = some (.v (.w (.bool b)))) (he : ev s.env (if b = true then x' else y') = some av) : Snd P C n F s a W id o av s.heap := by
  have hcv : a.eval c = .bool b := by
    have := (opd_ok r hc hb).1
    simp only [RepA] at this
    exact this.wInv.1
  cases b with
  | true =>
    obtain ⟨h1, h2⟩ := opd_ok r hx (by simpa using he)
    exact Snd.pure r (by simp [execOp, ho, hcv, asBool]) h1 h2
  | false =>
    obtain ⟨h1, h2⟩ := opd_ok r hy (by simpa using he)
    exact Snd.pure r (by simp [execOp, ho, hcv, asBool]) h1 h2

theorem data_inj {x y : ByteArray} (h : x.data.toList = y.data.toList) : x = y := by
  obtain ⟨⟨x⟩⟩ := x
  obtain ⟨⟨y⟩⟩ := y
  simp only at h
  subst h; rfl

theorem eq_toList (x y : ByteArray) : (x.toList == y.toList) = decide (x = y) := by
  rw [ByteArray.toList_eq, ByteArray.toList_eq, Bool.eq_iff_iff]
  simp only [beq_iff_eq, decide_eq_true_eq]
  exact ⟨data_inj, fun h => by rw [h]⟩

theorem run_value {s : Sem Value} {z : Value} {W W' : World} (h : s.run P W = .ok z W') : ((do Pure.pure (Next.value (← s))) : Sem Next).run P W = .ok (.value z) W' := by simp [h]

theorem shV_scal {op : BinOp} {k : IntKind} {x y : Int} {z : Value} (h : shV op k x y = some z) : scal z = true := by
  unfold shV at h
  split at h
  · cases h
  · cases op <;> first | (simp at h; done) | (simp at h; subst h; rfl)

theorem run_shV {op : BinOp} {k k' : IntKind} {x y : Int} {z : Value} (t : TypeId) (X Y : Operand) (h : shV op k x y = some z) :
    ((do eqGuard op t X Y (.int k x) (.int k' y); binOp op t (.int k x) (.int k' y)) : Sem Value).run P W = .ok z W := by
  unfold shV at h
  split at h
  · cases h
  · rename_i hy
    cases op <;> first | (simp at h; done) | (simp at h; subst h; simp [eqGuard, binOp, Op.shift, hy])

theorem intBin_scal {op : BinOp} {k : IntKind} {x y : Int} {z : Value} (h : intBin op k x y = some z) : scal z = true := by
  unfold intBin at h
  cases op <;> first | exact shV_scal h | (simp at h; done) | (simp at h; subst h; rfl) | (simp at h; obtain ⟨_, h⟩ := h; subst h; rfl)

theorem strBin_scal {op : BinOp} {x y : ByteArray} {z : Value} (h : strBin op x y = some z) : scal z = true := by
  unfold strBin at h
  cases op <;> first | (simp at h; done) | (simp at h; subst h; rfl) | (simp at h; obtain ⟨_, h⟩ := h; subst h; rfl)

theorem run_intBin {op : BinOp} {k : IntKind} {x y : Int} {z : Value} (t : TypeId) (X Y : Operand) (h : intBin op k x y = some z) :
    ((do eqGuard op t X Y (.int k x) (.int k y); binOp op t (.int k x) (.int k y)) : Sem Value).run P W = .ok z W := by
  unfold intBin at h
  cases op <;> first
    | exact run_shV t X Y h
    | (simp at h; done)
    | (simp at h; subst h; simp [eqGuard, binOp, Op.intArith, Op.intCmp]; done)
    | (simp at h; obtain ⟨h0, h⟩ := h; subst h; simp [eqGuard, binOp, Op.intDiv, h0]; done)
    | (simp at h; subst h; simp [eqGuard, binOp, Op.intArith, Op.intCmp, bne]; rw [Bool.eq_iff_iff]; simp; done)

theorem run_strBin {op : BinOp} {x y : ByteArray} {z : Value} (t : TypeId) (X Y : Operand) (h : strBin op x y = some z) :
    ((do eqGuard op t X Y (.string x) (.string y); binOp op t (.string x) (.string y)) : Sem Value).run P W = .ok z W := by
  unfold strBin at h
  have hm : IntKind.max .i64 = 9223372036854775807 := by decide
  cases op <;> first
    | (simp at h; done)
    | (simp at h; subst h; simp [eqGuard, binOp, Op.stringOp, eq_toList, slt]; done)
    | (simp at h; obtain ⟨h0, h⟩ := h; subst h; simp only [eqGuard, binOp, Op.stringOp, hm]
       simp
       omega)

theorem snd_bin (r : RelAt C n F s a W hdr ow) {op : BinOp} {x y : Operand} {x' y' : Opd} {t t' : TypeId} {u v z : AV} (ho : o.op = .binOp op t x y t') (hx : opd P t x = some x') (hy : opd P t y = some y')
    (hu : ev s.env x' = some u) (hv : ev s.env y' = some v) (hz : binA op u v = some z) : Snd P C n F s a W id o z s.heap := by
  have hux := (opd_ok r hx hu).1
  have hvy := (opd_ok r hy hv).1
  unfold binA at hz
  split at hz
  · rename_i p q
    simp only [RepA] at hux hvy
    obtain ⟨hu1, hu2⟩ := hux.wInv
    obtain ⟨hv1, hv2⟩ := hvy.wInv
    simp only [Option.map_eq_some_iff] at hz
    obtain ⟨w, hw, rfl⟩ := hz
    unfold binV at hw
    split at hw
    · rename_i k i k' j
      split at hw
      · rename_i hk; subst hk
        refine Snd.scal r ?_ (intBin_scal hw)
        simp only [execOp, ho, hu1, hv1]
        exact run_value (run_intBin t x y hw)
      · refine Snd.scal r ?_ (shV_scal hw)
        simp only [execOp, ho, hu1, hv1]
        exact run_value (run_shV t x y hw)
    · refine Snd.scal r ?_ (strBin_scal hw)
      simp only [execOp, ho, hu1, hv1]
      exact run_value (run_strBin t x y hw)
    · cases hw
  · cases hz

theorem snd_un (r : RelAt C n F s a W hdr ow) {op : UnOp} {x : Operand} {x' : Opd} {t : TypeId} {u z : AV} (ho : o.op = .unOp op t x) (hx : opd P t x = some x')
    (hu : ev s.env x' = some u) (hz : unA op u = some z) : Snd P C n F s a W id o z s.heap := by
  have hux := (opd_ok r hx hu).1
  unfold unA at hz
  split at hz
  · simp only [RepA] at hux
    split at hz
    · cases hz; refine Snd.scal r ?_ rfl; simp [execOp, ho, hux.wInv.1, Op.unary]
    · cases hz
  · simp only [RepA] at hux
    split at hz
    · cases hz; refine Snd.scal r ?_ rfl; simp [execOp, ho, hux.wInv.1, Op.unary, Op.intArith]
    · cases hz
  · cases hz

theorem slInvV {ok : Nat → Prop} {sz : Nat} {l : List PV} {v : Value} (r : RepC W ok (.sl sz l) [v]) : ∃ ao cap, v = .slice ao l.length cap := by
  rcases r.slInv with ⟨h1, ao, h2⟩ | ⟨b, off, cap, c, h2, _⟩
  · simp at h2; exact ⟨ao, 0, by rw [h2, h1]; rfl⟩
  · simp at h2; exact ⟨_, cap, h2⟩

theorem snd_len_str (r : RelAt C n F s a W hdr ow) {as : Array Operand} {ts : Array TypeId} {x : Operand} {x' : Opd} {t : TypeId} {b : ByteArray} (ho : o.op = .call { callee := .builtin .len, args := as, argTypes := ts })
    (ha : as.toList = [x]) (ht : ts.toList = [t]) (hd : P.underlying t = some .string) (hx : opd P t x = some x') (hu : ev s.env x' = some (.v (.w (.string b)))) :
    Snd P C n F s a W id o (.v (.w (.int .i64 b.size))) s.heap := by
  obtain rfl : as = #[x] := Array.toList_inj.1 (by simpa using ha)
  obtain rfl : ts = #[t] := Array.toList_inj.1 (by simpa using ht)
  have hux := (opd_ok r hx hu).1
  simp only [RepA] at hux
  refine Snd.scal r ?_ rfl
  simp [execOp, ho, resolve, invoke, builtin, Builtin.len_, run_underlying hd, hux.wInv.1, goInt]

theorem snd_len_row (r : RelAt C n F s a W hdr ow) {as : Array Operand} {ts : Array TypeId} {x : Operand} {x' : Opd} {t e : TypeId} {u : AV} {sz : Nat} {l : List PV} (ho : o.op = .call { callee := .builtin .len, args := as, argTypes := ts })
    (ha : as.toList = [x]) (ht : ts.toList = [t]) (hd : P.underlying t = some (.slice e)) (hx : opd P t x = some x') (hu : ev s.env x' = some u) (hl : rdRow s.heap u = some (sz, l)) :
    Snd P C n F s a W id o (.v (.w (.int .i64 l.length))) s.heap := by
  obtain rfl : as = #[x] := Array.toList_inj.1 (by simpa using ha)
  obtain rfl : ts = #[t] := Array.toList_inj.1 (by simpa using ht)
  obtain ⟨ao, cap, hv⟩ := slInvV (rdRow_ok r (opd_ok r hx hu).1 hl)
  refine Snd.scal r ?_ rfl
  simp [execOp, ho, resolve, invoke, builtin, Builtin.len_, run_underlying hd, hv, goInt]

theorem snd_mm (r : RelAt C n F s a W hdr ow) {mx : Bool} {as : Array Operand} {ts : Array TypeId} {x y : Operand} {x' y' : Opd} {t : TypeId} {k k' : IntKind} {i j : Int}
    (ho : o.op = .call { callee := .builtin (if mx = true then .max else .min), args := as, argTypes := ts }) (ha : as.toList = [x, y]) (hx : opd P t x = some x') (hy : opd P t y = some y')
    (hu : ev s.env x' = some (.v (.w (.int k i)))) (hv : ev s.env y' = some (.v (.w (.int k' j)))) :
    Snd P C n F s a W id o (.v (.w (.int k (if mx = true then (if j > i then j else i) else (if j < i then j else i))))) s.heap := by
  obtain rfl : as = #[x, y] := Array.toList_inj.1 (by simpa using ha)
  have hux := (opd_ok r hx hu).1
  have hvy := (opd_ok r hy hv).1
  simp only [RepA] at hux hvy
  refine Snd.scal r ?_ rfl
  cases mx
  · simp [execOp, ho, resolve, invoke, builtin, Builtin.min_, Builtin.min2, hux.wInv.1, hvy.wInv.1]
  · simp [execOp, ho, resolve, invoke, builtin, Builtin.max_, Builtin.max2, hux.wInv.1, hvy.wInv.1]

theorem snd_mmS (r : RelAt C n F s a W hdr ow) {mx : Bool} {as : Array Operand} {ts : Array TypeId} {x y : Operand} {x' y' : Opd} {t : TypeId} {i j : ByteArray}
    (ho : o.op = .call { callee := .builtin (if mx = true then .max else .min), args := as, argTypes := ts }) (ha : as.toList = [x, y]) (hx : opd P t x = some x') (hy : opd P t y = some y')
    (hu : ev s.env x' = some (.v (.w (.string i)))) (hv : ev s.env y' = some (.v (.w (.string j)))) :
    Snd P C n F s a W id o (.v (.w (.string (if mx = true then (if slt i j = true then j else i) else (if slt i j = true ∨ i = j then i else j))))) s.heap := by
  obtain rfl : as = #[x, y] := Array.toList_inj.1 (by simpa using ha)
  have hux := (opd_ok r hx hu).1
  have hvy := (opd_ok r hy hv).1
  simp only [RepA] at hux hvy
  refine Snd.scal r ?_ rfl
  have hs : Op.bytesLess i.toList j.toList = slt i j := rfl
  cases mx
  · simp [execOp, ho, resolve, invoke, builtin, Builtin.min_, Builtin.min2, hux.wInv.1, hvy.wInv.1, Op.stringOp, eq_toList, asBool, hs]
  · simp [execOp, ho, resolve, invoke, builtin, Builtin.max_, Builtin.max2, hux.wInv.1, hvy.wInv.1, Op.stringOp, eq_toList, asBool, hs]
    cases h : slt i j <;> rfl

theorem run_eqBool {t : TypeId} {i j : Bool} (ht : P.underlying t = some .bool) : (Op.equal t (.bool i) (.bool j) : Sem Bool).run P W = .ok (i == j) W := by
  unfold Op.equal
  exact run_equalIn_bool' W 9999 t i j ht

theorem snd_eqb (r : RelAt C n F s a W hdr ow) {ng : Bool} {x y : Operand} {x' y' : Opd} {t t' : TypeId} {i j : Bool} (ho : o.op = .binOp (if ng = true then .neq else .eql) t x y t') (ht : P.underlying t = some .bool) (hx : opd P t x = some x') (hy : opd P t y = some y')
    (hu : ev s.env x' = some (.v (.w (.bool i)))) (hv : ev s.env y' = some (.v (.w (.bool j)))) : Snd P C n F s a W id o (.v (.w (.bool (if ng = true then !(i == j) else i == j)))) s.heap := by
  have hux := (opd_ok r hx hu).1
  have hvy := (opd_ok r hy hv).1
  simp only [RepA] at hux hvy
  refine Snd.scal r ?_ rfl
  simp only [execOp, ho, hux.wInv.1, hvy.wInv.1]
  cases ng
  · simp [eqGuard, binOp, run_eqBool ht]
  · simp [eqGuard, binOp, run_eqBool ht]

theorem asI_ok {ok : Nat → Prop} {H : Heap} {x : AV} {v : Value} {i : Int} (h : asI x = some i) (hx : RepA W ok hdr H x v) : ∃ k, v = .int k i := by
  unfold asI at h
  split at h
  · cases h; simp only [RepA] at hx; exact ⟨_, hx.wInv.1⟩
  · cases h

theorem opdI_ok (r : RelAt C n F s a W hdr ow) {x : Operand} {x' : Opd} {t : TypeId} {i : Int} (hx : opd P t x = some x') (h : (ev s.env x').bind asI = some i) : ∃ k, a.eval x = .int k i := by
  cases e : ev s.env x' with
  | none => rw [e] at h; cases h
  | some u => rw [e] at h; exact asI_ok h (opd_ok r hx e).1

theorem bytes_get (b : ByteArray) (i : Nat) : b[i]? = b.data.toList[i]? := by
  have hs : b.size = b.data.toList.length := Array.length_toList.symm
  by_cases h : i < b.size
  · rw [getElem?_pos b i h, List.getElem?_eq_getElem (by omega)]; rfl
  · rw [getElem?_neg b i h, List.getElem?_eq_none (by omega)]

theorem snd_six (r : RelAt C n F s a W hdr ow) {x y : Operand} {x' y' : Opd} {t t1 t2 : TypeId} {b : ByteArray} {i : Int} {c : UInt8} (ho : o.op = .index t x y) (hd : P.underlying t = some .string)
    (hx : opd P t1 x = some x') (hy : opd P t2 y = some y') (hu : ev s.env x' = some (.v (.w (.string b)))) (hv : (ev s.env y').bind asI = some i) (h0 : 0 ≤ i) (hc : b.data.toList[i.toNat]? = some c) :
    Snd P C n F s a W id o (.v (.w (.int .u8 c.toNat))) s.heap := by
  have hux := (opd_ok r hx hu).1
  simp only [RepA] at hux
  obtain ⟨k, hk⟩ := opdI_ok r hy hv
  refine Snd.scal r ?_ rfl
  rw [← bytes_get] at hc
  simp [execOp, ho, Instr.index, run_underlying hd, hux.wInv.1, hk, asIntOf, h0, hc]

theorem run_bnds (r : RelAt C n F s a W hdr ow) {isS : Bool} {ln cap : Nat} {lo hi : Option Operand} {lo' hi' : Option Opd} {i j : Nat} (hlo : optO P lo = some lo') (hhi : optO P hi = some hi') (hc : ln ≤ cap) (h : bnds s.env ln lo' hi' = some (i, j)) :
    (Instr.sliceBounds isS ln cap (lo.map a.eval) (hi.map a.eval) none).run P W = .ok (i, j, cap) W ∧ i ≤ j ∧ j ≤ ln := by
  unfold bnds at h
  split at h
  · rename_i q p hq hp
    split at h
    · rename_i hb
      simp only [Option.some.injEq, Prod.mk.injEq] at h
      obtain ⟨rfl, rfl⟩ := h
      refine ⟨?_, by omega, by omega⟩
      have hlo2 : (lo = none ∧ p = 0) ∨ ∃ x k, lo = some x ∧ a.eval x = .int k p := by
        cases lo with
        | none => simp [optO] at hlo; subst hlo; simp at hp; exact .inl ⟨rfl, hp.symm⟩
        | some x =>
          simp only [optO, Option.map_eq_some_iff] at hlo
          obtain ⟨y, hy, rfl⟩ := hlo
          obtain ⟨k, hk⟩ := opdI_ok r hy hp
          exact .inr ⟨x, k, rfl, hk⟩
      have hhi2 : (hi = none ∧ q = ln) ∨ ∃ x k, hi = some x ∧ a.eval x = .int k q := by
        cases hi with
        | none => simp [optO] at hhi; subst hhi; simp at hq; exact .inl ⟨rfl, hq.symm⟩
        | some x =>
          simp only [optO, Option.map_eq_some_iff] at hhi
          obtain ⟨y, hy, rfl⟩ := hhi
          obtain ⟨k, hk⟩ := opdI_ok r hy hq
          exact .inr ⟨x, k, rfl, hk⟩
      rcases hlo2 with ⟨rfl, rfl⟩ | ⟨x, k, rfl, hk⟩ <;> rcases hhi2 with ⟨rfl, rfl⟩ | ⟨y, k2, rfl, hk2⟩
      · simp [Instr.sliceBounds]
      · have : q ≤ cap := by omega
        have : 0 ≤ q := by omega
        cases isS <;> simp [Instr.sliceBounds, Instr.sliceBound, hk2, asIntOf, *]
      · have : p ≤ ln := by omega
        have : 0 ≤ p := by omega
        simp [Instr.sliceBounds, Instr.sliceBound, hk, asIntOf, *]
      · have : q ≤ cap := by omega
        have : 0 ≤ q := by omega
        have : 0 ≤ p := by omega
        have : p ≤ q := by omega
        cases isS <;> simp [Instr.sliceBounds, Instr.sliceBound, hk, hk2, asIntOf, *] <;> (intro hh; omega)
    · cases h
  · cases h

theorem snd_sls (r : RelAt C n F s a W hdr ow) {x : Operand} {lo hi : Option Operand} {x' : Opd} {lo' hi' : Option Opd} {t t1 : TypeId} {b : ByteArray} {i j : Nat} (ho : o.op = .slice t x lo hi none) (hd : P.underlying t = some .string)
    (hx : opd P t1 x = some x') (hlo : optO P lo = some lo') (hhi : optO P hi = some hi') (hu : ev s.env x' = some (.v (.w (.string b)))) (hb : bnds s.env b.size lo' hi' = some (i, j)) :
    Snd P C n F s a W id o (.v (.w (.string (b.extract i j)))) s.heap := by
  have hux := (opd_ok r hx hu).1
  simp only [RepA] at hux
  obtain ⟨h1, h2, h3⟩ := run_bnds (isS := false) r hlo hhi (Nat.le_refl _) hb
  refine Snd.scal r ?_ rfl
  simp [execOp, ho, Instr.sliceAt, Instr.slice, run_underlying hd, hux.wInv.1, h1]

theorem snd_conv (r : RelAt C n F s a W hdr ow) {x : Operand} {x' : Opd} {t t' t1 : TypeId} {k k0 k' : IntKind} {i : Int} (ho : o.op = .convert t t' x) (hd : P.underlying t = some (.int k0)) (hd' : P.underlying t' = some (.int k)) (hx : opd P t1 x = some x')
    (hu : ev s.env x' = some (.v (.w (.int k' i)))) : Snd P C n F s a W id o (.v (.w (.int k (k.wrap i)))) s.heap := by
  have hux := (opd_ok r hx hu).1
  simp only [RepA] at hux
  refine Snd.scal r ?_ rfl
  simp [execOp, ho, convert, run_underlying hd, run_underlying hd', hux.wInv.1, Conv.intToInt]

theorem snd_convS (r : RelAt C n F s a W hdr ow) {x : Operand} {x' : Opd} {t t' t1 : TypeId} {u : AV} (ho : o.op = .convert t t' x) (hd : P.underlying t = some .string) (hd' : P.underlying t' = some .string) (hx : opd P t1 x = some x')
    (hu : ev s.env x' = some u) (hs : ∃ b, u = .v (.w (.string b))) : Snd P C n F s a W id o u s.heap := by
  obtain ⟨b, rfl⟩ := hs
  have hux := (opd_ok r hx hu).1
  simp only [RepA] at hux
  refine Snd.scal r ?_ rfl
  simp [execOp, ho, convert, run_underlying hd, run_underlying hd', hux.wInv.1]

theorem snd_chk (r : RelAt C n F s a W hdr ow) {x : Operand} {x' : Opd} {t1 : TypeId} {u : AV} (ho : o.op = .nilCheck x) (hx : opd P t1 x = some x')
    (hu : ev s.env x' = some u) (hs : (∃ cs, u = .rp cs) ∨ ∃ f cs, u = .fn f cs) : Snd P C n F s a W id o u s.heap := by
  obtain ⟨h1, h2⟩ := opd_ok r hx hu
  refine Snd.pure r ?_ h1 h2
  rcases hs with ⟨cs, rfl⟩ | ⟨f, cs, rfl⟩
  · simp only [RepA] at h1
    obtain ⟨b, o', c, h1, _⟩ := h1
    simp [execOp, ho, h1]
  · simp only [RepA] at h1
    obtain ⟨vs, h1, _⟩ := h1
    simp [execOp, ho, h1]

theorem snd_chkP (r : RelAt C n F s a W hdr ow) {x : Operand} {x' : Opd} {t1 : TypeId} {k i off : Nat} (ho : o.op = .nilCheck x) (hx : opd P t1 x = some x')
    (hu : ev s.env x' = some (.ptr k i off)) (hk : (find s.heap k).isSome = true) : Snd P C n F s a W id o (.ptr k i off) s.heap := by
  obtain ⟨h1, h2⟩ := opd_ok r hx hu
  refine Snd.pure r ?_ h1 h2
  obtain ⟨e, he⟩ := Option.isSome_iff_exists.1 hk
  simp only [RepA] at h1
  obtain ⟨b, o', n', c, _, h1⟩ := h1 e he
  simp [execOp, ho, h1]

theorem evs_ok (r : RelAt C n F s a W hdr ow) : ∀ {xs : List Operand} {ys : List Opd} {l : List AV}, mapO (opd P 0) xs = some ys → evs s.env ys = some l →
    RepAs W (OK C W s.heap ow) hdr s.heap l (xs.map a.eval) ∧ ∀ i, AV.mens l i → F i
  | [], ys, l, hx, hl => by simp [mapO] at hx; subst hx; simp [evs] at hl; subst hl; simp [RepAs, AV.mens]
  | x :: xs, ys, l, hx, hl => by
    simp only [mapO] at hx
    split at hx
    · rename_i y ys' h1 h2
      cases hx
      simp only [evs] at hl
      split at hl
      · rename_i u us h3 h4
        cases hl
        obtain ⟨r1, r2⟩ := opd_ok r h1 h3
        obtain ⟨r3, r4⟩ := evs_ok r h2 h4
        exact ⟨by simp only [List.map_cons, RepAs]; exact ⟨r1, r3⟩, fun i hi => by simp only [AV.mens] at hi; exact hi.elim (r2 i) (r4 i)⟩
      · cases hl
    · cases hx

theorem snd_mkf (r : RelAt C n F s a W hdr ow) {f : FuncId} {fi caps : Array Operand} {ys : List Opd} {l : List AV} (ho : o.op = .makeFunc (.func f) fi caps) (hf : fi.size = 0) (hx : mapO (opd P 0) caps.toList = some ys) (hl : evs s.env ys = some l) :
    Snd P C n F s a W id o (.fn f l) s.heap := by
  obtain ⟨h1, h2⟩ := evs_ok r hx hl
  obtain rfl : fi = #[] := Array.eq_empty_of_size_eq_zero hf
  refine Snd.pure r (v := .func (.func f) #[] (caps.map a.eval)) ?_ ?_ (by simpa [AV.men] using h2)
  · simp [execOp, ho, Instr.makeFunc]
  · simp only [RepA]; exact ⟨_, by congr 1; apply Array.ext'; simp, h1⟩

theorem RepAs.get {ok : Nat → Prop} {H : Heap} : ∀ {l : List AV} {vs : List Value} {i : Nat} {x : AV}, RepAs W ok hdr H l vs → l[i]? = some x → ∃ v, vs[i]? = some v ∧ RepA W ok hdr H x v
  | [], _, _, _, _, h => by simp at h
  | _ :: _, [], _, _, r, _ => by simp [RepAs] at r
  | y :: l, v :: vs, 0, x, r, h => by simp only [RepAs] at r; simp at h; subst h; exact ⟨v, by simp, r.1⟩
  | y :: l, v :: vs, i + 1, x, r, h => by simp only [RepAs] at r; simp at h; simpa using RepAs.get r.2 h

theorem mens_get : ∀ {l : List AV} {i : Nat} {x : AV} {k : Nat}, l[i]? = some x → x.men k → AV.mens l k
  | [], _, _, _, h, _ => by simp at h
  | y :: l, 0, x, k, h, hk => by simp at h; subst h; simp [AV.mens, hk]
  | y :: l, i + 1, x, k, h, hk => by simp at h; simp only [AV.mens]; exact .inr (mens_get h hk)

theorem snd_ext (r : RelAt C n F s a W hdr ow) {x : Operand} {x' : Opd} {t1 : TypeId} {i : Nat} {l : List AV} {u : AV} (ho : o.op = .extract x i) (hx : opd P t1 x = some x')
    (hu : ev s.env x' = some (.tup l)) (hl : l[i]? = some u) : Snd P C n F s a W id o u s.heap := by
  obtain ⟨h1, h2⟩ := opd_ok r hx hu
  simp only [RepA] at h1
  obtain ⟨vs, h1, h3⟩ := h1
  obtain ⟨v, hv, h4⟩ := h3.get hl
  refine Snd.pure r ?_ h4 (fun k hk => h2 k (by simp only [AV.men]; exact mens_get hl hk))
  simp [execOp, ho, h1, Instr.extract, hv]

theorem snd_mm3 (r : RelAt C n F s a W hdr ow) {mx : Bool} {as : Array Operand} {ts : Array TypeId} {x y z : Operand} {x' y' z' : Opd} {t : TypeId} {k k' k'' : IntKind} {i j m : Int}
    (ho : o.op = .call { callee := .builtin (if mx = true then .max else .min), args := as, argTypes := ts }) (ha : as.toList = [x, y, z]) (hx : opd P t x = some x') (hy : opd P t y = some y') (hz : opd P t z = some z')
    (hu : ev s.env x' = some (.v (.w (.int k i)))) (hv : ev s.env y' = some (.v (.w (.int k' j)))) (hw : ev s.env z' = some (.v (.w (.int k'' m)))) :
    Snd P C n F s a W id o (.v (.w (.int k (if mx = true then (if m > (if j > i then j else i) then m else (if j > i then j else i)) else (if m < (if j < i then j else i) then m else (if j < i then j else i)))))) s.heap := by
  obtain rfl : as = #[x, y, z] := Array.toList_inj.1 (by simpa using ha)
  have hux := (opd_ok r hx hu).1
  have hvy := (opd_ok r hy hv).1
  have hwz := (opd_ok r hz hw).1
  simp only [RepA] at hux hvy hwz
  refine Snd.scal r ?_ rfl
  cases mx
  · simp [execOp, ho, resolve, invoke, builtin, Builtin.min_, Builtin.min2, hux.wInv.1, hvy.wInv.1, hwz.wInv.1]
  · simp [execOp, ho, resolve, invoke, builtin, Builtin.max_, Builtin.max2, hux.wInv.1, hvy.wInv.1, hwz.wInv.1]

end
end Go.AM

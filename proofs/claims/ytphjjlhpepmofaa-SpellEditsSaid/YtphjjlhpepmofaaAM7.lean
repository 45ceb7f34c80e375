/- The operations that read memory or make places. -/
import Derived.Test.YtphjjlhpepmofaaAM6
set_option linter.all false
namespace Go.AM
open Go

section
variable {P : Program} {C : Cx} {n : Nat} {F : Nat → Prop} {s : St} {a : Act} {W : World} {hdr : Nat → Value} {ow : Nat → Option Nat} {id : Nat} {o : Oper}

theorem known_info {t : TypeId} (h : knownT P t = true) : ∃ i d, P.info? t = some i ∧ P.underlying t = some d ∧ szT P t = i.size := by
  simp only [knownT, Bool.and_eq_true, Option.isSome_iff_exists] at h
  obtain ⟨⟨i, hi⟩, d, hd⟩ := h
  exact ⟨i, d, hi, hd, by simp [szT, Program.cellsOf, hi]⟩

theorem run_sizeOf {t : TypeId} (h : knownT P t = true) (w : World) : (sizeOf t).run P w = .ok (szT P t) w := by
  obtain ⟨i, d, h1, h2, h3⟩ := known_info h
  simp [sizeOf, typeInfo, h1, h3]

theorem run_isAgg {t : TypeId} (h : knownT P t = true) (w : World) : (isAgg t).run P w = .ok (aggT P t) w := by
  obtain ⟨i, d, h1, h2, h3⟩ := known_info h
  cases d <;> simp [isAgg, run_underlying h2, aggT, h2]

theorem cell_row {b : Nat} {c : List Value} (h : World.row W b c) (j : Nat) : W.cell? ⟨b, j, none⟩ = c[j]? := by
  obtain ⟨t, fr, h⟩ := h
  rw [cell_of_row W b j c.toArray t fr h]; simp

theorem run_part {t : TypeId} (h : knownT P t = true) (cs : Array Value) (off : Nat) (w : World) :
    (part t cs off).run P w = if aggT P t = true then .ok (.agg (cs.extract off (off + szT P t))) w else match cs[off]? with | some v => .ok v w | none => .halt (.stuck "part: no such cell") w := by
  simp only [part, Sem.run_bind, run_isAgg h, Result.andThen_ok, Sem.run_ite]
  split
  · simp [run_sizeOf h]
  · cases cs[off]? <;> simp

theorem extract_eq (vs : List Value) (off sz : Nat) : (vs.toArray.extract off (off + sz)) = ((vs.drop off).take sz).toArray := by
  apply Array.ext'
  simp [List.drop_take]

/-- A part of an aggregate. -/
theorem snd_part (r : RelAt C n F s a W hdr ow) {t : TypeId} (hk : knownT P t = true) {cs : List PV} {v : Value} {off : Nat} {p : PV} (hv : RepV W (OK C W s.heap ow) (.st cs) v) (h : cellRd cs (aggT P t) off (szT P t) = some p)
    (hrun : ∀ vs : List Value, v = .agg vs.toArray → (execOp a.eval o).run P W = ((part t vs.toArray off).run P W).andThen fun v w => .ok (.value v) w) :
    Snd P C n F s a W id o (.v p) s.heap := by
  obtain ⟨vs, rfl, h1, h2⟩ := hv.stInv
  have hr := hrun vs rfl
  have hc := cellRd_ok h1 h2 h
  rw [run_part hk] at hr
  by_cases ha : aggT P t = true
  · rw [if_pos ha] at hr hc
    rw [extract_eq] at hr
    exact Snd.pure r hr (by simp only [RepA]; exact hc.1) (by simp [AV.men])
  · rw [if_neg ha] at hr hc
    obtain ⟨v, hv, hc⟩ := hc
    have hv' : vs.toArray[off]? = some v := by simpa using hv
    rw [hv'] at hr
    exact Snd.pure r hr (by simp only [RepA]; exact hc) (by simp [AV.men])

theorem snd_fld (r : RelAt C n F s a W hdr ow) {x : Operand} {x' : Opd} {t t1 : TypeId} {i : Nat} {fs : Array Field} {f : Field} {cs : List PV} {p : PV} (ho : o.op = .field t x i) (hd : P.underlying t = some (.struct fs)) (hf : fs[i]? = some f)
    (hk : knownT P f.type = true) (hx : opd P t1 x = some x') (hu : ev s.env x' = some (.v (.st cs))) (h : cellRd cs (aggT P f.type) f.offset (szT P f.type) = some p) : Snd P C n F s a W id o (.v p) s.heap := by
  have hux := (opd_ok r hx hu).1
  simp only [RepA] at hux
  refine snd_part r hk hux h fun vs hv => ?_
  simp [execOp, ho, Instr.field, run_underlying hd, hf, hv, asAgg]

theorem snd_aix (r : RelAt C n F s a W hdr ow) {x y : Operand} {x' y' : Opd} {t e t1 t2 : TypeId} {m : Nat} {j : Int} {cs : List PV} {p : PV} (ho : o.op = .index t x y) (hd : P.underlying t = some (.array m e))
    (hk : knownT P e = true) (hx : opd P t1 x = some x') (hy : opd P t2 y = some y') (hu : ev s.env x' = some (.v (.st cs))) (hj : (ev s.env y').bind asI = some j) (h0 : 0 ≤ j) (h1 : j < m)
    (h : cellRd cs (aggT P e) (j.toNat * szT P e) (szT P e) = some p) : Snd P C n F s a W id o (.v p) s.heap := by
  have hux := (opd_ok r hx hu).1
  obtain ⟨k, hj⟩ := opdI_ok r hy hj
  simp only [RepA] at hux
  refine snd_part r hk hux h fun vs hv => ?_
  simp [execOp, ho, Instr.index, run_underlying hd, hv, hj, asIntOf, h0, h1, run_sizeOf hk]

/-- The place of an element. -/
theorem elem_row {ok : Nat → Prop} {sz : Nat} {l : List PV} {c : List Value} {off : Nat} {i : Nat} {p : PV} (hsz : sz ≠ 0) (r : RepL W ok sz l ((c.drop off).take (l.length * sz))) (h : l[i]? = some p) :
    RepC W ok p ((c.drop (off + i * sz)).take sz) ∧ p.cells.length = sz ∧ off + (i + 1) * sz ≤ c.length := by
  obtain ⟨h1, h2⟩ := r.get h
  have hi : i < l.length := (List.getElem?_eq_some_iff.1 h).1
  have hle : (i + 1) * sz ≤ l.length * sz := Nat.mul_le_mul_right sz hi
  have h3 : (i + 1) * sz = i * sz + sz := by rw [Nat.add_mul, Nat.one_mul]
  have e : (((c.drop off).take (l.length * sz)).drop (i * sz)).take sz = (c.drop (off + i * sz)).take sz := by
    rw [List.drop_take, List.take_take, List.drop_drop]
    congr 1
    omega
  rw [e] at h1
  simp only [List.length_take, List.length_drop] at h2
  have hpos : off + (i + 1) * sz ≤ c.length := by omega
  have hlen := (h1.cells).1.length
  simp only [Nat.mul_one, List.length_take, List.length_drop] at hlen
  exact ⟨h1, by omega, hpos⟩

theorem add_lit (b off m : Nat) : (⟨b, off, none⟩ : Addr).add m = ⟨b, off + m, none⟩ := by
  unfold Addr.add; split <;> simp_all

theorem snd_ia_v (r : RelAt C n F s a W hdr ow) {x y : Operand} {x' y' : Opd} {t e t1 t2 : TypeId} {l : List PV} {j : Int} {p : PV} (ho : o.op = .indexAddr t x y) (hd : P.underlying t = some (.slice e)) (hk : knownT P e = true) (hsz : szT P e ≠ 0)
    (hx : opd P t1 x = some x') (hy : opd P t2 y = some y') (hu : ev s.env x' = some (.v (.sl (szT P e) l))) (hj : (ev s.env y').bind asI = some j) (h0 : 0 ≤ j) (h : l[j.toNat]? = some p) :
    Snd P C n F s a W id o (.rp p.cells) s.heap := by
  have hux := (opd_ok r hx hu).1
  obtain ⟨k, hj⟩ := opdI_ok r hy hj
  simp only [RepA] at hux
  have hi : j.toNat < l.length := (List.getElem?_eq_some_iff.1 h).1
  rcases hux.slInv.slInv with ⟨h1, _⟩ | ⟨b, off, cap, c, h1, h2, h3, h4, h5, h6⟩
  · rw [h1] at h; simp at h
  · simp only [List.cons.injEq, and_true] at h1
    obtain ⟨g1, g2, g3⟩ := elem_row hsz h6 h
    have g4 := g1.cells
    refine Snd.pure r (v := .pointer (some ⟨b, off + j.toNat * szT P e, none⟩)) ?_ ?_ (by simp [AV.men])
    · have : j < (l.length : Int) := by omega
      simp [execOp, ho, Instr.indexAt, run_underlying hd, hj, h1, asIntOf, h0, this, run_sizeOf hk, add_lit]
    · simp only [RepA]
      exact ⟨b, _, c, rfl, h2, h3, by rw [g2]; exact g4.1, g4.2⟩

theorem snd_ia_h (r : RelAt C n F s a W hdr ow) {x y : Operand} {x' y' : Opd} {t e t1 t2 : TypeId} {q : Nat} {en : Ent} {j : Int} {p : PV} (ho : o.op = .indexAddr t x y) (hd : P.underlying t = some (.slice e)) (hk : knownT P e = true) (hsz : szT P e ≠ 0)
    (hx : opd P t1 x = some x') (hy : opd P t2 y = some y') (hu : ev s.env x' = some (.h q)) (hq : find s.heap q = some en) (hes : en.sz = szT P e) (hj : (ev s.env y').bind asI = some j) (h0 : 0 ≤ j) (h : en.l[j.toNat]? = some p) :
    Snd P C n F s a W id o (if en.fro = true then .rp p.cells else .ptr q j.toNat 0) s.heap := by
  obtain ⟨hux, hm⟩ := opd_ok r hx hu
  obtain ⟨k, hj⟩ := opdI_ok r hy hj
  simp only [RepA] at hux
  have hux := hux en hq
  have hi : j.toNat < en.l.length := (List.getElem?_eq_some_iff.1 h).1
  have hlt : j < (en.l.length : Int) := by omega
  rcases (r.mem.ent q en hq).plain (by rw [hes]; exact hsz) with ⟨h1, h2, _⟩ | ⟨h1, _⟩ | ⟨hf, b, off, cap, c, h1, h2, h3, h4, h5, h6⟩
  · rw [if_pos h1]
    rcases h2.slInv with ⟨h1, _⟩ | ⟨b, off, cap, c, h1, h2, h3, h4, h5, h6⟩
    · rw [h1] at h; simp at h
    · simp only [List.cons.injEq, and_true] at h1
      rw [hes] at h6
      obtain ⟨g1, g2, g3⟩ := elem_row hsz h6 h
      have g4 := g1.cells
      refine Snd.pure r (v := .pointer (some ⟨b, off + j.toNat * szT P e, none⟩)) ?_ ?_ (by simp [AV.men])
      · simp [execOp, ho, Instr.indexAt, run_underlying hd, hj, hux, h1, asIntOf, h0, hlt, run_sizeOf hk, add_lit]
      · simp only [RepA]
        exact ⟨b, _, c, rfl, h2, h3, by rw [g2]; exact g4.1, g4.2⟩
  · rw [h1] at h; simp at h
  · rw [if_neg (by rw [hf]; simp)]
    refine Snd.pure r (v := .pointer (some ⟨b, off + j.toNat * szT P e, none⟩)) ?_ ?_ (fun i hi => hm i (by simpa [AV.men] using hi))
    · simp [execOp, ho, Instr.indexAt, run_underlying hd, hj, hux, h2, asIntOf, h0, hlt, run_sizeOf hk, add_lit]
    · simp only [RepA]
      intro e' he'
      rw [hq] at he'; cases he'
      exact ⟨b, off, _, _, h2, by rw [Ent.w_of (by rw [hes]; exact hsz), hes]; rfl⟩

theorem RepA.rpDrop {ok : Nat → Prop} {H : Heap} {cs : List PV} {b o : Nat} (m : Nat) (h : RepA W ok hdr H (.rp cs) (.pointer (some ⟨b, o, none⟩))) : RepA W ok hdr H (.rp (cs.drop m)) (.pointer (some ⟨b, o + m, none⟩)) := by
  simp only [RepA] at *
  obtain ⟨b', o', c, h1, h2, h3, h4, h5⟩ := h
  cases h1
  refine ⟨b, o + m, c, rfl, h2, h3, ?_, fun p hp => h5 p (List.mem_of_mem_drop hp)⟩
  have := h4.drop m
  rw [Nat.mul_one, List.drop_take, List.drop_drop] at this
  simpa [List.length_drop] using this

theorem snd_iaA_r (r : RelAt C n F s a W hdr ow) {x y : Operand} {x' y' : Opd} {t e t1 t2 : TypeId} {m : Nat} {cs : List PV} {j : Int} (ho : o.op = .indexAddr t x y) (hd : P.underlying t = some (.array m e)) (hk : knownT P e = true)
    (hx : opd P t1 x = some x') (hy : opd P t2 y = some y') (hu : ev s.env x' = some (.rp cs)) (hj : (ev s.env y').bind asI = some j) (h0 : 0 ≤ j) (h1 : j < m) :
    Snd P C n F s a W id o (.rp (cs.drop (j.toNat * szT P e))) s.heap := by
  have hux := (opd_ok r hx hu).1
  obtain ⟨k, hj⟩ := opdI_ok r hy hj
  have hux' := hux
  simp only [RepA] at hux
  obtain ⟨b, o', c, h2, _⟩ := hux
  rw [h2] at hux'
  refine Snd.pure r ?_ (hux'.rpDrop (j.toNat * szT P e)) (by simp [AV.men])
  simp [execOp, ho, Instr.indexAt, Instr.sureAddr, run_underlying hd, hj, h2, asIntOf, h0, h1, run_sizeOf hk, add_lit]

theorem RepA.ptrAdd {ok : Nat → Prop} {H : Heap} {q i off : Nat} {b o : Nat} (m : Nat) (h : RepA W ok hdr H (.ptr q i off) (.pointer (some ⟨b, o, none⟩))) : RepA W ok hdr H (.ptr q i (off + m)) (.pointer (some ⟨b, o + m, none⟩)) := by
  simp only [RepA] at *
  intro e he
  obtain ⟨b', o', n', c, h1, h2⟩ := h e he
  simp only [Value.pointer.injEq, Option.some.injEq, Addr.mk.injEq, and_true] at h2
  obtain ⟨rfl, rfl⟩ := h2
  exact ⟨b, o', n', c, h1, by simp [Nat.add_assoc]⟩

theorem ptr_addr (r : RelAt C n F s a W hdr ow) {q i off : Nat} {v : Value} {en : Ent} (hq : find s.heap q = some en) (h : RepA W (OK C W s.heap ow) hdr s.heap (.ptr q i off) v) : ∃ b o, v = .pointer (some ⟨b, o, none⟩) := by
  simp only [RepA] at h
  obtain ⟨b, o', n', c, _, h2⟩ := h en hq
  exact ⟨b, _, h2⟩

theorem snd_iaA_p (r : RelAt C n F s a W hdr ow) {x y : Operand} {x' y' : Opd} {t e t1 t2 : TypeId} {m : Nat} {q i off : Nat} {en : Ent} {j : Int} (ho : o.op = .indexAddr t x y) (hd : P.underlying t = some (.array m e)) (hk : knownT P e = true)
    (hx : opd P t1 x = some x') (hy : opd P t2 y = some y') (hu : ev s.env x' = some (.ptr q i off)) (hq : find s.heap q = some en) (hj : (ev s.env y').bind asI = some j) (h0 : 0 ≤ j) (h1 : j < m) :
    Snd P C n F s a W id o (.ptr q i (off + j.toNat * szT P e)) s.heap := by
  obtain ⟨hux, hm⟩ := opd_ok r hx hu
  obtain ⟨k, hj⟩ := opdI_ok r hy hj
  obtain ⟨b, o', h2⟩ := ptr_addr r hq hux
  rw [h2] at hux
  refine Snd.pure r ?_ (hux.ptrAdd (j.toNat * szT P e)) (fun i hi => hm i (by simpa [AV.men] using hi))
  simp [execOp, ho, Instr.indexAt, Instr.sureAddr, run_underlying hd, hj, h2, asIntOf, h0, h1, run_sizeOf hk, add_lit]

theorem run_fieldPlace {f : Field} (hk : knownT P f.type = true) (hz : szT P f.type ≠ 0) (b off : Nat) (w : World) : (fieldPlace ⟨b, off, none⟩ f).run P w = .ok ⟨b, off + f.offset, none⟩ w := by
  simp [fieldPlace, run_sizeOf hk, hz, add_lit]

theorem snd_fa_r (r : RelAt C n F s a W hdr ow) {x : Operand} {x' : Opd} {t t1 : TypeId} {i : Nat} {fs : Array Field} {f : Field} {cs : List PV} (ho : o.op = .fieldAddr t x i) (hd : P.underlying t = some (.struct fs)) (hf : fs[i]? = some f)
    (hk : knownT P f.type = true) (hz : szT P f.type ≠ 0) (hx : opd P t1 x = some x') (hu : ev s.env x' = some (.rp cs)) : Snd P C n F s a W id o (.rp (cs.drop f.offset)) s.heap := by
  have hux := (opd_ok r hx hu).1
  have hux' := hux
  simp only [RepA] at hux
  obtain ⟨b, o', c, h2, _⟩ := hux
  rw [h2] at hux'
  refine Snd.pure r ?_ (hux'.rpDrop f.offset) (by simp [AV.men])
  simp [execOp, ho, Instr.fieldAt, Instr.sureAddr, run_underlying hd, hf, h2, run_fieldPlace hk hz]

theorem snd_fa_p (r : RelAt C n F s a W hdr ow) {x : Operand} {x' : Opd} {t t1 : TypeId} {i q j off : Nat} {en : Ent} {fs : Array Field} {f : Field} (ho : o.op = .fieldAddr t x i) (hd : P.underlying t = some (.struct fs)) (hf : fs[i]? = some f)
    (hk : knownT P f.type = true) (hz : szT P f.type ≠ 0) (hx : opd P t1 x = some x') (hu : ev s.env x' = some (.ptr q j off)) (hq : find s.heap q = some en) : Snd P C n F s a W id o (.ptr q j (off + f.offset)) s.heap := by
  obtain ⟨hux, hm⟩ := opd_ok r hx hu
  obtain ⟨b, o', h2⟩ := ptr_addr r hq hux
  rw [h2] at hux
  refine Snd.pure r ?_ (hux.ptrAdd f.offset) (fun i hi => hm i (by simpa [AV.men] using hi))
  simp [execOp, ho, Instr.fieldAt, Instr.sureAddr, run_underlying hd, hf, h2, run_fieldPlace hk hz]

/-- Loading. -/
theorem run_loadVar {t : TypeId} (hk : knownT P t = true) {b off : Nat} {c : List Value} (hr : World.row W b c) :
    (aggT P t = true → off + szT P t ≤ c.length → (loadVar t ⟨b, off, none⟩).run P W = .ok (.agg ((c.drop off).take (szT P t)).toArray) W) ∧
    (aggT P t ≠ true → ∀ v, c[off]? = some v → (loadVar t ⟨b, off, none⟩).run P W = .ok v W) := by
  constructor
  · intro ha hl
    have hlen : ((c.drop off).take (szT P t)).length = szT P t := by simp; omega
    have h1 := run_loadCells_list (P := P) (w := W) ⟨b, off, none⟩ ((c.drop off).take (szT P t)) (by
      intro j v hj
      rw [add_lit, cell_row hr]
      rw [List.getElem?_take] at hj
      split at hj
      · rw [List.getElem?_drop] at hj; exact hj
      · cases hj)
    rw [hlen] at h1
    simp [loadVar, run_isAgg hk, ha, run_sizeOf hk, h1]
  · intro ha v hv
    have := cell_row hr off
    rw [hv] at this
    simp [loadVar, run_isAgg hk, ha, this]

theorem snd_ld (r : RelAt C n F s a W hdr ow) {x : Operand} {t : TypeId} {b off : Nat} {c : List Value} {cs : List PV} {p : PV} {m : Nat} (ho : o.op = .load t x) (hk : knownT P t = true) (hv : a.eval x = .pointer (some ⟨b, off + m, none⟩))
    (hr : World.row W b c) (hl : RepL W (OK C W s.heap ow) 1 cs ((c.drop off).take cs.length)) (hle : off + cs.length ≤ c.length) (hs : ∀ p ∈ cs, p.isSt = false) (h : cellRd cs (aggT P t) m (szT P t) = some p) : Snd P C n F s a W id o (.v p) s.heap := by
  have hc := cellRd_ok hl hs h
  obtain ⟨h1, h2⟩ := run_loadVar (P := P) (W := W) hk (off := off + m) hr
  by_cases ha : aggT P t = true
  · rw [if_pos ha] at hc
    obtain ⟨hc1, hc2⟩ := hc
    have hlen : ((c.drop off).take cs.length).length = cs.length := by simp; omega
    rw [hlen] at hc2
    have e : (((c.drop off).take cs.length).drop m).take (szT P t) = (c.drop (off + m)).take (szT P t) := by
      rw [List.drop_take, List.take_take, List.drop_drop]; congr 1; omega
    rw [e] at hc1
    refine Snd.pure r (v := .agg ((c.drop (off + m)).take (szT P t)).toArray) ?_ (by simp only [RepA]; exact hc1) (by simp [AV.men])
    have := h1 ha (by omega)
    simp [execOp, ho, Instr.loadAt, Instr.sureAddr, hv, this]
  · rw [if_neg ha] at hc
    obtain ⟨v, hc1, hc2⟩ := hc
    rw [List.getElem?_take] at hc1
    split at hc1
    · rw [List.getElem?_drop] at hc1
      refine Snd.pure r (v := v) ?_ (by simp only [RepA]; exact hc2) (by simp [AV.men])
      have := h2 ha v hc1
      simp [execOp, ho, Instr.loadAt, Instr.sureAddr, hv, this]
    · cases hc1

theorem snd_ld_r (r : RelAt C n F s a W hdr ow) {x : Operand} {x' : Opd} {t t1 : TypeId} {cs : List PV} {p : PV} (ho : o.op = .load t x) (hk : knownT P t = true) (hx : opd P t1 x = some x') (hu : ev s.env x' = some (.rp cs))
    (h : cellRd cs (aggT P t) 0 (szT P t) = some p) : Snd P C n F s a W id o (.v p) s.heap := by
  have hux := (opd_ok r hx hu).1
  simp only [RepA] at hux
  obtain ⟨b, off, c, h1, h2, h3, h4, h5⟩ := hux
  by_cases hn : cs = []
  · subst hn
    have hlen := h4.length
    unfold cellRd at h
    by_cases ha : aggT P t = true
    · rw [if_pos ha] at h
      by_cases hz : 0 + szT P t ≤ 0
      · have hz : szT P t = 0 := by omega
        simp [hz] at h
        subst h
        refine Snd.pure r (v := .agg #[]) ?_ (by simp only [RepA]; exact RepV.st .nil (by simp)) (by simp [AV.men])
        have h0 := run_loadCells_list (P := P) (w := W) ⟨b, off, none⟩ [] (by simp)
        simp at h0
        simp [execOp, ho, Instr.loadAt, Instr.sureAddr, h1, loadVar, run_isAgg hk, ha, run_sizeOf hk, hz, h0]
      · simp at hz; simp [hz] at h
    · rw [if_neg ha] at h; simp at h
  · have hlen := h4.length
    simp only [Nat.mul_one, List.length_take, List.length_drop] at hlen
    have : 0 < cs.length := List.length_pos_iff.2 hn
    exact snd_ld r (m := 0) ho hk h1 h3 h4 (by omega) h5 h

theorem snd_ld_p (r : RelAt C n F s a W hdr ow) {x : Operand} {x' : Opd} {t t1 : TypeId} {q i off : Nat} {en : Ent} {el p : PV} (ho : o.op = .load t x) (hk : knownT P t = true) (hx : opd P t1 x = some x') (hu : ev s.env x' = some (.ptr q i off))
    (hq : find s.heap q = some en) (hel : en.l[i]? = some el) (hoff : off < en.sz) (h : cellRd el.cells (aggT P t) off (szT P t) = some p) : Snd P C n F s a W id o (.v p) s.heap := by
  have hux := (opd_ok r hx hu).1
  simp only [RepA] at hux
  obtain ⟨b, o', n', cp, h1, h2⟩ := hux en hq
  have hsz : en.sz ≠ 0 := by omega
  rw [Ent.w_of hsz] at h2
  have key : ∃ c, World.row W b c ∧ RepL W (OK C W s.heap ow) en.sz en.l ((c.drop o').take (en.l.length * en.sz)) := by
    rcases (r.mem.ent q en hq).plain hsz with ⟨_, g2, _⟩ | ⟨g1, _⟩ | ⟨_, b2, off2, cap2, c, g1, g2, ⟨t', g3⟩, g4, g5, g6⟩
    · rcases g2.slInv with ⟨g1, _⟩ | ⟨b2, off2, cap2, c, g1, g2, g3, g4, g5, g6⟩
      · rw [g1] at hel; simp at hel
      · rw [h1] at g1; simp at g1; obtain ⟨⟨rfl, rfl⟩, _⟩ := g1; exact ⟨c, g3, g6⟩
    · rw [g1] at hel; simp at hel
    · rw [h1] at g2; simp at g2; obtain ⟨⟨rfl, rfl⟩, _⟩ := g2; exact ⟨c, ⟨t', _, g3⟩, g6⟩
  obtain ⟨c, k1, k2⟩ := key
  obtain ⟨g1, g2, g3⟩ := elem_row hsz k2 hel
  obtain ⟨g4, g5⟩ := g1.cells
  have hm : (i + 1) * en.sz = i * en.sz + en.sz := by rw [Nat.add_mul, Nat.one_mul]
  exact snd_ld r (m := off) ho hk h2 k1 (by rw [g2]; exact g4) (by omega) g5 h

/-- A row of rows: a place in it. -/
theorem snd_ia_n (r : RelAt C n F s a W hdr ow) {x y : Operand} {x' y' : Opd} {t e t1 t2 : TypeId} {q : Nat} {en : Ent} {j : Int} (ho : o.op = .indexAddr t x y) (hd : P.underlying t = some (.slice e)) (hk : knownT P e = true) (hsz : szT P e = 1)
    (hx : opd P t1 x = some x') (hy : opd P t2 y = some y') (hu : ev s.env x' = some (.h q)) (hq : find s.heap q = some en) (hz : en.sz = 0) (hf : en.fro = false) (hj : (ev s.env y').bind asI = some j) (h0 : 0 ≤ j) (hlt : j.toNat + 1 < en.l.length) :
    Snd P C n F s a W id o (.ptr q 0 j.toNat) s.heap := by
  obtain ⟨hux, hm⟩ := opd_ok r hx hu
  obtain ⟨k, hj⟩ := opdI_ok r hy hj
  simp only [RepA] at hux
  have hux := hux en hq
  obtain ⟨_, _, g, rest, rf, hl, _, h⟩ := (r.mem.ent q en hq).nest hz hf (by intro h; rw [h] at hlt; simp at hlt)
  rw [hl] at hlt
  simp only [List.length_cons] at hlt
  rcases h with ⟨h, _⟩ | ⟨b, off, cap, c, h1, h2, h3, h4, h5, h6⟩
  · rw [h] at hlt; simp at hlt
  · have hlt2 : j < (rest.length : Int) := by omega
    refine Snd.pure r (v := .pointer (some ⟨b, off + j.toNat, none⟩)) ?_ ?_ (fun i hi => hm i (by simpa [AV.men] using hi))
    · simp [execOp, ho, Instr.indexAt, run_underlying hd, hj, hux, h2, asIntOf, h0, hlt2, run_sizeOf hk, add_lit, hsz]
    · simp only [RepA]
      intro e' he'
      rw [hq] at he'; cases he'
      exact ⟨b, off, _, _, h2, by simp⟩

/-- A row of rows: an element. -/
theorem nest_at (r : RelAt C n F s a W hdr ow) {q off : Nat} {en : Ent} {g : PV} {rest : List PV} {rf : Option (Nat × Nat)} {p : PV} {v : Value} (hv : RepA W (OK C W s.heap ow) hdr s.heap (.ptr q 0 off) v) (hq : find s.heap q = some en) (hz : en.sz = 0) (hf : en.fro = false) (hl : en.l = g :: rest) (hrf : decR g = some rf)
    (hp : rest[off]? = some p) : ∃ b o' cap c w, ow q = some b ∧ hdr q = .slice (some ⟨b, o', none⟩) rest.length cap ∧ World.rowO W b c ∧ o' + cap ≤ c.length ∧ rest.length ≤ cap ∧ v = .pointer (some ⟨b, o' + off, none⟩) ∧ c[o' + off]? = some w ∧
      NestL W (OK C W s.heap ow) hdr rf rest ((c.drop o').take rest.length) ∧ ((c.drop o').take rest.length)[off]? = some w := by
  simp only [RepA] at hv
  obtain ⟨b0, o0, n0, c0, k1, k2⟩ := hv en hq
  obtain ⟨_, _, g', rest', rf', hl', hrf', h⟩ := (r.mem.ent q en hq).nest hz hf (by rw [hl]; simp)
  rw [hl] at hl'
  injection hl' with e1 e2
  subst e1 e2
  rw [hrf] at hrf'; cases hrf'
  have hlt : off < rest.length := (List.getElem?_eq_some_iff.1 hp).1
  rcases h with ⟨h, _⟩ | ⟨b, off', cap, c, h1, h2, h3, h4, h5, h6⟩
  · rw [h] at hlt; simp at hlt
  · rw [k1] at h2
    simp only [Value.slice.injEq, Option.some.injEq, Addr.mk.injEq, and_true] at h2
    obtain ⟨⟨rfl, rfl⟩, rfl, rfl⟩ := h2
    have hw : c[o0 + off]? = some (c[o0 + off]'(by omega)) := List.getElem?_eq_getElem (by omega)
    refine ⟨b0, o0, c0, c, _, h1, k1, h3, h4, h5, by rw [k2]; simp, hw, h6, ?_⟩
    rw [List.getElem?_take, if_pos hlt, List.getElem?_drop]; exact hw

theorem snd_ld_n (r : RelAt C n F s a W hdr ow) {x : Operand} {x' : Opd} {t t1 : TypeId} {q off : Nat} {en : Ent} {g : PV} {rest : List PV} {rf : Option (Nat × Nat)} {p : PV} (ho : o.op = .load t x) (hk : knownT P t = true) (hag : aggT P t = false) (hx : opd P t1 x = some x')
    (hu : ev s.env x' = some (.ptr q 0 off)) (hq : find s.heap q = some en) (hz : en.sz = 0) (hf : en.fro = false) (hl : en.l = g :: rest) (hrf : decR g = some rf) (hp : rest[off]? = some p) :
    (∀ c, rf = some (off, c) → Snd P C n F s a W id o (.h c) s.heap) ∧ ((∀ i c, rf = some (i, c) → off ≠ i) → p.isSt = false → Snd P C n F s a W id o (.v p) s.heap) := by
  have hux := (opd_ok r hx hu).1
  obtain ⟨b, o', cap, c, w, h1, h2, ⟨tt, h3⟩, h4, h5, h6, h7, h8, h9⟩ := nest_at r hux hq hz hf hl hrf hp
  have hrow : World.row W b c := ⟨tt, _, h3⟩
  have hld := (run_loadVar (P := P) (W := W) hk (off := o' + off) hrow).2 (by rw [hag]; simp) w h7
  have hex : (execOp a.eval o).run P W = .ok (.value w) W := by simp [execOp, ho, Instr.loadAt, Instr.sureAddr, h6, hld]
  have hn := h8.2 off p w hp h9
  refine ⟨fun c' hc' => ?_, fun h hs => ?_⟩
  · obtain ⟨e1, _⟩ := hn.1 off c' hc' rfl
    refine Snd.pure r (v := w) hex ?_ (fun i hi => ?_)
    · simp only [RepA]; intro _ _; exact e1
    · simp only [AV.men] at hi; subst hi
      exact r.idsR q en c' hq (by simp [Ent.ref, hz, hl, hrf, hc'])
  · refine Snd.pure r (v := w) hex ?_ (by simp [AV.men])
    simp only [RepA]
    exact RepV.ofC (hn.2 h) hs

end
end Go.AM

/- Aggregates, new rows, cuts of rows. -/
import Derived.Test.YtphjjlhpepmofaaAM10
set_option linter.all false
namespace Go.AM
open Go

section
variable {P : Program} {C : Cx} {n : Nat} {F : Nat → Prop} {s : St} {a : Act} {W : World} {hdr : Nat → Value} {ow : Nat → Option Nat} {id : Nat} {o : Oper}

theorem range0 {α : Type} (g : Nat → α) : (Array.range 0).map g = #[] := by apply Array.ext'; simp

theorem mapM_places : ∀ (fs : List Field), (∀ f ∈ fs, knownT P f.type = true) → fs.mapM (fun f => (P.info? f.type).map fun i => (f.offset, i.size)) = some (fs.map fun f => (f.offset, szT P f.type))
  | [], _ => by simp
  | f :: fs, h => by
    obtain ⟨i, d, h1, h2, h3⟩ := known_info (h f (by simp))
    simp [List.mapM_cons, h1, mapM_places fs (fun g hg => h g (by simp [hg])), h3]

theorem snd_build_s {qq : Bool} (r : RelAt C n F s a W hdr ow) {t : TypeId} {xs : Array (Nat × Operand)} {fs : Array Field} {ps : List (Nat × Nat × Opd)} {z cs : List PV} {H' : Heap} (ho : o.op = .build t xs) (hd : P.underlying t = some (.struct fs)) (hz : zeroP P t = some z)
    (hm : mapO (fun (i, x) => match fs[i]? with
        | some f => if knownT P f.type = true then (opd P f.type x).map fun x => (f.offset, szT P f.type, x) else none
        | none => none) xs.toList = some ps) (hk : fs.all (fun f => knownT P f.type) = true) (hb : buildP qq s.env z s.heap ps = some (cs, H')) : Snd P C n F s a W id o (.v (.st cs)) H' := by
  have hk' : ∀ f ∈ fs.toList, knownT P f.type = true := by
    intro f hf
    rw [← Array.all_toList] at hk
    exact List.all_eq_true.1 hk f hf
  refine snd_build r (place := fun i => (fs.toList.map fun f => (f.offset, szT P f.type)).toArray[i]?) ho hz ?_ hm hb ?_
  · intro i x off sz y h
    simp only at h
    split at h
    · rename_i f hf
      split at h
      · simp only [Option.map_eq_some_iff, Prod.mk.injEq] at h
        obtain ⟨y', hy, rfl, rfl, rfl⟩ := h
        exact ⟨by simp [hf], f.type, hy⟩
      · cases h
    · cases h
  · intro v i cells hi hv hfill
    have hbuilt : P.built t (xs.toList.map fun q => (q.1, a.eval q.2)) = some cells := by
      simp only [Program.built, hi, hd, hv, mapM_places fs.toList hk']
      exact hfill
    have := run_build (P := P) W t (xs.map fun q => (q.1, a.eval q.2)) cells (by simpa using hbuilt)
    simp only [execOp, ho]
    exact run_value this

theorem snd_build_a {qq : Bool} (r : RelAt C n F s a W hdr ow) {t e : TypeId} {m : Nat} {xs : Array (Nat × Operand)} {ps : List (Nat × Nat × Opd)} {z cs : List PV} {H' : Heap} (ho : o.op = .build t xs) (hd : P.underlying t = some (.array m e)) (hz : zeroP P t = some z)
    (hm : mapO (fun (i, x) => (opd P e x).map fun x => (i * szT P e, szT P e, x)) xs.toList = some ps) (hk : knownT P e = true) (hb : buildP qq s.env z s.heap ps = some (cs, H')) : Snd P C n F s a W id o (.v (.st cs)) H' := by
  obtain ⟨ie, de, h1, h2, h3⟩ := known_info hk
  refine snd_build r (place := fun i => some (i * szT P e, szT P e)) ho hz ?_ hm hb ?_
  · intro i x off sz y h
    simp only [Option.map_eq_some_iff, Prod.mk.injEq] at h
    obtain ⟨y', hy, rfl, rfl, rfl⟩ := h
    exact ⟨rfl, e, hy⟩
  · intro v i cells hi hv hfill
    have hbuilt : P.built t (xs.toList.map fun q => (q.1, a.eval q.2)) = some cells := by
      simp only [Program.built, hi, hd, hv, h1, ← h3]
      exact hfill
    have := run_build (P := P) W t (xs.map fun q => (q.1, a.eval q.2)) cells (by simpa using hbuilt)
    simp only [execOp, ho]
    exact run_value this

theorem RepL.ofGet {ok : Nat → Prop} {sz : Nat} : ∀ {l : List PV} {vs : List Value}, vs.length = l.length * sz → (∀ i p, l[i]? = some p → RepC W ok p ((vs.drop (i * sz)).take sz)) → RepL W ok sz l vs
  | [], vs, h, _ => by
    simp at h; subst h; exact .nil
  | p :: l, vs, h, hg => by
    have e : vs = vs.take sz ++ vs.drop sz := (List.take_append_drop sz vs).symm
    have h' : vs.length = l.length * sz + sz := by rw [h, List.length_cons, Nat.add_mul, Nat.one_mul]
    rw [e]
    refine .cons (by simp; omega) (by simpa using hg 0 p rfl) (RepL.ofGet (by simp; omega) fun i q hq => ?_)
    have := hg (i + 1) q (by simpa using hq)
    rw [List.drop_drop]
    rwa [show sz + i * sz = (i + 1) * sz by rw [Nat.add_mul, Nat.one_mul, Nat.add_comm]]

/-- A row of zero values. -/
theorem zero_row {ok : Nat → Prop} {p : PV} {z : Array Value} (hp : RepC W ok p z.toList) (hz : z.size ≠ 0) (m : Nat) : RepL W ok z.size (List.replicate m p) ((Array.range (m * z.size)).map (z[· % z.size]!)).toList := by
  refine RepL.ofGet (by simp) fun i q hq => ?_
  rw [List.getElem?_replicate] at hq
  split at hq
  · rename_i hi
    cases hq
    have hle : (i + 1) * z.size ≤ m * z.size := Nat.mul_le_mul_right _ hi
    have hm' : (i + 1) * z.size = i * z.size + z.size := by rw [Nat.add_mul, Nat.one_mul]
    have e : ((((Array.range (m * z.size)).map (z[· % z.size]!)).toList.drop (i * z.size)).take z.size) = z.toList := by
      apply List.ext_getElem?
      intro j
      rw [List.getElem?_take]
      by_cases hj : j < z.size
      · rw [if_pos hj, List.getElem?_drop, Array.getElem?_toList, Array.getElem?_toList, Array.getElem?_map, Array.getElem?_range, if_pos (by omega)]
        have : (i * z.size + j) % z.size = j := by rw [Nat.mul_comm, Nat.mul_add_mod, Nat.mod_eq_of_lt hj]
        simp [this, hj]
      · rw [if_neg hj]; simp; omega
    rw [e]; exact hp
  · cases hq

theorem snd_buildS {qq : Bool} (r : RelAt C n F s a W hdr ow) (hid : ¬ F id) {t e : TypeId} {m : Nat} {xs : Array (Nat × Operand)} {ps : List (Nat × Opd)} {z l : List PV} {H' : Heap} (ho : o.op = .buildSlice t m xs) (hd : P.underlying t = some (.slice e)) (hz : zeroP P e = some z)
    (hk : knownT P e = true) (hzl : z.length = szT P e) (hsz : szT P e ≠ 0) (hbig : m * szT P e ≤ 16777216) (ha : aggT P e = true ∨ z.length = 1) (hm : mapO (fun (i, x) => (opd P e x).map fun x => (i, x)) xs.toList = some ps)
    (hb : buildL qq s.env (szT P e) (List.replicate m (zOf (aggT P e) z)) s.heap ps = some (l, H')) : Snd P C n F s a W id o (.h id) ((id, ⟨false, szT P e, l⟩) :: H') := by
  obtain ⟨i, v, hi, hv, g1, g2, g3⟩ := zeroP_ok (W := W) (ok := OK C W s.heap ow) hz
  obtain ⟨k1, k2⟩ := zOf_ok g1 g2 ha
  have hvs : v.cells.size = szT P e := by omega
  have hrow := zero_row k1 (by rw [hvs]; exact hsz) m
  rw [hvs] at hrow
  obtain ⟨cells, ow', q1, q2, q3, q4⟩ := buildL_ok (sz := szT P e) (by
    intro i x j y h
    simp only [Option.map_eq_some_iff, Prod.mk.injEq] at h
    obtain ⟨y', hy, rfl, rfl⟩ := h
    exact ⟨rfl, e, hy⟩) xs.toList ps s ow _ l _ H' r hm hrow hb
  have hlen : cells.toList.length = l.length * szT P e := q3.length
  have hlm : l.length = m := by rw [q4]; simp
  have r2 := q2.alloc (id := id) (sz := szT P e) (cap := l.length) (l := l) (c := cells.toList) hid e hsz (by omega) (Nat.le_refl _) (by
    rw [List.take_of_length_le (by omega)]; exact q3)
  refine ⟨.slice (some ⟨W.heap.size, 0, none⟩) l.length l.length, _, _, _, .inl ?_, r2, ?_, fun j => men_h j⟩
  · have hrun : (Instr.buildSlice t m (xs.map fun q => (q.1, a.eval q.2))).run P W = .ok (.slice (some ⟨W.heap.size, 0, none⟩) l.length l.length) (W.alloc (.cells cells.toList.toArray e)) := by
      have hb' : ¬ (16777216 < m * szT P e) := by omega
      have hpl : (xs.map fun q => (q.1, a.eval q.2)).toList = xs.toList.map fun q => (q.1, a.eval q.2) := by simp
      by_cases hm0 : m = 0
      · subst hm0
        have hl0 : l.length = 0 := hlm
        have q1' : Instr.fill (fun i => some (i * szT P e, szT P e)) #[] (xs.toList.map fun q => (q.1, a.eval q.2)) = some cells := by rw [Nat.zero_mul, range0] at q1; exact q1
        simp only [Instr.buildSlice, Sem.run_bind, run_underlying hd, Result.andThen_ok, run_sizeOf hk]
        simp [newRow, hl0, range0, q1']
      · have hnz : m * szT P e ≠ 0 := Nat.mul_ne_zero hm0 hsz
        simp only [Instr.buildSlice, Sem.run_bind, run_underlying hd, Result.andThen_ok, run_sizeOf hk]
        simp [hb', hnz, run_zero hi hv, hvs, newRow, hlm, q1]
    simp only [execOp, ho]
    exact run_value hrun
  · simp only [RepA]; intro e' _; simp [upd]

theorem wrap_small {x : Int} (h0 : 0 ≤ x) (h : x ≤ 9223372036854775807) : IntKind.i64.wrap x = x := by
  simp only [IntKind.wrap, IntKind.bits, IntKind.signed]
  have : x % 18446744073709551616 = x := Int.emod_eq_of_lt h0 (by omega)
  simp [this]
  omega

theorem snd_mkS (r : RelAt C n F s a W hdr ow) (hid : ¬ F id) {t e : TypeId} {i : TypeInfo} {x y : Operand} {x' y' : Opd} {t1 t2 : TypeId} {m c : Int} {z : List PV} (ho : o.op = .makeSlice t x y) (hd : P.underlying t = some (.slice e)) (hz : zeroP P e = some z)
    (hi : P.info? e = some i) (hk : knownT P e = true) (hzl : z.length = szT P e) (hsz : szT P e ≠ 0) (ha : aggT P e = true ∨ z.length = 1) (hx : opd P t1 x = some x') (hy : opd P t2 y = some y')
    (hxi : (ev s.env x').bind asI = some m) (hyi : (ev s.env y').bind asI = some c) (h0 : 0 ≤ m) (h1 : m ≤ c) (h2 : c * i.bytes ≤ 70368744177664) (h3 : c ≤ 1000000000000) :
    Snd P C n F s a W id o (.h id) ((id, ⟨false, szT P e, List.replicate m.toNat (zOf (aggT P e) z)⟩) :: s.heap) := by
  obtain ⟨i', v, hi', hv, g1, g2, g3⟩ := zeroP_ok (W := W) (ok := OK C W s.heap ow) hz
  obtain ⟨k1, k2⟩ := zOf_ok g1 g2 ha
  obtain ⟨kx, hx⟩ := opdI_ok r hx hxi
  obtain ⟨ky, hy⟩ := opdI_ok r hy hyi
  have hvs : v.cells.size = szT P e := by omega
  obtain ⟨cn, rfl⟩ := Int.eq_ofNat_of_zero_le (show 0 ≤ c by omega)
  obtain ⟨mn, rfl⟩ := Int.eq_ofNat_of_zero_le h0
  have hrow := zero_row k1 (by rw [hvs]; exact hsz) cn
  rw [hvs] at hrow
  have hlen := hrow.length
  rw [List.length_replicate] at hlen
  have hmc : mn ≤ cn := by omega
  have htk := hrow.take mn
  rw [List.take_replicate, Nat.min_eq_left hmc] at htk
  have r2 := r.alloc (id := id) (sz := szT P e) (cap := cn) (l := List.replicate mn (zOf (aggT P e) z)) (c := ((Array.range (cn * szT P e)).map (v.cells[· % szT P e]!)).toList) hid e hsz (by rw [hlen]; omega) (by simpa using hmc)
    (by rw [List.length_replicate]; exact htk)
  rw [Array.toArray_toList, List.length_replicate] at r2
  rw [Int.toNat_natCast]
  refine ⟨.slice (some ⟨W.heap.size, 0, none⟩) mn cn, _, _, _, .inl ?_, r2, ?_, fun j => men_h j⟩
  · have hw1 := wrap_small (x := (mn : Int)) (by omega) (by omega)
    have hw2 := wrap_small (x := (cn : Int)) (by omega) (by omega)
    have hbytes : ¬ (281474976710656 < i.bytes * (cn : Int)) := by rw [Int.mul_comm]; omega
    have hcond : (decide ((cn : Int) < 0) || decide ((i.bytes : Int) * cn > 2 ^ 48) || decide ((mn : Int) < 0) || decide ((mn : Int) > cn)) = false := by
      simp; omega
    have hrun : (Instr.makeSlice t (.int kx mn) (.int ky cn)).run P W = .ok (.slice (some ⟨W.heap.size, 0, none⟩) mn cn) (W.alloc (.cells ((Array.range (cn * szT P e)).map (v.cells[· % szT P e]!)) e)) := by
      by_cases hc0 : cn = 0
      · have hm0 : mn = 0 := by omega
        subst hc0; subst hm0
        have hw0 : IntKind.i64.wrap 0 = 0 := by decide
        simp [Instr.makeSlice, run_underlying hd, asInt, asIntOf, typeInfo, hi, run_sizeOf hk, hw0, newRow, range0]
      · have hc1 : ¬ ((cn : Int) < 0) := by omega
        have hc2 : ¬ ((mn : Int) < 0) := by omega
        have hc3 : ¬ ((cn : Int) < mn) := by omega
        have hnz : cn * szT P e ≠ 0 := Nat.mul_ne_zero hc0 hsz
        simp [Instr.makeSlice, run_underlying hd, asInt, asIntOf, typeInfo, hi, run_sizeOf hk, hw1, hw2, hbytes, hc1, hc2, hc3, hnz, run_zero hi' hv, hvs, newRow]
    simp only [execOp, ho, hx, hy]
    exact run_value hrun
  · simp only [RepA]; intro e' _; simp [upd]

/-- A cut of a row. -/
def cutV (sz i j : Nat) : Value → Value
  | .slice a _ cap => .slice (if cap = i then a else a.map (·.add (i * sz))) (j - i) (cap - i)
  | v => v

theorem cut_ok {ok : Nat → Prop} {sz i j : Nat} {l : List PV} {v : Value} (r : RepC W ok (.sl sz l) [v]) (hij : i ≤ j) (hj : j ≤ l.length) : RepC W ok (.sl sz ((l.take j).drop i)) [cutV sz i j v] := by
  rcases r.slInv with ⟨rfl, ao, h⟩ | ⟨b, off, cap, c, h, h2, h3, h4, h5, h6⟩
  · simp at h; subst h
    simp at hj; subst hj
    have : i = 0 := by omega
    subst this
    simpa [cutV] using RepC.nil
  · simp at h; subst h
    have hlen : ((l.take j).drop i).length = j - i := by simp; omega
    by_cases hc : cap = i
    · have e : (l.take j).drop i = [] := List.eq_nil_of_length_eq_zero (by omega)
      rw [e]
      simp only [cutV, if_pos hc]
      rw [show j - i = 0 by omega, show cap - i = 0 by omega]
      exact .nil
    · simp only [cutV, if_neg hc, Option.map_some, add_lit]
      rw [← hlen]
      have hms : cap * sz = i * sz + (cap - i) * sz := by rw [← Nat.add_mul]; congr 1; omega
      refine .sl h2 h3 (by omega) (by omega) ?_
      have q := (h6.take j).drop i
      have e : (((c.drop off).take (l.length * sz)).take (j * sz)).drop (i * sz) = (c.drop (off + i * sz)).take (((l.take j).drop i).length * sz) := by
        have hjl : j * sz ≤ l.length * sz := Nat.mul_le_mul_right _ hj
        rw [List.take_take, Nat.min_eq_left hjl, List.drop_take, List.drop_drop, hlen, Nat.sub_mul]
      rw [e] at q; exact q

theorem run_cut (r : RelAt C n F s a W hdr ow) {x : Operand} {lo hi : Option Operand} {lo' hi' : Option Opd} {t e : TypeId} {i j : Nat} {ao : Option Addr} {ln cap : Nat} (ho : o.op = .slice t x lo hi none) (hd : P.underlying t = some (.slice e)) (hk : knownT P e = true)
    (hlo : optO P lo = some lo') (hhi : optO P hi = some hi') (hb : bnds s.env ln lo' hi' = some (i, j)) (hc : ln ≤ cap) (hx : a.eval x = .slice ao ln cap) :
    (execOp a.eval o).run P W = .ok (.value (cutV (szT P e) i j (.slice ao ln cap))) W ∧ i ≤ j ∧ j ≤ ln := by
  obtain ⟨h1, h2, h3⟩ := run_bnds (isS := true) r hlo hhi hc hb
  refine ⟨?_, h2, h3⟩
  simp [execOp, ho, Instr.sliceAt, Instr.slice, run_underlying hd, hx, h1, run_sizeOf hk, cutV]

theorem slInvV' {ok : Nat → Prop} {sz : Nat} {l : List PV} {v : Value} (r : RepC W ok (.sl sz l) [v]) : ∃ ao cap, v = .slice ao l.length cap ∧ l.length ≤ cap := by
  rcases r.slInv with ⟨h1, ao, h2⟩ | ⟨b, off, cap, c, h2, _, _, _, h3, _⟩
  · simp at h2; exact ⟨ao, 0, by rw [h2, h1]; rfl, by rw [h1]; simp⟩
  · simp at h2; exact ⟨_, cap, h2, h3⟩

theorem snd_slc (r : RelAt C n F s a W hdr ow) {x : Operand} {x' : Opd} {lo hi : Option Operand} {lo' hi' : Option Opd} {t e t1 : TypeId} {i j : Nat} {u : AV} {l : List PV} {p : PV} {H' : Heap} (ho : o.op = .slice t x lo hi none) (hd : P.underlying t = some (.slice e)) (hk : knownT P e = true)
    (hx : opd P t1 x = some x') (hlo : optO P lo = some lo') (hhi : optO P hi = some hi') (hu : ev s.env x' = some u) (hr : rdRow s.heap u = some (szT P e, l)) (hb : bnds s.env l.length lo' hi' = some (i, j)) {qq : Bool} (hp : tov qq s.heap u = some (p, H')) :
    Snd P C n F s a W id o (.v (.sl (szT P e) ((l.take j).drop i))) H' := by
  have hux := (opd_ok r hx hu).1
  obtain ⟨ow1, r1, hpv, _, _⟩ := tov_ok r hux hp
  have hpl : p = .sl (szT P e) l := by
    cases u <;> simp only [rdRow, tov] at hr hp <;> try (cases hr; done)
    · rename_i q
      cases q <;> simp only [Option.some.injEq, Prod.mk.injEq] at hr hp <;> try (cases hr; done)
      rw [← hp.1, hr.1, hr.2]
    · rename_i k
      cases hk : find s.heap k with
      | none => rw [hk] at hr; cases hr
      | some e =>
        rw [hk] at hr hp
        simp only at hr hp
        by_cases hz : e.sz = 0
        · rw [if_pos hz] at hr; cases hr
        rw [if_neg hz] at hr hp
        simp only [Option.some.injEq, Prod.mk.injEq] at hr
        by_cases hf : e.fro = true
        · rw [if_pos hf] at hp; simp only [Option.some.injEq, Prod.mk.injEq] at hp; rw [← hp.1, hr.1, hr.2]
        · rw [if_neg hf] at hp
          by_cases hq : qq = true
          · rw [if_pos hq] at hp; cases hp
          · rw [if_neg hq] at hp; simp only [Option.some.injEq, Prod.mk.injEq] at hp; rw [← hp.1, hr.1, hr.2]
  subst hpl
  obtain ⟨ao, cap, hv, hc⟩ := slInvV' hpv.slInv
  obtain ⟨q1, q2, q3⟩ := run_cut r1 ho hd hk hlo hhi hb hc hv
  refine ⟨_, W, hdr, ow1, .inl q1, r1.monoF fun i h => .inl h, ?_, by simp [AV.men]⟩
  simp only [RepA]
  rw [← hv]
  exact RepV.sl (cut_ok hpv.slInv q2 q3)

theorem snd_slcO (r : RelAt C n F s a W hdr ow) (hid : ¬ F id) {x : Operand} {x' : Opd} {lo hi : Option Operand} {lo' hi' : Option Opd} {t e t1 : TypeId} {i j k : Nat} {en : Ent} (ho : o.op = .slice t x lo hi none) (hd : P.underlying t = some (.slice e)) (hk : knownT P e = true)
    (hx : opd P t1 x = some x') (hlo : optO P lo = some lo') (hhi : optO P hi = some hi') (hu : ev s.env x' = some (.h k)) (he : find s.heap k = some en) (hes : en.sz = szT P e) (hf : en.fro = false) (hb : bnds s.env en.l.length lo' hi' = some (i, j)) (hz : en.sz ≠ 0) :
    Snd P C n F s a W id o (.h id) ((id, ⟨false, szT P e, (en.l.take j).drop i⟩) :: strike s.heap k) := by
  have hz' : szT P e ≠ 0 := by rw [← hes]; exact hz
  have hux := (opd_ok r hx hu).1
  simp only [RepA] at hux
  have hux := hux en he
  rcases r.getOwn he hf hz with ⟨g1, g2, ao, g3⟩ | ⟨b, off, cap, c, g1, g2, g3, g4, g5, g6⟩
  · rw [g3] at hux
    obtain ⟨q1, q2, q3⟩ := run_cut r (ln := en.l.length) (cap := 0) ho hd hk hlo hhi hb (by rw [g1]; simp) (by rw [hux, g1]; rfl)
    rw [g1] at q3 q1
    simp at q3; subst q3
    have : i = 0 := by omega
    subst this
    refine ⟨_, W, _, _, .inl q1, r.turn (e' := ⟨false, szT P e, (en.l.take 0).drop 0⟩) (x' := .slice ao 0 0) he hid (fun _ _ => rfl) rfl rfl rfl rfl (.inr (.inl ⟨by simp, g2, ao, rfl⟩)) hz', ?_, fun j => men_h j⟩
    simp only [RepA]; intro e' _; simp [upd, cutV]
  · rw [g2] at hux
    obtain ⟨q1, q2, q3⟩ := run_cut r ho hd hk hlo hhi hb g5 hux
    have hlen : ((en.l.take j).drop i).length = j - i := by simp; omega
    rw [hes] at g4 g6
    refine ⟨_, W, _, _, .inl q1, r.turn (e' := ⟨false, szT P e, (en.l.take j).drop i⟩) (x' := cutV (szT P e) i j (.slice (some ⟨b, off, none⟩) en.l.length cap)) he hid (fun _ _ => rfl) rfl rfl rfl rfl ?_ hz', ?_, fun j => men_h j⟩
    · have hms : cap * szT P e = i * szT P e + (cap - i) * szT P e := by rw [← Nat.add_mul]; congr 1; omega
      refine .inr (.inr ⟨rfl, b, (if cap = i then off else off + i * szT P e), cap - i, c, g1, ?_, g3, ?_, by simp only [hlen]; omega, ?_⟩)
      · simp only [cutV, hlen]
        split <;> simp [add_lit]
      · split <;> simp only <;> omega
      · by_cases hc : cap = i
        · have e : (en.l.take j).drop i = [] := List.eq_nil_of_length_eq_zero (by omega)
          simp only [e]; simpa using RepL.nil
        · simp only [if_neg hc]
          have q := (g6.take j).drop i
          have e : (((c.drop off).take (en.l.length * szT P e)).take (j * szT P e)).drop (i * szT P e) = (c.drop (off + i * szT P e)).take (((en.l.take j).drop i).length * szT P e) := by
            have hjl : j * szT P e ≤ en.l.length * szT P e := Nat.mul_le_mul_right _ q3
            rw [List.take_take, Nat.min_eq_left hjl, List.drop_take, List.drop_drop, hlen, Nat.sub_mul]
          rw [e] at q; exact q
    · simp only [RepA]; intro e' _; simp [upd]

theorem snd_sl0 (r : RelAt C n F s a W hdr ow) (hid : ¬ F id) {x : Operand} {x' : Opd} {t e t1 : TypeId} {k1 k2 : IntKind} {u : AV} {sz : Nat} {l : List PV} (ho : o.op = .slice t x none (some (.const (.int k1 0))) (some (.const (.int k2 0)))) (hd : P.underlying t = some (.slice e)) (hk : knownT P e = true)
    (hx : opd P t1 x = some x') (hu : ev s.env x' = some u) (hr : rdRow s.heap u = some (sz, l)) : Snd P C n F s a W id o (.h id) ((id, ⟨false, szT P e, []⟩) :: s.heap) := by
  obtain ⟨ao, cap, hv, hc⟩ := slInvV' (rdRow_ok r (opd_ok r hx hu).1 hr)
  refine ⟨.slice ao 0 0, W, _, _, .inl ?_, r.allocNil hid (szT P e) ao, ?_, fun j => men_h j⟩
  · simp [execOp, ho, Instr.sliceAt, Instr.slice, run_underlying hd, hv, show a.eval (.const (.int k1 0)) = .int k1 0 from rfl, show a.eval (.const (.int k2 0)) = .int k2 0 from rfl, Instr.sliceBounds, Instr.sliceBound, asIntOf, run_sizeOf hk]
  · simp only [RepA]; intro e' _; simp [upd]

theorem knownT_eq {f : Field} (h : knownT P f.type = true) (d : TypeDesc) (hd : P.underlying f.type = some d) (hd2 : ∀ fs, d ≠ .struct fs) (hd3 : ∀ n e, d ≠ .array n e) : aggT P f.type = false := by
  unfold aggT
  rw [hd]
  split
  · rename_i fs h; cases h; exact (hd2 _ rfl).elim
  · rename_i n e h; cases h; exact (hd3 _ _ rfl).elim
  · rfl

theorem eqFields_ok {ok : Nat → Prop} (d : Nat) (xs ys : Array Value) : ∀ (fs : List Field) (k : Nat) (ks : List Bool) (cs ds : List PV) (rb : Bool), fs.map (·.offset) = List.range' k fs.length → mapO (eqK1 P) fs = some ks →
    RepL W ok 1 cs (xs.toList.drop k) → RepL W ok 1 ds (ys.toList.drop k) → eqCells ks cs ds = some rb → (Op.eqFields (d + 1) xs ys fs).run P W = .ok rb W
  | [], k, ks, cs, ds, rb, _, hk, hc, hd, h => by
    simp [mapO] at hk; subst hk
    cases cs <;> cases ds <;> simp [eqCells] at h
    subst h; simp [Op.eqFields]
  | f :: fs, k, ks, cs, ds, rb, ho, hk, hc, hd, h => by
    simp only [mapO] at hk
    split at hk
    · rename_i b bs hb hbs
      cases hk
      unfold eqK1 at hb
      split at hb
      · rename_i hcond
        obtain ⟨hn, hkn, hsz⟩ := hcond
        simp only [List.map_cons, List.length_cons, List.range'_succ, List.cons.injEq] at ho
        obtain ⟨ho1, ho2⟩ := ho
        have hag : aggT P f.type = false := by
          split at hb
          · rename_i kk hk; exact knownT_eq hkn _ hk (by simp) (by simp)
          · rename_i hk; exact knownT_eq hkn _ hk (by simp) (by simp)
          · cases hb
        cases cs with
        | nil => cases b <;> simp [eqCells] at h
        | cons p cs =>
          cases ds with
          | nil => cases b <;> simp [eqCells] at h
          | cons q ds =>
            have hcx : ∃ v, xs[k]? = some v ∧ RepC W ok p [v] ∧ RepL W ok 1 cs (xs.toList.drop (k + 1)) := by
              generalize e : xs.toList.drop k = L at hc
              cases hc with
              | cons g1 g2 g3 =>
                rename_i vs ws
                obtain ⟨v, rfl⟩ := List.length_eq_one_iff.1 g1
                refine ⟨v, ?_, g2, ?_⟩
                · have := congrArg (fun l => l[0]?) e
                  simpa using this
                · have : xs.toList.drop (k + 1) = ws := by rw [← List.drop_drop, e]; rfl
                  rw [this]; exact g3
            have hcy : ∃ v, ys[k]? = some v ∧ RepC W ok q [v] ∧ RepL W ok 1 ds (ys.toList.drop (k + 1)) := by
              generalize e : ys.toList.drop k = L at hd
              cases hd with
              | cons g1 g2 g3 =>
                rename_i vs ws
                obtain ⟨v, rfl⟩ := List.length_eq_one_iff.1 g1
                refine ⟨v, ?_, g2, ?_⟩
                · have := congrArg (fun l => l[0]?) e
                  simpa using this
                · have : ys.toList.drop (k + 1) = ws := by rw [← List.drop_drop, e]; rfl
                  rw [this]; exact g3
            obtain ⟨v, hx1, hx2, hx3⟩ := hcx
            obtain ⟨w, hy1, hy2, hy3⟩ := hcy
            have hpx : (part f.type xs f.offset).run P W = .ok v W := by rw [run_part hkn, hag, ho1, hx1]; rfl
            have hpy : (part f.type ys f.offset).run P W = .ok w W := by rw [run_part hkn, hag, ho1, hy1]; rfl
            have fin : ∀ (bb rest : Bool), (Op.equalIn (d + 1) f.type v w).run P W = .ok bb W → eqCells bs cs ds = some rest → rb = (bb && rest) → (Op.eqFields (d + 1) xs ys (f :: fs)).run P W = .ok rb W := by
              intro bb rest h1 h2 h3
              have h4 := eqFields_ok d xs ys fs (k + 1) bs cs ds rest ho2 hbs hx3 hy3 h2
              subst h3
              cases bb <;> simp [Op.eqFields, hn, hpx, hpy, h1, h4]
            cases b with
            | true =>
              have hty : ∃ kk, P.underlying f.type = some (.int kk) := by
                split at hb
                · rename_i kk hk; exact ⟨kk, hk⟩
                · cases hb
                · cases hb
              obtain ⟨kk, hty⟩ := hty
              unfold eqCells at h
              split at h
              · cases ‹true :: bs = []›
              · rename_i heq1 heq2 heq3
                injection heq1 with e1 e2
                injection heq2 with e3 e4
                injection heq3 with e5 e6
                subst e2 e3 e4 e5 e6
                have q1 := (RepV.ofC hx2 rfl).wInv.1
                have q2 := (RepV.ofC hy2 rfl).wInv.1
                subst q1 q2
                split at h
                · rename_i hkk
                  subst hkk
                  obtain ⟨rest, h2, h3⟩ := Option.map_eq_some_iff.1 h
                  exact fin _ rest (run_equalIn_int W d f.type _ kk _ _ hty) h2 (by rw [← h3]; rfl)
                · cases h
              · rename_i heq1 _ _; injection heq1 with e1; cases e1
              · cases h
            | false =>
              have hty : P.underlying f.type = some .string := by
                split at hb
                · cases hb
                · rename_i hk; exact hk
                · cases hb
              unfold eqCells at h
              split at h
              · cases ‹false :: bs = []›
              · rename_i heq1 _ _; injection heq1 with e1; cases e1
              · rename_i heq1 heq2 heq3
                injection heq1 with e1 e2
                injection heq2 with e3 e4
                injection heq3 with e5 e6
                subst e2 e3 e4 e5 e6
                have q1 := (RepV.ofC hx2 rfl).wInv.1
                have q2 := (RepV.ofC hy2 rfl).wInv.1
                subst q1 q2
                obtain ⟨rest, h2, h3⟩ := Option.map_eq_some_iff.1 h
                exact fin _ rest (run_equalIn_string W d f.type _ _ hty) h2 (by rw [← h3, eq_toList])
              · cases h
      · cases hb
    · cases hk

theorem snd_eqS (r : RelAt C n F s a W hdr ow) {ng : Bool} {x y : Operand} {x' y' : Opd} {t t' : TypeId} {fs : Array Field} {ks : List Bool} {cs ds : List PV} {rb : Bool} (ho : o.op = .binOp (if ng = true then .neq else .eql) t x y t') (ht : P.underlying t = some (.struct fs)) (hf : eqF P fs = some ks) (hst : P.stoodInHeld t = false) (hgt : P.eqGuardType P.depth t = false)
    (hx : opd P t x = some x') (hy : opd P t y = some y') (hu : ev s.env x' = some (.v (.st cs))) (hv : ev s.env y' = some (.v (.st ds))) (he : eqCells ks cs ds = some rb) : Snd P C n F s a W id o (.v (.w (.bool (if ng = true then !rb else rb)))) s.heap := by
  have hux := (opd_ok r hx hu).1
  have hvy := (opd_ok r hy hv).1
  simp only [RepA] at hux hvy
  obtain ⟨vs, e1, r1, _⟩ := hux.stInv
  obtain ⟨ws, e2, r2, _⟩ := hvy.stInv
  unfold eqF at hf
  split at hf
  · rename_i hoff
    have hfo : P.fieldsOf t = fs := by unfold Program.fieldsOf; rw [ht]
    have hrun : (Op.equal t (.agg vs.toArray) (.agg ws.toArray) : Sem Bool).run P W = .ok rb W := by
      unfold Op.equal
      have h1 := run_equalIn_struct (P := P) W 9999 t vs.toArray ws.toArray (by rw [hfo]; exact ht) hst
      rw [hfo] at h1
      have h2 := eqFields_ok (P := P) (W := W) 9998 vs.toArray ws.toArray fs.toList 0 ks cs ds rb hoff hf (by simpa using r1) (by simpa using r2) he
      exact h1.trans h2
    refine Snd.scal r ?_ rfl
    simp only [execOp, ho, e1, e2]
    cases ng
    · simp [eqGuard, binOp, hrun, hgt]
    · simp [eqGuard, binOp, hrun, hgt]
  · cases hf

end
end Go.AM
